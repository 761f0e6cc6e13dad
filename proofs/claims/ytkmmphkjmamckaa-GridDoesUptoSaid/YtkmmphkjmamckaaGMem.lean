/-
  Memory as screens lie in it: whole blocks, cells, a screen behind a pointer.
-/
import Derived.Test.YtkmmphkjmamckaaVcLib
import Derived.Test.YtkmmphkjmamckaaGLaw
namespace Go.Proofs.Ytkmmphkjmamckaa
open Go
set_option linter.all false

/-! ### Whole blocks -/

def Blk (u : World) (b : Nat) (cs : List Value) : Prop := ∃ t, u.heap[b]? = some (.cells cs.toArray t (0, 0))

theorem Blk.lt {u : World} {b : Nat} {cs : List Value} (h : Blk u b cs) : b < u.heap.size := by
  obtain ⟨t, h⟩ := h
  exact (Array.getElem?_eq_some_iff.1 h).1

theorem Blk.upd {S : Nat → Prop} {u u' : World} {b : Nat} {cs : List Value} (h : Blk u b cs) (hu : Upd S u u') (hn : ¬ S b) : Blk u' b cs := by
  have hl := h.lt
  obtain ⟨t, h⟩ := h
  exact ⟨t, by rw [hu.old b hl hn]; exact h⟩

theorem Blk.ext {u u' : World} {b : Nat} {cs : List Value} (h : Blk u b cs) (hu : Ext u u') : Blk u' b cs := h.upd hu fun h => h

theorem Blk.fresh (u : World) (cs : List Value) (t : TypeId) : Blk (allocW u (.cells cs.toArray t)) u.heap.size cs := ⟨t, by rw [heap_alloc, if_pos rfl]⟩

theorem Blk.rd {u : World} {b : Nat} {pre xs post : List Value} (h : Blk u b (pre ++ xs ++ post)) {o : Nat} (ho : o = pre.length) : Rd u b o xs := by
  obtain ⟨t, h⟩ := h
  subst ho
  exact rd_heap xs pre post h

theorem Blk.rdAt {u : World} {b : Nat} {cs : List Value} (h : Blk u b cs) {o n : Nat} {xs : List Value} (hx : takeN cs o n = some xs) : Rd u b o xs := by
  obtain ⟨t, h⟩ := h
  exact rd_block h hx

theorem Blk.wr {u : World} {b : Nat} {cs : List Value} (h : Blk u b cs) {o n : Nat} (hn : o + n ≤ cs.length) : Wr u b o n := by
  obtain ⟨t, h⟩ := h
  exact wr_heap h hn

theorem Blk.put {u : World} {b : Nat} {pre mid post : List Value} (h : Blk u b (pre ++ mid ++ post)) {ys : List Value} (hl : mid.length = ys.length) {o : Nat} (ho : o = pre.length) : Blk (putCells u b o ys) b (pre ++ ys ++ post) := by
  obtain ⟨t, h⟩ := h
  subst ho
  exact ⟨t, putCells_heap ys pre mid post u h hl⟩

theorem Blk.putAt {u : World} {b : Nat} {cs r : List Value} (h : Blk u b cs) {o : Nat} {ys : List Value} (hp : putN cs o ys = some r) : Blk (putCells u b o ys) b r := by
  obtain ⟨t, h⟩ := h
  exact ⟨t, put_block ys o cs r u h hp⟩

theorem Blk.wrAt {u : World} {b : Nat} {cs r : List Value} (h : Blk u b cs) {o : Nat} {ys : List Value} (hp : putN cs o ys = some r) : Wr u b o ys.length := by
  obtain ⟨t, h⟩ := h
  exact wr_block h hp

theorem upd_put {u : World} (b o : Nat) (ys : List Value) : Upd (· = b) u (putCells u b o ys) := Upd.put (S := (· = b)) (Upd.refl u) (b := b) (fun _ => rfl) _ _

theorem Own.blk {u : World} {es b n c : Nat} {cs : List Value} (h : Own u es (some ⟨b, 0, none⟩) n c cs) : ∃ r, Blk u b (cs ++ r) ∧ cs.length = n * es ∧ n ≤ c ∧ r.length = (c - n) * es := by
  rcases h with ⟨h, _⟩ | ⟨b', t, r, hp, hb, h1, h2, h3⟩
  · cases h
  · cases hp
    exact ⟨r, ⟨t, hb⟩, h1, h2, h3⟩

theorem Blk.own {u : World} {es b n c : Nat} {cs r : List Value} (h : Blk u b (cs ++ r)) (h1 : cs.length = n * es) (h2 : n ≤ c) (h3 : r.length = (c - n) * es) : Own u es (some ⟨b, 0, none⟩) n c cs := by
  obtain ⟨t, h⟩ := h
  exact .inr ⟨b, t, r, rfl, h, h1, h2, h3⟩

/-- Cells from a place on, by others. -/
theorem Own.over {u : World} {es b n c : Nat} {cs : List Value} (h : Own u es (some ⟨b, 0, none⟩) n c cs) {o : Nat} {ys : List Value} (hl : o + ys.length ≤ cs.length) : Own (putCells u b o ys) es (some ⟨b, 0, none⟩) n c (cs.take o ++ ys ++ cs.drop (o + ys.length)) := by
  have e : cs = cs.take o ++ (cs.drop o).take ys.length ++ cs.drop (o + ys.length) := by
    rw [List.append_assoc, ← List.drop_drop, List.take_append_drop, List.take_append_drop]
  have h' := h
  rw [e] at h'
  exact h'.put (by rw [List.length_take, List.length_drop]; omega) (by rw [List.length_take]; omega)

/-! ### Cells -/

def clV (c : Cl) : List Value := [.int .i64 c.ch, .int .i64 c.ink, .int .i64 c.pic, .bool c.bold]
abbrev ClV (c : Cl) : Value := .agg #[.int .i64 c.ch, .int .i64 c.ink, .int .i64 c.pic, .bool c.bold]

def cellsV (l : List Cl) : List Value := (l.map clV).flatten

theorem cellsV_len (l : List Cl) : (cellsV l).length = l.length * 4 := by
  unfold cellsV
  rw [flatten_len (es := 4) _ (fun y hy => by obtain ⟨c, _, rfl⟩ := List.mem_map.1 hy; rfl), List.length_map]

theorem cellsV_append (l m : List Cl) : cellsV (l ++ m) = cellsV l ++ cellsV m := by simp [cellsV]

theorem cellsV_take : ∀ (l : List Cl) (i : Nat), (cellsV l).take (i * 4) = cellsV (l.take i)
  | [], i => by simp [cellsV]
  | c :: l, 0 => by simp [cellsV]
  | c :: l, i + 1 => by
    have ih := cellsV_take l i
    unfold cellsV at ih ⊢
    rw [List.map_cons, List.flatten_cons, Nat.add_mul, List.take_succ_cons, List.map_cons, List.flatten_cons, ← ih]
    simp [clV]

theorem cellsV_drop : ∀ (l : List Cl) (i : Nat), (cellsV l).drop (i * 4) = cellsV (l.drop i)
  | [], i => by simp [cellsV]
  | c :: l, 0 => by simp [cellsV]
  | c :: l, i + 1 => by
    have ih := cellsV_drop l i
    unfold cellsV at ih ⊢
    rw [List.map_cons, List.flatten_cons, Nat.add_mul, List.drop_succ_cons, ← ih]
    simp [clV]

theorem cellsV_repl (n : Nat) : cellsV (List.replicate n .z) = repl n (clV .z) := by
  unfold cellsV repl
  rw [List.map_replicate]

theorem cellsV_ok (l : List Cl) (r : Prop) : okCells (cellsV l) r ↔ r := by
  rw [okCells_iff]
  refine ⟨fun h => h.2, fun h => ⟨fun c hc => ?_, h⟩⟩
  unfold cellsV at hc
  rw [List.mem_flatten] at hc
  obtain ⟨y, hy, hc⟩ := hc
  obtain ⟨x, _, rfl⟩ := List.mem_map.1 hy
  simp only [clV, List.mem_cons, List.not_mem_nil, or_false] at hc
  rcases hc with rfl | rfl | rfl | rfl <;> rfl

/-- Cells to be read, of so many elements. -/
structure Cells (u : World) (p : Option Addr) (l : List Cl) : Prop where
  gets : Gets u p (cellsV l)

theorem Cells.upd {S : Nat → Prop} {u u' : World} {p : Option Addr} {l : List Cl} (h : Cells u p l) (hu : Upd S u u') (hn : ∀ k, At p k → ¬ S k) : Cells u' p l := ⟨hu.gets h.gets hn⟩
theorem Cells.ext {u u' : World} {p : Option Addr} {l : List Cl} (h : Cells u p l) (hu : Ext u u') : Cells u' p l := h.upd hu fun _ _ h => h

theorem Cells.at {u : World} {p : Option Addr} {l : List Cl} (h : Cells u p l) {i : Nat} (hi : i < l.length) : ∃ b o, p = some ⟨b, o, none⟩ ∧ Rd u b (o + i * 4) (clV (cg l i)) := by
  obtain ⟨h⟩ := h
  have hA : Arr u 4 p l.length (l.map clV) := ⟨h, by simp, fun y hy => by obtain ⟨c, _, rfl⟩ := List.mem_map.1 hy; rfl⟩
  obtain ⟨b, o, hp, hr⟩ := hA.at hi (by decide)
  refine ⟨b, o, hp, ?_⟩
  have e : (l.map clV).getD i [] = clV (cg l i) := by
    simp [cg, List.getD_eq_getElem?_getD, hi]
  rwa [e] at hr

theorem Cells.lt {u : World} {p : Option Addr} {l : List Cl} (h : Cells u p l) (hl : 0 < l.length) {k : Nat} (hk : At p k) : k < u.heap.size := by
  obtain ⟨b, o, hp, hr⟩ := h.at hl
  obtain ⟨a, ha, rfl⟩ := hk
  rw [hp] at ha
  cases ha
  exact rd_lt hr

theorem Cells.nil (u : World) : Cells u none [] := ⟨rfl⟩

/-- Some of them. -/
theorem Cells.sub {u : World} {b o : Nat} {l : List Cl} (h : Cells u (some ⟨b, o, none⟩) l) {i k : Nat} (hik : i + k ≤ l.length) : Cells u (some ⟨b, o + i * 4, none⟩) ((l.drop i).take k) := by
  obtain ⟨_, h⟩ := h
  refine ⟨fun _ => rfl, ?_⟩
  have e : cellsV l = cellsV (l.take i) ++ (cellsV ((l.drop i).take k) ++ cellsV (l.drop (i + k))) := by
    rw [← cellsV_append, ← cellsV_append, ← List.drop_drop, List.take_append_drop, List.take_append_drop]
  rw [e] at h
  have h1 := (rd_take _ _ _ h).2
  have h2 := (rd_take _ _ _ h1).1
  rw [cellsV_len, List.length_take] at h2
  rwa [show min i l.length = i by omega] at h2

/-- Cells of one's own: block, room. -/
def CO (u : World) (b c : Nat) (l : List Cl) : Prop := Own u 4 (some ⟨b, 0, none⟩) l.length c (cellsV l)

theorem CO.cells {u : World} {b c : Nat} {l : List Cl} (h : CO u b c l) : Cells u (some ⟨b, 0, none⟩) l := ⟨Own.gets h⟩
theorem CO.upd {S : Nat → Prop} {u u' : World} {b c : Nat} {l : List Cl} (h : CO u b c l) (hu : Upd S u u') (hn : ¬ S b) : CO u' b c l := Own.upd h hu fun k hk => by
  obtain ⟨a, ha, rfl⟩ := hk
  cases ha
  exact hn
theorem CO.ext {u u' : World} {b c : Nat} {l : List Cl} (h : CO u b c l) (hu : Ext u u') : CO u' b c l := h.upd hu fun h => h
theorem CO.lt {u : World} {b c : Nat} {l : List Cl} (h : CO u b c l) : b < u.heap.size := (Own.at h ⟨_, rfl, rfl⟩).1
theorem CO.le {u : World} {b c : Nat} {l : List Cl} (h : CO u b c l) : l.length ≤ c := Own.le h

theorem CO.rd {u : World} {b c : Nat} {l : List Cl} (h : CO u b c l) {i : Nat} (hi : i < l.length) : Rd u b (0 + i * 4) (clV (cg l i)) := by
  obtain ⟨b', o, hp, hr⟩ := h.cells.at hi
  cases hp
  exact hr

theorem CO.wr {u : World} {b c : Nat} {l : List Cl} (h : CO u b c l) {o n : Nat} (hn : o + n ≤ l.length * 4) : Wr u b o n := by
  obtain ⟨r, hb, h1, h2, h3⟩ := Own.blk h
  exact hb.wr (by rw [List.length_append, h1]; omega)

/-- A part, by others. -/
def overC (l : List Cl) (i : Nat) (m : List Cl) : List Cl := l.take i ++ m ++ l.drop (i + m.length)

theorem overC_len {l m : List Cl} {i : Nat} (h : i + m.length ≤ l.length) : (overC l i m).length = l.length := by
  simp only [overC, List.length_append, List.length_take, List.length_drop]
  omega

theorem overC_cg {l m : List Cl} {i j : Nat} (h : i + m.length ≤ l.length) : cg (overC l i m) j = if i ≤ j ∧ j < i + m.length then cg m (j - i) else cg l j := by
  unfold overC
  rw [cg_append, cg_append]
  simp only [List.length_append, List.length_take]
  rw [show min i l.length = i by omega]
  by_cases h1 : j < i + m.length
  · rw [if_pos h1]
    by_cases h2 : j < i
    · rw [if_pos h2, if_neg (by omega), cg_take h2]
    · rw [if_neg h2, if_pos (by omega)]
  · rw [if_neg h1, if_neg (by omega), cg_drop, show i + m.length + (j - (i + m.length)) = j by omega]

theorem CO.over {u : World} {b c : Nat} {l : List Cl} (h : CO u b c l) {i : Nat} {m : List Cl} (hl : i + m.length ≤ l.length) {o : Nat} (ho : o = i * 4) : CO (putCells u b o (cellsV m)) b c (overC l i m) := by
  subst ho
  have := Own.over h (o := i * 4) (ys := cellsV m) (by rw [cellsV_len, cellsV_len]; omega)
  unfold CO
  rw [overC_len hl]
  have e : cellsV (overC l i m) = (cellsV l).take (i * 4) ++ cellsV m ++ (cellsV l).drop (i * 4 + (cellsV m).length) := by
    rw [cellsV_len, ← Nat.add_mul, cellsV_take, cellsV_drop, ← cellsV_append, ← cellsV_append]
    rfl
  rw [e]
  exact this

theorem set_over {l : List Cl} {i : Nat} {x : Cl} (h : i < l.length) : overC l i [x] = l.set i x := by
  refine cg_ext (by rw [overC_len (by simp; omega), List.length_set]) fun j hj => ?_
  rw [overC_len (by simp; omega)] at hj
  rw [overC_cg (by simp; omega), cg_set h]
  simp only [List.length_cons, List.length_nil]
  by_cases e : j = i
  · rw [if_pos (by omega), if_pos e, show j - i = 0 by omega]; rfl
  · rw [if_neg (by omega), if_neg e]

theorem CO.set {u : World} {b c : Nat} {l : List Cl} (h : CO u b c l) {i : Nat} (x : Cl) (hl : i < l.length) {o : Nat} (ho : o = i * 4) : CO (putCells u b o (clV x)) b c (l.set i x) := by
  have := h.over (m := [x]) (i := i) (by simp; omega) ho
  rw [set_over hl] at this
  have e : cellsV [x] = clV x := by simp [cellsV]
  rwa [e] at this

theorem CO.fresh (u : World) (l : List Cl) (t : TypeId) : CO (allocW u (.cells (cellsV l).toArray t)) u.heap.size l.length l := Own.fresh u (cellsV_len l)

/-! ### Screens -/

abbrev GrV (g : Gr) (p : Option Addr) (n c : Nat) : Value := .agg #[.int .i64 g.wide, .int .i64 g.high, .slice p n c, .int .i64 g.row, .int .i64 g.col, .int .i64 g.ink, .bool g.bold, .int .i64 g.top, .int .i64 g.bottom]
abbrev grV (g : Gr) (p : Option Addr) (n c : Nat) : List Value := [.int .i64 g.wide, .int .i64 g.high, .slice p n c, .int .i64 g.row, .int .i64 g.col, .int .i64 g.ink, .bool g.bold, .int .i64 g.top, .int .i64 g.bottom]

/-- A screen of one's own, behind a pointer: its block, its cells' block and room. -/
structure GB (u : World) (gb : Nat) (g : Gr) (b c : Nat) : Prop where
  blk : Blk u gb (grV g (some ⟨b, 0, none⟩) g.cells.length c)
  own : CO u b c g.cells
  ne : b ≠ gb

theorem GB.upd {S : Nat → Prop} {u u' : World} {gb : Nat} {g : Gr} {b c : Nat} (h : GB u gb g b c) (hu : Upd S u u') (h1 : ¬ S gb) (h2 : ¬ S b) : GB u' gb g b c := ⟨h.blk.upd hu h1, h.own.upd hu h2, h.ne⟩
theorem GB.ext {u u' : World} {gb : Nat} {g : Gr} {b c : Nat} (h : GB u gb g b c) (hu : Ext u u') : GB u' gb g b c := h.upd hu (fun h => h) fun h => h

/-- A store into the screen's own block. -/
theorem GB.put {u : World} {gb : Nat} {g g' : Gr} {b c o : Nat} {ys : List Value} (h : GB u gb g b c) (hc : g'.cells = g.cells) (hp : putN (grV g (some ⟨b, 0, none⟩) g.cells.length c) o ys = some (grV g' (some ⟨b, 0, none⟩) g.cells.length c)) : GB (putCells u gb o ys) gb g' b c := by
  refine ⟨?_, ?_, h.ne⟩
  · rw [hc]; exact h.blk.putAt hp
  · rw [hc]; exact h.own.upd (upd_put gb o ys) h.ne

theorem GB.wr {u : World} {gb : Nat} {g : Gr} {b c o n : Nat} (h : GB u gb g b c) (hn : o + n ≤ 9) : Wr u gb o n := h.blk.wr hn

/-- A store into its cells. -/
theorem GB.cell {u : World} {gb : Nat} {g : Gr} {b c i : Nat} (h : GB u gb g b c) (x : Cl) (hi : i < g.cells.length) {o : Nat} (ho : o = i * 4) : GB (putCells u b o (clV x)) gb { g with cells := g.cells.set i x } b c := by
  refine ⟨?_, h.own.set x hi ho, h.ne⟩
  show Blk _ gb (grV g _ (g.cells.set i x).length c)
  rw [List.length_set]
  exact h.blk.upd (upd_put b o (clV x)) h.ne.symm

theorem GB.cells {u : World} {gb : Nat} {g : Gr} {b c i : Nat} {m : List Cl} (h : GB u gb g b c) (hi : i + m.length ≤ g.cells.length) {o : Nat} (ho : o = i * 4) : GB (putCells u b o (cellsV m)) gb { g with cells := overC g.cells i m } b c := by
  refine ⟨?_, h.own.over hi ho, h.ne⟩
  show Blk _ gb (grV g _ (overC g.cells i m).length c)
  rw [overC_len hi]
  exact h.blk.upd (upd_put b o (cellsV m)) h.ne.symm

end Go.Proofs.Ytkmmphkjmamckaa
