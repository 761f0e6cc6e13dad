/-
  Texts that belong together, joined: PMem, GMem, TMem, VMem.
-/
import Derived.Test.YtkmmphkjmamckabDoorZB
import Derived.Test.YtkmmphkjmamckabDoorZP
/-
  Memory as parsers and events lie in it.
-/
namespace Go.Proofs.YtkmmphkjmamckabDoor
open Go
set_option linter.all false

def numV (l : List Int) : List Value := l.map (Value.int .i64)

/-- Numbers in a slice. -/
def Nums (u : World) (p : Option Addr) (n : Nat) (l : List Int) : Prop := Gets u p (numV l) ∧ l.length = n

theorem numV_len (l : List Int) : (numV l).length = l.length := by simp [numV]

theorem rd_num {u : World} {b : Nat} : ∀ (l : List Int) (o i : Nat), Rd u b o (numV l) → i < l.length → Rd u b (o + i * 1) [.int .i64 (l.getD i 0)]
  | [], _, _, _, h => by simp at h
  | x :: l, o, 0, h, _ => ⟨by simpa using h.1, trivial⟩
  | x :: l, o, i + 1, h, hi => by
    have := rd_num l (o + 1) i h.2 (by simpa using hi)
    rw [show o + (i + 1) * 1 = o + 1 + i * 1 by omega]
    simpa using this

theorem Nums.at {u : World} {p : Option Addr} {n : Nat} {l : List Int} (h : Nums u p n l) {i : Nat} (hi : i < n) : ∃ b o, p = some ⟨b, o, none⟩ ∧ Rd u b (o + i * 1) [.int .i64 (l.getD i 0)] := by
  obtain ⟨h, hl⟩ := h
  cases p with
  | none =>
    have : (numV l).length = 0 := by rw [show numV l = [] from h]; rfl
    rw [numV_len] at this
    omega
  | some a =>
    obtain ⟨b, o, s⟩ := a
    obtain ⟨hs, hr⟩ := h
    have hs := hs fun e => by have := congrArg List.length e; rw [numV_len] at this; simp only [List.length_nil] at this; omega
    simp only at hs
    subst hs
    exact ⟨b, o, rfl, rd_num l o i hr (by omega)⟩

theorem Nums.upd {S : Nat → Prop} {u u' : World} {p : Option Addr} {n : Nat} {l : List Int} (h : Nums u p n l) (hu : Upd S u u') (hn : ∀ k, At p k → ¬ S k) : Nums u' p n l := ⟨hu.gets h.1 hn, h.2⟩
theorem Nums.ext {u u' : World} {p : Option Addr} {n : Nat} {l : List Int} (h : Nums u p n l) (hu : Ext u u') : Nums u' p n l := h.upd hu fun _ _ h => h

theorem numV_ok (l : List Int) : okCells (numV l) True := by
  rw [okCells_iff]
  refine ⟨fun c hc => ?_, trivial⟩
  simp only [numV, List.mem_map] at hc
  obtain ⟨_, _, rfl⟩ := hc
  rfl

theorem Own.nums {u : World} {p : Option Addr} {n c : Nat} {l : List Int} (h : Own u 1 p n c (numV l)) : Nums u p n l := ⟨h.gets, by have := h.len; rw [numV_len] at this; omega⟩

def PrV (p : Pr) (pp : Option Addr) (n c : Nat) : Value := .agg #[.int .i64 p.at_, .slice pp n c, .string p.pl, .bool p.long]
def EvV (e : Ev) (pp : Option Addr) (n c : Nat) : Value := .agg #[.int .i64 e.kind, .int .i64 e.b, .slice pp n c, .string e.pl]

theorem bytes_ext {a b : ByteArray} (h : a.data.toList = b.data.toList) : a = b := by
  cases a; cases b; simp only [ByteArray.mk.injEq]; exact Array.ext' h

theorem noBytes_iff {a : ByteArray} : a.data.toList = [] ↔ a = noBytes := ⟨fun h => bytes_ext h, fun h => by rw [h]⟩

def Evs (u : World) (ok : Nat → Prop) : List (List Value) → List Ev → Prop
  | [], [] => True
  | x :: xs, e :: es => (∃ p n c, x = [.int .i64 e.kind, .int .i64 e.b, .slice p n c, .string e.pl] ∧ Nums u p n e.ps ∧ ∀ k, At p k → ok k) ∧ Evs u ok xs es
  | _, _ => False

theorem Evs.len {u : World} {ok : Nat → Prop} : ∀ {xs : List (List Value)} {es : List Ev}, Evs u ok xs es → xs.length = es.length
  | [], [], _ => rfl
  | _ :: _, _ :: _, h => by simp only [List.length_cons, Evs.len h.2]

theorem Evs.at {u : World} {ok : Nat → Prop} : ∀ {xs : List (List Value)} {es : List Ev} {i : Nat}, Evs u ok xs es → i < es.length → ∃ p n c, xs.getD i [] = [.int .i64 (es.getD i .none).kind, .int .i64 (es.getD i .none).b, .slice p n c, .string (es.getD i .none).pl] ∧ Nums u p n (es.getD i .none).ps ∧ ∀ k, At p k → ok k
  | x :: xs, e :: es, 0, h, _ => by simpa using h.1
  | x :: xs, e :: es, i + 1, h, hi => by simpa using Evs.at (i := i) h.2 (by simpa using hi)
  | [], [], _, _, hi => by simp at hi

theorem Evs.each {u : World} {ok : Nat → Prop} : ∀ {xs : List (List Value)} {es : List Ev}, Evs u ok xs es → ∀ y ∈ xs, y.length = 4
  | x :: xs, e :: es, h, y, hy => by
    rcases List.mem_cons.1 hy with rfl | hy
    · obtain ⟨_, _, _, rfl, _⟩ := h.1
      rfl
    · exact Evs.each h.2 y hy
  | [], [], _, _, hy => by simp at hy

theorem Evs.upd {S ok ok' : Nat → Prop} {u u' : World} (hu : Upd S u u') (hok : ∀ k, ok k → ¬ S k ∧ ok' k) : ∀ {xs : List (List Value)} {es : List Ev}, Evs u ok xs es → Evs u' ok' xs es
  | [], [], _ => trivial
  | x :: xs, e :: es, h => ⟨by
    obtain ⟨p, n, c, h1, h2, h3⟩ := h.1
    exact ⟨p, n, c, h1, h2.upd hu fun k hk => (hok k (h3 k hk)).1, fun k hk => (hok k (h3 k hk)).2⟩, Evs.upd hu hok h.2⟩

theorem Evs.snoc {u : World} {ok : Nat → Prop} {x : List Value} {e : Ev} (hx : ∃ p n c, x = [.int .i64 e.kind, .int .i64 e.b, .slice p n c, .string e.pl] ∧ Nums u p n e.ps ∧ ∀ k, At p k → ok k) : ∀ {xs : List (List Value)} {es : List Ev}, Evs u ok xs es → Evs u ok (xs ++ [x]) (es ++ [e])
  | [], [], _ => ⟨hx, trivial⟩
  | _ :: _, _ :: _, h => ⟨h.1, Evs.snoc hx h.2⟩

theorem Evs.append {u : World} {ok : Nat → Prop} {ys : List (List Value)} {fs : List Ev} (h' : Evs u ok ys fs) : ∀ {xs : List (List Value)} {es : List Ev}, Evs u ok xs es → Evs u ok (xs ++ ys) (es ++ fs)
  | [], [], _ => h'
  | _ :: _, _ :: _, h => ⟨h.1, Evs.append h' h.2⟩

theorem Evs.ext {u u' : World} {ok : Nat → Prop} (hu : Ext u u') {xs : List (List Value)} {es : List Ev} (h : Evs u ok xs es) : Evs u' ok xs es := h.upd hu fun k hk => ⟨fun h => h, hk⟩

/-- Events in a slice, their numbers in blocks that are ok. -/
def EvL (u : World) (ok : Nat → Prop) (p : Option Addr) (n : Nat) (es : List Ev) : Prop := ∃ xs, Arr u 4 p n xs ∧ Evs u ok xs es

theorem mem_getD {α : Type} {l : List α} (d : α) {i : Nat} (h : i < l.length) : l.getD i d ∈ l := by
  rw [List.getD_eq_getElem?_getD, List.getElem?_eq_getElem h]
  exact List.getElem_mem _

theorem EvL.len {u : World} {ok : Nat → Prop} {p : Option Addr} {n : Nat} {es : List Ev} (h : EvL u ok p n es) : es.length = n := by
  obtain ⟨xs, ha, he⟩ := h
  rw [← he.len, ha.len]

theorem EvL.upd {S ok ok' : Nat → Prop} {u u' : World} {p : Option Addr} {n : Nat} {es : List Ev} (h : EvL u ok p n es) (hu : Upd S u u') (hp : ∀ k, At p k → ¬ S k) (hok : ∀ k, ok k → ¬ S k ∧ ok' k) : EvL u' ok' p n es := by
  obtain ⟨xs, ha, he⟩ := h
  exact ⟨xs, ha.upd hu hp, he.upd hu hok⟩

theorem EvL.ext {ok : Nat → Prop} {u u' : World} {p : Option Addr} {n : Nat} {es : List Ev} (h : EvL u ok p n es) (hu : Ext u u') : EvL u' ok p n es := h.upd hu (fun _ _ h => h) fun _ h => ⟨fun h => h, h⟩

theorem EvL.at {u : World} {ok : Nat → Prop} {p : Option Addr} {n : Nat} {es : List Ev} (h : EvL u ok p n es) {i : Nat} (hi : i < n) : ∃ b o q m c, p = some ⟨b, o, none⟩ ∧ Rd u b (o + i * 4) [.int .i64 (es.getD i .none).kind, .int .i64 (es.getD i .none).b, .slice q m c, .string (es.getD i .none).pl] ∧ Nums u q m (es.getD i .none).ps := by
  have hl := h.len
  obtain ⟨xs, ha, he⟩ := h
  obtain ⟨b, o, hp, hr⟩ := ha.at hi (by decide)
  obtain ⟨q, m, c, h1, h2, _⟩ := he.at (i := i) (by omega)
  rw [h1] at hr
  exact ⟨b, o, q, m, c, hp, hr, h2⟩

/-- What a step of the parser answers, and where. -/
def StepPost (u : World) (pp : Option Addr) (r : Pr × Ev) (e : Ending) (u' : World) : Prop :=
  ∃ (q : Option Addr) (n c : Nat) (ep : Option Addr) (en ec : Nat), e = .returned (.tuple #[PrV r.1 q n c, EvV r.2 ep en ec]) ∧ Own u' 1 q n c (numV r.1.ps) ∧ Nums u' ep en r.2.ps ∧ Upd (At pp) u u' ∧
    (∀ k, At q k → At pp k ∨ u.heap.size ≤ k) ∧ ∀ k, At ep k → At pp k ∧ ¬ At q k

theorem at_none {k : Nat} : ¬ At none k := fun ⟨_, h, _⟩ => by cases h
theorem at_some {a : Addr} {k : Nat} (h : At (some a) k) : k = a.block := by obtain ⟨_, h, rfl⟩ := h; cases h; rfl

theorem StepPost.plain {u u' : World} {pp : Option Addr} {p : Pr} {e : Ev} {q : Option Addr} {n c : Nat} (hps : e.ps = []) (ho : Own u' 1 q n c (numV p.ps)) (hu : Upd (At pp) u u') (hq : ∀ k, At q k → At pp k ∨ u.heap.size ≤ k) :
    StepPost u pp (p, e) (.returned (.tuple #[PrV p q n c, EvV e none 0 0])) u' := ⟨q, n, c, none, 0, 0, rfl, ho, ⟨by rw [hps]; rfl, by rw [hps]; rfl⟩, hu, hq, fun _ h => (at_none h).elim⟩

theorem Own.len' {u : World} {p : Option Addr} {n c : Nat} {l : List Int} (h : Own u 1 p n c (numV l)) : l.length = n := by have := h.len; rw [numV_len] at this; omega

theorem lastNum_take (ps : List Int) (c : Int) (h : 0 < ps.length) : numV (lastNum ps c) = numV (ps.take (ps.length - 1)) ++ [.int .i64 (min (10 * (ps.getD (ps.length - 1) 0) + c - 48) 999)] ++ [] := by
  unfold lastNum numV
  rw [List.append_nil, List.map_set]
  apply List.ext_getElem
  · simp; omega
  · intro i h1 h2
    simp only [List.length_set, List.length_map] at h1
    by_cases hi : i = ps.length - 1
    · subst hi
      simp
    · rw [List.getElem_set_ne (by omega), List.getElem_append_left (by simp; omega)]
      simp

end Go.Proofs.YtkmmphkjmamckabDoor

/-
  Memory as screens lie in it: whole blocks, cells, a screen behind a pointer.
-/
namespace Go.Proofs.YtkmmphkjmamckabDoor
open Go
set_option linter.all false

/-! ### Whole blocks -/

def Blk (u : World) (b : Nat) (cs : List Value) : Prop := ∃ t, u.heap[b]? = some (.cells cs.toArray t (0, 0))

theorem Blk.lt {u : World} {b : Nat} {cs : List Value} (h : Blk u b cs) : b < u.heap.size := by
  obtain ⟨t, h⟩ := h
  exact (Array.getElem?_eq_some_iff.1 h).1

theorem Blk.upd {S : Nat → Prop} {u u' : World} {b : Nat} {cs : List Value} (h : Blk u b cs) (hu : Upd S u u') (hn : ¬ S b) : Blk u' b cs := by
  have hl := h.lt
  obtain ⟨t, h⟩ := h
  exact ⟨t, by rw [hu.old b hl hn]; exact h⟩

theorem Blk.ext {u u' : World} {b : Nat} {cs : List Value} (h : Blk u b cs) (hu : Ext u u') : Blk u' b cs := h.upd hu fun h => h

theorem Blk.fresh (u : World) (cs : List Value) (t : TypeId) : Blk (allocW u (.cells cs.toArray t)) u.heap.size cs := ⟨t, by rw [heap_alloc, if_pos rfl]⟩

theorem Blk.rd {u : World} {b : Nat} {pre xs post : List Value} (h : Blk u b (pre ++ xs ++ post)) {o : Nat} (ho : o = pre.length) : Rd u b o xs := by
  obtain ⟨t, h⟩ := h
  subst ho
  exact rd_heap xs pre post h

theorem Blk.rdAt {u : World} {b : Nat} {cs : List Value} (h : Blk u b cs) {o n : Nat} {xs : List Value} (hx : takeN cs o n = some xs) : Rd u b o xs := by
  obtain ⟨t, h⟩ := h
  exact rd_block h hx

theorem Blk.wr {u : World} {b : Nat} {cs : List Value} (h : Blk u b cs) {o n : Nat} (hn : o + n ≤ cs.length) : Wr u b o n := by
  obtain ⟨t, h⟩ := h
  exact wr_heap h hn

theorem Blk.put {u : World} {b : Nat} {pre mid post : List Value} (h : Blk u b (pre ++ mid ++ post)) {ys : List Value} (hl : mid.length = ys.length) {o : Nat} (ho : o = pre.length) : Blk (putCells u b o ys) b (pre ++ ys ++ post) := by
  obtain ⟨t, h⟩ := h
  subst ho
  exact ⟨t, putCells_heap ys pre mid post u h hl⟩

theorem Blk.putAt {u : World} {b : Nat} {cs r : List Value} (h : Blk u b cs) {o : Nat} {ys : List Value} (hp : putN cs o ys = some r) : Blk (putCells u b o ys) b r := by
  obtain ⟨t, h⟩ := h
  exact ⟨t, put_block ys o cs r u h hp⟩

theorem Blk.wrAt {u : World} {b : Nat} {cs r : List Value} (h : Blk u b cs) {o : Nat} {ys : List Value} (hp : putN cs o ys = some r) : Wr u b o ys.length := by
  obtain ⟨t, h⟩ := h
  exact wr_block h hp

theorem upd_put {u : World} (b o : Nat) (ys : List Value) : Upd (· = b) u (putCells u b o ys) := Upd.put (S := (· = b)) (Upd.refl u) (b := b) (fun _ => rfl) _ _

theorem Own.blk {u : World} {es b n c : Nat} {cs : List Value} (h : Own u es (some ⟨b, 0, none⟩) n c cs) : ∃ r, Blk u b (cs ++ r) ∧ cs.length = n * es ∧ n ≤ c ∧ r.length = (c - n) * es := by
  rcases h with ⟨h, _⟩ | ⟨b', t, r, hp, hb, h1, h2, h3⟩
  · cases h
  · cases hp
    exact ⟨r, ⟨t, hb⟩, h1, h2, h3⟩

theorem Blk.own {u : World} {es b n c : Nat} {cs r : List Value} (h : Blk u b (cs ++ r)) (h1 : cs.length = n * es) (h2 : n ≤ c) (h3 : r.length = (c - n) * es) : Own u es (some ⟨b, 0, none⟩) n c cs := by
  obtain ⟨t, h⟩ := h
  exact .inr ⟨b, t, r, rfl, h, h1, h2, h3⟩

/-- Cells from a place on, by others. -/
theorem Own.over {u : World} {es b n c : Nat} {cs : List Value} (h : Own u es (some ⟨b, 0, none⟩) n c cs) {o : Nat} {ys : List Value} (hl : o + ys.length ≤ cs.length) : Own (putCells u b o ys) es (some ⟨b, 0, none⟩) n c (cs.take o ++ ys ++ cs.drop (o + ys.length)) := by
  have e : cs = cs.take o ++ (cs.drop o).take ys.length ++ cs.drop (o + ys.length) := by
    rw [List.append_assoc, ← List.drop_drop, List.take_append_drop, List.take_append_drop]
  have h' := h
  rw [e] at h'
  exact h'.put (by rw [List.length_take, List.length_drop]; omega) (by rw [List.length_take]; omega)

/-! ### Cells -/

def clV (c : Cl) : List Value := [.int .i64 c.ch, .int .i64 c.ink, .int .i64 c.pic, .bool c.bold]
abbrev ClV (c : Cl) : Value := .agg #[.int .i64 c.ch, .int .i64 c.ink, .int .i64 c.pic, .bool c.bold]

def cellsV (l : List Cl) : List Value := (l.map clV).flatten

theorem cellsV_len (l : List Cl) : (cellsV l).length = l.length * 4 := by
  unfold cellsV
  rw [flatten_len (es := 4) _ (fun y hy => by obtain ⟨c, _, rfl⟩ := List.mem_map.1 hy; rfl), List.length_map]

theorem cellsV_append (l m : List Cl) : cellsV (l ++ m) = cellsV l ++ cellsV m := by simp [cellsV]

theorem cellsV_take : ∀ (l : List Cl) (i : Nat), (cellsV l).take (i * 4) = cellsV (l.take i)
  | [], i => by simp [cellsV]
  | c :: l, 0 => by simp [cellsV]
  | c :: l, i + 1 => by
    have ih := cellsV_take l i
    unfold cellsV at ih ⊢
    rw [List.map_cons, List.flatten_cons, Nat.add_mul, List.take_succ_cons, List.map_cons, List.flatten_cons, ← ih]
    simp [clV]

theorem cellsV_drop : ∀ (l : List Cl) (i : Nat), (cellsV l).drop (i * 4) = cellsV (l.drop i)
  | [], i => by simp [cellsV]
  | c :: l, 0 => by simp [cellsV]
  | c :: l, i + 1 => by
    have ih := cellsV_drop l i
    unfold cellsV at ih ⊢
    rw [List.map_cons, List.flatten_cons, Nat.add_mul, List.drop_succ_cons, ← ih]
    simp [clV]

theorem cellsV_repl (n : Nat) : cellsV (List.replicate n .z) = repl n (clV .z) := by
  unfold cellsV repl
  rw [List.map_replicate]

theorem cellsV_ok (l : List Cl) (r : Prop) : okCells (cellsV l) r ↔ r := by
  rw [okCells_iff]
  refine ⟨fun h => h.2, fun h => ⟨fun c hc => ?_, h⟩⟩
  unfold cellsV at hc
  rw [List.mem_flatten] at hc
  obtain ⟨y, hy, hc⟩ := hc
  obtain ⟨x, _, rfl⟩ := List.mem_map.1 hy
  simp only [clV, List.mem_cons, List.not_mem_nil, or_false] at hc
  rcases hc with rfl | rfl | rfl | rfl <;> rfl

/-- Cells to be read, of so many elements. -/
structure Cells (u : World) (p : Option Addr) (l : List Cl) : Prop where
  gets : Gets u p (cellsV l)

theorem Cells.upd {S : Nat → Prop} {u u' : World} {p : Option Addr} {l : List Cl} (h : Cells u p l) (hu : Upd S u u') (hn : ∀ k, At p k → ¬ S k) : Cells u' p l := ⟨hu.gets h.gets hn⟩
theorem Cells.ext {u u' : World} {p : Option Addr} {l : List Cl} (h : Cells u p l) (hu : Ext u u') : Cells u' p l := h.upd hu fun _ _ h => h

theorem Cells.at {u : World} {p : Option Addr} {l : List Cl} (h : Cells u p l) {i : Nat} (hi : i < l.length) : ∃ b o, p = some ⟨b, o, none⟩ ∧ Rd u b (o + i * 4) (clV (cg l i)) := by
  obtain ⟨h⟩ := h
  have hA : Arr u 4 p l.length (l.map clV) := ⟨h, by simp, fun y hy => by obtain ⟨c, _, rfl⟩ := List.mem_map.1 hy; rfl⟩
  obtain ⟨b, o, hp, hr⟩ := hA.at hi (by decide)
  refine ⟨b, o, hp, ?_⟩
  have e : (l.map clV).getD i [] = clV (cg l i) := by
    simp [cg, List.getD_eq_getElem?_getD, hi]
  rwa [e] at hr

theorem Cells.lt {u : World} {p : Option Addr} {l : List Cl} (h : Cells u p l) (hl : 0 < l.length) {k : Nat} (hk : At p k) : k < u.heap.size := by
  obtain ⟨b, o, hp, hr⟩ := h.at hl
  obtain ⟨a, ha, rfl⟩ := hk
  rw [hp] at ha
  cases ha
  exact rd_lt hr

theorem Cells.nil (u : World) : Cells u none [] := ⟨rfl⟩

/-- Some of them. -/
theorem Cells.sub {u : World} {b o : Nat} {l : List Cl} (h : Cells u (some ⟨b, o, none⟩) l) {i k : Nat} (hik : i + k ≤ l.length) : Cells u (some ⟨b, o + i * 4, none⟩) ((l.drop i).take k) := by
  obtain ⟨_, h⟩ := h
  refine ⟨fun _ => rfl, ?_⟩
  have e : cellsV l = cellsV (l.take i) ++ (cellsV ((l.drop i).take k) ++ cellsV (l.drop (i + k))) := by
    rw [← cellsV_append, ← cellsV_append, ← List.drop_drop, List.take_append_drop, List.take_append_drop]
  rw [e] at h
  have h1 := (rd_take _ _ _ h).2
  have h2 := (rd_take _ _ _ h1).1
  rw [cellsV_len, List.length_take] at h2
  rwa [show min i l.length = i by omega] at h2

/-- Cells of one's own: block, room. -/
def CO (u : World) (b c : Nat) (l : List Cl) : Prop := Own u 4 (some ⟨b, 0, none⟩) l.length c (cellsV l)

theorem CO.cells {u : World} {b c : Nat} {l : List Cl} (h : CO u b c l) : Cells u (some ⟨b, 0, none⟩) l := ⟨Own.gets h⟩
theorem CO.upd {S : Nat → Prop} {u u' : World} {b c : Nat} {l : List Cl} (h : CO u b c l) (hu : Upd S u u') (hn : ¬ S b) : CO u' b c l := Own.upd h hu fun k hk => by
  obtain ⟨a, ha, rfl⟩ := hk
  cases ha
  exact hn
theorem CO.ext {u u' : World} {b c : Nat} {l : List Cl} (h : CO u b c l) (hu : Ext u u') : CO u' b c l := h.upd hu fun h => h
theorem CO.lt {u : World} {b c : Nat} {l : List Cl} (h : CO u b c l) : b < u.heap.size := (Own.at h ⟨_, rfl, rfl⟩).1
theorem CO.le {u : World} {b c : Nat} {l : List Cl} (h : CO u b c l) : l.length ≤ c := Own.le h

theorem CO.rd {u : World} {b c : Nat} {l : List Cl} (h : CO u b c l) {i : Nat} (hi : i < l.length) : Rd u b (0 + i * 4) (clV (cg l i)) := by
  obtain ⟨b', o, hp, hr⟩ := h.cells.at hi
  cases hp
  exact hr

theorem CO.wr {u : World} {b c : Nat} {l : List Cl} (h : CO u b c l) {o n : Nat} (hn : o + n ≤ l.length * 4) : Wr u b o n := by
  obtain ⟨r, hb, h1, h2, h3⟩ := Own.blk h
  exact hb.wr (by rw [List.length_append, h1]; omega)

/-- A part, by others. -/
def overC (l : List Cl) (i : Nat) (m : List Cl) : List Cl := l.take i ++ m ++ l.drop (i + m.length)

theorem overC_len {l m : List Cl} {i : Nat} (h : i + m.length ≤ l.length) : (overC l i m).length = l.length := by
  simp only [overC, List.length_append, List.length_take, List.length_drop]
  omega

theorem overC_cg {l m : List Cl} {i j : Nat} (h : i + m.length ≤ l.length) : cg (overC l i m) j = if i ≤ j ∧ j < i + m.length then cg m (j - i) else cg l j := by
  unfold overC
  rw [cg_append, cg_append]
  simp only [List.length_append, List.length_take]
  rw [show min i l.length = i by omega]
  by_cases h1 : j < i + m.length
  · rw [if_pos h1]
    by_cases h2 : j < i
    · rw [if_pos h2, if_neg (by omega), cg_take h2]
    · rw [if_neg h2, if_pos (by omega)]
  · rw [if_neg h1, if_neg (by omega), cg_drop, show i + m.length + (j - (i + m.length)) = j by omega]

theorem CO.over {u : World} {b c : Nat} {l : List Cl} (h : CO u b c l) {i : Nat} {m : List Cl} (hl : i + m.length ≤ l.length) {o : Nat} (ho : o = i * 4) : CO (putCells u b o (cellsV m)) b c (overC l i m) := by
  subst ho
  have := Own.over h (o := i * 4) (ys := cellsV m) (by rw [cellsV_len, cellsV_len]; omega)
  unfold CO
  rw [overC_len hl]
  have e : cellsV (overC l i m) = (cellsV l).take (i * 4) ++ cellsV m ++ (cellsV l).drop (i * 4 + (cellsV m).length) := by
    rw [cellsV_len, ← Nat.add_mul, cellsV_take, cellsV_drop, ← cellsV_append, ← cellsV_append]
    rfl
  rw [e]
  exact this

theorem set_over {l : List Cl} {i : Nat} {x : Cl} (h : i < l.length) : overC l i [x] = l.set i x := by
  refine cg_ext (by rw [overC_len (by simp; omega), List.length_set]) fun j hj => ?_
  rw [overC_len (by simp; omega)] at hj
  rw [overC_cg (by simp; omega), cg_set h]
  simp only [List.length_cons, List.length_nil]
  by_cases e : j = i
  · rw [if_pos (by omega), if_pos e, show j - i = 0 by omega]; rfl
  · rw [if_neg (by omega), if_neg e]

theorem CO.set {u : World} {b c : Nat} {l : List Cl} (h : CO u b c l) {i : Nat} (x : Cl) (hl : i < l.length) {o : Nat} (ho : o = i * 4) : CO (putCells u b o (clV x)) b c (l.set i x) := by
  have := h.over (m := [x]) (i := i) (by simp; omega) ho
  rw [set_over hl] at this
  have e : cellsV [x] = clV x := by simp [cellsV]
  rwa [e] at this

theorem CO.fresh (u : World) (l : List Cl) (t : TypeId) : CO (allocW u (.cells (cellsV l).toArray t)) u.heap.size l.length l := Own.fresh u (cellsV_len l)

/-! ### Screens -/

abbrev GrV (g : Gr) (p : Option Addr) (n c : Nat) : Value := .agg #[.int .i64 g.wide, .int .i64 g.high, .slice p n c, .int .i64 g.row, .int .i64 g.col, .int .i64 g.ink, .bool g.bold, .int .i64 g.top, .int .i64 g.bottom]
abbrev grV (g : Gr) (p : Option Addr) (n c : Nat) : List Value := [.int .i64 g.wide, .int .i64 g.high, .slice p n c, .int .i64 g.row, .int .i64 g.col, .int .i64 g.ink, .bool g.bold, .int .i64 g.top, .int .i64 g.bottom]

/-- A screen of one's own, behind a pointer: its block, its cells' block and room. -/
structure GB (u : World) (gb : Nat) (g : Gr) (b c : Nat) : Prop where
  blk : Blk u gb (grV g (some ⟨b, 0, none⟩) g.cells.length c)
  own : CO u b c g.cells
  ne : b ≠ gb

theorem GB.upd {S : Nat → Prop} {u u' : World} {gb : Nat} {g : Gr} {b c : Nat} (h : GB u gb g b c) (hu : Upd S u u') (h1 : ¬ S gb) (h2 : ¬ S b) : GB u' gb g b c := ⟨h.blk.upd hu h1, h.own.upd hu h2, h.ne⟩
theorem GB.ext {u u' : World} {gb : Nat} {g : Gr} {b c : Nat} (h : GB u gb g b c) (hu : Ext u u') : GB u' gb g b c := h.upd hu (fun h => h) fun h => h

/-- A store into the screen's own block. -/
theorem GB.put {u : World} {gb : Nat} {g g' : Gr} {b c o : Nat} {ys : List Value} (h : GB u gb g b c) (hc : g'.cells = g.cells) (hp : putN (grV g (some ⟨b, 0, none⟩) g.cells.length c) o ys = some (grV g' (some ⟨b, 0, none⟩) g.cells.length c)) : GB (putCells u gb o ys) gb g' b c := by
  refine ⟨?_, ?_, h.ne⟩
  · rw [hc]; exact h.blk.putAt hp
  · rw [hc]; exact h.own.upd (upd_put gb o ys) h.ne

theorem GB.wr {u : World} {gb : Nat} {g : Gr} {b c o n : Nat} (h : GB u gb g b c) (hn : o + n ≤ 9) : Wr u gb o n := h.blk.wr hn

/-- A store into its cells. -/
theorem GB.cell {u : World} {gb : Nat} {g : Gr} {b c i : Nat} (h : GB u gb g b c) (x : Cl) (hi : i < g.cells.length) {o : Nat} (ho : o = i * 4) : GB (putCells u b o (clV x)) gb { g with cells := g.cells.set i x } b c := by
  refine ⟨?_, h.own.set x hi ho, h.ne⟩
  show Blk _ gb (grV g _ (g.cells.set i x).length c)
  rw [List.length_set]
  exact h.blk.upd (upd_put b o (clV x)) h.ne.symm

theorem GB.cells {u : World} {gb : Nat} {g : Gr} {b c i : Nat} {m : List Cl} (h : GB u gb g b c) (hi : i + m.length ≤ g.cells.length) {o : Nat} (ho : o = i * 4) : GB (putCells u b o (cellsV m)) gb { g with cells := overC g.cells i m } b c := by
  refine ⟨?_, h.own.over hi ho, h.ne⟩
  show Blk _ gb (grV g _ (overC g.cells i m).length c)
  rw [overC_len hi]
  exact h.blk.upd (upd_put b o (cellsV m)) h.ne.symm

end Go.Proofs.YtkmmphkjmamckabDoor

/-
  Memory as panes lie in it: columns of numbers.
-/
namespace Go.Proofs.YtkmmphkjmamckabDoor
open Go
set_option linter.all false

/-- Columns, by their slices, in blocks that are ok. -/
def ColsV (u : World) (ok : Nat → Prop) : List (List Value) → Cols → Prop
  | [], [] => True
  | x :: xs, l :: ls => (∃ q c, x = [.slice q l.length c] ∧ Nums u q l.length l ∧ ∀ k, At q k → ok k) ∧ ColsV u ok xs ls
  | _, _ => False

section
variable {u u' : World} {ok ok' : Nat → Prop}

theorem ColsV.len : ∀ {xs : List (List Value)} {ls : Cols}, ColsV u ok xs ls → xs.length = ls.length
  | [], [], _ => rfl
  | _ :: _, _ :: _, h => by simp only [List.length_cons, ColsV.len h.2]

theorem ColsV.each : ∀ {xs : List (List Value)} {ls : Cols}, ColsV u ok xs ls → ∀ y ∈ xs, y.length = 1
  | x :: xs, l :: ls, h, y, hy => by
    rcases List.mem_cons.1 hy with rfl | hy
    · obtain ⟨_, _, rfl, _⟩ := h.1
      rfl
    · exact ColsV.each h.2 y hy
  | [], [], _, _, hy => by simp at hy

theorem ColsV.upd {S : Nat → Prop} (hu : Upd S u u') (hok : ∀ k, ok k → ¬ S k ∧ ok' k) : ∀ {xs : List (List Value)} {ls : Cols}, ColsV u ok xs ls → ColsV u' ok' xs ls
  | [], [], _ => trivial
  | x :: xs, l :: ls, h => ⟨by
    obtain ⟨q, c, h1, h2, h3⟩ := h.1
    exact ⟨q, c, h1, h2.upd hu fun k hk => (hok k (h3 k hk)).1, fun k hk => (hok k (h3 k hk)).2⟩, ColsV.upd hu hok h.2⟩

theorem ColsV.snoc {q : Option Addr} {c : Nat} {l : List Int} (hq : Nums u q l.length l) (hk : ∀ k, At q k → ok k) : ∀ {xs : List (List Value)} {ls : Cols}, ColsV u ok xs ls → ColsV u ok (xs ++ [[.slice q l.length c]]) (ls ++ [l])
  | [], [], _ => ⟨⟨q, c, rfl, hq, hk⟩, trivial⟩
  | _ :: _, _ :: _, h => ⟨h.1, ColsV.snoc hq hk h.2⟩

theorem ColsV.at : ∀ {xs : List (List Value)} {ls : Cols} {i : Nat}, ColsV u ok xs ls → i < ls.length → ∃ q c, xs.getD i [] = [.slice q (ls.getD i []).length c] ∧ Nums u q (ls.getD i []).length (ls.getD i []) ∧ ∀ k, At q k → ok k
  | x :: xs, l :: ls, 0, h, _ => by simpa using h.1
  | x :: xs, l :: ls, i + 1, h, hi => by simpa using ColsV.at (i := i) h.2 (by simpa using hi)
  | [], [], _, _, hi => by simp at hi

end

/-- Columns to be read. -/
structure Tl (u : World) (p : Option Addr) (t : Cols) : Prop where
  ex : ∃ xs, Arr u 1 p t.length xs ∧ ColsV u (fun _ => True) xs t

theorem Tl.ext {u u' : World} {p : Option Addr} {t : Cols} (h : Tl u p t) (hu : Ext u u') : Tl u' p t := by
  obtain ⟨xs, h1, h2⟩ := h.ex
  exact ⟨xs, h1.ext hu, h2.upd hu fun _ _ => ⟨fun h => h, trivial⟩⟩

theorem Tl.at {u : World} {p : Option Addr} {t : Cols} (h : Tl u p t) {i : Nat} (hi : i < t.length) : ∃ b o q c, p = some ⟨b, o, none⟩ ∧ Rd u b (o + i * 1) [.slice q (t.getD i []).length c] ∧ Nums u q (t.getD i []).length (t.getD i []) := by
  obtain ⟨xs, h1, h2⟩ := h.ex
  obtain ⟨b, o, hp, hr⟩ := h1.at hi (by decide)
  obtain ⟨q, c, hx, hn, _⟩ := h2.at hi
  rw [hx] at hr
  exact ⟨b, o, q, c, hp, hr, hn⟩

/-- None of more than so many. -/
structure FewT (B : Nat) (t : Cols) : Prop where
  n : t.length ≤ B
  each : ∀ c ∈ t, c.length ≤ B

theorem FewT.getD {B : Nat} {t : Cols} (h : FewT B t) (i : Nat) : (t.getD i []).length ≤ B := by
  rcases Nat.lt_or_ge i t.length with hi | hi
  · exact h.each _ (by rw [List.getD_eq_getElem?_getD, List.getElem?_eq_getElem hi]; exact List.getElem_mem _)
  · rw [List.getD_eq_getElem?_getD, List.getElem?_eq_none hi]; simp

theorem GoodT.few' {t : Cols} (h : GoodT t) : FewT 6 t := ⟨h.few, fun c hc => Nat.le_trans (h.each c hc).2 (by decide)⟩

abbrev TlV (p : Option Addr) (t : Cols) (c : Nat) : Value := .agg #[.slice p t.length c]
abbrev RcV (r : Rc) : Value := .agg #[.int .i64 r.row, .int .i64 r.col, .int .i64 r.high, .int .i64 r.wide]

theorem getD_mem {α : Type} {l : List α} {d : α} {i : Nat} (h : i < l.length) : l.getD i d ∈ l := by
  rw [List.getD_eq_getElem?_getD, List.getElem?_eq_getElem h]
  exact List.getElem_mem _

theorem take_succ_getD {α : Type} (l : List α) (d : α) {i : Nat} (h : i < l.length) : l.take (i + 1) = l.take i ++ [l.getD i d] := by
  rw [List.take_succ, List.getElem?_eq_getElem h, List.getD_eq_getElem?_getD, List.getElem?_eq_getElem h]
  rfl

theorem idx_first : ∀ {l : List Int} {i : Nat} {v : Int}, i < l.length → l.getD i 0 = v → (∀ j : Nat, j < i → l.getD j 0 ≠ v) → l.contains v = true ∧ l.idxOf v = i
  | [], _, _, h, _, _ => by simp at h
  | a :: l, 0, v, _, h, _ => by
    simp only [List.getD_cons_zero] at h
    subst h
    simp
  | a :: l, i + 1, v, hi, h, hj => by
    have h0 := hj 0 (by omega)
    simp only [List.getD_cons_zero] at h0
    have ih := idx_first (l := l) (i := i) (v := v) (by simpa using hi) (by simpa using h) fun j hji => by
      have := hj (j + 1) (by omega)
      simpa using this
    refine ⟨?_, ?_⟩
    · simp only [List.contains_cons, ih.1, Bool.or_true]
    · rw [idx_ne h0, ih.2]

theorem not_contains {l : List Int} {v : Int} (h : ∀ j : Nat, j < l.length → l.getD j 0 ≠ v) : l.contains v = false := by
  cases hc : l.contains v with
  | false => rfl
  | true =>
    rw [List.contains_iff_mem] at hc
    obtain ⟨i, hi, he⟩ := List.getElem_of_mem hc
    exact (h i hi (by rw [List.getD_eq_getElem?_getD, List.getElem?_eq_getElem hi]; simpa using he)).elim

theorem find_at : ∀ {t : Cols} {i : Nat} {p : Int}, i < t.length → (t.getD i []).contains p = true → (∀ j : Nat, j < i → (t.getD j []).contains p = false) → findT t p = some (i, (t.getD i []).idxOf p)
  | [], _, _, h, _, _ => by simp at h
  | c :: t, 0, p, _, h, _ => by
    simp only [List.getD_cons_zero] at h
    unfold findT
    rw [if_pos h]
    simp
  | c :: t, i + 1, p, hi, h, hj => by
    have h0 := hj 0 (by omega)
    simp only [List.getD_cons_zero] at h0
    have ih := find_at (t := t) (i := i) (p := p) (by simpa using hi) (by simpa using h) fun j hji => by
      have := hj (j + 1) (by omega)
      simpa using this
    unfold findT
    rw [if_neg (by rw [h0]; simp), ih]
    simp

theorem find_not {t : Cols} {p : Int} (h : ∀ j : Nat, j < t.length → (t.getD j []).contains p = false) : findT t p = none := by
  rw [find_none]
  unfold hasT
  cases hc : t.flatten.contains p with
  | false => rfl
  | true =>
    rw [List.contains_iff_mem, List.mem_flatten] at hc
    obtain ⟨c, hc, hp⟩ := hc
    obtain ⟨i, hi, rfl⟩ := List.getElem_of_mem hc
    have := h i hi
    rw [List.getD_eq_getElem?_getD, List.getElem?_eq_getElem hi] at this
    simp only [Option.getD_some] at this
    rw [← Bool.not_eq_true, List.contains_iff_mem] at this
    exact (this hp).elim

end Go.Proofs.YtkmmphkjmamckabDoor

/-
  Memory as a view lies in it; a cell of a screen, as the document looks for it.
-/
namespace Go.Proofs.YtkmmphkjmamckabDoor
open Go
set_option linter.all false

/-- The cells of a view. -/
structure VwM (u : World) (cs : List Value) (v : Vw) : Prop where
  cols : ∃ p c, takeN cs 0 1 = some [.slice p v.cols.length c] ∧ Tl u p v.cols
  few : FewT 1048576 v.cols
  grid : ∀ i : Nat, i < 6 → ∃ p c, takeN cs (1 + i * 9) 9 = some (grV (v.grids.getD i .zero) p (v.grids.getD i .zero).cells.length c) ∧ Cells u p (v.grids.getD i .zero).cells ∧ (v.grids.getD i .zero).cells.length ≤ 1048576 ∧
    inK .i64 (v.grids.getD i .zero).row ∧ inK .i64 (v.grids.getD i .zero).col
  wide : takeN cs 55 1 = some [.int .i64 v.wide]
  high : takeN cs 56 1 = some [.int .i64 v.high]
  focus : takeN cs 57 1 = some [.int .i64 v.focus]
  whole : takeN cs 0 58 = some cs

theorem VwM.ext {u u' : World} {cs : List Value} {v : Vw} (h : VwM u cs v) (hu : Ext u u') : VwM u' cs v := by
  obtain ⟨⟨p, c, h1, h2⟩, h3, h4, h5, h6, h7, h8⟩ := h
  refine ⟨⟨p, c, h1, h2.ext hu⟩, h3, fun i hi => ?_, h5, h6, h7, h8⟩
  obtain ⟨p, c, g1, g2, g3⟩ := h4 i hi
  exact ⟨p, c, g1, g2.ext hu, g3⟩

theorem FewT.le {B C : Nat} {t : Cols} (h : FewT B t) (hBC : B ≤ C) : FewT C t := ⟨Nat.le_trans h.n hBC, fun c hc => Nat.le_trans (h.each c hc) hBC⟩

theorem where_small (t : Cols) (wide high p : Int) : 0 ≤ (whereT t wide high p).row ∧ 0 ≤ (whereT t wide high p).col ∧ (whereT t wide high p).row + (whereT t wide high p).high ≤ 24 ∧ (whereT t wide high p).col + (whereT t wide high p).wide ≤ 24 ∧
    0 ≤ (whereT t wide high p).high ∧ 0 ≤ (whereT t wide high p).wide := by
  rcases where_shape t wide high p with h | ⟨i, k, hf, hg, hw, hh, h⟩
  · rw [h]; exact ⟨Int.le_refl _, Int.le_refl _, by show (0 : Int) + 0 ≤ _; omega, by show (0 : Int) + 0 ≤ _; omega, Int.le_refl _, Int.le_refl _⟩
  · rw [h]
    simp only
    have a := share_nonneg wide t.length i
    have b := share_nonneg high (t.getD i []).length k
    have c := share_in wide t.length i
    have d := share_in high (t.getD i []).length k
    have e := share_room hw
    have f := share_room hh
    omega

theorem share_small' (length n k : Int) : 0 ≤ (shareT length n k).1 ∧ 0 ≤ (shareT length n k).2 ∧ (shareT length n k).1 + (shareT length n k).2 ≤ 24 := by
  have a := share_nonneg length n k
  by_cases h : (shareT length n k).2 = 0
  · have := share_zero h
    rw [this]
    exact ⟨Int.le_refl _, Int.le_refl _, by decide⟩
  · have := share_room h
    have := share_in length n k
    omega

/-- A screen that comes to be, cell by cell. -/
structure ScrI (u : World) (cs : List Cl) (b c n : Nat) (w : World) : Prop where
  own : ∃ l, CO w b c l ∧ l.length = cs.length ∧ ∀ i : Nat, i < n → cg l i = cg cs i
  ext : Ext u w
  new : u.heap.size ≤ b

theorem ScrI.ext' {u : World} {cs : List Cl} {b c n : Nat} {w w' : World} (h : ScrI u cs b c n w) (hw : Ext w w') : ScrI u cs b c n w' := by
  obtain ⟨⟨l, h1, h2, h3⟩, h4, h5⟩ := h
  exact ⟨⟨l, h1.ext hw, h2, h3⟩, h4.ext hw, h5⟩

theorem ScrI.put {u : World} {cs : List Cl} {b c n : Nat} {w : World} (h : ScrI u cs b c n w) (hn : n < cs.length) {o : Nat} (ho : o = n * 4) (k : Cl) : Wr w b o 4 ∧ ScrI u cs b c n (putCells w b o (clV k)) := by
  obtain ⟨⟨l, h1, h2, h3⟩, h4, h5⟩ := h
  refine ⟨h1.wr (by omega), ⟨l.set n k, h1.set k (by omega) ho, by rw [List.length_set]; exact h2, fun i hi => ?_⟩, h4.put (fun hlt => by omega) _ _, h5⟩
  rw [cg_set (by omega), if_neg (by omega)]
  exact h3 i hi

theorem ScrI.store {u : World} {cs : List Cl} {b c n : Nat} {w : World} (h : ScrI u cs b c n w) (hn : n < cs.length) {o : Nat} (ho : o = n * 4) {k : Cl} (hk : k = cg cs n) : Wr w b o 4 ∧ ScrI u cs b c (n + 1) (putCells w b o (clV k)) := by
  obtain ⟨⟨l, h1, h2, h3⟩, h4, h5⟩ := h
  refine ⟨h1.wr (by omega), ⟨l.set n k, h1.set k (by omega) ho, by rw [List.length_set]; exact h2, fun i hi => ?_⟩, h4.put (fun hlt => by omega) _ _, h5⟩
  rw [cg_set (by omega)]
  split
  · next e => rw [e, hk]
  · exact h3 i (by omega)

theorem ScrI.done {u : World} {cs : List Cl} {b c n : Nat} {w : World} (h : ScrI u cs b c n w) (hn : n = cs.length) : CO w b c cs := by
  obtain ⟨⟨l, h1, h2, h3⟩, h4, h5⟩ := h
  have : l = cs := cg_ext h2 fun i hi => h3 i (by omega)
  rwa [this] at h1

theorem screen_cg (v : Vw) {w h r c : Nat} (hc : c < w) (hr : r < h) : cg (screenCells v w h) (r * w + c) = if r + 1 = h then statusV v.cols v.focus (c : Nat) else cellV v (r : Nat) (c : Nat) := by
  unfold screenCells
  rw [tab_cg (by rw [Nat.mul_comm w h]; exact row_lt hc hr), row_div hc, row_mod hc]

/-- A pane's place in the line at the foot. -/
theorem flat_at {t : Cols} {x y : Nat} (hx : x < t.length) (hy : y < (t.getD x []).length) : t.flatten.getD ((t.take x).flatten.length + y) 0 = (t.getD x []).getD y 0 ∧ (t.take x).flatten.length + y < t.flatten.length := by
  have h : t.flatten = (t.take x).flatten ++ (t.getD x [] ++ (t.drop (x + 1)).flatten) := by
    conv => lhs; rw [← List.take_append_drop x t, List.drop_eq_getElem_cons hx]
    rw [List.flatten_append, List.flatten_cons, List.getD_eq_getElem?_getD, List.getElem?_eq_getElem hx]
    rfl
  rw [h]
  refine ⟨?_, by simp only [List.length_append]; omega⟩
  rw [List.getD_eq_getElem?_getD, List.getElem?_append_right (by omega), List.getElem?_append_left (by omega), Nat.add_sub_cancel_left, ← List.getD_eq_getElem?_getD]

end Go.Proofs.YtkmmphkjmamckabDoor

