/-
  Memory as the contracts speak of it: what stays, slices of one's own, what lies in a slice.
-/
import Derived.Test.YtkmmphkjmamckaaVcFunc
namespace Go.Proofs.Ytkmmphkjmamckaa
open Go
set_option linter.all false

/-- No block goes, and those beyond S stay as they are. -/
structure Upd (S : Nat → Prop) (u u' : World) : Prop where
  size : u.heap.size ≤ u'.heap.size
  old : ∀ k, k < u.heap.size → ¬ S k → u'.heap[k]? = u.heap[k]?
  os : u'.os = u.os
  output : u'.output = u.output
  tape : u'.tape = u.tape

abbrev Ext : World → World → Prop := Upd fun _ => False

/-- The blocks that a slice lies in: one, or none. -/
def At (p : Option Addr) (k : Nat) : Prop := ∃ a, p = some a ∧ a.block = k

theorem Upd.refl {S : Nat → Prop} (u : World) : Upd S u u := ⟨Nat.le_refl _, fun _ _ _ => rfl, rfl, rfl, rfl⟩

theorem Upd.mono {S S' : Nat → Prop} {u u' : World} (h : Upd S u u') (hs : ∀ k, k < u.heap.size → S k → S' k) : Upd S' u u' := ⟨h.size, fun k hk hn => h.old k hk fun hS => hn (hs k hk hS), h.os, h.output, h.tape⟩

theorem Upd.any {S : Nat → Prop} {u u' : World} (h : Ext u u') : Upd S u u' := h.mono fun _ _ h => h.elim

theorem Upd.trans {S T : Nat → Prop} {u v w : World} (h : Upd S u v) (g : Upd T v w) (hs : ∀ k, k < u.heap.size → T k → S k) : Upd S u w :=
  ⟨Nat.le_trans h.size g.size, fun k hk hn => by rw [g.old k (Nat.lt_of_lt_of_le hk h.size) fun ht => hn (hs k hk ht), h.old k hk hn], by rw [g.os, h.os], by rw [g.output, h.output], by rw [g.tape, h.tape]⟩

theorem Upd.ext {S : Nat → Prop} {u v w : World} (h : Upd S u v) (g : Ext v w) : Upd S u w := h.trans g fun _ _ h => h.elim

theorem Upd.alloc {S : Nat → Prop} {u v : World} (h : Upd S u v) (o : Obj) : Upd S u (allocW v o) :=
  ⟨by show _ ≤ (v.heap.push o).size; rw [Array.size_push]; exact Nat.le_succ_of_le h.size, fun k hk hn => by
    rw [heap_alloc, if_neg (by have := h.size; omega)]
    exact h.old k hk hn, h.os, h.output, h.tape⟩

theorem Upd.drew {S : Nat → Prop} {u v : World} (h : Upd S u v) : Upd S u (drewW v) := ⟨h.size, h.old, h.os, h.output, h.tape⟩

theorem put_os {b : Nat} : ∀ (cs : List Value) (o : Nat) (u : World), (putCells u b o cs).os = u.os ∧ (putCells u b o cs).output = u.output ∧ (putCells u b o cs).tape = u.tape
  | [], _, _ => ⟨rfl, rfl, rfl⟩
  | c :: cs, o, u => put_os cs (o + 1) (u.setCell ⟨b, o, none⟩ c)

theorem Upd.put {S : Nat → Prop} {u v : World} (h : Upd S u v) {b : Nat} (hb : b < u.heap.size → S b) (o : Nat) (cs : List Value) : Upd S u (putCells v b o cs) :=
  ⟨by rw [put_size]; exact h.size, fun k hk hn => by
    rw [put_heap_other _ _ _ _ fun e => hn (by subst e; exact hb hk)]
    exact h.old k hk hn, by rw [(put_os cs o v).1, h.os], by rw [(put_os cs o v).2.1, h.output], by rw [(put_os cs o v).2.2, h.tape]⟩

theorem size_alloc (u : World) (o : Obj) : (allocW u o).heap.size = u.heap.size + 1 := by show (u.heap.push o).size = _; simp
theorem size_drew (u : World) : (drewW u).heap.size = u.heap.size := rfl
theorem heap_drew (u : World) : (drewW u).heap = u.heap := rfl

/-! ### What is read stays -/

theorem rd_lt {u : World} {b o : Nat} {c : Value} {cs : List Value} (h : Rd u b o (c :: cs)) : b < u.heap.size := by
  obtain ⟨_, _, _, hb, _⟩ := cell_block h.1
  exact (Array.getElem?_eq_some_iff.1 hb).1

theorem cell_congr {u u' : World} {a : Addr} (h : u'.heap[a.block]? = u.heap[a.block]?) : u'.cell? a = u.cell? a := by
  unfold World.cell?
  rw [h]

theorem rd_congr {u u' : World} {b : Nat} (h : u'.heap[b]? = u.heap[b]?) : ∀ (cs : List Value) (o : Nat), Rd u b o cs → Rd u' b o cs
  | [], _, _ => trivial
  | _ :: cs, o, hr => ⟨by rw [cell_congr h]; exact hr.1, rd_congr h cs (o + 1) hr.2⟩

theorem Upd.rd {S : Nat → Prop} {u u' : World} (h : Upd S u u') {b o : Nat} {cs : List Value} (hr : Rd u b o cs) (hn : ¬ S b) : Rd u' b o cs := by
  cases cs with
  | nil => trivial
  | cons c cs => exact rd_congr (h.old b (rd_lt hr) hn) _ _ hr

theorem Upd.gets {S : Nat → Prop} {u u' : World} (h : Upd S u u') {p : Option Addr} {cs : List Value} (hr : Gets u p cs) (hn : ∀ k, At p k → ¬ S k) : Gets u' p cs := by
  cases p with
  | none => exact hr
  | some a => exact ⟨hr.1, h.rd hr.2 (hn _ ⟨a, rfl, rfl⟩)⟩

theorem Upd.gets' {u u' : World} (h : Ext u u') {p : Option Addr} {cs : List Value} (hr : Gets u p cs) : Gets u' p cs := h.gets hr fun _ _ h => h

theorem rd_take {u : World} {b : Nat} : ∀ (xs ys : List Value) (o : Nat), Rd u b o (xs ++ ys) → Rd u b o xs ∧ Rd u b (o + xs.length) ys
  | [], _, _, h => ⟨trivial, h⟩
  | x :: xs, ys, o, h => by
    have := rd_take xs ys (o + 1) h.2
    refine ⟨⟨h.1, this.1⟩, ?_⟩
    rw [List.length_cons, show o + (xs.length + 1) = o + 1 + xs.length by omega]
    exact this.2

theorem rd_append {u : World} {b : Nat} : ∀ (xs ys : List Value) (o : Nat), Rd u b o xs → Rd u b (o + xs.length) ys → Rd u b o (xs ++ ys)
  | [], _, _, _, h => h
  | x :: xs, ys, o, hx, h => ⟨hx.1, rd_append xs ys (o + 1) hx.2 (by rwa [List.length_cons, show o + (xs.length + 1) = o + 1 + xs.length by omega] at h)⟩

theorem rd_unique {u : World} {b : Nat} : ∀ (xs ys : List Value) (o : Nat), Rd u b o xs → Rd u b o ys → xs.length = ys.length → xs = ys
  | [], [], _, _, _, _ => rfl
  | x :: xs, y :: ys, o, hx, hy, hl => by
    have e : x = y := by have h1 := hx.1; rw [hy.1] at h1; exact (Option.some.inj h1).symm
    subst e
    rw [rd_unique xs ys (o + 1) hx.2 hy.2 (by simpa using hl)]
  | [], _ :: _, _, _, _, hl => by simp at hl
  | _ :: _, [], _, _, _, hl => by simp at hl

theorem gets_unique {u : World} {p : Option Addr} {xs ys : List Value} (hx : Gets u p xs) (hy : Gets u p ys) (hl : xs.length = ys.length) : xs = ys := by
  cases p with
  | none => rw [hx, hy]
  | some a => exact rd_unique _ _ _ hx.2 hy.2 hl

theorem gets_nil (u : World) (a : Addr) : Gets u (some a) [] := ⟨fun h => absurd rfl h, trivial⟩

/-- An element of several cells. -/
theorem rd_elem {u : World} {b es : Nat} : ∀ (ls : List (List Value)) (o i : Nat) (x : List Value), (∀ y ∈ ls, y.length = es) → Rd u b o ls.flatten → ls[i]? = some x → Rd u b (o + i * es) x
  | [], _, _, _, _, _, h => by simp at h
  | y :: ls, o, 0, x, _, hr, h => by
    simp only [List.getElem?_cons_zero, Option.some.injEq] at h
    subst h
    have := (rd_take y ls.flatten o (by simpa using hr)).1
    simpa using this
  | y :: ls, o, i + 1, x, hl, hr, h => by
    have := rd_elem ls (o + es) i x (fun z hz => hl z (List.mem_cons_of_mem _ hz)) (by
      have := (rd_take y ls.flatten o (by simpa using hr)).2
      rwa [hl y List.mem_cons_self] at this) (by simpa using h)
    rwa [show o + (i + 1) * es = o + es + i * es by rw [Nat.add_mul]; omega]

theorem flatten_len {es : Nat} : ∀ (ls : List (List Value)), (∀ y ∈ ls, y.length = es) → ls.flatten.length = ls.length * es
  | [], _ => by simp
  | y :: ls, h => by
    have := flatten_len ls fun z hz => h z (List.mem_cons_of_mem _ hz)
    simp only [List.flatten_cons, List.length_append, List.length_cons, this, h y List.mem_cons_self, Nat.add_mul]
    omega

/-- A slice of n elements, each of those cells. -/
structure Arr (u : World) (es : Nat) (p : Option Addr) (n : Nat) (ls : List (List Value)) : Prop where
  gets : Gets u p ls.flatten
  len : ls.length = n
  each : ∀ y ∈ ls, y.length = es

theorem Arr.flat {u : World} {es : Nat} {p : Option Addr} {n : Nat} {ls : List (List Value)} (h : Arr u es p n ls) : ls.flatten.length = n * es := by rw [flatten_len ls h.each, h.len]

theorem Arr.at {u : World} {es : Nat} {p : Option Addr} {n : Nat} {ls : List (List Value)} (h : Arr u es p n ls) {i : Nat} (hi : i < n) (h0 : 0 < es) : ∃ b o, p = some ⟨b, o, none⟩ ∧ Rd u b (o + i * es) (ls.getD i []) := by
  have hx : ls[i]? = some (ls.getD i []) := by
    rw [List.getD_eq_getElem?_getD, List.getElem?_eq_getElem (by rw [h.len]; exact hi)]
    rfl
  cases p with
  | none =>
    have hf := h.flat
    rw [show ls.flatten = [] from h.gets] at hf
    simp only [List.length_nil] at hf
    have : 0 < n * es := Nat.mul_pos (by omega) h0
    omega
  | some a =>
    obtain ⟨b, o, s⟩ := a
    obtain ⟨hs, hr⟩ := h.gets
    have hne : ls.flatten ≠ [] := fun e => by
      have hf := h.flat
      rw [e] at hf
      simp only [List.length_nil] at hf
      have : 0 < n * es := Nat.mul_pos (by omega) h0
      omega
    have hs := hs hne
    simp only at hs
    subst hs
    exact ⟨b, o, rfl, rd_elem ls o i _ h.each hr hx⟩

theorem Arr.upd {S : Nat → Prop} {u u' : World} {es : Nat} {p : Option Addr} {n : Nat} {ls : List (List Value)} (h : Arr u es p n ls) (hu : Upd S u u') (hn : ∀ k, At p k → ¬ S k) : Arr u' es p n ls := ⟨hu.gets h.gets hn, h.len, h.each⟩

theorem Arr.ext {u u' : World} {es : Nat} {p : Option Addr} {n : Nat} {ls : List (List Value)} (h : Arr u es p n ls) (hu : Ext u u') : Arr u' es p n ls := h.upd hu fun _ _ h => h

/-! ### A slice of one's own -/

/-- It lies at its block's start, is filled so far, and may grow there. -/
def Own (u : World) (es : Nat) (p : Option Addr) (n c : Nat) (cs : List Value) : Prop :=
  (p = none ∧ n = 0 ∧ c = 0 ∧ cs = []) ∨ ∃ b t r, p = some ⟨b, 0, none⟩ ∧ u.heap[b]? = some (.cells (cs ++ r).toArray t (0, 0)) ∧ cs.length = n * es ∧ n ≤ c ∧ r.length = (c - n) * es

theorem Own.nil (u : World) (es : Nat) : Own u es none 0 0 [] := .inl ⟨rfl, rfl, rfl, rfl⟩

theorem Own.len {u : World} {es : Nat} {p : Option Addr} {n c : Nat} {cs : List Value} (h : Own u es p n c cs) : cs.length = n * es := by
  rcases h with ⟨_, rfl, _, rfl⟩ | ⟨_, _, _, _, _, h, _⟩
  · simp
  · exact h

theorem Own.le {u : World} {es : Nat} {p : Option Addr} {n c : Nat} {cs : List Value} (h : Own u es p n c cs) : n ≤ c := by
  rcases h with ⟨_, rfl, rfl, _⟩ | ⟨_, _, _, _, _, _, h, _⟩
  · exact Nat.le_refl _
  · exact h

theorem rd_heap {u : World} {b : Nat} {t : TypeId} {f : Nat × Nat} : ∀ (xs pre post : List Value), u.heap[b]? = some (.cells (pre ++ xs ++ post).toArray t f) → Rd u b pre.length xs
  | [], _, _, _ => trivial
  | x :: xs, pre, post, h => by
    refine ⟨?_, ?_⟩
    · simp only [World.cell?, h]
      simp
    · have := rd_heap (t := t) (f := f) xs (pre ++ [x]) post (by rw [h]; simp)
      simpa using this

theorem Own.gets {u : World} {es : Nat} {p : Option Addr} {n c : Nat} {cs : List Value} (h : Own u es p n c cs) : Gets u p cs := by
  rcases h with ⟨rfl, _, _, rfl⟩ | ⟨b, t, r, rfl, hb, _⟩
  · rfl
  · exact ⟨fun _ => rfl, by have := rd_heap cs [] r (by simpa using hb); simpa using this⟩

theorem Own.at {u : World} {es : Nat} {p : Option Addr} {n c : Nat} {cs : List Value} (h : Own u es p n c cs) {k : Nat} (hk : At p k) : k < u.heap.size ∧ ∃ r t, u.heap[k]? = some (.cells (cs ++ r).toArray t (0, 0)) := by
  obtain ⟨a, ha, rfl⟩ := hk
  rcases h with ⟨rfl, _⟩ | ⟨b, t, r, rfl, hb, _⟩
  · cases ha
  · cases ha
    exact ⟨(Array.getElem?_eq_some_iff.1 hb).1, r, t, hb⟩

theorem Own.upd {S : Nat → Prop} {u u' : World} {es : Nat} {p : Option Addr} {n c : Nat} {cs : List Value} (h : Own u es p n c cs) (hu : Upd S u u') (hn : ∀ k, At p k → ¬ S k) : Own u' es p n c cs := by
  rcases h with h | ⟨b, t, r, rfl, hb, h⟩
  · exact .inl h
  · exact .inr ⟨b, t, r, rfl, by rw [hu.old b (Array.getElem?_eq_some_iff.1 hb).1 (hn _ ⟨_, rfl, rfl⟩)]; exact hb, h⟩

theorem Own.ext {u u' : World} {es : Nat} {p : Option Addr} {n c : Nat} {cs : List Value} (h : Own u es p n c cs) (hu : Ext u u') : Own u' es p n c cs := h.upd hu fun _ _ h => h

/-- A block just made. -/
theorem Own.fresh (u : World) {es n : Nat} {cs : List Value} {t : TypeId} (hl : cs.length = n * es) : Own (allocW u (.cells cs.toArray t)) es (some ⟨u.heap.size, 0, none⟩) n n cs :=
  .inr ⟨u.heap.size, t, [], rfl, by rw [heap_alloc, if_pos rfl]; simp, hl, Nat.le_refl _, by simp⟩

theorem wr_heap {u : World} {b : Nat} {t : TypeId} {cs : List Value} (h : u.heap[b]? = some (.cells cs.toArray t (0, 0))) {o n : Nat} (hn : o + n ≤ cs.length) : Wr u b o n := fun j hj => by
  refine ⟨⟨cs[o + j]'(by omega), ?_⟩, ?_⟩
  · simp only [World.cell?, h]
    simp only [Option.isSome_none, Bool.false_eq_true, if_false, List.getElem?_toArray]
    exact List.getElem?_eq_getElem (by omega)
  · simp only [World.frozen?, h]
    simp

theorem Own.wrs {u : World} {es : Nat} {p : Option Addr} {n c : Nat} {cs : List Value} (h : Own u es p n c cs) {o m : Nat} (hm : o + m ≤ c * es) : WrS u p o m := by
  rcases h with ⟨rfl, _⟩ | ⟨b, t, r, rfl, hb, hl, hc, hr⟩
  · trivial
  · refine ⟨fun _ => rfl, ?_⟩
    rw [Nat.zero_add]
    refine wr_heap hb ?_
    rw [List.length_append, hl, hr, ← Nat.add_mul, show n + (c - n) = c by omega]
    exact hm

theorem setCell_heap {u : World} {b : Nat} {t : TypeId} {cs : List Value} (h : u.heap[b]? = some (.cells cs.toArray t (0, 0))) (o : Nat) (v : Value) : (u.setCell ⟨b, o, none⟩ v).heap[b]? = some (.cells (cs.set o v).toArray t (0, 0)) := by
  rw [heap_set, if_pos rfl, h]
  simp

theorem putCells_heap {b : Nat} {t : TypeId} : ∀ (ys pre mid post : List Value) (u : World), u.heap[b]? = some (.cells (pre ++ mid ++ post).toArray t (0, 0)) → mid.length = ys.length → (putCells u b pre.length ys).heap[b]? = some (.cells (pre ++ ys ++ post).toArray t (0, 0))
  | [], pre, mid, post, u, h, hl => by
    have : mid = [] := List.length_eq_zero_iff.1 (by simpa using hl)
    subst this
    exact h
  | y :: ys, pre, [], post, u, h, hl => by simp at hl
  | y :: ys, pre, x :: mid, post, u, h, hl => by
    have h1 := setCell_heap (v := y) (o := pre.length) h
    have h2 : (pre ++ x :: mid ++ post).set pre.length y = pre ++ [y] ++ mid ++ post := by simp
    rw [h2] at h1
    have := putCells_heap ys (pre ++ [y]) mid post _ h1 (by simpa using hl)
    simpa [putCells] using this

/-- What it holds, of others from a place on. -/
theorem Own.put {u : World} {es b : Nat} {n c : Nat} {pre mid post : List Value} (h : Own u es (some ⟨b, 0, none⟩) n c (pre ++ mid ++ post)) {ys : List Value} (hl : mid.length = ys.length) {o : Nat} (ho : o = pre.length) : Own (putCells u b o ys) es (some ⟨b, 0, none⟩) n c (pre ++ ys ++ post) := by
  subst ho
  rcases h with ⟨h, _⟩ | ⟨b', t, r, hp, hb, hlen, hc, hr⟩
  · cases h
  · cases hp
    refine .inr ⟨b, t, r, rfl, ?_, ?_, hc, hr⟩
    · have := putCells_heap (t := t) ys pre mid (post ++ r) u (by rw [hb]; simp) hl
      rw [this]
      simp
    · simp only [List.length_append] at hlen ⊢
      omega

theorem repl_len (n : Nat) (z : List Value) : (repl n z).length = n * z.length := by
  induction n with
  | zero => simp [repl]
  | succ n ih =>
    rw [repl, List.replicate_succ, List.flatten_cons, List.length_append, Nat.add_mul, Nat.one_mul, Nat.add_comm]
    congr 1

/-- Growing, in place or elsewhere. -/
theorem Own.app {u u' : World} {e : TypeId} {es : Nat} {z : List Value} {p p' : Option Addr} {n c m c' : Nat} {cs old new : List Value} (h : Own u es p n c cs) (hr : AppR u e es z p n c m old new p' c' u') (ho : old.length = n * es) (hold : Gets u p old) (hn : new.length = m * es) (hz : z.length = es) :
    Own u' es p' (n + m) c' (cs ++ new) ∧ Upd (At p) u u' ∧ ((p' = p ∧ n + m ≤ c) ∨ (p' = some ⟨u.heap.size, 0, none⟩ ∧ Ext u u')) := by
  have e : old = cs := gets_unique hold h.gets (by rw [ho, h.len])
  subst e
  rcases hr with ⟨hc, rfl, rfl, rfl⟩ | ⟨hc, hc', rfl, rfl⟩
  · rcases h with ⟨rfl, rfl, rfl, rfl⟩ | ⟨b, t, r, rfl, hb, hl, hc2, hr⟩
    · have : m = 0 := by omega
      subst this
      have : new = [] := List.length_eq_zero_iff.1 (by simpa using hn)
      subst this
      exact ⟨.inl ⟨rfl, rfl, rfl, rfl⟩, Upd.refl _, .inl ⟨rfl, hc⟩⟩
    · refine ⟨.inr ⟨b, t, r.drop (m * es), rfl, ?_, ?_, hc, ?_⟩, ?_, .inl ⟨rfl, hc⟩⟩
      · have hmr : m * es ≤ r.length := by rw [hr]; exact Nat.mul_le_mul_right _ (by omega)
        have := putCells_heap (b := b) (t := t) new old (r.take (m * es)) (r.drop (m * es)) u (by rw [hb]; simp) (by rw [List.length_take, hn]; omega)
        simp only [putSl, Nat.zero_add]
        rw [← hl, this]
      · rw [List.length_append, hl, hn, Nat.add_mul]
      · rw [List.length_drop, hr, ← Nat.sub_mul]
        congr 1
        omega
      · exact (Upd.refl u).put (fun _ => ⟨_, rfl, rfl⟩) _ _
  · refine ⟨.inr ⟨u.heap.size, e, repl (c' - (n + m)) z, rfl, ?_, ?_, hc', ?_⟩, ((Upd.refl u).drew).alloc _, .inr ⟨rfl, ((Upd.refl u).drew).alloc _⟩⟩
    · rw [heap_alloc, if_pos (size_drew u).symm]
    · rw [List.length_append, h.len, hn, Nat.add_mul]
    · rw [repl_len, hz]

/-- A slice that grows out of nothing. -/
theorem AppR.none {u u' : World} {e : TypeId} {es : Nat} {z : List Value} {p' : Option Addr} {m c' : Nat} {old new : List Value} (hr : AppR u e es z none 0 0 m old new p' c' u') (ho : old = []) (hn : new.length = m * es) (hz : z.length = es) :
    Own u' es p' (0 + m) c' new ∧ Ext u u' ∧ (m = 0 ∧ p' = .none ∨ p' = some ⟨u.heap.size, 0, .none⟩) := by
  have := (Own.nil u es).app hr (by simp [ho]) (by rw [ho]; rfl) hn hz
  simp only [List.nil_append] at this
  refine ⟨this.1, this.2.1.mono fun k _ h => ?_, ?_⟩
  · obtain ⟨_, h, _⟩ := h
    cases h
  · rcases this.2.2 with ⟨h, hm⟩ | ⟨h, _⟩
    · exact .inl ⟨by omega, h⟩
    · exact .inr h

end Go.Proofs.Ytkmmphkjmamckaa
