/-
  Memory under holes: what a world with holes says of the one that runs, and how both go on together.
-/
import Derived.Test.YtkmmphkjmamckaaVcDefs
import Derived.Laws.Cells
import Derived.Laws.Strings
import Derived.WalkKit
namespace Go.Proofs.Ytkmmphkjmamckaa
open Go
set_option linter.all false

theorem hole_ne {c : Array Value} {t : TypeId} {f : Nat × Nat} : Obj.cells c t f ≠ hole := by simp [hole]

theorem Le.refl (u : World) : Le u u := ⟨rfl, rfl, rfl, rfl, rfl, fun _ _ h => .inr h⟩

theorem Le.cells {u w : World} (h : Le u w) {k : Nat} {c : Array Value} {t : TypeId} {f : Nat × Nat} (hk : u.heap[k]? = some (.cells c t f)) : w.heap[k]? = some (.cells c t f) :=
  (h.block k _ hk).resolve_left hole_ne

theorem cell_block {u : World} {a : Addr} {x : Value} (h : u.cell? a = some x) : ∃ c t f, u.heap[a.block]? = some (.cells c t f) ∧ c[a.off]? = some x ∧ a.spot = none := by
  unfold World.cell? at h
  split at h
  · rename_i c t f hb
    refine ⟨c, t, f, hb, ?_⟩
    cases hs : a.spot with
    | none => simpa [hs] using h
    | some s => simp [hs] at h
  · cases h

theorem Le.cell {u w : World} (h : Le u w) {a : Addr} {x : Value} (hx : u.cell? a = some x) : w.cell? a = some x := by
  obtain ⟨c, t, f, hb, _, _⟩ := cell_block hx
  rw [← hx]
  exact World.cell?_of_block (by rw [h.cells hb, hb])

theorem Le.frozen {u w : World} (h : Le u w) {a : Addr} {x : Value} (hx : u.cell? a = some x) : w.frozen? a = u.frozen? a := by
  obtain ⟨c, t, f, hb, _, _⟩ := cell_block hx
  exact World.frozen?_of_block (by rw [h.cells hb, hb])

theorem addr_add (b o n : Nat) : Addr.add ⟨b, o, none⟩ n = ⟨b, o + n, none⟩ := Addr.add_lit b o n

theorem Rd_iff {u : World} {b : Nat} : ∀ (cs : List Value) (o : Nat), Rd u b o cs ↔ ∀ (j : Nat) v, cs[j]? = some v → u.cell? ⟨b, o + j, none⟩ = some v
  | [], o => by simp [Rd]
  | c :: cs, o => by
    simp only [Rd, Rd_iff cs (o + 1)]
    constructor
    · rintro ⟨h0, h⟩ j v hj
      cases j with
      | zero => simp only [List.getElem?_cons_zero, Option.some.injEq] at hj; rw [← hj]; exact h0
      | succ j => simp only [List.getElem?_cons_succ] at hj; have := h j v hj; rwa [show o + 1 + j = o + (j + 1) by omega] at this
    · intro h
      refine ⟨h 0 c rfl, fun j v hj => ?_⟩
      have := h (j + 1) v (by simpa using hj)
      rwa [show o + (j + 1) = o + 1 + j by omega] at this

theorem Le.rd {u w : World} (h : Le u w) {b o : Nat} {cs : List Value} (hr : Rd u b o cs) : Rd w b o cs :=
  (Rd_iff cs o).2 fun j v hj => h.cell ((Rd_iff cs o).1 hr j v hj)

theorem Le.wr {u w : World} (h : Le u w) {b o n : Nat} (hr : Wr u b o n) : Wr w b o n := fun j hj => by
  obtain ⟨⟨c, hc⟩, hf⟩ := hr j hj
  exact ⟨⟨c, h.cell hc⟩, by rw [h.frozen hc]; exact hf⟩

theorem Le.gets {u w : World} (h : Le u w) {p : Option Addr} {cs : List Value} (hr : Gets u p cs) : Gets w p cs := by
  cases p with
  | none => exact hr
  | some a => exact ⟨hr.1, h.rd hr.2⟩

theorem Le.wrs {u w : World} (h : Le u w) {p : Option Addr} {off n : Nat} (hr : WrS u p off n) : WrS w p off n := by
  cases p with
  | none => exact hr
  | some a => exact ⟨hr.1, h.wr hr.2⟩

theorem Le.drew {u w : World} (h : Le u w) : Le (drewW u) (drewW w) := ⟨h.size, h.tape, by show w.drawn + 1 = u.drawn + 1; rw [h.drawn], h.os, h.output, h.block⟩

theorem heap_alloc (w : World) (o : Obj) (k : Nat) : (allocW w o).heap[k]? = if k = w.heap.size then some o else w.heap[k]? := by
  show (w.heap.push o)[k]? = _
  rw [Array.getElem?_push]

theorem Le.alloc {u w : World} (h : Le u w) (o : Obj) : Le (allocW u o) (allocW w o) := by
  refine ⟨?_, h.tape, h.drawn, h.os, h.output, fun k x hx => ?_⟩
  · show (w.heap.push o).size = (u.heap.push o).size
    simp [h.size]
  · rw [heap_alloc] at *
    rw [h.size]
    split at hx
    · rename_i hk
      simp only [Option.some.injEq] at hx
      subst hx
      rw [if_pos hk]
      exact .inr rfl
    · rename_i hk
      rw [if_neg hk]
      exact h.block k x hx

theorem Le.hole {u w : World} (h : Le u w) (o : Obj) : Le (allocW u hole) (allocW w o) := by
  refine ⟨?_, h.tape, h.drawn, h.os, h.output, fun k x hx => ?_⟩
  · show (w.heap.push o).size = (u.heap.push Go.Proofs.Ytkmmphkjmamckaa.hole).size
    simp [h.size]
  · rw [heap_alloc] at *
    rw [h.size]
    split at hx
    · simp only [Option.some.injEq] at hx
      exact .inl hx.symm
    · rename_i hk
      rw [if_neg hk]
      exact h.block k x hx

theorem heap_set (w : World) (a : Addr) (v : Value) (k : Nat) : (w.setCell a v).heap[k]? = if a.block = k then (w.heap[k]?).map (fun | .cells c e f => .cells (if a.spot.isSome then c else c.setIfInBounds a.off v) e f | o => o) else w.heap[k]? := by
  simp only [World.setCell, Array.getElem?_modify]
  split
  · rfl
  · rfl

theorem Le.set {u w : World} (h : Le u w) {a : Addr} {x : Value} (hx : u.cell? a = some x) (v : Value) : Le (u.setCell a v) (w.setCell a v) := by
  obtain ⟨c, t, f, hb, _, _⟩ := cell_block hx
  refine ⟨by simp [h.size], h.tape, h.drawn, h.os, h.output, fun k y hy => ?_⟩
  rw [heap_set] at *
  split at hy
  · rename_i hk
    subst hk
    rw [if_pos rfl, h.cells hb]
    rw [hb] at hy
    exact .inr hy
  · rename_i hk
    rw [if_neg hk]
    exact h.block k y hy

theorem cell_set_other (w : World) {a b : Addr} (v : Value) (h : a ≠ b) : (w.setCell a v).cell? b = w.cell? b := World.cell?_setCell_other w a b v h

theorem Wr.tail {u : World} {b o n : Nat} (h : Wr u b o (n + 1)) (v : Value) : Wr (u.setCell ⟨b, o, none⟩ v) b (o + 1) n := fun j hj => by
  obtain ⟨⟨c, hc⟩, hf⟩ := h (j + 1) (by omega)
  rw [show o + (j + 1) = o + 1 + j by omega] at hc hf
  refine ⟨⟨c, ?_⟩, by rw [World.frozen?_setCell]; exact hf⟩
  rw [cell_set_other]
  · exact hc
  · intro e
    have := congrArg Addr.off e
    simp at this
    omega

theorem Le.put {b : Nat} : ∀ (cs : List Value) (o : Nat) {u w : World}, Le u w → Wr u b o cs.length → Le (putCells u b o cs) (putCells w b o cs)
  | [], _, _, _, h, _ => h
  | c :: cs, o, u, w, h, hw => by
    obtain ⟨⟨x, hx⟩, _⟩ := hw 0 (by simp)
    exact Le.put cs (o + 1) (h.set (by simpa using hx) c) (hw.tail c)

theorem put_size {b : Nat} : ∀ (cs : List Value) (o : Nat) (u : World), (putCells u b o cs).heap.size = u.heap.size
  | [], _, _ => rfl
  | c :: cs, o, u => by rw [putCells, put_size cs (o + 1)]; simp

theorem put_heap_other {b : Nat} : ∀ (cs : List Value) (o : Nat) (u : World) (k : Nat), k ≠ b → (putCells u b o cs).heap[k]? = u.heap[k]?
  | [], _, _, _, _ => rfl
  | c :: cs, o, u, k, h => by
    rw [putCells, put_heap_other cs (o + 1) _ k h, heap_set, if_neg (by exact fun e => h e.symm)]

theorem put_hole {b : Nat} (cs : List Value) (o : Nat) (u : World) (hw : Wr u b o cs.length) (k : Nat) (hk : u.heap[k]? = some hole) : (putCells u b o cs).heap[k]? = some hole := by
  cases cs with
  | nil => exact hk
  | cons c cs =>
    obtain ⟨⟨x, hx⟩, _⟩ := hw 0 (by simp)
    obtain ⟨c', t, f, hb, _, _⟩ := cell_block hx
    rw [put_heap_other _ _ _ _ (fun e => by subst e; rw [hk] at hb; simp [hole] at hb)]
    exact hk

def plain (v : Value) : Bool := v.oneCell'

theorem okCells_iff : ∀ (cs : List Value) (r : Prop), okCells cs r ↔ (∀ c ∈ cs, plain c = true) ∧ r
  | [], r => by simp [okCells]
  | c :: cs, r => by
    have ih := okCells_iff cs r
    cases c <;> simp [okCells, ih, plain, Value.oneCell']

theorem run_storeCells {P : Program} {b o : Nat} : ∀ (cs : List Value) (i : Nat) {w : World}, Wr w b (o + i) cs.length → (∀ c ∈ cs, plain c = true) → (storeCells ⟨b, o, none⟩ cs i).run P w = .ok () (putCells w b (o + i) cs)
  | [], _, _, _, _ => rfl
  | c :: cs, i, w, hw, hp => by
    obtain ⟨⟨x, hx⟩, hf⟩ := hw 0 (by simp)
    simp only [Nat.add_zero] at hx hf
    have h1 := run_store P w ⟨b, o + i, none⟩ c .plain (hp c (by simp))
    rw [hx, hf] at h1
    simp only [storeCells, addr_add, Sem.run_bind, h1, Bool.false_eq_true, if_false, Result.andThen_ok]
    have := run_storeCells (P := P) cs (i + 1) (w := w.setCell ⟨b, o + i, none⟩ c) (by rw [show o + (i + 1) = o + i + 1 by omega]; exact hw.tail c) (fun y hy => hp y (by simp [hy]))
    rw [this, putCells, show o + (i + 1) = o + i + 1 by omega]

theorem run_loadCells_rd {P : Program} {w : World} {b o : Nat} {cs : List Value} (h : Rd w b o cs) : (loadCells ⟨b, o, none⟩ cs.length).run P w = .ok cs.toArray w :=
  run_loadCells_list (P := P) w ⟨b, o, none⟩ cs fun j v hj => by rw [addr_add]; exact (Rd_iff cs o).1 h j v hj

/-! ### A block of the call's own -/

theorem run_loadCells_gets {P : Program} {w : World} {ad : Addr} {cs : List Value} (h : Gets w (some ad) cs) : (loadCells ad cs.length).run P w = .ok cs.toArray w := by
  cases cs with
  | nil => rfl
  | cons c cs =>
    obtain ⟨b, o, s⟩ := ad
    have hs : s = none := h.1 (by simp)
    subst hs
    exact run_loadCells_rd h.2

theorem run_storeCells_wrs {P : Program} {ad : Addr} {off : Nat} {cs : List Value} {w : World} (h : WrS w (some ad) off cs.length) (hp : ∀ c ∈ cs, plain c = true) : (storeCells (ad.add off) cs).run P w = .ok () (putCells w ad.block (ad.off + off) cs) := by
  cases cs with
  | nil => rfl
  | cons c cs =>
    obtain ⟨b, o, s⟩ := ad
    have hs : s = none := h.1 (by simp)
    subst hs
    have := run_storeCells (P := P) (b := b) (o := o + off) (c :: cs) 0 (w := w) (by simpa using h.2) hp
    simpa [addr_add] using this

theorem takeN_spec {α : Type} : ∀ (l : List α) (k n : Nat) (r : List α), takeN l k n = some r → r.length = n ∧ ∀ (j : Nat) v, r[j]? = some v → l[k + j]? = some v
  | _, _, 0, r, h => by
    have : r = [] := by cases ‹List α› <;> simp_all [takeN]
    subst this
    simp
  | [], _, n + 1, r, h => by simp [takeN] at h
  | x :: l, 0, n + 1, r, h => by
    rw [takeN] at h
    split at h
    · rename_i r' hr'
      simp only [Option.some.injEq] at h
      subst h
      obtain ⟨h1, h2⟩ := takeN_spec l 0 n r' hr'
      refine ⟨by simp [h1], fun j v hj => ?_⟩
      cases j with
      | zero => simpa using hj
      | succ j => simp only [List.getElem?_cons_succ] at hj; have := h2 j v hj; simpa using this
    · cases h
  | x :: l, k + 1, n + 1, r, h => by
    rw [takeN] at h
    obtain ⟨h1, h2⟩ := takeN_spec l k (n + 1) r h
    refine ⟨h1, fun j v hj => ?_⟩
    have := h2 j v hj
    rw [show k + 1 + j = (k + j) + 1 by omega, List.getElem?_cons_succ]
    exact this

theorem putN_spec {α : Type} : ∀ (l : List α) (k : Nat) (ys r : List α), putN l k ys = some r →
    r.length = l.length ∧ k * (if ys = [] then 0 else 1) + ys.length ≤ l.length ∧ ∀ j, r[j]? = if k ≤ j ∧ j < k + ys.length then ys[j - k]? else l[j]?
  | l, k, [], r, h => by
    have : r = l := by cases l <;> simp_all [putN]
    subst this
    refine ⟨rfl, by simp, fun j => ?_⟩
    rw [if_neg (by simp)]
  | [], k, y :: ys, r, h => by simp [putN] at h
  | x :: l, 0, y :: ys, r, h => by
    simp only [putN] at h
    split at h
    · rename_i r' hr'
      simp only [Option.some.injEq] at h
      subst h
      obtain ⟨h1, h2, h3⟩ := putN_spec l 0 ys r' hr'
      refine ⟨by simp [h1], by simp at h2 ⊢; omega, fun j => ?_⟩
      cases j with
      | zero => simp
      | succ j =>
        rw [List.getElem?_cons_succ, h3 j]
        simp only [Nat.zero_le, true_and, Nat.zero_add, Nat.sub_zero, List.length_cons, List.getElem?_cons_succ]
        by_cases hj : j < ys.length
        · rw [if_pos hj, if_pos (by omega)]
        · rw [if_neg hj, if_neg (by omega)]
    · cases h
  | x :: l, k + 1, y :: ys, r, h => by
    simp only [putN] at h
    split at h
    · rename_i r' hr'
      simp only [Option.some.injEq] at h
      subst h
      obtain ⟨h1, h2, h3⟩ := putN_spec l k (y :: ys) r' hr'
      refine ⟨by simp [h1], by simp at h2 ⊢; omega, fun j => ?_⟩
      cases j with
      | zero => rw [if_neg (by omega)]; simp
      | succ j =>
        rw [List.getElem?_cons_succ, h3 j]
        simp only [List.length_cons, List.getElem?_cons_succ]
        by_cases hj : k ≤ j ∧ j < k + (ys.length + 1)
        · rw [if_pos hj, if_pos (by omega), show j + 1 - (k + 1) = j - k by omega]
        · rw [if_neg hj, if_neg (by omega)]
    · cases h

theorem putN_cons {α : Type} : ∀ (l : List α) (k : Nat) (y : α) (ys r : List α), putN l k (y :: ys) = some r → k < l.length ∧ putN (l.set k y) (k + 1) ys = some r
  | [], k, y, ys, r, h => by simp [putN] at h
  | x :: l, 0, y, ys, r, h => by
    simp only [putN] at h
    split at h
    · rename_i r' hr'
      simp only [Option.some.injEq] at h
      subst h
      refine ⟨by simp, ?_⟩
      cases ys with
      | nil =>
        have : r' = l := by cases l <;> simp_all [putN]
        subst this
        cases r' <;> simp [putN]
      | cons z zs => simp only [List.set_cons_zero]; simp [putN, hr']
    · cases h
  | x :: l, k + 1, y, ys, r, h => by
    simp only [putN] at h
    split at h
    · rename_i r' hr'
      simp only [Option.some.injEq] at h
      subst h
      obtain ⟨h1, h2⟩ := putN_cons l k y ys r' hr'
      refine ⟨by simp; omega, ?_⟩
      cases ys with
      | nil =>
        have : r' = l.set k y := by revert h2; cases l.set k y <;> simp [putN] <;> exact fun h => h.symm
        subst this
        simp [putN]
      | cons z zs => simp [List.set_cons_succ, putN, h2]
    · cases h

theorem rd_block {w : World} {b : Nat} {c : List Value} {t : TypeId} {f : Nat × Nat} (hb : w.heap[b]? = some (.cells c.toArray t f)) {o n : Nat} {cs : List Value} (h : takeN c o n = some cs) : Rd w b o cs := by
  rw [Rd_iff]
  intro j v hj
  have := (takeN_spec c o n cs h).2 j v hj
  simp [World.cell?, hb, this]

theorem put_block {b : Nat} {t : TypeId} : ∀ (cs : List Value) (o : Nat) (c r : List Value) (w : World), w.heap[b]? = some (.cells c.toArray t (0, 0)) → putN c o cs = some r → (putCells w b o cs).heap[b]? = some (.cells r.toArray t (0, 0))
  | [], o, c, r, w, hb, h => by
    have : r = c := by cases c <;> simp_all [putN]
    subst this
    exact hb
  | y :: ys, o, c, r, w, hb, h => by
    obtain ⟨hk, h'⟩ := putN_cons c o y ys r h
    refine put_block ys (o + 1) (c.set o y) r _ ?_ h'
    rw [heap_set, if_pos rfl, hb]
    simp

theorem wr_block {w : World} {b : Nat} {c : List Value} {t : TypeId} (hb : w.heap[b]? = some (.cells c.toArray t (0, 0))) {o : Nat} {cs r : List Value} (h : putN c o cs = some r) : Wr w b o cs.length := by
  obtain ⟨_, h2, h3⟩ := putN_spec c o cs r h
  intro j hj
  have hne : cs ≠ [] := by intro e; subst e; simp at hj
  simp only [hne, if_false, Nat.mul_one] at h2
  refine ⟨⟨c[o + j]'(by omega), ?_⟩, ?_⟩
  · simp only [World.cell?, hb]
    simp only [Option.isSome_none, Bool.false_eq_true, if_false]
    rw [List.getElem?_toArray, List.getElem?_eq_getElem]
  · simp [World.frozen?, hb]

end Go.Proofs.Ytkmmphkjmamckaa
