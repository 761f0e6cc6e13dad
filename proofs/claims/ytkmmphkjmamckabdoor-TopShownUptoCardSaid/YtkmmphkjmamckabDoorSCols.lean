/-
  Columns copied one by one: all of it is new, and may be written.
-/
import Derived.Test.YtkmmphkjmamckabDoorZM
import Derived.Test.YtkmmphkjmamckabDoorZB
namespace Go.Proofs.YtkmmphkjmamckabDoor
open Go
set_option linter.all false

/-- A block that may be written. -/
def Wrb (u : World) (k : Nat) : Prop := ∃ cs t, u.heap[k]? = some (.cells cs t (0, 0))

theorem Wrb.upd {S : Nat → Prop} {u u' : World} {k : Nat} (h : Wrb u k) (hu : Upd S u u') (hn : ¬ S k) : Wrb u' k := by
  obtain ⟨cs, t, h⟩ := h
  exact ⟨cs, t, by rw [hu.old k (Array.getElem?_eq_some_iff.1 h).1 hn]; exact h⟩

/-- A list of columns of one's own. -/
structure ColsX (u0 u : World) (p : Option Addr) (n c : Nat) (xs : List (List Value)) (ls : Cols) : Prop where
  own : Own u 1 p n c xs.flatten
  rows : ColsV u (fun k => k < u.heap.size ∧ ¬ At p k ∧ u0.heap.size ≤ k ∧ Wrb u k) xs ls
  len : ls.length = n
  new : ∀ k, At p k → u0.heap.size ≤ k

theorem ColsX.ext {u0 u u' : World} {p : Option Addr} {n c : Nat} {xs : List (List Value)} {ls : Cols} (h : ColsX u0 u p n c xs ls) (hu : Ext u u') : ColsX u0 u' p n c xs ls :=
  ⟨h.own.ext hu, h.rows.upd hu fun k hk => ⟨fun h => h, by have := hu.size; exact ⟨by omega, hk.2.1, hk.2.2.1, hk.2.2.2.upd hu fun h => h⟩⟩, h.len, h.new⟩

theorem ColsX.nil (u0 u : World) : ColsX u0 u none 0 0 [] [] := ⟨Own.nil _ _, trivial, rfl, fun k hk => (at_none hk).elim⟩

theorem ColsX.tl {u0 u : World} {p : Option Addr} {n c : Nat} {xs : List (List Value)} {ls : Cols} (h : ColsX u0 u p n c xs ls) : Tl u p ls :=
  ⟨xs, ⟨h.own.gets, by rw [h.rows.len], h.rows.each⟩, h.rows.upd (Upd.refl _ : Ext u u) fun _ _ => ⟨fun h => h, trivial⟩⟩

/-- One column more. -/
theorem ColsX.push {u0 v : World} {p : Option Addr} {n c : Nat} {xs : List (List Value)} {ls : Cols} (h : ColsX u0 v p n c xs ls) (h0 : u0.heap.size ≤ v.heap.size) (hn : n ≤ 10000000) {q : Option Addr} {cq : Nat} {l : List Int} (hq : Nums v q l.length l) (hk : ∀ k, At q k → k < v.heap.size ∧ ¬ At p k ∧ u0.heap.size ≤ k ∧ Wrb v k) (t e : TypeId) {K : Option Addr → Nat → World → Prop}
    (hK : ∀ p' c' w, (∃ ys, ColsX u0 w p' (n + 1) c' ys (ls ++ [l])) → Upd (At p) v w → K p' c' w) :
    ∃ old new : List Value, old.length = n * 1 ∧ Gets (allocW v (.cells #[.slice q l.length cq] t)) p old ∧ new.length = 1 * 1 ∧ Gets (allocW v (.cells #[.slice q l.length cq] t)) (some (Addr.mk v.heap.size 0 none)) new ∧
      0 < 24 ∧ (2 * (n + 1) + 192) * 24 ≤ 140737488355328 ∧ okCells new True ∧ (n + 1 ≤ c → WrS (allocW v (.cells #[.slice q l.length cq] t)) p (n * 1) (1 * 1)) ∧
      ∀ p' cap u2, AppR (allocW v (.cells #[.slice q l.length cq] t)) e 1 [.slice none 0 0] p n c 1 old new p' cap u2 → K p' cap u2 := by
  have hv : Ext v (allocW v (.cells #[.slice q l.length cq] t)) := (Upd.refl v).alloc _
  have hh := h.ext hv
  have ef : Own (allocW v (.cells #[.slice q l.length cq] t)) 1 _ 1 1 [.slice q l.length cq] := Own.fresh v (cs := [.slice q l.length cq]) rfl
  refine ⟨xs.flatten, [.slice q l.length cq], hh.own.len, hh.own.gets, rfl, ef.gets, by decide, by omega, by simp [okCells], fun hc => hh.own.wrs (by omega), fun p' cap u2 hr => ?_⟩
  obtain ⟨a1, a2, a3⟩ := hh.own.app hr hh.own.len hh.own.gets rfl rfl
  have hvs := hv.size
  have has := a2.size
  have hvs2 : (allocW v (.cells #[.slice q l.length cq] t)).heap.size = v.heap.size + 1 := size_alloc _ _
  have hp' : ∀ k, At p' k → At p k ∨ v.heap.size < k := fun k hk1 => by
    rcases a3 with ⟨rfl, _⟩ | ⟨rfl, _⟩
    · exact .inl hk1
    · rw [at_some hk1]; right; show v.heap.size < (allocW v _).heap.size; omega
  have hup : Upd (At p) v u2 := (hv.any (S := At p)).trans a2 fun _ _ h => h
  have hok : ∀ k, k < v.heap.size ∧ ¬ At p k ∧ u0.heap.size ≤ k ∧ Wrb v k → k < u2.heap.size ∧ ¬ At p' k ∧ u0.heap.size ≤ k ∧ Wrb u2 k := fun k hk => ⟨by omega, fun h => (hp' k h).elim hk.2.1 (by omega), hk.2.2.1, hk.2.2.2.upd hup hk.2.1⟩
  refine hK p' cap u2 ⟨xs ++ [[.slice q l.length cq]], ?_, ?_, by simp [h.len], fun k hk1 => ?_⟩ hup
  · rw [List.flatten_append]
    simpa using a1
  · exact ColsV.snoc ((hq.upd hup fun k hk1 => (hk k hk1).2.1)) (fun k hk1 => hok k (hk k hk1)) (h.rows.upd hup fun k hk1 => ⟨hk1.2.1, hok k hk1⟩)
  · rcases hp' k hk1 with h1 | h1
    · exact h.new k h1
    · omega

/-- Columns that are new, in blocks that may be written: those of n0 to n1. -/
structure TlN (n0 n1 : Nat) (u : World) (p : Option Addr) (c : Nat) (t : Cols) : Prop where
  ex : ∃ xs, Own u 1 p t.length c xs.flatten ∧ ColsV u (fun k => n0 ≤ k ∧ k < n1 ∧ ¬ At p k ∧ Wrb u k) xs t
  at_ : ∀ k, At p k → n0 ≤ k ∧ k < n1

theorem ColsX.tln {u0 u : World} {p : Option Addr} {n c : Nat} {xs : List (List Value)} {ls : Cols} (h : ColsX u0 u p n c xs ls) {n0 : Nat} (h0 : n0 ≤ u0.heap.size) : TlN n0 u.heap.size u p c ls := by
  obtain ⟨h1, h2, rfl, h4⟩ := h
  exact ⟨⟨xs, h1, h2.upd (Upd.refl _ : Ext u u) fun k hk => ⟨fun h => h, by have := hk.2.2.1; omega, hk.1, hk.2.1, hk.2.2.2⟩⟩, fun k hk => ⟨by have := h4 k hk; omega, (h1.at hk).1⟩⟩

theorem TlN.upd {S : Nat → Prop} {n0 n1 : Nat} {u u' : World} {p : Option Addr} {c : Nat} {t : Cols} (h : TlN n0 n1 u p c t) (hu : Upd S u u') (hS : ∀ k, S k → k < n0) : TlN n0 n1 u' p c t := by
  obtain ⟨⟨xs, h1, h2⟩, h3⟩ := h
  exact ⟨⟨xs, h1.upd hu fun k hk hs => by have := (h3 k hk).1; have := hS k hs; omega, h2.upd hu fun k hk => ⟨fun hs => by have := hk.1; have := hS k hs; omega, hk.1, hk.2.1, hk.2.2.1, hk.2.2.2.upd hu fun hs => by have := hk.1; have := hS k hs; omega⟩⟩, h3⟩

theorem TlN.ext {n0 n1 : Nat} {u u' : World} {p : Option Addr} {c : Nat} {t : Cols} (h : TlN n0 n1 u p c t) (hu : Ext u u') : TlN n0 n1 u' p c t := h.upd hu fun _ h => h.elim

theorem TlN.tl {n0 n1 : Nat} {u : World} {p : Option Addr} {c : Nat} {t : Cols} (h : TlN n0 n1 u p c t) : Tl u p t := by
  obtain ⟨⟨xs, h1, h2⟩, h3⟩ := h
  exact ⟨xs, ⟨h1.gets, by rw [h2.len], h2.each⟩, h2.upd (Upd.refl _ : Ext u u) fun _ _ => ⟨fun h => h, trivial⟩⟩

end Go.Proofs.YtkmmphkjmamckabDoor
