/-
  What a list of acts reads.
-/
import Derived.Test.YtkmmphkjmamckabDoorARep
import Derived.Test.YtkmmphkjmamckabDoorZP
import Derived.Test.YtkmmphkjmamckabDoorDNum
namespace Go.Proofs.YtkmmphkjmamckabDoor
open Go
set_option linter.all false

/-- An act's cells. -/
abbrev acV (a : Ac) : List Value := [.int .i64 a.kind, .int .i64 a.p, .int .i64 a.n, .int .i64 a.m, .string (bstr a.bytes)]

structure ActL (u : World) (p : Option Addr) (l : List Ac) : Prop where
  arr : Arr u 5 p l.length (l.map acV)

theorem ActL.ext {u u' : World} {p : Option Addr} {l : List Ac} (h : ActL u p l) (hu : Ext u u') : ActL u' p l := ⟨h.arr.ext hu⟩

theorem ActL.at {u : World} {p : Option Addr} {l : List Ac} (h : ActL u p l) {i : Nat} (hi : i < l.length) (d : Ac) : ∃ b o, p = some ⟨b, o, none⟩ ∧ Rd u b (o + i * 5) (acV (l.getD i d)) := by
  obtain ⟨b, o, hp, hr⟩ := h.arr.at hi (by decide)
  refine ⟨b, o, hp, ?_⟩
  have : (l.map acV).getD i [] = acV (l.getD i d) := by simp [List.getD_eq_getElem?_getD, hi]
  rwa [this] at hr

theorem rep_acts {u : World} {B n : Nat} {cs : List Value} (h : Rep tab u B (n + 4) ty_sl_api_Act cs) : ∃ l p c, cs = [.slice p l.length c] ∧ ActL u p l ∧ l.length ≤ B ∧ ∀ a ∈ l, a.bytes.length ≤ B ∧ inK .i64 a.kind ∧ inK .i64 a.p ∧ inK .i64 a.n ∧ inK .i64 a.m := by
  obtain ⟨p, m, c, ls, rfl, hA, hm, hmc, hels⟩ := h (by decide)
  have hl := hA.len
  have key : ∀ (xs : List (List Value)), (∀ y ∈ xs, Rep tab u B (n + 3) ty_api_Act y) → ∃ l : List Ac, l.map acV = xs ∧ ∀ a ∈ l, a.bytes.length ≤ B ∧ inK .i64 a.kind ∧ inK .i64 a.p ∧ inK .i64 a.n ∧ inK .i64 a.m := fun xs => by
    induction xs with
    | nil => exact fun _ => ⟨[], rfl, by simp⟩
    | cons y xs ih =>
      intro hy
      obtain ⟨l, h1, h2⟩ := ih fun z hz => hy z (List.mem_cons_of_mem _ hz)
      obtain ⟨k, q, m', i, b, rfl, hb, k1, k2, k3, k4⟩ := rep_act (hy y List.mem_cons_self)
      refine ⟨⟨k, q, m', i, b.data.toList⟩ :: l, ?_, fun a ha => ?_⟩
      · rw [List.map_cons, h1]
        have : b = bstr b.data.toList := bstr_of rfl
        show [Value.int .i64 k, .int .i64 q, .int .i64 m', .int .i64 i, .string (bstr b.data.toList)] :: xs = _
        rw [← this]
      · rcases List.mem_cons.1 ha with rfl | ha
        · exact ⟨by have : b.data.toList.length = b.size := rfl; show b.data.toList.length ≤ B; omega, k1, k2, k3, k4⟩
        · exact h2 a ha
  obtain ⟨l, h1, h2⟩ := key ls fun y hy => by
    obtain ⟨i, hi, rfl⟩ := List.getElem_of_mem hy
    have := hels i (by omega)
    rwa [List.getD_eq_getElem?_getD, List.getElem?_eq_getElem hi] at this
  have hlen : l.length = m := by rw [← hl, ← h1, List.length_map]
  subst hlen
  exact ⟨l, p, c, rfl, ⟨by rw [h1]; exact hA⟩, hm, h2⟩

end Go.Proofs.YtkmmphkjmamckabDoor
