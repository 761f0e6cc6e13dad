/-
  What an argument of numbers reads.
-/
import Derived.Test.YtkmmphkjmamckacDoorVcRep
import Derived.Test.YtkmmphkjmamckacDoorZM
namespace Go.Proofs.YtkmmphkjmamckacDoor
open Go
set_option linter.all false

def intOf (y : List Value) : Int := match y with
  | [.int _ a] => a
  | _ => 0

theorem flat_single (f : List Value → Value) : ∀ l : List (List Value), (l.map fun y => [f y]).flatten = l.map f
  | [] => rfl
  | a :: l => by rw [List.map_cons, List.flatten_cons, flat_single f l]; rfl

theorem rep_nums {u : World} {B n : Nat} {p : Option Addr} {m : Nat} {ls : List (List Value)} {t : TypeId} (ht : ∀ y, Rep tab u B (n + 1) t y → ∃ z : Int, y = [.int .i64 z]) (hA : Arr u 1 p m ls) (h : ∀ i, i < m → Rep tab u B (n + 1) t (ls.getD i [])) : Nums u p m (ls.map intOf) := by
  have hl := hA.len
  refine ⟨?_, by simp [hl]⟩
  have : numV (ls.map intOf) = ls.flatten := by
    unfold numV
    rw [List.map_map]
    have : ls = ls.map fun y => [Value.int .i64 (intOf y)] := by
      refine List.ext_getElem (by simp) fun i h1 h2 => ?_
      rw [List.getElem_map]
      obtain ⟨z, hz⟩ := ht _ (h i (by omega))
      rw [List.getD_eq_getElem?_getD, List.getElem?_eq_getElem h1] at hz
      simp only [Option.getD_some] at hz
      rw [hz]
      rfl
    conv => rhs; rw [this]
    exact (flat_single _ ls).symm
  rw [this]
  exact hA.gets

end Go.Proofs.YtkmmphkjmamckacDoor
