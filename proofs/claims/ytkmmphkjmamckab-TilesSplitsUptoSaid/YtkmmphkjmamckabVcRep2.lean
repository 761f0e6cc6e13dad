/-
  What the arguments of the statements read: screens, events, parsers.
-/
import Derived.Test.YtkmmphkjmamckabVcRep
import Derived.Test.YtkmmphkjmamckabZM
namespace Go.Proofs.Ytkmmphkjmamckab
open Go
set_option linter.all false

def clOf (y : List Value) : Cl := match y with
  | [.int _ a, .int _ b, .int _ c, .bool d] => ⟨a, b, c, d⟩
  | _ => .z

theorem rep_cell {u : World} {B n : Nat} {y : List Value} (h : Rep tab u B (n + 2) ty_api_Cell y) : y = clV (clOf y) := by
  obtain ⟨_, _, rfl, _, ⟨a, rfl, _⟩, _, _, rfl, _, ⟨b, rfl, _⟩, _, _, rfl, _, ⟨c, rfl, _⟩, _, _, rfl, _, ⟨d, rfl⟩, rfl⟩ := h
  rfl

theorem rep_grid {u : World} {B n : Nat} {cs : List Value} (h : Rep tab u B (n + 4) ty_api_Grid cs) : ∃ g p c, cs = grV g p g.cells.length c ∧ Cells u p g.cells ∧ g.cells.length ≤ B ∧ g.cells.length ≤ c := by
  obtain ⟨_, _, rfl, _, ⟨wide, rfl, _⟩, _, _, rfl, _, ⟨high, rfl, _⟩, _, _, rfl, _, hs, _, _, rfl, _, ⟨row, rfl, _⟩, _, _, rfl, _, ⟨col, rfl, _⟩, _, _, rfl, _, ⟨ink, rfl, _⟩, _, _, rfl, _, ⟨bold, rfl⟩, _, _, rfl, _, ⟨top, rfl, _⟩, _, _, rfl, _, ⟨bottom, rfl, _⟩, rfl⟩ := h
  obtain ⟨p, m, c, ls, rfl, hA, hm, hmc, hels⟩ := hs (by decide)
  have hl := hA.len
  have hmap : ls = (ls.map clOf).map clV := by
    rw [List.map_map]
    refine List.ext_getElem (by simp) fun i h1 h2 => ?_
    rw [List.getElem_map]
    have := rep_cell (hels i (by omega))
    rw [List.getD_eq_getElem?_getD, List.getElem?_eq_getElem h1] at this
    exact this
  refine ⟨⟨wide, high, ls.map clOf, row, col, ink, bold, top, bottom⟩, p, c, ?_, ⟨?_⟩, ?_, ?_⟩
  · simp only [List.length_map, hl]; rfl
  · show Gets u p (((ls.map clOf).map clV).flatten)
    rw [← hmap]
    exact hA.gets
  · simp only [List.length_map, hl]; exact hm
  · simp only [List.length_map, hl]; exact hmc

def intOf (y : List Value) : Int := match y with
  | [.int _ a] => a
  | _ => 0

theorem flat_single (f : List Value → Value) : ∀ l : List (List Value), (l.map fun y => [f y]).flatten = l.map f
  | [] => rfl
  | a :: l => by rw [List.map_cons, List.flatten_cons, flat_single f l]; rfl

theorem rep_nums {u : World} {B n : Nat} {p : Option Addr} {m : Nat} {ls : List (List Value)} {t : TypeId} (ht : ∀ y, Rep tab u B (n + 1) t y → ∃ z : Int, y = [.int .i64 z]) (hA : Arr u 1 p m ls) (h : ∀ i, i < m → Rep tab u B (n + 1) t (ls.getD i [])) : Nums u p m (ls.map intOf) := by
  have hl := hA.len
  refine ⟨?_, by simp [hl]⟩
  have : numV (ls.map intOf) = ls.flatten := by
    unfold numV
    rw [List.map_map]
    have : ls = ls.map fun y => [Value.int .i64 (intOf y)] := by
      refine List.ext_getElem (by simp) fun i h1 h2 => ?_
      rw [List.getElem_map]
      obtain ⟨z, hz⟩ := ht _ (h i (by omega))
      rw [List.getD_eq_getElem?_getD, List.getElem?_eq_getElem h1] at hz
      simp only [Option.getD_some] at hz
      rw [hz]
      rfl
    conv => rhs; rw [this]
    exact (flat_single _ ls).symm
  rw [this]
  exact hA.gets

abbrev evRow' (e : Ev) (p : Option Addr) (m c : Nat) : List Value := [.int .i64 e.kind, .int .i64 e.b, .slice p m c, .string e.pl]
theorem rep_event {u : World} {B n : Nat} {cs : List Value} (h : Rep tab u B (n + 3) ty_api_Event cs) : ∃ e p m c, cs = evRow' e p m c ∧ Nums u p m e.ps ∧ m ≤ B ∧ e.pl.size ≤ B := by
  obtain ⟨_, _, rfl, _, ⟨kind, rfl, _⟩, _, _, rfl, _, ⟨b, rfl, _⟩, _, _, rfl, _, hs, _, _, rfl, _, ⟨pl, rfl, hpl⟩, rfl⟩ := h
  obtain ⟨p, m, c, ls, rfl, hA, hm, hmc, hels⟩ := hs (by decide)
  exact ⟨⟨kind, b, ls.map intOf, pl⟩, p, m, c, rfl, rep_nums (fun y hy => by obtain ⟨z, hz, _⟩ := hy; exact ⟨z, hz⟩) hA hels, hm, hpl⟩

end Go.Proofs.Ytkmmphkjmamckab
