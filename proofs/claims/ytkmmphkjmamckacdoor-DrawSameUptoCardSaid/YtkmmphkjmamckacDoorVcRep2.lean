/-
  What the arguments of the statements read: screens, events, parsers.
-/
import Derived.Test.YtkmmphkjmamckacDoorVcRep3
import Derived.Test.YtkmmphkjmamckacDoorZM
namespace Go.Proofs.YtkmmphkjmamckacDoor
open Go
set_option linter.all false

def clOf (y : List Value) : Cl := match y with
  | [.int _ a, .int _ b, .int _ c, .bool d] => ⟨a, b, c, d⟩
  | _ => .z

theorem rep_cell {u : World} {B n : Nat} {y : List Value} (h : Rep tab u B (n + 2) ty_api_Cell y) : y = clV (clOf y) := by
  obtain ⟨_, _, rfl, _, ⟨a, rfl, _⟩, _, _, rfl, _, ⟨b, rfl, _⟩, _, _, rfl, _, ⟨c, rfl, _⟩, _, _, rfl, _, ⟨d, rfl⟩, rfl⟩ := h
  rfl

theorem rep_grid {u : World} {B n : Nat} {cs : List Value} (h : Rep tab u B (n + 4) ty_api_Grid cs) : ∃ g p c, cs = grV g p g.cells.length c ∧ Cells u p g.cells ∧ g.cells.length ≤ B ∧ g.cells.length ≤ c := by
  obtain ⟨_, _, rfl, _, ⟨wide, rfl, _⟩, _, _, rfl, _, ⟨high, rfl, _⟩, _, _, rfl, _, hs, _, _, rfl, _, ⟨row, rfl, _⟩, _, _, rfl, _, ⟨col, rfl, _⟩, _, _, rfl, _, ⟨ink, rfl, _⟩, _, _, rfl, _, ⟨bold, rfl⟩, _, _, rfl, _, ⟨top, rfl, _⟩, _, _, rfl, _, ⟨bottom, rfl, _⟩, rfl⟩ := h
  obtain ⟨p, m, c, ls, rfl, hA, hm, hmc, hels⟩ := hs (by decide)
  have hl := hA.len
  have hmap : ls = (ls.map clOf).map clV := by
    rw [List.map_map]
    refine List.ext_getElem (by simp) fun i h1 h2 => ?_
    rw [List.getElem_map]
    have := rep_cell (hels i (by omega))
    rw [List.getD_eq_getElem?_getD, List.getElem?_eq_getElem h1] at this
    exact this
  refine ⟨⟨wide, high, ls.map clOf, row, col, ink, bold, top, bottom⟩, p, c, ?_, ⟨?_⟩, ?_, ?_⟩
  · simp only [List.length_map, hl]; rfl
  · show Gets u p (((ls.map clOf).map clV).flatten)
    rw [← hmap]
    exact hA.gets
  · simp only [List.length_map, hl]; exact hm
  · simp only [List.length_map, hl]; exact hmc

abbrev evRow' (e : Ev) (p : Option Addr) (m c : Nat) : List Value := [.int .i64 e.kind, .int .i64 e.b, .slice p m c, .string e.pl]
theorem rep_event {u : World} {B n : Nat} {cs : List Value} (h : Rep tab u B (n + 3) ty_api_Event cs) : ∃ e p m c, cs = evRow' e p m c ∧ Nums u p m e.ps ∧ m ≤ B ∧ e.pl.size ≤ B := by
  obtain ⟨_, _, rfl, _, ⟨kind, rfl, _⟩, _, _, rfl, _, ⟨b, rfl, _⟩, _, _, rfl, _, hs, _, _, rfl, _, ⟨pl, rfl, hpl⟩, rfl⟩ := h
  obtain ⟨p, m, c, ls, rfl, hA, hm, hmc, hels⟩ := hs (by decide)
  exact ⟨⟨kind, b, ls.map intOf, pl⟩, p, m, c, rfl, rep_nums (fun y hy => by obtain ⟨z, hz, _⟩ := hy; exact ⟨z, hz⟩) hA hels, hm, hpl⟩

end Go.Proofs.YtkmmphkjmamckacDoor
