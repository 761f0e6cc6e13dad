/-
  What arguments of events and cells read.
-/
import Derived.Test.YtkmmphkjmamckabVcRep2
namespace Go.Proofs.Ytkmmphkjmamckab
open Go
set_option linter.all false

theorem rep_cell1 {u : World} {B n : Nat} {y : List Value} (h : Rep tab u B (n + 2) ty_api_Cell y) : ∃ k, y = clV k := ⟨_, rep_cell h⟩

theorem rep_events {u : World} {B n : Nat} {cs : List Value} (h : Rep tab u B (n + 4) ty_sl_api_Event cs) : ∃ es p c, cs = [.slice p es.length c] ∧ EvL u (fun _ => True) p es.length es ∧ es.length ≤ B ∧ ∀ e ∈ es, e.ps.length ≤ B ∧ e.pl.size ≤ B := by
  obtain ⟨p, m, c, ls, rfl, hA, hm, hmc, hels⟩ := h (by decide)
  have hl := hA.len
  have key : ∀ (l : List (List Value)), (∀ y ∈ l, Rep tab u B (n + 3) ty_api_Event y) → ∃ es : List Ev, es.length = l.length ∧ Evs u (fun _ => True) l es ∧ ∀ e ∈ es, e.ps.length ≤ B ∧ e.pl.size ≤ B := fun l => by
    induction l with
    | nil => exact fun _ => ⟨[], rfl, trivial, by simp⟩
    | cons y l ih =>
      intro hy
      obtain ⟨es, h1, h2, h3⟩ := ih fun z hz => hy z (List.mem_cons_of_mem _ hz)
      obtain ⟨e, q, k, c, rfl, hn, hk, hs⟩ := rep_event (hy y List.mem_cons_self)
      refine ⟨e :: es, by simp [h1], ⟨⟨q, k, c, rfl, hn, fun _ _ => trivial⟩, h2⟩, fun e' he' => ?_⟩
      rcases List.mem_cons.1 he' with rfl | he'
      · have := hn.2
        exact ⟨by omega, hs⟩
      · exact h3 e' he'
  obtain ⟨es, h1, h2, h3⟩ := key ls fun y hy => by
    obtain ⟨i, hi, rfl⟩ := List.getElem_of_mem hy
    have := hels i (by omega)
    rwa [List.getD_eq_getElem?_getD, List.getElem?_eq_getElem hi] at this
  have hlen : es.length = m := by omega
  subst hlen
  exact ⟨es, p, c, rfl, ⟨ls, hA, h2⟩, hm, h3⟩

end Go.Proofs.Ytkmmphkjmamckab
