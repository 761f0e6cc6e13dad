/-
  What an argument of panes reads.
-/
import Derived.Test.YtkmmphkjmamckacVcRep3
import Derived.Test.YtkmmphkjmamckacZM
namespace Go.Proofs.Ytkmmphkjmamckac
open Go
set_option linter.all false

theorem rep_cols {u : World} {B n : Nat} {p : Option Addr} {m : Nat} {ls : List (List Value)} {t e : TypeId} (ht : ∀ y, Rep tab u B (n + 1) t y → ∃ q m c l, y = [.slice q m c] ∧ Nums u q m l ∧ m ≤ B) (hA : Arr u 1 p m ls) (h : ∀ i, i < m → Rep tab u B (n + 1) t (ls.getD i [])) :
    ∃ tt : Cols, tt.length = m ∧ (∀ c ∈ tt, c.length ≤ B) ∧ ColsV u (fun _ => True) ls tt := by
  have hl := hA.len
  have key : ∀ (l : List (List Value)), (∀ y ∈ l, Rep tab u B (n + 1) t y) → ∃ tt : Cols, tt.length = l.length ∧ (∀ c ∈ tt, c.length ≤ B) ∧ ColsV u (fun _ => True) l tt := fun l => by
    induction l with
    | nil => exact fun _ => ⟨[], rfl, by simp, trivial⟩
    | cons y l ih =>
      intro hy
      obtain ⟨tt, h1, h2, h3⟩ := ih fun z hz => hy z (List.mem_cons_of_mem _ hz)
      obtain ⟨q, k, c, nums, rfl, hn, hk⟩ := ht y (hy y List.mem_cons_self)
      have := hn.2
      subst this
      refine ⟨nums :: tt, by simp [h1], fun c hc => ?_, ⟨q, c, rfl, hn, fun _ _ => trivial⟩, h3⟩
      rcases List.mem_cons.1 hc with rfl | hc
      · exact hk
      · exact h2 c hc
  obtain ⟨tt, h1, h2, h3⟩ := key ls fun y hy => by
    obtain ⟨i, hi, rfl⟩ := List.getElem_of_mem hy
    have := h i (by omega)
    rwa [List.getD_eq_getElem?_getD, List.getElem?_eq_getElem hi] at this
  exact ⟨tt, by omega, h2, h3⟩

theorem rep_tiles {u : World} {n : Nat} {cs : List Value} (h : Rep tab u 1048576 (n + 5) ty_api_Tiles cs) : ∃ t p c, cs = [.slice p t.length c] ∧ Tl u p t ∧ FewT 1048576 t := by
  obtain ⟨_, _, rfl, _, hs, rfl⟩ := h
  obtain ⟨p, m, c, ls, rfl, hA, hm, hmc, hels⟩ := hs (by decide)
  obtain ⟨tt, h1, h2, h3⟩ := rep_cols (n := n + 2) (e := ty_int) (fun y hy => by
    obtain ⟨q, k, c, l, rfl, hB, hk, hkc, hn⟩ := hy (by decide)
    exact ⟨q, k, c, l.map intOf, rfl, rep_nums (fun y hy => by obtain ⟨z, hz, _⟩ := hy; exact ⟨z, hz⟩) hB hn, hk⟩) hA hels
  subst h1
  exact ⟨tt, p, c, rfl, ⟨ls, hA, h3⟩, ⟨hm, h2⟩⟩

end Go.Proofs.Ytkmmphkjmamckac
