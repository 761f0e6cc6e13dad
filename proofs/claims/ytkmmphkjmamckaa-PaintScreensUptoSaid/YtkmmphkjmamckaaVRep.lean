/-
  What a view's argument reads; panes' too.
-/
import Derived.Test.YtkmmphkjmamckaaVcRep2
import Derived.Test.YtkmmphkjmamckaaZM
namespace Go.Proofs.Ytkmmphkjmamckaa
open Go
set_option linter.all false

theorem rep_cols {u : World} {B n : Nat} {p : Option Addr} {m : Nat} {ls : List (List Value)} {t e : TypeId} (ht : ∀ y, Rep tab u B (n + 1) t y → ∃ q m c l, y = [.slice q m c] ∧ Nums u q m l ∧ m ≤ B) (hA : Arr u 1 p m ls) (h : ∀ i, i < m → Rep tab u B (n + 1) t (ls.getD i [])) :
    ∃ tt : Cols, tt.length = m ∧ (∀ c ∈ tt, c.length ≤ B) ∧ ColsV u (fun _ => True) ls tt := by
  have hl := hA.len
  have key : ∀ (l : List (List Value)), (∀ y ∈ l, Rep tab u B (n + 1) t y) → ∃ tt : Cols, tt.length = l.length ∧ (∀ c ∈ tt, c.length ≤ B) ∧ ColsV u (fun _ => True) l tt := fun l => by
    induction l with
    | nil => exact fun _ => ⟨[], rfl, by simp, trivial⟩
    | cons y l ih =>
      intro hy
      obtain ⟨tt, h1, h2, h3⟩ := ih fun z hz => hy z (List.mem_cons_of_mem _ hz)
      obtain ⟨q, k, c, nums, rfl, hn, hk⟩ := ht y (hy y List.mem_cons_self)
      have := hn.2
      subst this
      refine ⟨nums :: tt, by simp [h1], fun c hc => ?_, ⟨q, c, rfl, hn, fun _ _ => trivial⟩, h3⟩
      rcases List.mem_cons.1 hc with rfl | hc
      · exact hk
      · exact h2 c hc
  obtain ⟨tt, h1, h2, h3⟩ := key ls fun y hy => by
    obtain ⟨i, hi, rfl⟩ := List.getElem_of_mem hy
    have := h i (by omega)
    rwa [List.getD_eq_getElem?_getD, List.getElem?_eq_getElem hi] at this
  exact ⟨tt, by omega, h2, h3⟩

theorem rep_tiles {u : World} {n : Nat} {cs : List Value} (h : Rep tab u 1048576 (n + 5) ty_api_Tiles cs) : ∃ t p c, cs = [.slice p t.length c] ∧ Tl u p t ∧ FewT 1048576 t := by
  obtain ⟨_, _, rfl, _, hs, rfl⟩ := h
  obtain ⟨p, m, c, ls, rfl, hA, hm, hels⟩ := hs (by decide)
  obtain ⟨tt, h1, h2, h3⟩ := rep_cols (n := n + 2) (e := ty_int) (fun y hy => by
    obtain ⟨q, k, c, l, rfl, hB, hk, hn⟩ := hy (by decide)
    exact ⟨q, k, c, l.map intOf, rfl, rep_nums (fun y hy => by obtain ⟨z, hz, _⟩ := hy; exact ⟨z, hz⟩) hB hn, hk⟩) hA hels
  subst h1
  exact ⟨tt, p, c, rfl, ⟨ls, hA, h3⟩, ⟨hm, h2⟩⟩

theorem takeN_eq {α : Type} : ∀ (l : List α) (k n : Nat), k + n ≤ l.length → takeN l k n = some ((l.drop k).take n)
  | _, _, 0, _ => by simp [takeN]
  | [], k, n + 1, h => by simp at h
  | x :: r, 0, n + 1, h => by
    unfold takeN
    rw [takeN_eq r 0 n (by simp at h; omega)]
    simp
  | x :: r, k + 1, n + 1, h => by
    unfold takeN
    rw [takeN_eq r k (n + 1) (by simp at h; omega)]
    simp

theorem takeN_app {α : Type} : ∀ (a b : List α) (k n : Nat), takeN (a ++ b) (a.length + k) n = takeN b k n
  | _, _, _, 0 => by simp [takeN]
  | [], b, k, n + 1 => by simp
  | x :: a, b, k, n + 1 => by
    rw [List.cons_append, List.length_cons, show a.length + 1 + k = (a.length + k) + 1 by omega]
    show takeN (a ++ b) (a.length + k) (n + 1) = _
    exact takeN_app a b k (n + 1)

/-- A screen, with its numbers' bounds. -/
theorem rep_grid' {u : World} {B n : Nat} {cs : List Value} (h : Rep tab u B (n + 4) ty_api_Grid cs) : ∃ g p c, cs = grV g p g.cells.length c ∧ Cells u p g.cells ∧ g.cells.length ≤ B ∧ inK .i64 g.row ∧ inK .i64 g.col := by
  obtain ⟨g, p, c, h1, h2, h3⟩ := rep_grid h
  obtain ⟨_, _, rfl, _, ⟨wide, rfl, _⟩, _, _, rfl, _, ⟨high, rfl, _⟩, _, _, rfl, hl, hs, _, _, rfl, _, ⟨row, rfl, hr⟩, _, _, rfl, _, ⟨col, rfl, hc⟩, _, _, rfl, _, ⟨ink, rfl, _⟩, _, _, rfl, _, ⟨bold, rfl⟩, _, _, rfl, _, ⟨top, rfl, _⟩, _, _, rfl, _, ⟨bottom, rfl, _⟩, rfl⟩ := h
  obtain ⟨p', m', c', ls', rfl, _⟩ := hs (by decide)
  refine ⟨g, p, c, h1, h2, h3, ?_⟩
  simp only [List.cons_append, List.nil_append, grV, List.cons.injEq, Value.int.injEq, true_and] at h1
  obtain ⟨_, _, _, e1, e2, _⟩ := h1
  rw [← e1, ← e2]
  exact ⟨hr, hc⟩

theorem rep_view {u : World} {n : Nat} {cs : List Value} (h : Rep tab u 1048576 (n + 7) ty_api_View cs) : ∃ v, VwM u cs v := by
  obtain ⟨tc, _, rfl, htl, ht, gs, _, rfl, hgl, hg, _, _, rfl, _, ⟨wide, rfl, _⟩, _, _, rfl, _, ⟨high, rfl, _⟩, _, _, rfl, _, ⟨focus, rfl, _⟩, rfl⟩ := h
  obtain ⟨t, p, c, rfl, hT, hF⟩ := rep_tiles ht
  obtain ⟨hgl2, hge⟩ := hg
  have hG : ∀ i, i < 6 → ∃ g p c, (gs.drop (i * 9)).take 9 = grV g p g.cells.length c ∧ Cells u p g.cells ∧ g.cells.length ≤ 1048576 ∧ inK .i64 g.row ∧ inK .i64 g.col := fun i hi => rep_grid' (hge i hi)
  obtain ⟨g0, p0, c0, a0, b0⟩ := hG 0 (by decide)
  obtain ⟨g1, p1, c1, a1, b1⟩ := hG 1 (by decide)
  obtain ⟨g2, p2, c2, a2, b2⟩ := hG 2 (by decide)
  obtain ⟨g3, p3, c3, a3, b3⟩ := hG 3 (by decide)
  obtain ⟨g4, p4, c4, a4, b4⟩ := hG 4 (by decide)
  obtain ⟨g5, p5, c5, a5, b5⟩ := hG 5 (by decide)
  have hgl3 : gs.length = 54 := hgl2
  have cut : ∀ i, i < 6 → takeN ([Value.slice p t.length c] ++ (gs ++ ([.int .i64 wide] ++ ([.int .i64 high] ++ ([.int .i64 focus] ++ []))))) (1 + i * 9) 9 = some ((gs.drop (i * 9)).take 9) := fun i hi => by
    rw [takeN_eq _ _ _ (by simp [hgl3]; omega)]
    congr 1
    rw [List.drop_append, List.drop_eq_nil_of_le (by simp), List.nil_append, List.drop_append, List.take_append_of_le_length (by rw [List.length_drop]; simp; omega)]
    congr 1
    congr 1
    simp
  have tl : ∀ k, takeN ([Value.slice p t.length c] ++ (gs ++ ([.int .i64 wide] ++ ([.int .i64 high] ++ ([.int .i64 focus] ++ []))))) (55 + k) 1 = takeN [Value.int .i64 wide, .int .i64 high, .int .i64 focus] k 1 := fun k => by
    have e := takeN_app ([Value.slice p t.length c] ++ gs) [Value.int .i64 wide, .int .i64 high, .int .i64 focus] k 1
    rw [show ([Value.slice p t.length c] ++ gs).length = 55 by simp [hgl3], List.append_assoc] at e
    exact e
  refine ⟨⟨t, [g0, g1, g2, g3, g4, g5], wide, high, focus⟩, ⟨p, c, by rw [takeN_eq _ _ _ (by simp)]; rfl, hT⟩, hF, fun i hi => ?_, ?_, ?_, ?_, ?_⟩
  · match i, hi with
    | 0, _ => exact ⟨p0, c0, by rw [cut 0 (by decide), a0]; rfl, b0⟩
    | 1, _ => exact ⟨p1, c1, by rw [cut 1 (by decide), a1]; rfl, b1⟩
    | 2, _ => exact ⟨p2, c2, by rw [cut 2 (by decide), a2]; rfl, b2⟩
    | 3, _ => exact ⟨p3, c3, by rw [cut 3 (by decide), a3]; rfl, b3⟩
    | 4, _ => exact ⟨p4, c4, by rw [cut 4 (by decide), a4]; rfl, b4⟩
    | 5, _ => exact ⟨p5, c5, by rw [cut 5 (by decide), a5]; rfl, b5⟩
  · exact tl 0
  · exact tl 1
  · exact tl 2
  · rw [takeN_eq _ _ _ (by simp [hgl3])]
    congr 1
    rw [List.drop_zero, List.take_of_length_le (by simp [hgl3])]

end Go.Proofs.Ytkmmphkjmamckaa
