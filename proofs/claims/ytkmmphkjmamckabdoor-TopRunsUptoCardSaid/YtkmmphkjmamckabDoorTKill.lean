/-
  A pane taken out: the program's function.
-/
import Derived.Test.YtkmmphkjmamckabDoorTSplit
namespace Go.Proofs.YtkmmphkjmamckabDoor
open Go
set_option linter.all false

theorem numV_erase (l : List Int) (k : Nat) : (numV l).take k ++ (numV l).drop (k + 1) = numV (l.eraseIdx k) := by
  rw [List.eraseIdx_eq_take_drop_succ]; simp [numV, List.map_take, List.map_drop]

theorem rd_one {u : World} {b : Nat} {cs : List Value} {i : Nat} {x : Value} (h : Gets u (some ⟨b, 0, none⟩) cs) (hx : cs[i]? = some x) : Rd u b (0 + i * 1) [x] := by
  obtain ⟨_, hr⟩ := h
  obtain ⟨hi, rfl⟩ := List.getElem?_eq_some_iff.1 hx
  have e : cs = cs.take i ++ ([cs[i]] ++ cs.drop (i + 1)) := by
    conv => lhs; rw [← List.take_append_drop i cs, List.drop_eq_getElem_cons hi]
    simp
  rw [e] at hr
  have h1 := (rd_take _ _ _ hr).2
  have h2 := (rd_take _ _ _ h1).1
  rw [List.length_take] at h2
  rwa [show 0 + min i cs.length = 0 + i * 1 by omega] at h2

set_option maxHeartbeats 1000000 in
theorem tkill_ok {u : World} {q : Option Addr} {t : Cols} (h : Tl u q t) (c : Nat) (p : Int) (hl : FewT 10000000 t) :
    Spec Tryd.prog fn_tiles_Kill #[TlV q t c, .int .i64 p] u (TPost u (killT t p)) := by
  apply vc_tiles_Kill_spec
  unfold vc_tiles_Kill
  simp only [decide_eq_true_eq, decide_eq_false_iff_not, Bool.not_eq_true', Bool.not_eq_false', true_and]
  have hu : Ext u (allocW (allocW u hole) hole) := ((Upd.refl u).alloc _).alloc _
  refine (find_ok (h.ext hu) c p hl).mono fun e u1 ⟨he, hu1⟩ => ?_
  have x1 := hu.ext hu1
  obtain ⟨a, b, f, hf, hab, he⟩ : ∃ (a b : Int) (f : Bool), (f = true ↔ findT t p ≠ none) ∧ (∀ i k : Nat, findT t p = some (i, k) → a = i ∧ b = k) ∧ e = .returned (.tuple #[.int .i64 a, .int .i64 b, .bool f]) := by
    unfold findV at he
    cases hff : findT t p with
    | none =>
      rw [hff] at he
      exact ⟨0, 0, false, by simp, fun i k hik => (by cases hik), he⟩
    | some z =>
      obtain ⟨i, k⟩ := z
      rw [hff] at he
      exact ⟨i, k, true, by simp, fun i' k' hik => (by cases hik; exact ⟨rfl, rfl⟩), he⟩
  refine ⟨a, b, f, he, (tgood_ok (h.ext x1) c hl).mono fun e u2 ⟨he, hu2⟩ => ⟨_, he, fun hb => ?_, fun hb => ?_⟩⟩
  · have : killT t p = (t, 1) := by unfold killT; rw [if_pos hb]
    rw [this]
    exact TPost.same (by decide) h c (x1.ext hu2)
  have hg := goodT_iff.1 hb
  have x2 := x1.ext hu2
  have hs : killT t p = match findT t p with
      | none => (t, 3)
      | some (i, k) =>
        if t.length = 1 ∧ (t.getD 0 []).length = 1 then (t, 5)
        else if (t.getD i []).length = 1 then (t.eraseIdx i, 0)
        else (t.set i ((t.getD i []).eraseIdx k), 0) := by
    unfold killT
    rw [if_neg (by rw [hb]; simp)]
    cases findT t p <;> rfl
  rw [hs]
  cases hff : findT t p with
  | none =>
    have hf0 : f = false := by
      cases f with
      | false => rfl
      | true => exact (hf.1 rfl hff).elim
    refine ⟨fun _ => TPost.same (by decide) h c x2, fun hn => ?_⟩
    rw [hf0] at hn; cases hn
  | some z =>
    obtain ⟨i, k⟩ := z
    obtain ⟨rfl, rfl⟩ := hab i k hff
    have hf1 : f = true := hf.2 (by rw [hff]; simp)
    obtain ⟨hi, hk, hpk⟩ := find_some hff
    dsimp only
    have hfew := hg.few
    have hei := hg.each _ (getD_mem (l := t) (d := []) hi)
    refine ⟨fun hn => (by rw [hf1] at hn; cases hn), fun _ => ⟨fun h1 => ?_, fun h1 => ?_⟩⟩
    obtain ⟨b0, o0, q0, c0, hp0, hr0, hn0⟩ := (h.ext x2).at (i := 0) (by omega)
    refine ⟨b0, o0, hp0, by omega, by omega, _, _, _, rfl, hr0, fun h5 => ?_, fun h5 => ?_⟩
    · rw [if_pos ⟨by omega, by omega⟩]
      exact TPost.same (by decide) h c x2
    have hne : ¬ (t.length = 1 ∧ (t.getD 0 []).length = 1) := fun hh => h5 (by omega)
    rotate_left 1
    have hne : ¬ (t.length = 1 ∧ (t.getD 0 []).length = 1) := fun hh => h1 (by omega)
    all_goals
      rw [if_neg hne]
      refine (own_ok (h.ext x2) hg c).mono fun e u5 ⟨b, c', bf, cf, he, hO, hu5⟩ => ⟨_, _, _, he, ?_⟩
      have x5 := x2.ext hu5
      have hd : Ext u5 (drewW u5) := (Upd.refl u5).drew
      have O2 := hO.ext hd
      have hb5 : b < u5.heap.size := (hO.own.at ⟨_, rfl, rfl⟩).1
      refine ⟨b, 0, rfl, by omega, by omega, _, _, _, rfl, O2.rd hi, by simp only [inK]; omega, ?_⟩
      refine (delete_ok (O2.col i hi) (numV_ok _) hk (by omega)).mono fun e u6 ⟨⟨p6, c6, he, ho6, hk6⟩, hu6⟩ => ⟨_, _, _, he, b, 0, rfl, by omega, by omega, rfl, ?_⟩
      rw [numV_erase] at ho6
      have hlen : (t.getD i []).length - 1 = ((t.getD i []).eraseIdx k).length := by rw [List.length_eraseIdx, if_pos hk]
      rw [hlen] at ho6 ⊢
      obtain ⟨w1, vs, w2, w3, w4, w5⟩ := O2.store hi (c' := c6) ho6.nums hu6 (fun k' hk' => by
        rcases hk6 k' hk' with h7 | h7
        · have e1 := at_some h7
          simp only at e1
          have := hO.out i hi
          omega
        · have := hu5.size
          have e : (drewW u5).heap.size = u5.heap.size := rfl
          omega)
      have hnew := (hO.out i hi).2
      have hnb := hO.new
      have hsx := x2.size
      have e6 := x5.ext hd
      have e7 : Upd (fun k => k = bf i ∨ k = b) u (putCells u6 b (0 + i * 1) [.slice p6 ((t.getD i []).eraseIdx k).length c6]) := ((e6.any (S := fun k => k = bf i ∨ k = b)).trans hu6 fun k' _ hk' => .inl (at_some hk')).put (fun _ => .inr rfl) _ _
      have e8 : Ext u (putCells u6 b (0 + i * 1) [.slice p6 ((t.getD i []).eraseIdx k).length c6]) := ⟨e7.size, fun k' hk' _ => e7.old k' hk' (fun hh => by rcases hh with hh | hh <;> omega), e7.os, e7.output, e7.tape⟩
      have hrd : Rd (putCells u6 b (0 + i * 1) [.slice p6 ((t.getD i []).eraseIdx k).length c6]) b (0 + i * 1) [.slice p6 ((t.getD i []).eraseIdx k).length c6] := rd_one w3.gets w5
      refine ⟨w1, b, 0, rfl, by omega, by omega, _, _, _, rfl, hrd, fun h0 => ?_, fun h0 => ?_⟩
      · have ek : ((i : Nat) : Int) + 1 = ((i : Nat) : Int) + 1 := rfl
        refine ⟨by simp only [inK]; omega, (deleteL_ok w3 w4 hi (by omega)).mono fun e u7 ⟨⟨p7, c7, he, ho7, hk7⟩, hu7⟩ => ⟨_, _, _, he, ?_⟩⟩
        rw [if_pos (by omega)]
        have C := w2 _ hu7
        have C7 := (C.take i).append (C.drop (i + 1))
        have hse : (t.set i ((t.getD i []).eraseIdx k)).take i ++ (t.set i ((t.getD i []).eraseIdx k)).drop (i + 1) = t.eraseIdx i := by
          rw [List.take_set_of_le (by omega), List.drop_set_of_lt (by omega), List.eraseIdx_eq_take_drop_succ]
        rw [hse] at C7
        have hle : t.length - 1 = (t.eraseIdx i).length := by rw [List.length_eraseIdx, if_pos hi]
        have TF := C7.tlF ho7.gets fun k hk => (hk7 k hk).elim (fun h7 => by have := at_some h7; simp only at this; rw [this]; exact hO.new) fun h7 => by have := (w3.at (k := b) ⟨_, rfl, rfl⟩).1; omega
        refine ⟨⟨p7, c7, ?_, TF.tl, fun _ => TF.mono fun k hk => by omega⟩, ?_⟩
        · show _ = Ending.returned (.tuple #[.agg #[.slice _ (t.eraseIdx i).length _], _])
          rw [← hle]
        · exact (e8.trans hu7 fun k' hk' hat => by have := at_some hat; simp only at this; omega).mono fun _ _ h => h
      · rw [if_neg (by omega)]
        have TF := (w2 _ (Upd.refl _)).tlF w3.gets fun k hk => by have := at_some hk; simp only at this; rw [this]; exact hO.new
        refine ⟨⟨some ⟨b, 0, none⟩, c', ?_, TF.tl, fun _ => TF.mono fun k hk => by omega⟩, e8⟩
        show _ = Ending.returned (.tuple #[.agg #[.slice _ (t.set i _).length _], _])
        rw [List.length_set]

end Go.Proofs.YtkmmphkjmamckabDoor
