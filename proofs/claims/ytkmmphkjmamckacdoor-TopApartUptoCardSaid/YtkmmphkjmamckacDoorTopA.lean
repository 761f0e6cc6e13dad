/-
  Nothing beyond its pane is touched.
-/
import Derived.Test.YtkmmphkjmamckacDoorPlayQ
import Derived.Test.YtkmmphkjmamckacDoorTopSame2
import Derived.Test.YtkmmphkjmamckacDoorZVf
namespace Go.Proofs.YtkmmphkjmamckacDoor
open Go
set_option linter.all false

theorem do_output {s : Sv} (h : s.acts < 300) {q : Int} {b : Bs} (h0 : (doS s ⟨3, q, 0, 0, b⟩).2.code = 0) : hasT s.v.cols q = true ∧ (doS s ⟨3, q, 0, 0, b⟩).1 = outputS { s with acts := s.acts + 1 } q.toNat b := by
  rw [do_lt h] at h0 ⊢
  have e : actS { s with acts := s.acts + 1 } ⟨3, q, 0, 0, b⟩ = if hasT s.v.cols q = false then ({ s with acts := s.acts + 1 }, .no 3) else (outputS { s with acts := s.acts + 1 } q.toNat b, .no 0) := rfl
  rw [e] at h0 ⊢
  cases hh : hasT s.v.cols q with
  | false => rw [hh, if_pos rfl] at h0; cases h0
  | true => exact ⟨rfl, by rw [if_neg (by simp)]⟩

set_option maxHeartbeats 2000000 in
theorem topApart_ok {u : World} {p : Option Addr} {l : List Ac} (hl : ActL u p l) (c : Nat) (hb : ∀ a ∈ l, a.bytes.length ≤ 1048576) (q : Int) (b : ByteArray) (hbs : b.size ≤ 1048576) :
    Spec Tryd.prog fn_fenestratop_TopApart #[.slice p l.length c, .int .i64 q, .string b] u (Told u true) := by
  apply vc_fenestratop_TopApart_spec
  unfold vc_fenestratop_TopApart
  simp only [decide_eq_true_eq, decide_eq_false_iff_not, true_and, Bool.not_eq_true', Bool.not_eq_false']
  refine (vc_fenestratop_play_quiet_spec _ _ _ (play_quiet_ok hl hb c)).mono fun e u1 ⟨⟨sb, tb, he, P⟩, hu1⟩ => ⟨sb, 0, tb, 0, true, he, fun hn => (by cases hn), fun _ => ?_⟩
  have hI := play_inv l (min l.length 100) (by omega)
  generalize hs0 : (playN l (min l.length 100)).1 = s at *
  generalize ht0 : (playN l (min l.length 100)).2 = t at *
  have hsn := P.sn
  have hlt := P.sv.lt
  have hac := hI.acts
  have I := hI.inv
  have hu1s := hu1.size
  refine (srvView_ok P.sv (smallFew I.cols) (fun p hp => I.grid_or p hp)).mono fun e u2 ⟨⟨X, he, V⟩, hu2⟩ => ⟨X, he, V.len.symm, okCells_mem V.okv ⟨X, putN_all (by rw [V.len]; rfl), ?_⟩⟩
  have ha2 : Ext u2 (allocW u2 hole) := (Upd.refl _).alloc _
  have P2 := P.ext (hu2.ext ha2)
  refine (srvDo_ok P2.sv I (by omega) ⟨3, q, 0, 0, b.data.toList⟩ (by_ := b) rfl hbs).mono fun e u3 ⟨he, hm, hu3⟩ => ⟨_, _, _, he, fun hc => ?_, fun hc => ?_⟩
  all_goals
    have V3 := (V.ext ha2).upd hu3 fun k hk => by omega
    have hv3 : Ext u u3 := (((hu1.ext hu2).ext ha2).trans hu3 fun k hk h => by omega).mono fun _ _ h => h
    have hd : Ext u3 (drewW u3) := (Upd.refl _).drew
    have I3 := do_inv I ⟨3, q, 0, 0, b.data.toList⟩
  · obtain ⟨al, _, _⟩ := do_refused hc
    refine ⟨V3.m.whole, (srvView_ok (hm.ext hd) (smallFew I3.cols) (fun p hp => I3.grid_or p hp)).mono fun e u4 ⟨⟨Y, he, W⟩, hu4⟩ => ⟨Y, he, ?_⟩⟩
    rw [al.v] at W
    exact (sameViewT_ok ((V3.ext hd).ext hu4).m W.m rfl rfl rfl rfl fun _ _ => rfl).mono fun e u5 ⟨he, hu5⟩ => ⟨_, he, rfl, ((hv3.ext hd).ext hu4).ext hu5⟩
  · obtain ⟨hh, hs'⟩ := do_output (by omega) hc
    have h6 := has_pane I.cols hh
    refine (srvView_ok hm (smallFew I3.cols) (fun p hp => I3.grid_or p hp)).mono fun e u4 ⟨⟨Y, he, W⟩, hu4⟩ => ⟨Y, he, W.len.symm, okCells_mem W.okv ⟨Y, putN_all (by rw [W.len]; rfl), ?_⟩⟩
    have hv4 := (hv3.ext hu4).alloc hole
    have ha4 : Ext u4 (allocW u4 hole) := (Upd.refl _).alloc _
    have V4 := (V3.ext hu4).ext ha4
    have W4 := W.ext ha4
    rw [hs'] at W4
    have Ia := I.acts (s.acts + 1)
    have hgr : ∀ i : Nat, i < 6 → i ≠ q.toNat → (outputS { s with acts := s.acts + 1 } q.toNat b.data.toList).v.grids.getD i .zero = s.v.grids.getD i .zero := fun i hi hne => by
      have := grid_set (b := b.data.toList) Ia (p := q.toNat) (by omega) i
      rw [if_neg hne] at this
      exact this
    have hcell : ∀ r c : Int, ¬ inR (whereT s.v.cols s.v.wide s.v.high q) r c → cellV (outputS { s with acts := s.acts + 1 } q.toNat b.data.toList).v r c = cellV s.v r c := fun r c h => output_apart Ia hh _ r c h
    have ew : (outputS { s with acts := s.acts + 1 } q.toNat b.data.toList).v.wide = s.v.wide := rfl
    have eh : (outputS { s with acts := s.acts + 1 } q.toNat b.data.toList).v.high = s.v.high := rfl
    have ef : (outputS { s with acts := s.acts + 1 } q.toNat b.data.toList).v.focus = s.v.focus := rfl
    generalize (outputS { s with acts := s.acts + 1 } q.toNat b.data.toList).v = nv at *
    obtain ⟨sd1, sd2, sd3, sd4⟩ := I.sides
    refine ⟨fun y w => 0 ≤ y ∧ y ≤ 6 ∧ Ext (allocW u4 hole) w, fun y _ => (6 - y).toNat, ⟨by omega, by omega, Upd.refl _⟩, ?_⟩
    rintro y w ⟨y0, y6, hw⟩
    have hdw : Ext w (drewW w) := (Upd.refl _).drew
    refine ⟨fun hy => ⟨fun hne => ⟨y0, hy, ?_⟩, fun _ => ⟨by simp only [inK]; omega, ⟨by omega, by omega, hw.ext hdw⟩, by first | omega | (dsimp only; omega)⟩⟩, fun hy => ?_⟩
    · obtain ⟨ga, gca, g1, g2, g3, _⟩ := W4.m.grid y.toNat (by omega)
      obtain ⟨gb, gcb, k1, k2, k3, _⟩ := V4.m.grid y.toNat (by omega)
      rw [hgr y.toNat (by omega) (by omega)] at g1 g2
      refine ⟨_, _, _, _, _, _, _, _, _, _, _, g1, y0, hy, _, _, _, _, _, _, _, _, _, _, _, k1, ?_⟩
      refine (sameGridT_ok (g2.ext (hw.ext hdw)) (k2.ext (hw.ext hdw)) gca gcb (by omega)).mono fun e w1 ⟨he, hw1⟩ => ⟨_, he, fun hf => (by rw [sameGt_iff.2 rfl] at hf; cases hf), fun _ => ⟨by simp only [inK]; omega, ⟨by omega, by omega, (hw.ext hdw).ext hw1⟩, by first | omega | (dsimp only; omega)⟩⟩
    · obtain ⟨pa, ca, a0, aT⟩ := V4.m.cols
      have few := goodFew I.cols
      refine ⟨pa, _, ca, a0, _, V4.m.wide, _, V4.m.high, (where_ok (aT.ext hw) ca s.v.wide s.v.high q few).mono fun e w1 ⟨he, hw1⟩ => ⟨_, _, _, _, he, _, V4.m.high, ?_⟩⟩
      have hwin := where_small s.v.cols s.v.wide s.v.high q
      have hx1 := (hw.ext hw1).alloc hole
      refine ⟨fun r z => 0 ≤ r ∧ r ≤ s.v.high ∧ Ext (allocW u4 hole) z, fun r _ => (s.v.high - r).toNat, ⟨by omega, by omega, hx1⟩, ?_⟩
      rintro r z ⟨r0, r1, hz⟩
      refine ⟨fun hr => ⟨_, V4.m.wide, ?_⟩, fun hr => ?_⟩
      · refine ⟨fun c z2 => 0 ≤ c ∧ c ≤ s.v.wide ∧ Ext (allocW u4 hole) z2, fun c _ => (s.v.wide - c).toNat, ⟨by omega, by omega, hz⟩, ?_⟩
        rintro c z2 ⟨c0, c1, hz2⟩
        have hdz := hz2.drew
        have hdz2 : Ext z2 (drewW z2) := (Upd.refl _).drew
        refine ⟨fun hc => ?_, fun hc => ⟨by simp only [inK]; omega, ⟨by omega, by omega, hz2⟩, by first | omega | (dsimp only; omega)⟩⟩
        have kr : inK .i64 r := by simp only [inK]; omega
        have kc : inK .i64 c := by simp only [inK]; omega
        have cmp : ¬ inR (whereT s.v.cols s.v.wide s.v.high q) r c → Spec Tryd.prog fn_paint_Cell #[.agg Y.toArray, .int .i64 r, .int .i64 c] (drewW z2) (fun e z3 => ∃ (a1 a2 a3 : Int) (a4 : Bool), e = .returned (.agg #[.int .i64 a1, .int .i64 a2, .int .i64 a3, .bool a4]) ∧
            Spec Tryd.prog fn_paint_Cell #[.agg X.toArray, .int .i64 r, .int .i64 c] z3 (fun e z4 => ∃ (b1 b2 b3 : Int) (b4 : Bool), e = .returned (.agg #[.int .i64 b1, .int .i64 b2, .int .i64 b3, .bool b4]) ∧
              ((decide (a1 = b1) && (decide (a2 = b2) && (decide (a3 = b3) && (a4 == b4)))) = false → Told u true (.returned (.bool false)) z4) ∧
              ((decide (a1 = b1) && (decide (a2 = b2) && (decide (a3 = b3) && (a4 == b4)))) = true → inK .i64 (c + 1) ∧ (0 ≤ c + 1 ∧ c + 1 ≤ s.v.wide ∧ Ext (allocW u4 hole) z4) ∧ (s.v.wide - (c + 1)).toNat < (s.v.wide - c).toNat))) := fun hn => by
          refine (pcell_ok (W4.m.ext hdz) r c kr kc).mono fun e z3 ⟨he, hz3⟩ => ⟨_, _, _, _, he, ?_⟩
          refine (pcell_ok (V4.m.ext (hdz.ext hz3)) r c kr kc).mono fun e z4 ⟨he, hz4⟩ => ⟨_, _, _, _, he, ?_⟩
          rw [hcell r c hn]
          exact ⟨fun hf => (by simp at hf), fun _ => ⟨by simp only [inK]; omega, ⟨by omega, by omega, (hdz.ext hz3).ext hz4⟩, by first | omega | (dsimp only; omega)⟩⟩
        refine ⟨fun h1 => ⟨by simp only [inK]; omega, fun h2 => ⟨fun h3 => ⟨by simp only [inK]; omega, fun h4 => ?_, fun h4 => ⟨by simp only [inK]; omega, ⟨by omega, by omega, hdz⟩, by first | omega | (dsimp only; omega)⟩⟩, fun h3 => ?_⟩, fun h2 => ?_⟩, fun h1 => ?_⟩
        · exact ⟨W4.m.whole, V4.m.whole, cmp fun h => by have := h.2.2.2; simp at h4; omega⟩
        · exact ⟨W4.m.whole, V4.m.whole, cmp fun h => h3 h.2.2.1⟩
        · exact ⟨W4.m.whole, V4.m.whole, cmp fun h => h2 h.2.1⟩
        · exact ⟨W4.m.whole, V4.m.whole, cmp fun h => h1 h.1⟩
      · have w1' := W4.m.wide
        have w2' := W4.m.high
        have w3' := W4.m.focus
        rw [ew] at w1'
        rw [eh] at w2'
        rw [ef] at w3'
        refine ⟨_, w1', _, V4.m.wide, fun _ => ⟨_, w2', _, V4.m.high, fun _ => ⟨_, w3', _, V4.m.focus, ?_, hv4.ext hz⟩, fun hn => (hn rfl).elim⟩, fun hn => (hn rfl).elim⟩
        rw [decide_eq_true rfl]

end Go.Proofs.YtkmmphkjmamckacDoor
