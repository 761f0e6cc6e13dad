/-
  What one client does no other one minds, and no pane.
-/
import Derived.Test.YtkmmphkjmamckacDoorPlayQ
import Derived.Test.YtkmmphkjmamckacDoorTopSame2
import Derived.Test.YtkmmphkjmamckacDoorZVf
namespace Go.Proofs.YtkmmphkjmamckacDoor
open Go
set_option linter.all false

theorem tell_other {s s' : Sv} {x : Int} (h0 : 0 ≤ x) (h : clientOf s' x.toNat = clientOf s x.toNat) : tellS s' x = tellS s x := by
  unfold tellS
  rw [h]

set_option maxHeartbeats 2000000 in
theorem topOthers_ok {u : World} {p : Option Addr} {l : List Ac} (hl : ActL u p l) (c : Nat) (hb : ∀ a ∈ l, a.bytes.length ≤ 1048576) (k q n m : Int) (b : ByteArray) (hbs : b.size ≤ 1048576) :
    Spec Tryd.prog fn_fenestratop_TopOthers #[.slice p l.length c, .agg #[.int .i64 k, .int .i64 q, .int .i64 n, .int .i64 m, .string b]] u (Told u true) := by
  apply vc_fenestratop_TopOthers_spec
  unfold vc_fenestratop_TopOthers
  simp only [decide_eq_true_eq, decide_eq_false_iff_not, true_and, Bool.not_eq_true', Bool.not_eq_false']
  have h0 : Ext u (allocW u hole) := (Upd.refl u).alloc _
  have h0s := h0.size
  refine (vc_fenestratop_play_quiet_spec _ _ _ (play_quiet_ok (hl.ext h0) hb c)).mono fun e u1 ⟨⟨sb, tb, he, P⟩, hu1⟩ => ⟨sb, 0, tb, 0, true, he, fun hn => (by cases hn), fun _ => ?_⟩
  have hI := play_inv l (min l.length 100) (by omega)
  generalize hs0 : (playN l (min l.length 100)).1 = s at *
  generalize ht0 : (playN l (min l.length 100)).2 = t at *
  have hsn := P.sn
  have hlt := P.sv.lt
  have hac := hI.acts
  have I := hI.inv
  have hu1s := hu1.size
  have h3 : Ext u1 (allocW (allocW (allocW u1 hole) hole) hole) := (((Upd.refl _).alloc _).alloc _).alloc _
  refine ⟨fun x was lost here v => 0 ≤ x ∧ x ≤ 3 ∧ was.length = 3 ∧ lost.length = 3 ∧ here.length = 3 ∧ (∀ j : Nat, j < x.toNat → takeN was j 1 = some [.string (bstr (tellS s (j : Int)).1)] ∧ takeN lost j 1 = some [.bool (tellS s (j : Int)).2.1] ∧ takeN here j 1 = some [.bool (tellS s (j : Int)).2.2]) ∧ Ext u1 v, fun x _ _ _ _ => (3 - x).toNat,
    ⟨by omega, by omega, rfl, rfl, rfl, fun j hj => (by simp at hj), h3⟩, ?_⟩
  rintro x was lost here v ⟨x0, x3, w1, w2, w3, hj, hv⟩
  refine ⟨fun hx => ?_, fun hx => ?_⟩
  · refine (srvClient_ok (P.sv.ext hv) x).mono fun e v1 ⟨he, hv1⟩ => ⟨_, _, _, he, x0, hx, rfl, ?_⟩
    obtain ⟨c1, P1⟩ := put_to (cs := was) (o := 0 + x.toNat * 1) (ys := [.string (bstr (tellS s x).1)]) (by rw [w1]; simp; omega)
    obtain ⟨c2, P2⟩ := put_to (cs := lost) (o := 0 + x.toNat * 1) (ys := [.bool (tellS s x).2.1]) (by rw [w2]; simp; omega)
    obtain ⟨c3, P3⟩ := put_to (cs := here) (o := 0 + x.toNat * 1) (ys := [.bool (tellS s x).2.2]) (by rw [w3]; simp; omega)
    have own : ∀ {cs cs' : List Value} {y : Value}, PutTo cs (0 + x.toNat * 1) [y] cs' → takeN cs' x.toNat 1 = some [y] := fun {cs cs' y} h => by
      obtain ⟨k1, k2, k3⟩ := putN_get _ _ _ _ h.put
      refine takeN_mk _ _ _ _ rfl fun i hi => ?_
      rw [k3, if_pos (by simp; omega)]
      congr 1
      omega
    have hxx : ((x.toNat : Nat) : Int) = x := by omega
    refine ⟨c1, P1.put, x0, hx, rfl, c2, P2.put, x0, hx, rfl, c3, P3.put, by simp only [inK]; omega, ⟨by omega, by omega, by rw [P1.len, w1], by rw [P2.len, w2], by rw [P3.len, w3], fun j hjx => ?_, hv.ext hv1⟩, by first | omega | (dsimp only; omega)⟩
    rcases (by omega : j < x.toNat ∨ j = x.toNat) with h7 | h7
    · obtain ⟨j1, j2, j3⟩ := hj j h7
      exact ⟨P1.off (by simp; omega) j1, P2.off (by simp; omega) j2, P3.off (by simp; omega) j3⟩
    · subst h7
      rw [hxx]
      exact ⟨own P1, own P2, own P3⟩
  have hxe : x.toNat = 3 := by omega
  refine (srvView_ok (P.sv.ext hv) (smallFew I.cols) (fun p hp => I.grid_or p hp)).mono fun e v2 ⟨⟨X, he, V⟩, hv2⟩ => ⟨X, he, V.len.symm, okCells_mem V.okv ⟨X, putN_all (by rw [V.len]; rfl), ?_⟩⟩
  have ha2 : Ext v2 (allocW v2 hole) := (Upd.refl _).alloc _
  have hvs := hv.size
  refine (srvDo_ok (P.sv.ext (hv.ext (hv2.ext ha2))) I (by omega) ⟨k, q, n, m, b.data.toList⟩ (by_ := b) rfl hbs).mono fun e v3 ⟨he, hm, hv3⟩ => ⟨_, _, _, he, ?_⟩
  have V3 := (V.ext ha2).upd hv3 fun k hk => by omega
  have hx3 : Ext u v3 := (((h0.ext hu1).ext (hv.ext (hv2.ext ha2))).trans hv3 fun k hk h => by omega).mono fun _ _ h => h
  have I3 := do_inv I ⟨k, q, n, m, b.data.toList⟩
  refine ⟨fun h6 => ⟨fun h7 => ⟨fun h9 => ⟨rfl, hx3⟩, fun h9 => ?_⟩, fun h7 => ?_⟩, fun h6 => ?_⟩
  all_goals
    obtain ⟨oth1, oth2⟩ := do_others I (a := ⟨k, q, n, m, b.data.toList⟩) (by first | exact .inl h6 | exact .inr (.inl h7) | exact .inr (.inr h9))
    refine ⟨fun y w => 0 ≤ y ∧ y ≤ 3 ∧ Ext v3 w, fun y _ => (3 - y).toNat, ⟨by omega, by omega, Upd.refl _⟩, ?_⟩
    rintro y w ⟨y0, y3, hw⟩
    refine ⟨fun hy => ?_, fun hy => ?_⟩
    · have hyy : ((y.toNat : Nat) : Int) = y := by omega
      obtain ⟨j1, j2, j3⟩ := hj y.toNat (by omega)
      rw [hyy] at j1 j2 j3
      have o1 : 0 + y.toNat * 1 = y.toNat := by omega
      refine (srvClient_ok (hm.ext hw) y).mono fun e w1 ⟨he, hw1⟩ => ⟨_, _, _, he, fun hne => ?_, fun _ => ⟨by simp only [inK]; omega, ⟨by omega, by omega, hw.ext hw1⟩, by first | omega | (dsimp only; omega)⟩⟩
      have ht : tellS (doS s ⟨k, q, n, m, b.data.toList⟩).1 y = tellS s y := tell_other y0 (oth2 y.toNat (by omega) (by rw [hyy]; exact hne))
      rw [ht, o1]
      refine ⟨y0, hy, _, j1, fun hn => (hn rfl).elim, fun _ => ⟨y0, hy, _, j2, fun hn => (by simp at hn), fun _ => ⟨y0, hy, _, j3, fun hn => (by simp at hn), fun _ => ⟨by simp only [inK]; omega, ⟨by omega, by omega, hw.ext hw1⟩, by first | omega | (dsimp only; omega)⟩⟩⟩⟩
    · have hd : Ext w (drewW w) := (Upd.refl _).drew
      refine ⟨V3.m.whole, (srvView_ok (hm.ext (hw.ext hd)) (smallFew I3.cols) (fun p hp => I3.grid_or p hp)).mono fun e w4 ⟨⟨Y, he, W⟩, hw4⟩ => ⟨Y, he, ?_⟩⟩
      rw [oth1] at W
      exact (sameViewT_ok (V3.ext ((hw.ext hd).ext hw4)).m W.m rfl rfl rfl rfl fun _ _ => rfl).mono fun e w5 ⟨he, hw5⟩ => ⟨_, he, rfl, (hx3.ext ((hw.ext hd).ext hw4)).ext hw5⟩

end Go.Proofs.YtkmmphkjmamckacDoor
