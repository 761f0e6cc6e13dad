/-
  Wherever what panes put out is cut in two, all ends the same.
-/
import Derived.Test.YtkmmphkjmamckacDoorTopPlay
import Derived.Test.YtkmmphkjmamckacDoorTopSame2
import Derived.Test.YtkmmphkjmamckacDoorVTopP
namespace Go.Proofs.YtkmmphkjmamckacDoor
open Go
set_option linter.all false

/-- A place to cut at. -/
theorem cut_in (t n : Int) (hn : 0 < n) : inK .i64 n → n ≤ 4611686018427387904 → inK .i64 (Int.tmod t n + n) ∧ 0 ≤ Int.tmod t n + n ∧ 0 ≤ (Int.tmod t n + n) % n ∧ (Int.tmod t n + n) % n < n := fun _ h4 => by
  have h1 := Int.tmod_lt_of_pos t hn
  have h2 := Int.lt_tmod_of_pos t hn
  exact ⟨by simp only [inK]; omega, by omega, Int.emod_nonneg _ (by omega), Int.emod_lt_of_pos _ hn⟩

set_option maxHeartbeats 2000000 in
theorem topParts_ok {u : World} {p : Option Addr} {l : List Ac} (hl : ActL u p l) (c : Nat) (hb : ∀ a ∈ l, a.bytes.length ≤ 1048576) (cut : Int) :
    Spec Tryd.prog fn_fenestratop_TopParts #[.slice p l.length c, .int .i64 cut] u (Told u true) := by
  apply vc_fenestratop_TopParts_spec
  unfold vc_fenestratop_TopParts
  simp only [decide_eq_true_eq, decide_eq_false_iff_not, true_and, Bool.not_eq_true', Bool.not_eq_false']
  refine alive_ok.mono fun e u1 ⟨he, hu1⟩ => ⟨_, he, fun hn => (by cases hn), fun _ => ?_⟩
  refine srvNew_ok.mono fun e u2 ⟨sa, he, hA, hsa, hu2⟩ => ⟨sa, 0, he, ?_⟩
  refine srvNew_ok.mono fun e u3 ⟨sb, he, hB, hsb, hu3⟩ => ⟨sb, 0, he, ?_⟩
  have x3 := (hu1.ext hu2).ext hu3
  have hla := hA.lt
  have hlb := hB.lt
  have s1 := hu1.size
  have s2 := hu2.size
  have s3 := hu3.size
  have hne : ¬ sa = sb := by omega
  have A3 : SvM u3 sa (fun k => k = sa ∨ k = sb) newS := hA.more newS_ok.cols hu3 (.inl rfl) fun k hk => by omega
  have B3 : SvM u3 sb (fun k => k = sa ∨ k = sb) newS := hB.more newS_ok.cols (Upd.refl _) (.inr rfl) fun k hk => by omega
  refine ⟨fun x v => 0 ≤ x ∧ x ≤ l.length ∧ x ≤ 100 ∧ SvM v sa (fun k => k = sa ∨ k = sb) (playN l x.toNat).1 ∧ (∃ s', SvM v sb (fun k => k = sa ∨ k = sb) s' ∧ Alike (playN l x.toNat).1 s' ∧ InvS s' ∧ 0 ≤ s'.acts ∧ s'.acts ≤ 2 * x) ∧ Ext u v, fun x _ => (100 - x).toNat,
    ⟨by omega, by omega, by omega, A3, ⟨newS, B3, ⟨rfl, rfl, rfl⟩, newS_ok, by decide, by decide⟩, x3⟩, ?_⟩
  rintro x v ⟨x0, xl, x100, A, ⟨s', B, al, I', n0, n1⟩, hv⟩
  have hI := play_inv l x.toNat (by omega)
  refine ⟨fun hxl => ⟨fun hx => ?_, fun hx => ?_⟩, fun hxl => ?_⟩
  rotate_left 1
  · exact (srvSame_ok A B hI.inv I' al.v al.clients).mono fun e w ⟨he, hw⟩ => ⟨_, he, rfl, hv.ext hw⟩
  · exact (srvSame_ok A B hI.inv I' al.v al.clients).mono fun e w ⟨he, hw⟩ => ⟨_, he, rfl, hv.ext hw⟩
  obtain ⟨b, o, hp, hr⟩ := (hl.ext hv).at (i := x.toNat) (by omega) .zero
  have hmem : l.getD x.toNat .zero ∈ l := getD_mem (by omega)
  have hbl := hb _ hmem
  have hac := hI.acts
  have eN : (x + 1).toNat = x.toNat + 1 := by omega
  have e1 : (playN l (x.toNat + 1)).1 = (doS (playN l x.toNat).1 (l.getD x.toNat .zero)).1 := rfl
  generalize ha : l.getD x.toNat .zero = a at *
  have I := hI.inv
  generalize (playN l x.toNat).1 = s at *
  have ev : Ext v (allocW v hole) := (Upd.refl _).alloc _
  refine ⟨b, o, hp, x0, hxl, _, _, _, _, _, rfl, hr, ?_⟩
  refine (srvDo_ok (A.ext ev) I (by omega) a (bstr_list _) (by rw [bstr_sz]; exact hbl)).mono fun e w1 ⟨he, hm1, hw1⟩ => ⟨_, _, _, he, fun k3 => ?_, fun k3 => ?_⟩
  · have ed : Ext w1 (drewW (allocW w1 hole)) := ((Upd.refl (S := fun _ => False) w1).alloc _).drew
    have hv1 : Ext u (drewW (allocW w1 hole)) := (((hv.ext ev).trans hw1 fun k hk h => by omega).mono fun _ _ h => h).ext ed
    have B1 := ((B.ext ev).upd hw1 fun k _ hk => ⟨.inl hk, fun e => hne (hk.symm.trans e)⟩).ext ed
    obtain ⟨d1, d2⟩ := do_alike al (by omega) (by omega) a
    refine (srvDo_ok B1 I' n0 a (bstr_list _) (by rw [bstr_sz]; exact hbl)).mono fun e w2 ⟨he, hm2, hw2⟩ => ⟨_, _, _, he, fun hf => ?_, fun _ => ⟨by simp only [inK]; omega, ⟨by omega, by omega, by omega, ?_, ⟨_, hm2, ?_, do_inv I' a, ?_, ?_⟩, (hv1.trans hw2 fun k hk h => by omega).mono fun _ _ h => h⟩, by first | omega | (dsimp only; omega)⟩⟩
    · rw [d1] at hf
      simp at hf
    · rw [eN, e1]
      exact (hm1.ext ed).upd hw2 fun k _ hk => ⟨.inr hk, fun e => hne (e.symm.trans hk)⟩
    · rw [eN, e1]
      exact d2
    · rw [do_acts (by omega)]; omega
    · rw [do_acts (by omega)]; omega
  · have hsz := bstr_sz a.bytes
    generalize ht : IntKind.i64.wrap (cut + x) = t
    obtain ⟨c1, c2, c3, c4⟩ := cut_in t (((bstr a.bytes).size : Nat) + 1 : Int) (by omega) (by simp only [inK]; omega) (by omega)
    generalize hk : (t.tmod (((bstr a.bytes).size : Nat) + 1 : Int) + (((bstr a.bytes).size : Nat) + 1 : Int)) % (((bstr a.bytes).size : Nat) + 1 : Int) = k at *
    have ed : Ext w1 (drewW (drewW (allocW (allocW (drewW (allocW w1 hole)) hole) hole))) := (((((Upd.refl (S := fun _ => False) w1).alloc _).drew).alloc _).alloc _).drew.drew
    have hv1 : Ext u (drewW (drewW (allocW (allocW (drewW (allocW w1 hole)) hole) hole))) := (((hv.ext ev).trans hw1 fun k hk h => by omega).mono fun _ _ h => h).ext ed
    have B1 := ((B.ext ev).upd hw1 fun k _ hk => ⟨.inl hk, fun e => hne (hk.symm.trans e)⟩).ext ed
    have A1 := hm1.ext ed
    obtain ⟨p1, p2, p3⟩ := output_parts I al (by omega) (by omega) k3 (a.bytes.take k.toNat) (a.bytes.drop k.toNat) (List.take_append_drop _ _).symm
    have t1 : (bstr a.bytes).extract (0 : Int).toNat k.toNat = bstr (a.bytes.take k.toNat) := by rw [extract_bstr]; rfl
    have t2 : (bstr a.bytes).extract k.toNat (((bstr a.bytes).size : Nat) : Int).toNat = bstr (a.bytes.drop k.toNat) := by
      rw [extract_bstr, hsz]
      congr 1
      exact List.take_of_length_le (by rw [List.length_drop]; omega)
    rw [t1, t2]
    have l1 : (a.bytes.take k.toNat).length ≤ 1048576 := by rw [List.length_take]; omega
    have l2 : (a.bytes.drop k.toNat).length ≤ 1048576 := by rw [List.length_drop]; omega
    have a1 : (doS s' { a with bytes := a.bytes.take k.toNat }).1.acts = s'.acts + 1 := do_acts (by omega)
    have a2 : (doS (doS s' { a with bytes := a.bytes.take k.toNat }).1 { a with bytes := a.bytes.drop k.toNat }).1.acts = s'.acts + 2 := by rw [do_acts (by omega), a1]; omega
    have Ia := do_inv I' { a with bytes := a.bytes.take k.toNat }
    have Ib := do_inv Ia { a with bytes := a.bytes.drop k.toNat }
    refine ⟨by simp only [inK]; omega, by omega, c1, c2, by omega, ⟨by omega, by omega, by omega, by omega, by omega, by omega, ?_⟩, ⟨by omega, by omega, by omega, by omega, by omega, by omega, ?_⟩⟩
    all_goals
      refine (srvDo_ok B1 I' n0 { a with bytes := a.bytes.take k.toNat } (bstr_list _) (by rw [bstr_sz]; exact l1)).mono fun e w2 ⟨he, hm2, hw2⟩ => ⟨_, _, _, he, fun hf => (hf p1).elim, fun _ => ?_⟩
      refine (srvDo_ok hm2 Ia (by omega) { a with bytes := a.bytes.drop k.toNat } (bstr_list _) (by rw [bstr_sz]; exact l2)).mono fun e w4 ⟨he, hm4, hw4⟩ => ⟨_, _, _, he, fun hf => (hf p2).elim, fun _ => ⟨by simp only [inK]; omega, ⟨by omega, by omega, by omega, ?_, ⟨_, hm4, ?_, Ib, by omega, by omega⟩, ((hv1.trans hw2 fun k hk h => by omega : Ext u w2).trans hw4 fun k hk h => by omega)⟩, by first | omega | (dsimp only; omega)⟩⟩
      · rw [eN, e1]
        exact (A1.upd hw2 fun k _ hk => ⟨.inr hk, fun e => hne (e.symm.trans hk)⟩).upd hw4 fun k _ hk => ⟨.inr hk, fun e => hne (e.symm.trans hk)⟩
      · rw [eN, e1]
        exact p3

end Go.Proofs.YtkmmphkjmamckacDoor
