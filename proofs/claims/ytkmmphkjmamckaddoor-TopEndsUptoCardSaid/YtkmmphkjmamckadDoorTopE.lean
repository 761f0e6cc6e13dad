/-
  Behind as many acts as may be done each further one is refused and changes nothing.
-/
import Derived.Test.YtkmmphkjmamckadDoorPlayQ
import Derived.Test.YtkmmphkjmamckadDoorTopSame2
import Derived.Test.YtkmmphkjmamckadDoorZVf
namespace Go.Proofs.YtkmmphkjmamckadDoor
open Go
set_option linter.all false

theorem do_none {s : Sv} (h : s.acts < 300) : doS s .zero = ({ s with acts := s.acts + 1 }, .no 2) := by
  rw [do_lt h]
  rfl

theorem topEnds_ok {u : World} {p : Option Addr} {l : List Ac} (hl : ActL u p l) (c : Nat) (hb : ∀ a ∈ l, a.bytes.length ≤ 1048576) (k q n m : Int) (b : ByteArray) (hbs : b.size ≤ 1048576) :
    Spec Tryd.prog fn_fenestratop_TopEnds #[.slice p l.length c, .agg #[.int .i64 k, .int .i64 q, .int .i64 n, .int .i64 m, .string b]] u (Told u true) := by
  apply vc_fenestratop_TopEnds_spec
  unfold vc_fenestratop_TopEnds
  simp only [decide_eq_true_eq, decide_eq_false_iff_not, true_and, Bool.not_eq_true', Bool.not_eq_false', Bool.and_eq_true, Bool.and_eq_false_iff]
  have h0 : Ext u (allocW u hole) := (Upd.refl u).alloc _
  have h0s := h0.size
  refine (vc_fenestratop_play_quiet_spec _ _ _ (play_quiet_ok (hl.ext h0) hb c)).mono fun e u1 ⟨⟨sb, tb, he, P⟩, hu1⟩ => ⟨sb, 0, tb, 0, true, he, ?_⟩
  refine (vc_fenestratop_play_quiet_spec _ _ _ (play_quiet_ok (hl.ext (h0.ext hu1)) hb c)).mono fun e u2 ⟨⟨gb, ub, he, Q⟩, hu2⟩ => ⟨gb, 0, ub, 0, true, he, fun hn => (by cases hn), fun _ => ⟨fun hn => (by cases hn), fun _ => ?_⟩⟩
  have hI := play_inv l (min l.length 100) (by omega)
  generalize (playN l (min l.length 100)).1 = s at *
  generalize (playN l (min l.length 100)).2 = t at *
  have hac := hI.acts
  have hlt := P.sv.lt
  have hsn := P.sn
  have hgn := Q.sn
  have hgl := Q.sv.lt
  have hu2s := hu2.size
  have hne : ¬ sb = gb := by omega
  have S2 : SvM u2 sb (fun k => k = sb ∨ k = gb) s := P.sv.more hI.inv.cols hu2 (.inl rfl) fun k hk => by omega
  have G2 : SvM u2 gb (fun k => k = sb ∨ k = gb) s := Q.sv.more hI.inv.cols (Upd.refl _) (.inr rfl) fun k hk => by omega
  have es : ∀ x : Int, x = min ((l.length : Nat) : Int) 100 → ({ s with acts := x } : Sv) = s := fun x hx => by
    have : x = s.acts := by rw [hac]; omega
    rw [this]
  have Ix := fun x : Int => hI.inv.acts x
  refine ⟨fun x v => 0 ≤ x ∧ x ≤ 300 ∧ SvM v sb (fun k => k = sb ∨ k = gb) { s with acts := x } ∧ SvM v gb (fun k => k = sb ∨ k = gb) { s with acts := x } ∧ Ext u v, fun x _ => (300 - x).toNat, ⟨by omega, by omega, by rw [es _ rfl]; exact S2, by rw [es _ rfl]; exact G2, (h0.ext hu1).ext hu2⟩, ?_⟩
  rintro x v ⟨x0, x3, S, G, hv⟩
  refine ⟨fun hx => ?_, fun hx => ?_⟩
  · have d1 := do_none (s := { s with acts := x }) hx
    refine (srvDo_ok S (Ix x) x0 .zero (by_ := ByteArray.mk #[]) rfl (by decide)).mono fun e w1 ⟨he, hm1, hw1⟩ => ⟨_, _, _, he, fun hf => ?_, fun _ => ?_⟩
    · rw [d1] at hf
      exact (hf rfl).elim
    rw [d1] at hm1
    have hv1 : Ext u w1 := (hv.trans hw1 fun k hk h => by omega).mono fun _ _ h => h
    refine (srvDo_ok (G.upd hw1 fun k _ hk => ⟨.inl hk, fun e => hne (hk.symm.trans e)⟩) (Ix x) x0 .zero (by_ := ByteArray.mk #[]) rfl (by decide)).mono fun e w2 ⟨he, hm2, hw2⟩ => ⟨_, _, _, he, fun hf => ?_, fun _ => ?_⟩
    · rw [d1] at hf
      exact (hf rfl).elim
    rw [d1] at hm2
    exact ⟨by simp only [inK]; omega, ⟨by omega, by omega, hm1.upd hw2 fun k _ hk => ⟨.inr hk, fun e => hne (e.symm.trans hk)⟩, hm2, (hv1.trans hw2 fun k hk h => by omega).mono fun _ _ h => h⟩, by first | omega | (dsimp only; omega)⟩
  · have hfull : ∀ a, doS { s with acts := x } a = ({ s with acts := x }, .no 5) := fun a => by
      unfold doS
      exact if_pos (by show 300 ≤ x; omega)
    refine (srvDo_ok S (Ix x) x0 ⟨k, q, n, m, b.data.toList⟩ (by_ := b) rfl hbs).mono fun e w1 ⟨he, hm1, hw1⟩ => ⟨_, _, _, he, ?_⟩
    rw [hfull] at hm1 ⊢
    have hv1 : Ext u w1 := (hv.trans hw1 fun k hk h => by omega).mono fun _ _ h => h
    refine ⟨fun _ => ?_, fun hf => ?_⟩
    · exact (srvSame_ok (G.upd hw1 fun k _ hk => ⟨.inl hk, fun e => hne (hk.symm.trans e)⟩) hm1 (Ix x) (Ix x) rfl rfl).mono fun e w ⟨he, hw⟩ => ⟨_, he, rfl, hv1.ext hw⟩
    · rcases hf with h | h | h
      · exact (h rfl).elim
      · exact (h rfl).elim
      · exact (h rfl).elim

end Go.Proofs.YtkmmphkjmamckadDoor
