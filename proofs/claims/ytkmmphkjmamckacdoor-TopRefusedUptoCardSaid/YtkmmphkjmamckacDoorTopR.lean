/-
  One more act that is refused changes nothing.
-/
import Derived.Test.YtkmmphkjmamckacDoorPlayQ
import Derived.Test.YtkmmphkjmamckacDoorTopSame2
import Derived.Test.YtkmmphkjmamckacDoorZVf
namespace Go.Proofs.YtkmmphkjmamckacDoor
open Go
set_option linter.all false

theorem topRefused_ok {u : World} {p : Option Addr} {l : List Ac} (hl : ActL u p l) (c : Nat) (hb : ∀ a ∈ l, a.bytes.length ≤ 1048576) (k q n m : Int) (b : ByteArray) (hbs : b.size ≤ 1048576) :
    Spec Tryd.prog fn_fenestratop_TopRefused #[.slice p l.length c, .agg #[.int .i64 k, .int .i64 q, .int .i64 n, .int .i64 m, .string b]] u (Told u true) := by
  apply vc_fenestratop_TopRefused_spec
  unfold vc_fenestratop_TopRefused
  simp only [decide_eq_true_eq, decide_eq_false_iff_not, true_and, Bool.not_eq_true', Bool.not_eq_false']
  have h0 : Ext u (allocW u hole) := (Upd.refl u).alloc _
  have h0s := h0.size
  refine (vc_fenestratop_play_quiet_spec _ _ _ (play_quiet_ok (hl.ext h0) hb c)).mono fun e u1 ⟨⟨sb, tb, he, P⟩, hu1⟩ => ⟨sb, 0, tb, 0, true, he, ?_⟩
  refine (vc_fenestratop_play_quiet_spec _ _ _ (play_quiet_ok (hl.ext (h0.ext hu1)) hb c)).mono fun e u2 ⟨⟨gb, ub, he, Q⟩, hu2⟩ => ⟨gb, 0, ub, 0, true, he, fun hn => (by cases hn), fun _ => ⟨fun hn => (by cases hn), fun _ => ?_⟩⟩
  have hI := play_inv l (min l.length 100) (by omega)
  generalize (playN l (min l.length 100)).1 = s at *
  generalize (playN l (min l.length 100)).2 = t at *
  have P2 := P.ext hu2
  have hlt := P.sv.lt
  have hsn := P.sn
  have hac := hI.acts
  refine (srvDo_ok P2.sv hI.inv (by omega) ⟨k, q, n, m, b.data.toList⟩ (by_ := b) rfl hbs).mono fun e u3 ⟨he, hm, hu3⟩ => ⟨_, _, _, he, ?_⟩
  have hx : Ext u (allocW u3 hole) := ((((h0.ext hu1).ext hu2).trans hu3 fun k hk h => by omega).mono fun _ _ h => h).alloc _
  have ha : Ext u3 (allocW u3 hole) := (Upd.refl _).alloc _
  refine ⟨fun _ => ⟨rfl, hx⟩, fun hc => ?_⟩
  obtain ⟨al, hn, ho⟩ := do_refused hc
  refine ⟨fun _ => ⟨fun _ => ?_, fun hf => ?_⟩, fun hf => (hf hn).elim⟩
  · have Q3 := (Q.upd hu3 fun k hk => by omega).ext ha
    refine (srvSame_ok Q3.sv (hm.ext ha) hI.inv (do_inv hI.inv _) al.v al.clients).mono fun e w ⟨he, hw⟩ => ⟨_, he, rfl, hx.ext hw⟩
  · refine (hf ?_).elim
    rw [ho, bstr_list]

end Go.Proofs.YtkmmphkjmamckacDoor
