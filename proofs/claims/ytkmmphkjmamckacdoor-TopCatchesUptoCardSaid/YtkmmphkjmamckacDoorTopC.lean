/-
  Behind everything they catch up.
-/
import Derived.Test.YtkmmphkjmamckacDoorPlayQ
import Derived.Test.YtkmmphkjmamckacDoorTmShow
import Derived.Test.YtkmmphkjmamckacDoorVTopC
namespace Go.Proofs.YtkmmphkjmamckacDoor
open Go
set_option linter.all false

/-- Who takes all that waits has taken it. -/
theorem drain_all {k : Int} {s : Sv} {t : List Tm} (h : PlayI k s t) (hk : k < 300) {c : Int} (h0 : 0 ≤ c) (h3 : c < 3) (hh : (clientOf s c.toNat).here = true) :
    (doS s ⟨9, c, 4000, 0, []⟩).2.code = 0 ∧ (clientOf (doS s ⟨9, c, 4000, 0, []⟩).1 c.toNat).here = true ∧ (clientOf (doS s ⟨9, c, 4000, 0, []⟩).1 c.toNat).queue = [] ∧ ∀ j, j ≠ c.toNat → clientOf (doS s ⟨9, c, 4000, 0, []⟩).1 j = clientOf s j := by
  have hi := h.inv.acts (s.acts + 1)
  have hacts := h.acts
  have hq := ((h.inv.clients c.toNat (by omega)).on hh).2
  have hd : drainN 4000 (clientOf s c.toNat).queue = (clientOf s c.toNat).queue.length := by unfold drainN; omega
  have he : doS s ⟨9, c, 4000, 0, []⟩ = ({ s with acts := s.acts + 1, clients := s.clients.set c.toNat { clientOf s c.toNat with queue := [] } }, ⟨0, drainN 4000 (clientOf s c.toNat).queue, (clientOf s c.toNat).queue.take (drainN 4000 (clientOf s c.toNat).queue)⟩) := by
    rw [do_lt (by omega), act_visit (.inr (.inr rfl))]
    unfold visitS
    dsimp only
    rw [if_neg (by omega), if_neg (by decide), if_neg (show ¬ (clientOf { s with acts := s.acts + 1 } c.toNat).here = false by show ¬ (clientOf s c.toNat).here = false; rw [hh]; simp), if_neg (by decide)]
    show (({ s with acts := s.acts + 1, clients := s.clients.set c.toNat { clientOf s c.toNat with queue := (clientOf s c.toNat).queue.drop (drainN 4000 (clientOf s c.toNat).queue) } } : Sv), _) = _
    rw [hd, List.drop_length]
  have hlen : c.toNat < s.clients.length := by rw [h.inv.cl]; omega
  rw [he]
  have hset : ∀ j, clientOf ({ s with acts := s.acts + 1, clients := s.clients.set c.toNat { clientOf s c.toNat with queue := [] } } : Sv) j = if j = c.toNat then { clientOf s c.toNat with queue := [] } else clientOf s j := fun j => getD_set _ _ hlen
  refine ⟨rfl, ?_, ?_, fun j hj => ?_⟩
  · rw [hset, if_pos rfl]; exact hh
  · rw [hset, if_pos rfl]
  · rw [hset, if_neg hj]

theorem topCatches_ok {u : World} {p : Option Addr} {l : List Ac} (hl : ActL u p l) (c : Nat) (hb : ∀ a ∈ l, a.bytes.length ≤ 1048576) :
    Spec Tryd.prog fn_fenestratop_TopCatches #[.slice p l.length c] u (Told u true) := by
  apply vc_fenestratop_TopCatches_spec
  unfold vc_fenestratop_TopCatches
  simp only [decide_eq_true_eq, decide_eq_false_iff_not, true_and, Bool.not_eq_true', Bool.not_eq_false']
  refine (vc_fenestratop_play_quiet_spec _ _ _ (play_quiet_ok hl hb c)).mono fun e u1 ⟨⟨sb, tb, he, P⟩, hu1⟩ => ⟨sb, 0, tb, 0, true, he, fun hn => (by cases hn), fun _ => ?_⟩
  have hI := play_inv l (min l.length 100) (by omega)
  generalize hs0 : (playN l (min l.length 100)).1 = s0 at *
  generalize ht0 : (playN l (min l.length 100)).2 = t0 at *
  have hsn := P.sn
  have htn := P.tn
  refine ⟨fun x v => 0 ≤ x ∧ x ≤ 3 ∧ (∃ (s : Sv) (t : List Tm) (k : Nat), PlayM u.heap.size v sb tb s t ∧ PlayI k s t ∧ (k : Int) ≤ 100 + x ∧ ∀ j : Nat, j < x.toNat → (clientOf s j).here = true → (clientOf s j).queue = []) ∧ Ext u v, fun x _ => (3 - x).toNat, ⟨by omega, by omega, ⟨s0, t0, _, P, hI, by omega, fun j hj => by omega⟩, hu1⟩, ?_⟩
  rintro x v ⟨x0, x3, ⟨s, t, k, P, I, hk, hq⟩, hv⟩
  have hac := I.acts
  have hx1 : (x + 1).toNat = x.toNat + 1 := by omega
  refine ⟨fun hx => ?_, fun hx => ?_⟩
  · refine (srvClient_ok P.sv x).mono fun e w1 ⟨he, hw1⟩ => ⟨_, _, _, he, fun hn => ?_, fun hh => ?_⟩
    · refine ⟨by simp only [inK]; omega, ⟨by omega, by omega, ⟨s, t, k, P.ext hw1, I, by omega, fun j hj hjh => ?_⟩, hv.ext hw1⟩, by first | omega | (dsimp only; omega)⟩
      rcases (by omega : j < x.toNat ∨ j = x.toNat) with h7 | h7
      · exact hq j h7 hjh
      · subst h7
        rw [tell_here x0 hx hjh] at hn
        cases hn
    have hh : (clientOf s x.toNat).here = true := by
      cases hc : (clientOf s x.toNat).here with
      | true => rfl
      | false => rw [tell_gone hc] at hh; cases hh
    obtain ⟨d1, d2, d3, d4⟩ := drain_all I (by omega) x0 hx hh
    obtain ⟨q0, q3, q4, q5, q6⟩ := do_drain I (by omega) (a := ⟨9, x, 4000, 0, []⟩) rfl d1
    have I2 := I.step (by omega) ⟨9, x, 4000, 0, []⟩
    have hst : stepT t ⟨9, x, 4000, 0, []⟩ (doS s ⟨9, x, 4000, 0, []⟩).2 = t.set x.toNat (getT (tmOf t x.toNat) (doS s ⟨9, x, 4000, 0, []⟩).2.out) := by unfold stepT; rw [if_neg (by simp), if_pos ⟨d1, rfl⟩]
    have P1 := P.ext hw1
    refine (srvDo_ok P1.sv I.inv I.ge ⟨9, x, 4000, 0, []⟩ (by_ := ByteArray.mk #[]) rfl (by decide)).mono fun e w2 ⟨he, hm2, hw2⟩ => ⟨_, _, _, he, ?_⟩
    have P2 := P1.do_ hw2 hm2
    have ha : Ext w2 (allocW w2 hole) := (Upd.refl _).alloc _
    refine (srvClient_ok (P2.ext ha).sv x).mono fun e w3 ⟨he, hw3⟩ => ⟨_, _, _, he, fun hn => (hn d1).elim, fun _ => ⟨fun hn => (hn ?_).elim, fun _ => ⟨x0, hx, ?_⟩⟩⟩
    · rw [tell_here x0 hx d2, d3, bstr_list]
    have hd : Ext w3 (drewW w3) := (Upd.refl _).drew
    have x3' := (ha.ext hw3).ext hd
    have P3 := P2.ext x3'
    have hv2 : Ext u w2 := ((hv.ext hw1).trans hw2 fun k hk h => by omega).mono fun _ _ h => h
    refine (P3.tm.get I.len (c := x.toNat) (by omega) (o := 0 + x.toNat * 13) (by omega) q4 q5 (bstr_list _) (by omega)).mono fun e w4 ⟨he, hm4, hw4⟩ => ⟨_, he, fun hn => (by cases hn), fun _ => ?_⟩
    have P4 := P3.got hw4 hm4
    rw [← hst] at P4
    refine ⟨by simp only [inK]; omega, ⟨by omega, by omega, ⟨_, _, k + 1, P4, I2, by omega, fun j hj hjh => ?_⟩, ((hv2.ext x3').trans hw4 fun k hk h => by omega).mono fun _ _ h => h⟩, by first | omega | (dsimp only; omega)⟩
    by_cases e : j = x.toNat
    · subst e; exact d3
    · rw [d4 j e] at hjh ⊢
      exact hq j (by omega) hjh
  · have hxe : x.toNat = 3 := by omega
    refine (srvDo_ok P.sv I.inv I.ge ⟨8, 0, 0, 0, []⟩ (by_ := ByteArray.mk #[]) rfl (by decide)).mono fun e w2 ⟨he, hm2, hw2⟩ => ⟨_, _, _, he, ?_⟩
    have P2 := P.do_ hw2 hm2
    have hi := I.inv.acts (s.acts + 1)
    have hdo : doS s ⟨8, 0, 0, 0, []⟩ = (tickS { s with acts := s.acts + 1 }, .no 0) := by rw [do_lt (by omega), act_tick rfl]
    have hv2 : Ext u w2 := (hv.trans hw2 fun k hk h => by omega).mono fun _ _ h => h
    have hclean : ∀ j : Nat, j < 3 → (clientOf (doS s ⟨8, 0, 0, 0, []⟩).1 j).here = true → (clientOf (doS s ⟨8, 0, 0, 0, []⟩).1 j).lost = false := fun j hj hjh => by
      rw [hdo] at hjh ⊢
      dsimp only at hjh ⊢
      rw [tick_client hi hj] at hjh ⊢
      have sl := show_law hi.grid_or (hi.clients j hj)
      have hh : (clientOf { s with acts := s.acts + 1 } j).here = true := by rw [← sl.here]; exact hjh
      exact sl.clean hh (hq j (by omega) hh)
    refine ⟨fun hn => (hn (by rw [hdo])).elim, fun _ => ⟨fun y w => 0 ≤ y ∧ y ≤ 3 ∧ Ext w2 w, fun y _ => (3 - y).toNat, ⟨by omega, by omega, Upd.refl _⟩, ?_⟩⟩
    rintro y w ⟨y0, y3, hw⟩
    refine ⟨fun hy => ?_, fun hy => ⟨rfl, hv2.ext hw⟩⟩
    refine (srvClient_ok (P2.ext hw).sv y).mono fun e w3 ⟨he, hw3⟩ => ⟨_, _, _, he, fun hh => ?_, fun hn => ⟨by simp only [inK]; omega, ⟨by omega, by omega, hw.ext hw3⟩, by first | omega | (dsimp only; omega)⟩⟩
    have hh : (clientOf (doS s ⟨8, 0, 0, 0, []⟩).1 y.toNat).here = true := by
      cases hc : (clientOf (doS s ⟨8, 0, 0, 0, []⟩).1 y.toNat).here with
      | true => rfl
      | false => rw [tell_gone hc] at hh; cases hh
    have hlost := hclean y.toNat (by omega) hh
    refine ⟨fun hn => ?_, fun _ => ⟨y0, hy, ?_⟩⟩
    · rw [tell_here y0 hy hh] at hn
      have : (clientOf (doS s ⟨8, 0, 0, 0, []⟩).1 y.toNat).lost = true := hn
      rw [hlost] at this
      cases this
    obtain ⟨k1, k2, k3, g, k4, k5⟩ := shown_after I (by omega) (a := ⟨8, 0, 0, 0, []⟩) rfl y0 hy hh hlost
    have P3 := P2.ext (hw.ext hw3)
    obtain ⟨⟨ts, hbk, hlk, hat⟩, _, _⟩ := P3.tm
    obtain ⟨z, zr, zl, zt⟩ := (hat y.toNat (by omega)).chunk (by omega)
    refine ⟨z, zl.symm, by rw [show 0 + y.toNat * 13 = y.toNat * 13 by omega]; exact hbk.rdAt zr, ?_⟩
    exact (shown_ok P3.sv (do_inv I.inv _) zt zl k1 k2 y k3 k4 k5).mono fun e w4 ⟨he, hw4⟩ => ⟨_, he, fun hn => (by cases hn), fun _ => ⟨by simp only [inK]; omega, ⟨by omega, by omega, (hw.ext hw3).ext hw4⟩, by first | omega | (dsimp only; omega)⟩⟩

end Go.Proofs.YtkmmphkjmamckacDoor
