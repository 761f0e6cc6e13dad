/-
  A pane killed, a pane split off: the server's functions.
-/
import Derived.Test.YtkmmphkjmamckabDoorSFit
import Derived.Test.YtkmmphkjmamckabDoorZP
import Derived.Test.YtkmmphkjmamckabDoorZVd
namespace Go.Proofs.YtkmmphkjmamckabDoor
open Go
set_option linter.all false

theorem InvS.gz {s : Sv} (h : InvS s) (i : Nat) (hi : i < 6) : GoodG (gridOf s.v i) ∨ gridOf s.v i = .zero := (h.grid_or i hi).symm

theorem goodFew {t : Cols} (h : GoodT t) : FewT 10000000 t := ⟨by have := h.few'.n; omega, fun c hc => by have := h.few'.each c hc; omega⟩

theorem srvKill_ok {u : World} {sb : Nat} {B : Nat → Prop} {s : Sv} (h : SvM u sb B s) (I : InvS s) (p : Int) :
    Spec Tryd.prog fn_server_Server_kill #[.pointer (some ⟨sb, 0, none⟩), .int .i64 p] u fun e u' => e = .returned (.int .i64 (killS s p).2.code) ∧ SvM u' sb B (killS s p).1 ∧ Upd (· = sb) u u' := by
  apply vc_server_Server_kill_spec
  unfold vc_server_Server_kill
  simp only [decide_eq_true_eq, decide_eq_false_iff_not, true_and, Bool.not_eq_true', Bool.not_eq_false']
  obtain ⟨cs, hc, hrd⟩ := h.rd
  obtain ⟨tp, tc, kt, TF⟩ := hc.tiles
  have few := goodFew I.cols
  refine ⟨tp, _, tc, rfl, hrd kt, (tkill_ok TF.tl tc p few).mono fun e u1 ⟨⟨p1, c1, he, hT1, hF1⟩, hu1⟩ => ⟨_, _, _, _, he, fun hne => ?_, fun hz => ?_⟩⟩
  · have ha : Ext u (allocW u1 hole) := hu1.alloc _
    have : killS s p = (s, .no (killT s.v.cols p).2) := by unfold killS; exact if_pos hne
    rw [this]
    exact ⟨rfl, h.ext ha, ha.any⟩
  · have ha1 : Ext u1 (allocW u1 hole) := (Upd.refl _).alloc _
    have ha : Ext u (allocW u1 hole) := hu1.ext ha1
    have hlt := h.lt
    have TF2 : TlF (allocW u1 hole) (fun k => ¬ B k) p1 (killT s.v.cols p).1 := ((hF1 hz).upd (S := fun _ => False) ha1 fun _ _ h => h).mono fun k hk => h.new (by omega)
    obtain ⟨kg, kn, ko, kf⟩ := kill_good hz
    obtain ⟨m1, m2⟩ := (h.ext ha).setTiles c1 TF2 (o := 0 + 0 + 0) rfl
    have up2 : Upd (· = sb) u (putCells (allocW u1 hole) sb (0 + 0 + 0) [.slice p1 (killT s.v.cols p).1.length c1]) := (ha.any (S := (· = sb))).put (fun _ => rfl) _ _
    obtain ⟨cs2, hc2, hrd2⟩ := m2.rd
    have TF3 := TF2.upd (upd_put (u := allocW u1 hole) sb (0 + 0 + 0) [.slice p1 (killT s.v.cols p).1.length c1]) fun k hk e => hk (e ▸ h.own)
    have hks : killS s p = (fitS { s with v := { s.v with cols := (killT s.v.cols p).1, focus := if s.v.focus = p then ((killT s.v.cols p).1.getD 0 []).getD 0 0 else s.v.focus } }, .no 0) := by unfold killS; exact if_neg (by rw [hz]; simp)
    rw [hks]
    have kfew := goodFew kg
    have kne : 0 < (killT s.v.cols p).1.length := List.length_pos_iff.2 kg.some
    refine ⟨rfl, m1, _, rfl, hrd2 hc2.focus, fun hfp => ?_, fun hfp => ?_⟩
    · obtain ⟨b, o, q, c, hp1, hr1, hn1⟩ := TF3.tl.at (i := 0) kne
      have kc := (kg.each _ (getD_mem (d := []) kne)).1
      obtain ⟨b1, o1, hq1, hr2⟩ := hn1.at (i := 0) kc
      obtain ⟨n1, n2⟩ := m2.setFocus (((killT s.v.cols p).1.getD 0 []).getD 0 0) (o := 0 + 0 + 57) (by omega)
      refine ⟨b, o, hp1, by decide, by omega, _, _, _, rfl, hr1, b1, o1, hq1, by decide, by omega, _, rfl, hr2, rfl, n1, ?_⟩
      refine (sfit_ok n2 kfew I.gl I.pl I.gz).mono fun e u3 ⟨he, hm, hu3⟩ => ⟨he, rfl, ?_, ((up2.put (fun _ => rfl) _ _).trans hu3 fun _ _ h => h)⟩
      rw [if_pos hfp]
      exact hm
    · refine (sfit_ok m2 kfew I.gl I.pl I.gz).mono fun e u3 ⟨he, hm, hu3⟩ => ⟨he, rfl, ?_, up2.trans hu3 fun _ _ h => h⟩
      rw [if_neg hfp]
      exact hm

/-- A reply has come. -/
structure SvTo (u : World) (sb : Nat) (B : Nat → Prop) (r : Sv × Rp) (e : Ending) (u' : World) : Prop where
  e : e = .returned (.agg #[.int .i64 r.2.code, .int .i64 r.2.n, .string (bstr r.2.out)])
  mem : SvM u' sb B r.1
  upd : Upd (· = sb) u u'

theorem free_none_iff {t : Cols} : ∀ (l : List Nat), (∀ i ∈ l, hasT t (i : Nat) = true) → (l.find? fun n : Nat => !hasT t n) = none
  | [], _ => rfl
  | a :: l, h => by
    rw [List.find?_cons, h a List.mem_cons_self]
    show (l.find? fun n : Nat => !hasT t n) = none
    exact free_none_iff l fun i hi => h i (List.mem_cons_of_mem _ hi)

theorem free_at {t : Cols} {x : Nat} (hx : x < 6) (h : ∀ i, i < x → hasT t (i : Nat) = true) (hn : hasT t (x : Nat) = false) : freePane t = some x := by
  unfold freePane
  have e : [0, 1, 2, 3, 4, 5] = List.range 6 := rfl
  have key : ∀ (a m : Nat), (∀ i, i < a → hasT t (i : Nat) = true) → hasT t (a : Nat) = false → a < m → ((List.range m).find? fun n : Nat => !hasT t n) = some a := fun a m h1 h2 h3 => by
    rw [List.find?_range_eq_some]
    refine ⟨by rw [h2]; rfl, by simpa using h3, fun j hj => by rw [h1 j hj]; rfl⟩
  rw [e]
  exact key x 6 h hn hx

theorem srvSplit_ok {u : World} {sb : Nat} {B : Nat → Prop} {s : Sv} (h : SvM u sb B s) (I : InvS s) (a : Ac) (by_ : ByteArray) :
    Spec Tryd.prog fn_server_Server_split #[.pointer (some ⟨sb, 0, none⟩), .agg #[.int .i64 a.kind, .int .i64 a.p, .int .i64 a.n, .int .i64 a.m, .string by_]] u (SvTo u sb B (splitS s a)) := by
  apply vc_server_Server_split_spec
  unfold vc_server_Server_split
  simp only [decide_eq_true_eq, decide_eq_false_iff_not, true_and, Bool.not_eq_true', Bool.not_eq_false']
  have hu : Ext u (allocW (allocW u hole) hole) := ((Upd.refl u).alloc _).alloc _
  have few := goodFew I.cols
  refine ⟨fun x _ _ _ v => Ext u v ∧ 0 ≤ x ∧ x ≤ 6 ∧ ∀ i : Nat, i < x.toNat → hasT s.v.cols (i : Nat) = true, fun x _ _ _ _ => (6 - x).toNat, ⟨hu, by omega, by omega, by omega⟩, ?_⟩
  rintro x _ _ _ v ⟨hv, h0, h6, hi⟩
  have hm := h.ext hv
  obtain ⟨cs, hc, hrd⟩ := hm.rd
  obtain ⟨tp, tc, kt, TF⟩ := hc.tiles
  have hxc : ((x.toNat : Nat) : Int) = x := by omega
  refine ⟨fun hx => ⟨tp, _, tc, rfl, hrd kt, (has_ok TF.tl tc x few).mono fun e v1 ⟨he, hv1⟩ => ⟨_, he, fun hh => ⟨by simp only [inK]; omega, ⟨hv.ext hv1, by omega, by omega, fun i hi2 => ?_⟩, by first | omega | (dsimp only; omega)⟩, fun hh => ?_⟩⟩, fun hx => ?_⟩
  · rcases (by omega : i < x.toNat ∨ i = x.toNat) with h7 | rfl
    · exact hi i h7
    · rw [hxc]; exact hh
  · have hfree : freePane s.v.cols = some x.toNat := free_at (by omega) hi (by rw [hxc]; exact hh)
    have hsp : splitS s a = if (splitT s.v.cols a.p x.toNat (decide (a.n = 1))).2 ≠ 0 then (s, .no (splitT s.v.cols a.p x.toNat (decide (a.n = 1))).2) else (fitS { s with v := { s.v with cols := (splitT s.v.cols a.p x.toNat (decide (a.n = 1))).1, focus := (x.toNat : Nat) } }, ⟨0, (x.toNat : Nat), []⟩) := by unfold splitS; rw [hfree]
    rw [hxc] at hsp
    have hd : Ext v (drewW v1) := hv1.drew
    have rd1 : ∀ {w : World}, Ext v w → Rd w sb (0 + 0 + 0) [.slice tp s.v.cols.length tc] := fun hw => hw.rd (hrd kt) fun h => h
    have ze : bstr [] = ByteArray.mk #[] := rfl
    refine ⟨tp, _, tc, rfl, rd1 hd, ⟨?_, ?_⟩⟩
    · refine (tsplit_ok (TF.tl.ext hd) tc a.p x (decide (a.n = 1)) few).mono fun e w1 ⟨⟨p1, c1, he, hT1, hF1⟩, hw1⟩ => ⟨_, _, _, _, he, rd1 ((hd.ext hw1).alloc _), fun hne => ?_, fun hz => ?_⟩
      · have ha := (hd.ext hw1).alloc hole
        rw [hsp, if_pos hne]
        exact ⟨rfl, hm.ext ha, (hv.ext ha).any⟩
      · have ha1 : Ext w1 (allocW w1 hole) := (Upd.refl _).alloc _
        have ha : Ext v (allocW w1 hole) := (hd.ext hw1).ext ha1
        rw [hsp, if_neg (by rw [hz]; simp)]
        have hlt := hm.lt
        have TF2 := ((hF1 hz).upd (S := fun _ => False) ha1 fun _ _ h => h).mono (ok' := fun k => ¬ B k) fun k hk => hm.new (by have := hd.size; omega)
        have kfew := goodFew (split_good hz).1
        obtain ⟨m1, m2⟩ := (hm.ext ha).setTiles c1 TF2 (o := 0 + 0 + 0) rfl
        obtain ⟨n1, n2⟩ := m2.setFocus x (o := 0 + 0 + 57) (by omega)
        have up := (((hv.ext ha).any (S := (· = sb))).put (b := sb) (fun _ => rfl) (0 + 0 + 0) [.slice p1 (splitT s.v.cols a.p x (decide (a.n = 1))).1.length c1]).put (b := sb) (fun _ => rfl) (0 + 0 + 57) [.int .i64 x]
        exact ⟨rfl, m1, rfl, n1, (sfit_ok n2 kfew I.gl I.pl I.gz).mono fun e w3 ⟨he, hm3, hw3⟩ => ⟨he, rfl, hm3, up.trans hw3 fun _ _ h => h⟩⟩
    · have hal : Ext v (allocW (drewW v1) hole) := hd.alloc _
      refine ⟨rd1 hal, (tsplit_ok (TF.tl.ext hal) tc a.p x (decide (a.n = 1)) few).mono fun e w1 ⟨⟨p1, c1, he, hT1, hF1⟩, hw1⟩ => ⟨_, _, _, _, he, fun hne => ?_, fun hz => ?_⟩⟩
      · have ha := hal.ext hw1
        rw [hsp, if_pos hne]
        exact ⟨rfl, hm.ext ha, (hv.ext ha).any⟩
      · have ha : Ext v w1 := hal.ext hw1
        rw [hsp, if_neg (by rw [hz]; simp)]
        have hlt := hm.lt
        have TF2 := (hF1 hz).mono (ok' := fun k => ¬ B k) fun k hk => hm.new (by have := hal.size; omega)
        have kfew := goodFew (split_good hz).1
        obtain ⟨m1, m2⟩ := (hm.ext ha).setTiles c1 TF2 (o := 0 + 0 + 0) rfl
        obtain ⟨n1, n2⟩ := m2.setFocus x (o := 0 + 0 + 57) (by omega)
        have up := (((hv.ext ha).any (S := (· = sb))).put (b := sb) (fun _ => rfl) (0 + 0 + 0) [.slice p1 (splitT s.v.cols a.p x (decide (a.n = 1))).1.length c1]).put (b := sb) (fun _ => rfl) (0 + 0 + 57) [.int .i64 x]
        exact ⟨rfl, m1, rfl, n1, (sfit_ok n2 kfew I.gl I.pl I.gz).mono fun e w3 ⟨he, hm3, hw3⟩ => ⟨he, rfl, hm3, up.trans hw3 fun _ _ h => h⟩⟩
  · have hfree : freePane s.v.cols = none := by
      unfold freePane
      exact free_none_iff [0, 1, 2, 3, 4, 5] fun i hi3 => hi i (by simp at hi3; omega)
    have hsp : splitS s a = (s, .no 5) := by unfold splitS; rw [hfree]
    rw [hsp]
    exact ⟨rfl, hm, hv.any⟩

end Go.Proofs.YtkmmphkjmamckabDoor
