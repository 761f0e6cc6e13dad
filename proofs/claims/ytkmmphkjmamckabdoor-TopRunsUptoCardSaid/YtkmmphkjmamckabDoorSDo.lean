/-
  What comes of an act: the server's function.
-/
import Derived.Test.YtkmmphkjmamckabDoorSShow2
import Derived.Test.YtkmmphkjmamckabDoorPWalk2
import Derived.Test.YtkmmphkjmamckabDoorZVe
import Derived.Test.YtkmmphkjmamckabDoorZVd
namespace Go.Proofs.YtkmmphkjmamckabDoor
open Go
set_option linter.all false

theorem doC_ok (n : Int) {u : World} : Spec Tryd.prog fn_server_Server_Do_c1 #[.int .i64 n] u fun e u' => e = .returned (.agg #[.int .i64 n, .int .i64 0, .string (ByteArray.mk #[])]) ∧ Ext u u' := by
  apply vc_server_Server_Do_c1_spec
  unfold vc_server_Server_Do_c1
  exact ⟨rfl, (Upd.refl _).alloc _⟩

theorem EvL.updF {S : Nat → Prop} {u u' : World} {ok : Nat → Prop} {p : Option Addr} {n : Nat} {es : List Ev} (h : EvL u ok p n es) (hu : Upd S u u') (hk : ∀ k, ok k → ¬ S k) (hp : ∀ k, At p k → ¬ S k) : EvL u' ok p n es := by
  obtain ⟨xs, h1, h2⟩ := h
  exact ⟨xs, h1.upd hu hp, h2.upd hu fun k hk1 => ⟨hk k hk1, hk1⟩⟩

theorem SvTo.no {u v : World} {sb : Nat} {B : Nat → Prop} {s : Sv} (h : SvM v sb B s) (hu : Upd (· = sb) u v) (n : Int) : SvTo u sb B (s, .no n) (.returned (.agg #[.int .i64 n, .int .i64 0, .string (ByteArray.mk #[])])) v := ⟨rfl, h, hu⟩

set_option maxHeartbeats 4000000 in
theorem srvDo_ok {u : World} {sb : Nat} {B : Nat → Prop} {s : Sv} (h : SvM u sb B s) (I : InvS s) (hacts : 0 ≤ s.acts) (a : Ac) {by_ : ByteArray} (hby : by_.data.toList = a.bytes) (hbs : by_.size ≤ 1048576) :
    Spec Tryd.prog fn_server_Server_Do #[.pointer (some ⟨sb, 0, none⟩), .agg #[.int .i64 a.kind, .int .i64 a.p, .int .i64 a.n, .int .i64 a.m, .string by_]] u (SvTo u sb B (doS s a)) := by
  apply vc_server_Server_Do_spec
  unfold vc_server_Server_Do
  simp only [decide_eq_true_eq, decide_eq_false_iff_not, true_and, Bool.not_eq_true', Bool.not_eq_false']
  have hu : Ext u (allocW (allocW u hole) hole) := ((Upd.refl u).alloc _).alloc _
  refine ⟨fun hn => (by cases hn), fun _ => ?_⟩
  have M0 := h.ext hu
  obtain ⟨cs, hc, hrd⟩ := M0.rd
  have ra : Rd (allocW (allocW u hole) hole) sb (0 + 118) [.int .i64 s.acts] := by rw [Nat.zero_add]; exact hrd hc.acts
  have few := goodFew I.cols
  refine ⟨_, rfl, ra, fun hfull => ?_, fun hfull => ⟨_, rfl, ra, by simp only [inK]; omega, rfl, ?_⟩⟩
  · refine (doC_ok 5).mono fun e u1 ⟨he, hu1⟩ => ⟨_, _, _, he, ?_⟩
    have : doS s a = (s, .no 5) := by unfold doS; rw [if_pos hfull]
    rw [this]
    exact SvTo.no (M0.ext hu1) ((hu.ext hu1).any) 5
  obtain ⟨w1, M1⟩ := M0.setActs (s.acts + 1) (o := 0 + 118) (by omega)
  refine ⟨w1, ?_⟩
  have up1 : Upd (· = sb) u (putCells (allocW (allocW u hole) hole) sb (0 + 118) [.int .i64 (s.acts + 1)]) := (hu.any (S := (· = sb))).put (fun _ => rfl) _ _
  generalize putCells (allocW (allocW u hole) hole) sb (0 + 118) [.int .i64 (s.acts + 1)] = U0 at M1 up1 ⊢
  have hdo : doS s a = actS { s with acts := s.acts + 1 } a := by unfold doS; rw [if_neg hfull]
  rw [hdo]
  have I1 : InvS { s with acts := s.acts + 1 } := I.acts _
  have hact : actS { s with acts := s.acts + 1 } a = if a.kind = 1 then splitS { s with acts := s.acts + 1 } a
    else if a.kind = 2 then killS { s with acts := s.acts + 1 } a.p
    else if a.kind = 3 ∨ a.kind = 4 then
      if hasT s.v.cols a.p = false then ({ s with acts := s.acts + 1 }, .no 3)
      else if a.kind = 4 then ({ s with acts := s.acts + 1, v := { s.v with focus := a.p } }, .no 0)
      else (outputS { s with acts := s.acts + 1 } a.p.toNat a.bytes, .no 0)
    else if a.kind = 5 then
      if a.n < 1 ∨ 24 < a.n ∨ a.m < 1 ∨ 10 < a.m then ({ s with acts := s.acts + 1 }, .no 1)
      else (fitS { s with acts := s.acts + 1, v := { s.v with wide := a.n, high := a.m } }, .no 0)
    else if a.kind = 8 then (tickS { s with acts := s.acts + 1 }, .no 0)
    else if a.kind = 6 ∨ a.kind = 7 ∨ a.kind = 9 then visitS { s with acts := s.acts + 1 } a
    else ({ s with acts := s.acts + 1 }, .no 2) := rfl
  have hdU : Ext U0 (drewW U0) := (Upd.refl _).drew
  have cno : ∀ {v : World} (n : Int), SvM v sb B { s with acts := s.acts + 1 } → Upd (· = sb) u v → actS { s with acts := s.acts + 1 } a = ({ s with acts := s.acts + 1 }, .no n) → Spec Tryd.prog fn_server_Server_Do_c1 #[.int .i64 n] v fun e v' => ∃ (x : Int) (y : Int) (z : ByteArray), e = .returned (.agg #[.int .i64 x, .int .i64 y, .string z]) ∧ SvTo u sb B (actS { s with acts := s.acts + 1 } a) (.returned (.agg #[.int .i64 x, .int .i64 y, .string z])) v' := fun {v} n hm hup he =>
    (doC_ok n).mono fun e v' ⟨he', hv'⟩ => ⟨_, _, _, he', by rw [he]; exact SvTo.no (hm.ext hv') (hup.ext hv') n⟩
  have lift : ∀ {r : Sv × Rp} {e : Ending} {v : World}, SvTo U0 sb B r e v → actS { s with acts := s.acts + 1 } a = r → ∃ (x : Int) (y : Int) (z : ByteArray), e = .returned (.agg #[.int .i64 x, .int .i64 y, .string z]) ∧ SvTo u sb B (actS { s with acts := s.acts + 1 } a) (.returned (.agg #[.int .i64 x, .int .i64 y, .string z])) v := fun {r e v} ht hr => by
    rw [hr]
    exact ⟨_, _, _, ht.e, rfl, ht.mem, up1.trans ht.upd fun _ _ h => h⟩
  have vis : a.kind = 6 ∨ a.kind = 7 ∨ a.kind = 9 → Spec Tryd.prog fn_server_Server_visit #[.pointer (some ⟨sb, 0, none⟩), .agg #[.int .i64 a.kind, .int .i64 a.p, .int .i64 a.n, .int .i64 a.m, .string by_]] U0 fun e v => ∃ (x : Int) (y : Int) (z : ByteArray), e = .returned (.agg #[.int .i64 x, .int .i64 y, .string z]) ∧ SvTo u sb B (actS { s with acts := s.acts + 1 } a) (.returned (.agg #[.int .i64 x, .int .i64 y, .string z])) v := fun hk =>
    (srvVisit_ok M1 I1 a hk by_).mono fun e v ht => lift ht (by rw [hact, if_neg (by omega), if_neg (by omega), if_neg (by omega), if_neg (by omega), if_neg (by omega), if_pos hk])
  have few1 : FewT 1048576 s.v.cols := ⟨by have := I.cols.few'.n; omega, fun c hc => by have := I.cols.few'.each c hc; omega⟩
  obtain ⟨csU, hcU, hrdU⟩ := M1.rd
  obtain ⟨tp, tc, kt, TF⟩ := hcU.tiles
  have TF : TlF U0 (fun k => ¬ B k) tp s.v.cols := TF
  have kt : takeN csU 0 1 = some [.slice tp s.v.cols.length tc] := kt
  have hrd0 : ∀ {o n : Nat} {x : List Value}, takeN csU o n = some x → Rd (drewW U0) sb o x := fun hx => hdU.rd (hrdU hx) fun h => h
  refine ⟨fun k1 => ?_, fun k1 => ⟨fun k2 => ?_, fun k2 => ⟨fun k3 => ⟨fun _ => ?_, fun hn => (hn k3).elim⟩, fun k3 => ⟨fun k4 => ?_, fun k4 => ?_⟩⟩⟩⟩
  · exact (srvSplit_ok M1 I1 a by_).mono fun e v ht => lift ht (by rw [hact, if_pos k1])
  · refine (srvKill_ok M1 I1 a.p).mono fun e v ⟨he, hm, hup⟩ => ⟨_, he, (doC_ok _).mono fun e v2 ⟨he2, hv2⟩ => ⟨_, _, _, he2, ?_⟩⟩
    have hk : actS { s with acts := s.acts + 1 } a = killS { s with acts := s.acts + 1 } a.p := by rw [hact, if_neg k1, if_pos k2]
    rw [hk]
    have hkn : (killS { s with acts := s.acts + 1 } a.p).2.n = 0 ∧ (killS { s with acts := s.acts + 1 } a.p).2.out = [] := by unfold killS; dsimp only; split <;> exact ⟨rfl, rfl⟩
    refine ⟨?_, hm.ext hv2, (up1.trans hup fun _ _ h => h).ext hv2⟩
    rw [hkn.1, hkn.2]
    rfl
  · have K34 : a.kind = 3 ∨ a.kind = 4 := .inl k3
    have KN1 := k1
    have KN2 := k2
    refine ⟨tp, _, tc, rfl, hrd0 kt, (has_ok (TF.tl.ext hdU) tc a.p few).mono fun e w1 ⟨he, hw1⟩ => ⟨_, he, fun hno => ?_, fun hhas => ?_⟩⟩
    · refine cno 3 (M1.ext (hdU.ext hw1)) (up1.ext (hdU.ext hw1)) (by rw [hact]; rw [if_neg KN1, if_neg KN2, if_pos K34, if_pos hno])
    have xw := hdU.ext hw1
    have hact2 : actS { s with acts := s.acts + 1 } a = if a.kind = 4 then ({ s with acts := s.acts + 1, v := { s.v with focus := a.p } }, .no 0) else (outputS { s with acts := s.acts + 1 } a.p.toNat a.bytes, .no 0) := by
      rw [hact, if_neg KN1, if_neg KN2, if_pos K34, if_neg (by rw [hhas]; simp)]
    refine ⟨fun k4 => ?_, fun k4 => ?_⟩
    · obtain ⟨m1, m2⟩ := (M1.ext xw).setFocus a.p (o := 0 + 0 + 57) (by omega)
      refine ⟨rfl, m1, ?_⟩
      rw [hact2, if_pos k4]
      exact ⟨rfl, m2, (up1.ext xw).put (fun _ => rfl) _ _⟩
    rw [hact2, if_neg k4]
    have h6 := has_pane I.cols hhas
    have hi6 : a.p.toNat < 6 := by omega
    have hpn : ((a.p.toNat : Nat) : Int) = a.p := by omega
    have xd : Ext U0 (drewW w1) := xw.drew
    have Md := M1.ext xd
    obtain ⟨cs2, hc2, hrd2⟩ := Md.rd
    obtain ⟨x2, kx, ⟨pp, pn, pc, rfl, hps, hpk⟩⟩ := hc2.parser a.p.toNat hi6
    have hgp := (I.parsers a.p.toNat hi6).1
    refine ⟨by omega, by omega, _, _, _, _, _, _, rfl, by rw [show 0 + 58 + a.p.toNat * 4 = 58 + a.p.toNat * 4 by omega]; exact hrd2 kx, ?_⟩
    refine (feed_far (parserOf s a.p.toNat) pp pn pc by_ (u := drewW w1) hps (by omega)).mono fun e w2 hf => ?_
    rcases hf with ⟨_, q, n, c, lp, ln, lc, he, hq, hev, ⟨hqk, hlk⟩, hw2⟩ | ⟨hbad, _⟩
    case inr => exact (hbad hgp).elim
    rw [hby] at he hq hev
    have hln := hev.len
    subst hln
    have hsbl := Md.lt
    have M2 := Md.ext hw2
    have hlenP : ({ s with acts := s.acts + 1 } : Sv).parsers.length = 6 := I.pl
    obtain ⟨m1, m2⟩ := M2.setParser hlenP hi6 (r := (feedP (parserOf s a.p.toNat) a.bytes).1) (x := [.int .i64 (feedP (parserOf s a.p.toNat) a.bytes).1.at_, .slice q n c, .string (feedP (parserOf s a.p.toNat) a.bytes).1.pl, .bool (feedP (parserOf s a.p.toNat) a.bytes).1.long]) ⟨⟨q, n, c, rfl, hq, fun _ k hk => Md.new (by have := hqk k hk; omega)⟩⟩ (o := 0 + 58 + a.p.toNat * 4) (by omega)
    refine ⟨_, _, _, _, _, _, _, _, _, _, he, by omega, by omega, rfl, m1, by omega, by omega, ?_⟩
    have hev2 := (hev.updF (upd_put (u := w2) sb (0 + 58 + a.p.toNat * 4) [.int .i64 (feedP (parserOf s a.p.toNat) a.bytes).1.at_, .slice q n c, .string (feedP (parserOf s a.p.toNat) a.bytes).1.pl, .bool (feedP (parserOf s a.p.toNat) a.bytes).1.long]) (fun k hk e => by omega) (fun k hk e => by have := hlk k hk; omega)).ext ((Upd.refl (S := fun _ => False) _).drew)
    have M3 := m2.ext ((Upd.refl (S := fun _ => False) _).drew)
    obtain ⟨cs3, hc3, hrd3⟩ := M3.rd
    obtain ⟨x3, kx3, ⟨⟨gp, gc, rfl, gC, gk, gcap⟩, gfew⟩⟩ := hc3.grid a.p.toNat hi6
    refine ⟨_, _, _, _, _, _, _, _, _, _, _, rfl, by rw [show 0 + 0 + 1 + a.p.toNat * 9 = 1 + a.p.toNat * 9 by omega]; exact hrd3 kx3, ?_⟩
    have hfl := feed_len a.bytes (parserOf s a.p.toNat)
    have gg := ((I.grids a.p.toNat hi6).on (by rw [hpn]; exact hhas)).1
    have hbl : a.bytes.length ≤ 1048576 := by rw [← hby]; have : by_.data.toList.length = by_.size := rfl; omega
    refine (gall_far (g := gridOf s.v a.p.toNat) gC gc (by have := few_cells gg; omega) hev2 lc (by omega) (fun e he => ⟨by have := feed_few _ _ hgp e he; omega, by have := feed_pay _ _ hgp e he; omega⟩)).mono fun e w3 ⟨⟨p3, c3, he, hC3, hfar3, hcap3⟩, hw3⟩ => ⟨_, _, _, _, _, _, _, _, _, _, _, _, he, by omega, by omega, rfl, ?_⟩
    have hres := all_feed gg (parserOf s a.p.toNat) a.bytes
    have hlenG : ({ s with acts := s.acts + 1, parsers := s.parsers.set a.p.toNat (feedP (parserOf s a.p.toNat) a.bytes).1 } : Sv).v.grids.length = 6 := I.gl
    have hMl := M3.lt
    obtain ⟨n1, n2⟩ := (M3.ext hw3).setGrid hlenG hi6 (g := (allG (gridOf s.v a.p.toNat) (feedP (parserOf s a.p.toNat) a.bytes).2).1) (x := grV (allG (gridOf s.v a.p.toNat) (feedP (parserOf s a.p.toNat) a.bytes).2).1 p3 (allG (gridOf s.v a.p.toNat) (feedP (parserOf s a.p.toNat) a.bytes).2).1.cells.length c3) ⟨⟨p3, c3, rfl, hC3, fun _ k hk => (hfar3 k hk).elim (gk gg.pos k) fun h8 => M3.new (by omega), hcap3 gcap⟩, by have := few_cells hres.2.1; omega⟩ (o := 0 + 0 + 1 + a.p.toNat * 9) (by omega)
    refine ⟨n1, rfl, n2, ?_⟩
    exact (((((up1.ext xd).ext hw2).put (fun _ => rfl) _ _).drew).ext hw3).put (fun _ => rfl) _ _
  · have K34 : a.kind = 3 ∨ a.kind = 4 := .inr k4
    have KN1 := k1
    have KN2 := k2
    refine ⟨tp, _, tc, rfl, hrd0 kt, (has_ok (TF.tl.ext hdU) tc a.p few).mono fun e w1 ⟨he, hw1⟩ => ⟨_, he, fun hno => ?_, fun hhas => ?_⟩⟩
    · refine cno 3 (M1.ext (hdU.ext hw1)) (up1.ext (hdU.ext hw1)) (by rw [hact]; rw [if_neg KN1, if_neg KN2, if_pos K34, if_pos hno])
    have xw := hdU.ext hw1
    have hact2 : actS { s with acts := s.acts + 1 } a = if a.kind = 4 then ({ s with acts := s.acts + 1, v := { s.v with focus := a.p } }, .no 0) else (outputS { s with acts := s.acts + 1 } a.p.toNat a.bytes, .no 0) := by
      rw [hact, if_neg KN1, if_neg KN2, if_pos K34, if_neg (by rw [hhas]; simp)]
    refine ⟨fun k4 => ?_, fun k5 => (k5 k4).elim⟩
    · obtain ⟨m1, m2⟩ := (M1.ext xw).setFocus a.p (o := 0 + 0 + 57) (by omega)
      refine ⟨rfl, m1, ?_⟩
      rw [hact2, if_pos k4]
      exact ⟨rfl, m2, (up1.ext xw).put (fun _ => rfl) _ _⟩
  · refine ⟨fun k5 => ?_, fun k5 => ⟨fun k8 => ?_, fun k8 => ⟨fun k6 => ⟨fun _ => ?_, fun hn => (hn k6).elim⟩, fun k6 => ⟨fun k7 => ⟨fun _ => ?_, fun hn => (hn k7).elim⟩, fun k7 => ⟨fun k9 => ?_, fun k9 => ?_⟩⟩⟩⟩⟩
    · have hact5 : actS { s with acts := s.acts + 1 } a = if a.n < 1 ∨ 24 < a.n ∨ a.m < 1 ∨ 10 < a.m then ({ s with acts := s.acts + 1 }, .no 1) else (fitS { s with acts := s.acts + 1, v := { s.v with wide := a.n, high := a.m } }, .no 0) := by
        rw [hact, if_neg k1, if_neg k2, if_neg (by omega), if_pos k5]
      refine ⟨fun b1 => cno 1 M1 up1 (by rw [hact5, if_pos (.inl b1)]), fun b1 => ⟨fun b2 => cno 1 M1 up1 (by rw [hact5, if_pos (.inr (.inl b2))]), fun b2 => ⟨fun b3 => cno 1 M1 up1 (by rw [hact5, if_pos (.inr (.inr (.inl b3)))]), fun b3 => ⟨fun b4 => cno 1 M1 up1 (by rw [hact5, if_pos (.inr (.inr (.inr b4)))]), fun b4 => ?_⟩⟩⟩⟩
      obtain ⟨m1, m2⟩ := (M1.ext hdU).setWide a.n (o := 0 + 0 + 55) (by omega)
      obtain ⟨n1, n2⟩ := m2.setHigh a.m (o := 0 + 0 + 56) (by omega)
      refine ⟨rfl, m1, rfl, n1, (sfit_ok n2 few I.gl I.pl I.gz).mono fun e w ⟨he, hm, hw⟩ => ⟨he, ?_⟩⟩
      rw [hact5, if_neg (by omega)]
      exact ⟨rfl, hm, (((up1.ext hdU).put (fun _ => rfl) _ _).put (fun _ => rfl) _ _).trans hw fun _ _ h => h⟩
    · refine ⟨fun x v => SvM v sb B { s with acts := s.acts + 1, clients := (List.range 3).map fun c => if c < x.toNat then showS s.v (clientOf s c) else clientOf s c } ∧ 0 ≤ x ∧ x ≤ 3 ∧ Upd (· = sb) u v, fun x _ => (3 - x).toNat, ⟨?_, by omega, by omega, up1⟩, ?_⟩
      · have : ((List.range 3).map fun c : Nat => if c < (0 : Int).toNat then showS s.v (clientOf s c) else clientOf s c) = s.clients := by
          simp only [Int.toNat_zero, Nat.not_lt_zero, if_false]
          exact map_getD I.cl Ct.zero
        rw [this]
        exact M1
      rintro x v ⟨hm, x0, x3, hup⟩
      refine ⟨fun hx => ⟨by omega, by omega, ?_⟩, fun hx => ?_⟩
      · have hx3 : x.toNat < 3 := by omega
        have hcx : clientOf { s with acts := s.acts + 1, clients := (List.range 3).map fun c => if c < x.toNat then showS s.v (clientOf s c) else clientOf s c } x.toNat = clientOf s x.toNat := by
          have h9 := getD_map_range (n := 3) (i := x.toNat) (fun c : Nat => if c < x.toNat then showS s.v (clientOf s c) else clientOf s c) Ct.zero hx3
          rw [if_neg (Nat.lt_irrefl _)] at h9
          exact h9
        refine (srvShow_ok hm few1 (fun p hp => I.grid_or p hp) (by simp) hx3 (co := 0 + 82 + x.toNat * 12) (by omega) (by rw [hcx]; exact I.clients _ hx3)).mono fun e w ⟨he, hm2, hw⟩ => ⟨he, by simp only [inK]; omega, ⟨?_, by omega, by omega, hup.trans hw fun _ _ h => h⟩, by first | omega | (dsimp only; omega)⟩
        rw [hcx] at hm2
        have : ((List.range 3).map fun c : Nat => if c < x.toNat then showS s.v (clientOf s c) else clientOf s c).set x.toNat (showS s.v (clientOf s x.toNat)) = (List.range 3).map fun c : Nat => if c < (x + 1).toNat then showS s.v (clientOf s c) else clientOf s c := by
          refine map_set hx3 (fun j hj => ?_) ?_
          · by_cases h7 : j < x.toNat
            · rw [if_pos h7, if_pos (by omega)]
            · rw [if_neg h7, if_neg (by omega)]
          · rw [if_pos (by omega)]
        rw [← this]
        exact hm2
      · have hxe : x.toNat = 3 := by omega
        have : ((List.range 3).map fun c : Nat => if c < x.toNat then showS s.v (clientOf s c) else clientOf s c) = s.clients.map (showS s.v) := by
          rw [hxe]
          have e1 : s.clients.map (showS s.v) = ((List.range 3).map fun i => s.clients.getD i Ct.zero).map (showS s.v) := by rw [map_getD I.cl]
          rw [e1, List.map_map]
          exact List.map_congr_left fun j hj => if_pos (List.mem_range.1 hj)
        rw [this] at hm
        rw [hact, if_neg k1, if_neg k2, if_neg (by omega), if_neg k5, if_pos k8]
        exact ⟨rfl, hm, hup⟩
    · exact vis (.inl k6)
    · exact vis (.inr (.inl k7))
    · exact vis (.inr (.inr k9))
    · exact cno 2 M1 up1 (by rw [hact, if_neg k1, if_neg k2, if_neg (by omega), if_neg k5, if_neg k8, if_neg (by omega)])

end Go.Proofs.YtkmmphkjmamckabDoor
