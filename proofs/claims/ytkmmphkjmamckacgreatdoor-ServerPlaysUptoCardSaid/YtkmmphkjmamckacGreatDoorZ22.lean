/- Texts joined: SShow2, SDo, SNew, RNew, PRef, PWalk3. -/
import Derived.Test.YtkmmphkjmamckacGreatDoorZ21
import Derived.Test.YtkmmphkjmamckacGreatDoorZ09
namespace Go.Proofs.YtkmmphkjmamckacGreatDoor
open Go
set_option linter.all false
theorem vV {u : World} (frm : Gr) (fp : Option Addr) (fc : Nat) {to : Gr} {tp : Option Addr} (ht : Cells u tp to.cells) (tc : Nat) (hto : ao to /\ to.col < to.wide) (htl : to.cells.length <= 10000000) :
  Spec Tryz.prog eY #[GrV frm fp frm.cells.length fc, GrV to tp to.cells.length tc] u fun e u' => ∃ gp gc st, st.data.toList = [27, 99] ++ (bV (aO to.wide to.high) to).2 /\ e = .returned (.tuple #[.string st, GrV (bV (aO to.wide to.high) to).1 gp (bV (aO to.wide to.high) to).1.cells.length gc, .int .i64 0]) /\
   Cells u' gp (bV (aO to.wide to.high) to).1.cells /\ (∀ k, At gp k -> u.heap.size <= k) /\ Ext u u' := by
 apply jB
 delta fk cnd iI lq
 have hu : Ext u (ab (ab (ab u hole) hole) hole) := (((Upd.refl u).alloc _).alloc _).alloc _
 refine (F6 (ht.ext hu) tc htl).mono fun e u1 h7 => ?_
 obtain ⟨gp, gc, st, hst, he, C, hfar⟩ := h7.yes hto
 exact ⟨_, _, _, _, _, _, _, _, _, _, _, _, _, he, gp, gc, st, hst, rfl, C, fun k hk => by have := hfar k hk; have := hu.size; omega, hu.ext h7.ext⟩
set_option maxHeartbeats 2000000 in
theorem DV {u : World} {sb i co : Nat} {B : Nat -> Prop} {s : Sv} (h : SvM u sb B s) (few : dO 1048576 s.v.aj) (hg : ∀ p, p < 6 -> aq s.v p = .zero \/ ao (aq s.v p)) (hcl : s.ak.length = 3) (hi : i < 3) (hco : co = 82 + i * 12) (hct : D2 (ag s i)) :
  Spec Tryz.prog ir #[.pointer (some ⟨sb, 0, none⟩), .pointer (some ⟨sb, co, none⟩)] u (Gq u sb B s i) := by
 apply kG
 delta iC A1 AZ zR Ae Af cnd iI lq
 simp only [decide_eq_true_eq, decide_eq_false_iff_not, true_and, Bool.not_eq_true', Bool.not_eq_false']
 obtain ⟨cs, hc, hrd⟩ := h.rd
 obtain ⟨y, k1, ⟨⟨sp, sd, rfl, sC, sk⟩, sfew⟩⟩ := hc.ue i hi
 have rd : ∀ {w : World} {j m o : Nat} {z : List Value}, Ext u w -> takeN ([.bool (ag s i).here] ++ grV (ag s i).shown sp (ag s i).shown.cells.length sd ++ [.string (aW (ag s i).queue), .bool (ag s i).lost]) j m = some z -> j + m <= 12 -> o = co + j -> Rd w sb o z := fun hw hz hjm ho => by
  rw [ho, hco]
  exact hw.rd (hrd (ua k1 hz hjm)) fun h => h
 have hsame : ∀ {v : World}, Ext u v -> dg s.v (ag s i) = ag s i -> Gq u sb B s i (.returned (.tuple #[])) v := fun hv he => by
  refine ⟨rfl, ?_, hv.any⟩
  have : ({ s with ak := s.ak.set i (dg s.v (ag s i)) } : Sv) = s := by
   rw [he]
   have : s.ak.set i (ag s i) = s.ak := by
    refine List.ext_getElem (by simp) fun j h1 h2 => ?_
    rw [List.getElem_set]
    split
    ·next e => subst e; show s.ak.getD i .zero = _; simp [List.getD_eq_getElem?_getD, h2]
    ·rfl
   rw [this]
  rw [this]
  exact h.ext hv
 have hre : Ext u u := Upd.refl u
 refine ⟨_, rfl, rd hre (j := 0) (m := 1) rfl (by decide) rfl, fun hh => hsame hre (by unfold dg; rw [if_pos (.inl hh)]), fun hh => ⟨_, rfl, rd hre (j := 11) (m := 1) rfl (by decide) rfl, fun hl => ⟨_, rfl, rd hre (j := 10) (m := 1) rfl (by decide) rfl, fun hne => ?_, fun heq => ?_⟩, fun hl => ?_⟩⟩
 ·refine hsame hre ?_
  unfold dg
  rw [if_pos (.inr ⟨hl, fun e => hne (by rw [aZ, e])⟩)]
 have hnot : ¬ ((ag s i).here = false \/ ((ag s i).lost = true /\ (ag s i).queue ≠ [])) := by
  rintro (h7 | h7)
  ·rw [hh] at h7; cases h7
  ·rw [aZ] at heq
   exact h7.2 heq
 rotate_left 1
 have hnot : ¬ ((ag s i).here = false \/ ((ag s i).lost = true /\ (ag s i).queue ≠ [])) := by
  rintro (h7 | h7)
  ·rw [hh] at h7; cases h7
  ·rw [hl] at h7; cases h7.1
 all_goals
  obtain ⟨hs, hq⟩ := hct.on hh
  have hto := vz hg (ag s i).shown.wide (ag s i).shown.high
  have hsd := su (v := s.v) hs
  have hm : iX (ag s i).shown (aX s.v (ag s i).shown.wide (ag s i).shown.high) := ⟨hs, hto.1, hsd.1.symm, hsd.2.symm, hto.2⟩
  have hP := tH hm
  have hA := (C4 hs hto.1 hto.2 hsd.1.symm hsd.2.symm).2
  have hP1 := hP.few
  have hP2 := aK hP.uv
  have hA1 := hA.few
  have hA2 := aK hA.uv
  have hto240 : (aX s.v (ag s i).shown.wide (ag s i).shown.high).cells.length <= 10000000 := by have := aK hto.1; omega
  have hshA : (ag s i).lost = true -> dg s.v (ag s i) = if 4000 - ((ag s i).queue.length : Int) < ((([27, 99] ++ (bV (aO (aX s.v (ag s i).shown.wide (ag s i).shown.high).wide (aX s.v (ag s i).shown.wide (ag s i).shown.high).high) (aX s.v (ag s i).shown.wide (ag s i).shown.high)).2 : Bs).length : Nat) : Int) then { ag s i with lost := true } else ⟨(ag s i).here, (bV (aO (aX s.v (ag s i).shown.wide (ag s i).shown.high).wide (aX s.v (ag s i).shown.wide (ag s i).shown.high).high) (aX s.v (ag s i).shown.wide (ag s i).shown.high)).1, (ag s i).queue ++ ([27, 99] ++ (bV (aO (aX s.v (ag s i).shown.wide (ag s i).shown.high).wide (aX s.v (ag s i).shown.wide (ag s i).shown.high).high) (aX s.v (ag s i).shown.wide (ag s i).shown.high)).2), false⟩ := fun hl1 => by
   unfold dg
   rw [if_neg hnot]
   dsimp only
   rw [if_pos hl1]
   rfl
  have hshT : (ag s i).lost = false -> dg s.v (ag s i) = if 4000 - ((ag s i).queue.length : Int) < (((bV (ag s i).shown (aX s.v (ag s i).shown.wide (ag s i).shown.high)).2.length : Nat) : Int) then { ag s i with lost := true } else ⟨(ag s i).here, (bV (ag s i).shown (aX s.v (ag s i).shown.wide (ag s i).shown.high)).1, (ag s i).queue ++ (bV (ag s i).shown (aX s.v (ag s i).shown.wide (ag s i).shown.high)).2, false⟩ := fun hl1 => by
   unfold dg
   rw [if_neg hnot]
   dsimp only
   simp only [hl1, Bool.false_eq_true, if_false]
  obtain ⟨vl, v58, VM⟩ := hc.view few hg
  have hd : Ext u (af u) := (Upd.refl u).drew
  have hlt := h.lt
  have rdV : ∀ {w : World}, Ext u w -> Rd w sb (0 + 0) (cs.take 58) := fun hw => hw.rd (hrd v58) fun h => h
  have rdS : ∀ {w : World}, Ext u w -> Rd w sb (co + 1) (grV (ag s i).shown sp (ag s i).shown.cells.length sd) := fun hw => rd hw (j := 1) (m := 9) rfl (by decide) rfl
  refine ⟨cs.take 58, vl.symm, rdV hd, _, rfl, rd hd (j := 1) (m := 1) rfl (by decide) rfl, _, rfl, rd hd (j := 2) (m := 1) rfl (by decide) rfl, ⟨?_, ?_⟩⟩
  ·refine (xW (VM.ext hd) (ag s i).shown.wide (ag s i).shown.high).mono fun e u1 ⟨⟨nb, he, hco2, hnb⟩, hu1⟩ => ?_
   have hW := (hd.ext hu1).alloc hole
   refine ⟨_, _, _, _, _, _, _, _, _, _, _, he, rd hW (j := 2) (m := 1) rfl (by decide) rfl, rd hW (j := 1) (m := 1) rfl (by decide) rfl, rdV hW, _, rfl, rd hW (j := 11) (m := 1) rfl (by decide) rfl, ?_⟩
   have hV : Ext u (af (ab u1 hole)) := hW.drew
   have hCt := (hco2.ext (((Upd.refl (S := fun _ => False) u1).alloc hole).drew)).cells
   have hCs : Cells (af (ab u1 hole)) sp (ag s i).shown.cells := sC.ext hV
   have hal : Ext (af (ab u1 hole)) (ab (af (ab u1 hole)) hole) := (Upd.refl _).alloc _
   have hVs := hV.size
   have hVs2 := hal.size
   refine ⟨fun hl1 => ⟨_, _, _, _, _, _, _, _, _, _, _, rfl, rdS hV, ⟨?_, ?_⟩⟩, fun hl1 => ⟨_, _, _, _, _, _, _, _, _, _, _, rfl, rdS hV, ⟨?_, ?_⟩⟩⟩
   ·refine (vV (ag s i).shown sp sd hCt _ hto hto240).mono fun e w1 ⟨gp, gc, st, hst, he, C, hfar, hw1⟩ => ⟨_, _, _, _, _, _, _, _, _, _, _, _, _, he, rdS ((hV.ext hw1).alloc _), ?_⟩
    exact jx h ((hV.ext hw1).alloc _) hcl hi hco hq hst (by simp only [List.length_append, List.length_cons, List.length_nil]; omega) (C.ext ((Upd.refl _).alloc _)) (fun k hk => h.new (by have := hfar k hk; omega)) (by omega) (hshA hl1)
   ·refine ⟨rdS (hV.alloc _), (vV (ag s i).shown sp sd (hCt.ext hal) _ hto hto240).mono fun e w1 ⟨gp, gc, st, hst, he, C, hfar, hw1⟩ => ⟨_, _, _, _, _, _, _, _, _, _, _, _, _, he, ?_⟩⟩
    exact jx h ((hV.alloc _).ext hw1) hcl hi hco hq hst (by simp only [List.length_append, List.length_cons, List.length_nil]; omega) C (fun k hk => h.new (by have := hfar k hk; omega)) (by omega) (hshA hl1)
   ·refine (kL hCs hCt sd _ (by omega) hto240).mono fun e w1 h7 => ?_
    obtain ⟨gp, gc, he, C, hfar⟩ := h7.yes hm
    have hw1 := h7.ext
    refine ⟨_, _, _, _, _, _, _, _, _, _, _, _, _, he, rdS ((hV.ext hw1).alloc _), ?_⟩
    exact jx h ((hV.ext hw1).alloc _) hcl hi hco hq (aZ _) (by omega) (C.ext ((Upd.refl _).alloc _)) (fun k hk => (hfar k hk).elim (sk hs.pos k) fun h8 => h.new (by omega)) (by omega) (hshT hl1)
   ·refine ⟨rdS (hV.alloc _), (kL (hCs.ext hal) (hCt.ext hal) sd _ (by omega) hto240).mono fun e w1 h7 => ?_⟩
    obtain ⟨gp, gc, he, C, hfar⟩ := h7.yes hm
    have hw1 := h7.ext
    refine ⟨_, _, _, _, _, _, _, _, _, _, _, _, _, he, ?_⟩
    exact jx h ((hV.alloc _).ext hw1) hcl hi hco hq (aZ _) (by omega) C (fun k hk => (hfar k hk).elim (sk hs.pos k) fun h8 => h.new (by omega)) (by omega) (hshT hl1)
  ·have hal0 := hd.alloc hole
   refine ⟨rd hal0 (j := 2) (m := 1) rfl (by decide) rfl, rd hal0 (j := 1) (m := 1) rfl (by decide) rfl, rdV hal0, (xW (VM.ext hal0) (ag s i).shown.wide (ag s i).shown.high).mono fun e u1 ⟨⟨nb, he, hco2, hnb⟩, hu1⟩ => ?_⟩
   have hW := hal0.ext hu1
   refine ⟨_, _, _, _, _, _, _, _, _, _, _, he, _, rfl, rd hW (j := 11) (m := 1) rfl (by decide) rfl, ?_⟩
   have hV : Ext u (af u1) := hW.drew
   have hCt := (hco2.ext ((Upd.refl (S := fun _ => False) u1).drew)).cells
   have hCs : Cells (af u1) sp (ag s i).shown.cells := sC.ext hV
   have hal : Ext (af u1) (ab (af u1) hole) := (Upd.refl _).alloc _
   have hVs := hV.size
   have hVs2 := hal.size
   refine ⟨fun hl1 => ⟨_, _, _, _, _, _, _, _, _, _, _, rfl, rdS hV, ⟨?_, ?_⟩⟩, fun hl1 => ⟨_, _, _, _, _, _, _, _, _, _, _, rfl, rdS hV, ⟨?_, ?_⟩⟩⟩
   ·refine (vV (ag s i).shown sp sd hCt _ hto hto240).mono fun e w1 ⟨gp, gc, st, hst, he, C, hfar, hw1⟩ => ⟨_, _, _, _, _, _, _, _, _, _, _, _, _, he, rdS ((hV.ext hw1).alloc _), ?_⟩
    exact jx h ((hV.ext hw1).alloc _) hcl hi hco hq hst (by simp only [List.length_append, List.length_cons, List.length_nil]; omega) (C.ext ((Upd.refl _).alloc _)) (fun k hk => h.new (by have := hfar k hk; omega)) (by omega) (hshA hl1)
   ·refine ⟨rdS (hV.alloc _), (vV (ag s i).shown sp sd (hCt.ext hal) _ hto hto240).mono fun e w1 ⟨gp, gc, st, hst, he, C, hfar, hw1⟩ => ⟨_, _, _, _, _, _, _, _, _, _, _, _, _, he, ?_⟩⟩
    exact jx h ((hV.alloc _).ext hw1) hcl hi hco hq hst (by simp only [List.length_append, List.length_cons, List.length_nil]; omega) C (fun k hk => h.new (by have := hfar k hk; omega)) (by omega) (hshA hl1)
   ·refine (kL hCs hCt sd _ (by omega) hto240).mono fun e w1 h7 => ?_
    obtain ⟨gp, gc, he, C, hfar⟩ := h7.yes hm
    have hw1 := h7.ext
    refine ⟨_, _, _, _, _, _, _, _, _, _, _, _, _, he, rdS ((hV.ext hw1).alloc _), ?_⟩
    exact jx h ((hV.ext hw1).alloc _) hcl hi hco hq (aZ _) (by omega) (C.ext ((Upd.refl _).alloc _)) (fun k hk => (hfar k hk).elim (sk hs.pos k) fun h8 => h.new (by omega)) (by omega) (hshT hl1)
   ·refine ⟨rdS (hV.alloc _), (kL (hCs.ext hal) (hCt.ext hal) sd _ (by omega) hto240).mono fun e w1 h7 => ?_⟩
    obtain ⟨gp, gc, he, C, hfar⟩ := h7.yes hm
    have hw1 := h7.ext
    refine ⟨_, _, _, _, _, _, _, _, _, _, _, _, _, he, ?_⟩
    exact jx h ((hV.alloc _).ext hw1) hcl hi hco hq (aZ _) (by omega) C (fun k hk => (hfar k hk).elim (sk hs.pos k) fun h8 => h.new (by omega)) (by omega) (hshT hl1)
theorem DR (n : Int) {u : World} : Spec Tryz.prog dv #[.int .i64 n] u fun e u' => e = .returned (.agg #[.int .i64 n, .int .i64 0, .string (ByteArray.mk #[])]) /\ Ext u u' := by
 apply km
 delta gL cnd iI lq
 exact ⟨rfl, (Upd.refl _).alloc _⟩
theorem EvL.HW {S : Nat -> Prop} {u u' : World} {ok : Nat -> Prop} {p : Option Addr} {n : Nat} {es : List Ev} (h : EvL u ok p n es) (hu : Upd S u u') (hk : ∀ k, ok k -> ¬ S k) (hp : ∀ k, At p k -> ¬ S k) : EvL u' ok p n es := by
 obtain ⟨xs, h1, h2⟩ := h
 exact ⟨xs, h1.upd hu hp, h2.upd hu fun k hk1 => ⟨hk k hk1, hk1⟩⟩
theorem vK.no {u v : World} {sb : Nat} {B : Nat -> Prop} {s : Sv} (h : SvM v sb B s) (hu : Upd (· = sb) u v) (n : Int) : vK u sb B (s, .no n) (.returned (.agg #[.int .i64 n, .int .i64 0, .string (ByteArray.mk #[])])) v := ⟨rfl, h, hu⟩
set_option maxHeartbeats 4000000 in
theorem FV {u : World} {sb : Nat} {B : Nat -> Prop} {s : Sv} (h : SvM u sb B s) (I : bR s) (hacts : 0 <= s.ay) (a : Ac) {by_ : ByteArray} (hby : by_.data.toList = a.bytes) (hbs : by_.size <= 1048576) :
  Spec Tryz.prog eK #[.pointer (some ⟨sb, 0, none⟩), .agg #[.int .i64 a.kind, .int .i64 a.p, .int .i64 a.n, .int .i64 a.m, .string by_]] u (vK u sb B (doS s a)) := by
 apply l0
 delta jS AR Bf wC Ba wN v8 An sO tR lJ sK cnd iI lq
 simp only [decide_eq_true_eq, decide_eq_false_iff_not, true_and, Bool.not_eq_true', Bool.not_eq_false']
 have hu : Ext u (ab (ab u hole) hole) := ((Upd.refl u).alloc _).alloc _
 refine ⟨fun hn => (by cases hn), fun _ => ?_⟩
 have M0 := h.ext hu
 obtain ⟨cs, hc, hrd⟩ := M0.rd
 have ra : Rd (ab (ab u hole) hole) sb (0 + 118) [.int .i64 s.ay] := by rw [Nat.zero_add]; exact hrd hc.ay
 have few := qt I.aj
 refine ⟨_, rfl, ra, fun hfull => ?_, fun hfull => ⟨_, rfl, ra, by simp only [inK]; omega, rfl, ?_⟩⟩
 ·refine (DR 5).mono fun e u1 ⟨he, hu1⟩ => ⟨_, _, _, he, ?_⟩
  have : doS s a = (s, .no 5) := by unfold doS; rw [if_pos hfull]
  rw [this]
  exact vK.no (M0.ext hu1) ((hu.ext hu1).any) 5
 obtain ⟨w1, M1⟩ := M0.AO (s.ay + 1) (o := 0 + 118) (by omega)
 refine ⟨w1, ?_⟩
 have up1 : Upd (· = sb) u (ae (ab (ab u hole) hole) sb (0 + 118) [.int .i64 (s.ay + 1)]) := (hu.any (S := (· = sb))).put (fun _ => rfl) _ _
 generalize ae (ab (ab u hole) hole) sb (0 + 118) [.int .i64 (s.ay + 1)] = U0 at M1 up1 ⊢
 have hdo : doS s a = gu { s with ay := s.ay + 1 } a := by unfold doS; rw [if_neg hfull]
 rw [hdo]
 have I1 : bR { s with ay := s.ay + 1 } := I.ay _
 have hact : gu { s with ay := s.ay + 1 } a = if a.kind = 1 then splitS { s with ay := s.ay + 1 } a
  else if a.kind = 2 then dF { s with ay := s.ay + 1 } a.p
  else if a.kind = 3 \/ a.kind = 4 then
   if br s.v.aj a.p = false then ({ s with ay := s.ay + 1 }, .no 3)
   else if a.kind = 4 then ({ s with ay := s.ay + 1, v := { s.v with focus := a.p } }, .no 0)
   else (fy { s with ay := s.ay + 1 } a.p.toNat a.bytes, .no 0)
  else if a.kind = 5 then
   if a.n < 1 \/ 24 < a.n \/ a.m < 1 \/ 10 < a.m then ({ s with ay := s.ay + 1 }, .no 1)
   else (kN { s with ay := s.ay + 1, v := { s.v with wide := a.n, high := a.m } }, .no 0)
  else if a.kind = 8 then (va { s with ay := s.ay + 1 }, .no 0)
  else if a.kind = 6 \/ a.kind = 7 \/ a.kind = 9 then aM { s with ay := s.ay + 1 } a
  else ({ s with ay := s.ay + 1 }, .no 2) := rfl
 have hdU : Ext U0 (af U0) := (Upd.refl _).drew
 have cno : ∀ {v : World} (n : Int), SvM v sb B { s with ay := s.ay + 1 } -> Upd (· = sb) u v -> gu { s with ay := s.ay + 1 } a = ({ s with ay := s.ay + 1 }, .no n) -> Spec Tryz.prog dv #[.int .i64 n] v fun e v' => ∃ (x : Int) (y : Int) (z : ByteArray), e = .returned (.agg #[.int .i64 x, .int .i64 y, .string z]) /\ vK u sb B (gu { s with ay := s.ay + 1 } a) (.returned (.agg #[.int .i64 x, .int .i64 y, .string z])) v' := fun {v} n hm hup he =>
  (DR n).mono fun e v' ⟨he', hv'⟩ => ⟨_, _, _, he', by rw [he]; exact vK.no (hm.ext hv') (hup.ext hv') n⟩
 have lift : ∀ {r : Sv × Rp} {e : Ending} {v : World}, vK U0 sb B r e v -> gu { s with ay := s.ay + 1 } a = r -> ∃ (x : Int) (y : Int) (z : ByteArray), e = .returned (.agg #[.int .i64 x, .int .i64 y, .string z]) /\ vK u sb B (gu { s with ay := s.ay + 1 } a) (.returned (.agg #[.int .i64 x, .int .i64 y, .string z])) v := fun {r e v} ht hr => by
  rw [hr]
  exact ⟨_, _, _, ht.e, rfl, ht.mem, up1.trans ht.upd fun _ _ h => h⟩
 have vis : a.kind = 6 \/ a.kind = 7 \/ a.kind = 9 -> Spec Tryz.prog du #[.pointer (some ⟨sb, 0, none⟩), .agg #[.int .i64 a.kind, .int .i64 a.p, .int .i64 a.n, .int .i64 a.m, .string by_]] U0 fun e v => ∃ (x : Int) (y : Int) (z : ByteArray), e = .returned (.agg #[.int .i64 x, .int .i64 y, .string z]) /\ vK u sb B (gu { s with ay := s.ay + 1 } a) (.returned (.agg #[.int .i64 x, .int .i64 y, .string z])) v := fun hk =>
  (CD M1 I1 a hk by_).mono fun e v ht => lift ht (by rw [hact, if_neg (by omega), if_neg (by omega), if_neg (by omega), if_neg (by omega), if_neg (by omega), if_pos hk])
 have few1 : dO 1048576 s.v.aj := ⟨by have := I.aj.yP.n; omega, fun c hc => by have := I.aj.yP.each c hc; omega⟩
 obtain ⟨csU, hcU, hrdU⟩ := M1.rd
 obtain ⟨tp, tc, kt, TF⟩ := hcU.oY
 have TF : TlF U0 (fun k => ¬ B k) tp s.v.aj := TF
 have kt : takeN csU 0 1 = some [.slice tp s.v.aj.length tc] := kt
 have hrd0 : ∀ {o n : Nat} {x : List Value}, takeN csU o n = some x -> Rd (af U0) sb o x := fun hx => hdU.rd (hrdU hx) fun h => h
 refine ⟨fun k1 => ?_, fun k1 => ⟨fun k2 => ?_, fun k2 => ⟨fun k3 => ⟨fun _ => ?_, fun hn => (hn k3).elim⟩, fun k3 => ⟨fun k4 => ?_, fun k4 => ?_⟩⟩⟩⟩
 ·exact (BN M1 I1 a by_).mono fun e v ht => lift ht (by rw [hact, if_pos k1])
 ·refine (Dy M1 I1 a.p).mono fun e v ⟨he, hm, hup⟩ => ⟨_, he, (DR _).mono fun e v2 ⟨he2, hv2⟩ => ⟨_, _, _, he2, ?_⟩⟩
  have hk : gu { s with ay := s.ay + 1 } a = dF { s with ay := s.ay + 1 } a.p := by rw [hact, if_neg k1, if_pos k2]
  rw [hk]
  have hkn : (dF { s with ay := s.ay + 1 } a.p).2.n = 0 /\ (dF { s with ay := s.ay + 1 } a.p).2.out = [] := by unfold dF; dsimp only; split <;> exact ⟨rfl, rfl⟩
  refine ⟨?_, hm.ext hv2, (up1.trans hup fun _ _ h => h).ext hv2⟩
  rw [hkn.1, hkn.2]
  rfl
 ·have K34 : a.kind = 3 \/ a.kind = 4 := .inl k3
  have KN1 := k1
  have KN2 := k2
  refine ⟨tp, _, tc, rfl, hrd0 kt, (ya (TF.tl.ext hdU) tc a.p few).mono fun e w1 ⟨he, hw1⟩ => ⟨_, he, fun hno => ?_, fun hhas => ?_⟩⟩
  ·refine cno 3 (M1.ext (hdU.ext hw1)) (up1.ext (hdU.ext hw1)) (by rw [hact]; rw [if_neg KN1, if_neg KN2, if_pos K34, if_pos hno])
  have xw := hdU.ext hw1
  have hact2 : gu { s with ay := s.ay + 1 } a = if a.kind = 4 then ({ s with ay := s.ay + 1, v := { s.v with focus := a.p } }, .no 0) else (fy { s with ay := s.ay + 1 } a.p.toNat a.bytes, .no 0) := by
   rw [hact, if_neg KN1, if_neg KN2, if_pos K34, if_neg (by rw [hhas]; simp)]
  refine ⟨fun k4 => ?_, fun k4 => ?_⟩
  ·obtain ⟨m1, m2⟩ := (M1.ext xw).g6 a.p (o := 0 + 0 + 57) (by omega)
   refine ⟨rfl, m1, ?_⟩
   rw [hact2, if_pos k4]
   exact ⟨rfl, m2, (up1.ext xw).put (fun _ => rfl) _ _⟩
  rw [hact2, if_neg k4]
  have h6 := rV I.aj hhas
  have hi6 : a.p.toNat < 6 := by omega
  have hpn : ((a.p.toNat : Nat) : Int) = a.p := by omega
  have xd : Ext U0 (af w1) := xw.drew
  have Md := M1.ext xd
  obtain ⟨cs2, hc2, hrd2⟩ := Md.rd
  obtain ⟨x2, kx, ⟨pp, pn, pc, rfl, hps, hpk⟩⟩ := hc2.parser a.p.toNat hi6
  have hgp := (I.az a.p.toNat hi6).1
  refine ⟨by omega, by omega, _, _, _, _, _, _, rfl, by rw [show 0 + 58 + a.p.toNat * 4 = 58 + a.p.toNat * 4 by omega]; exact hrd2 kx, ?_⟩
  refine (BC (an s a.p.toNat) pp pn pc by_ (u := af w1) hps (by omega)).mono fun e w2 hf => ?_
  rcases hf with ⟨_, q, n, c, lp, ln, lc, he, hq, hev, ⟨hqk, hlk⟩, hw2⟩ | ⟨hbad, _⟩
  case inr => exact (hbad hgp).elim
  rw [hby] at he hq hev
  have hln := hev.len
  subst hln
  have hsbl := Md.lt
  have M2 := Md.ext hw2
  have hlenP : ({ s with ay := s.ay + 1 } : Sv).az.length = 6 := I.pl
  obtain ⟨m1, m2⟩ := M2.mS hlenP hi6 (r := (feedP (an s a.p.toNat) a.bytes).1) (x := [.int .i64 (feedP (an s a.p.toNat) a.bytes).1.at_, .slice q n c, .string (feedP (an s a.p.toNat) a.bytes).1.pl, .bool (feedP (an s a.p.toNat) a.bytes).1.fA]) ⟨⟨q, n, c, rfl, hq, fun _ k hk => Md.new (by have := hqk k hk; omega)⟩⟩ (o := 0 + 58 + a.p.toNat * 4) (by omega)
  refine ⟨_, _, _, _, _, _, _, _, _, _, he, by omega, by omega, rfl, m1, by omega, by omega, ?_⟩
  have hev2 := (hev.HW (aI (u := w2) sb (0 + 58 + a.p.toNat * 4) [.int .i64 (feedP (an s a.p.toNat) a.bytes).1.at_, .slice q n c, .string (feedP (an s a.p.toNat) a.bytes).1.pl, .bool (feedP (an s a.p.toNat) a.bytes).1.fA]) (fun k hk e => by omega) (fun k hk e => by have := hlk k hk; omega)).ext ((Upd.refl (S := fun _ => False) _).drew)
  have M3 := m2.ext ((Upd.refl (S := fun _ => False) _).drew)
  obtain ⟨cs3, hc3, hrd3⟩ := M3.rd
  obtain ⟨x3, kx3, ⟨⟨gp, gc, rfl, gC, gk, gcap⟩, gfew⟩⟩ := hc3.qz a.p.toNat hi6
  refine ⟨_, _, _, _, _, _, _, _, _, _, _, rfl, by rw [show 0 + 0 + 1 + a.p.toNat * 9 = 1 + a.p.toNat * 9 by omega]; exact hrd3 kx3, ?_⟩
  have hfl := sL a.bytes (an s a.p.toNat)
  have gg := ((I.aG a.p.toNat hi6).on (by rw [hpn]; exact hhas)).1
  have hbl : a.bytes.length <= 1048576 := by rw [<- hby]; have : by_.data.toList.length = by_.size := rfl; omega
  refine (Cr (g := aq s.v a.p.toNat) gC gc (by have := aK gg; omega) hev2 lc (by omega) (fun e he => ⟨by have := tz _ _ hgp e he; omega, by have := rW _ _ hgp e he; omega⟩)).mono fun e w3 ⟨⟨p3, c3, he, hC3, hfar3, hcap3⟩, hw3⟩ => ⟨_, _, _, _, _, _, _, _, _, _, _, _, he, by omega, by omega, rfl, ?_⟩
  have hres := po gg (an s a.p.toNat) a.bytes
  have hlenG : ({ s with ay := s.ay + 1, az := s.az.set a.p.toNat (feedP (an s a.p.toNat) a.bytes).1 } : Sv).v.aG.length = 6 := I.gl
  have hMl := M3.lt
  obtain ⟨n1, n2⟩ := (M3.ext hw3).lS hlenG hi6 (g := (allG (aq s.v a.p.toNat) (feedP (an s a.p.toNat) a.bytes).2).1) (x := grV (allG (aq s.v a.p.toNat) (feedP (an s a.p.toNat) a.bytes).2).1 p3 (allG (aq s.v a.p.toNat) (feedP (an s a.p.toNat) a.bytes).2).1.cells.length c3) ⟨⟨p3, c3, rfl, hC3, fun _ k hk => (hfar3 k hk).elim (gk gg.pos k) fun h8 => M3.new (by omega), hcap3 gcap⟩, by have := aK hres.2.1; omega⟩ (o := 0 + 0 + 1 + a.p.toNat * 9) (by omega)
  refine ⟨n1, rfl, n2, ?_⟩
  exact (((((up1.ext xd).ext hw2).put (fun _ => rfl) _ _).drew).ext hw3).put (fun _ => rfl) _ _
 ·have K34 : a.kind = 3 \/ a.kind = 4 := .inr k4
  have KN1 := k1
  have KN2 := k2
  refine ⟨tp, _, tc, rfl, hrd0 kt, (ya (TF.tl.ext hdU) tc a.p few).mono fun e w1 ⟨he, hw1⟩ => ⟨_, he, fun hno => ?_, fun hhas => ?_⟩⟩
  ·refine cno 3 (M1.ext (hdU.ext hw1)) (up1.ext (hdU.ext hw1)) (by rw [hact]; rw [if_neg KN1, if_neg KN2, if_pos K34, if_pos hno])
  have xw := hdU.ext hw1
  have hact2 : gu { s with ay := s.ay + 1 } a = if a.kind = 4 then ({ s with ay := s.ay + 1, v := { s.v with focus := a.p } }, .no 0) else (fy { s with ay := s.ay + 1 } a.p.toNat a.bytes, .no 0) := by
   rw [hact, if_neg KN1, if_neg KN2, if_pos K34, if_neg (by rw [hhas]; simp)]
  refine ⟨fun k4 => ?_, fun k5 => (k5 k4).elim⟩
  ·obtain ⟨m1, m2⟩ := (M1.ext xw).g6 a.p (o := 0 + 0 + 57) (by omega)
   refine ⟨rfl, m1, ?_⟩
   rw [hact2, if_pos k4]
   exact ⟨rfl, m2, (up1.ext xw).put (fun _ => rfl) _ _⟩
 ·refine ⟨fun k5 => ?_, fun k5 => ⟨fun k8 => ?_, fun k8 => ⟨fun k6 => ⟨fun _ => ?_, fun hn => (hn k6).elim⟩, fun k6 => ⟨fun k7 => ⟨fun _ => ?_, fun hn => (hn k7).elim⟩, fun k7 => ⟨fun k9 => ?_, fun k9 => ?_⟩⟩⟩⟩⟩
  ·have hact5 : gu { s with ay := s.ay + 1 } a = if a.n < 1 \/ 24 < a.n \/ a.m < 1 \/ 10 < a.m then ({ s with ay := s.ay + 1 }, .no 1) else (kN { s with ay := s.ay + 1, v := { s.v with wide := a.n, high := a.m } }, .no 0) := by
    rw [hact, if_neg k1, if_neg k2, if_neg (by omega), if_pos k5]
   refine ⟨fun b1 => cno 1 M1 up1 (by rw [hact5, if_pos (.inl b1)]), fun b1 => ⟨fun b2 => cno 1 M1 up1 (by rw [hact5, if_pos (.inr (.inl b2))]), fun b2 => ⟨fun b3 => cno 1 M1 up1 (by rw [hact5, if_pos (.inr (.inr (.inl b3)))]), fun b3 => ⟨fun b4 => cno 1 M1 up1 (by rw [hact5, if_pos (.inr (.inr (.inr b4)))]), fun b4 => ?_⟩⟩⟩⟩
   obtain ⟨m1, m2⟩ := (M1.ext hdU).z6 a.n (o := 0 + 0 + 55) (by omega)
   obtain ⟨n1, n2⟩ := m2.Bl a.m (o := 0 + 0 + 56) (by omega)
   refine ⟨rfl, m1, rfl, n1, (qg n2 few I.gl I.pl I.gz).mono fun e w ⟨he, hm, hw⟩ => ⟨he, ?_⟩⟩
   rw [hact5, if_neg (by omega)]
   exact ⟨rfl, hm, (((up1.ext hdU).put (fun _ => rfl) _ _).put (fun _ => rfl) _ _).trans hw fun _ _ h => h⟩
  ·refine ⟨fun x v => SvM v sb B { s with ay := s.ay + 1, ak := (List.range 3).map fun c => if c < x.toNat then dg s.v (ag s c) else ag s c } /\ 0 <= x /\ x <= 3 /\ Upd (· = sb) u v, fun x _ => (3 - x).toNat, ⟨?_, by omega, by omega, up1⟩, ?_⟩
   ·have : ((List.range 3).map fun c : Nat => if c < (0 : Int).toNat then dg s.v (ag s c) else ag s c) = s.ak := by
     simp only [Int.toNat_zero, Nat.not_lt_zero, if_false]
     exact tN I.cl Ct.zero
    rw [this]
    exact M1
   rintro x v ⟨hm, x0, x3, hup⟩
   refine ⟨fun hx => ⟨by omega, by omega, ?_⟩, fun hx => ?_⟩
   ·have hx3 : x.toNat < 3 := by omega
    have hcx : ag { s with ay := s.ay + 1, ak := (List.range 3).map fun c => if c < x.toNat then dg s.v (ag s c) else ag s c } x.toNat = ag s x.toNat := by
     have h9 := lu (n := 3) (i := x.toNat) (fun c : Nat => if c < x.toNat then dg s.v (ag s c) else ag s c) Ct.zero hx3
     rw [if_neg (Nat.lt_irrefl _)] at h9
     exact h9
    refine (DV hm few1 (fun p hp => I.ki p hp) (by simp) hx3 (co := 0 + 82 + x.toNat * 12) (by omega) (by rw [hcx]; exact I.ak _ hx3)).mono fun e w ⟨he, hm2, hw⟩ => ⟨he, by simp only [inK]; omega, ⟨?_, by omega, by omega, hup.trans hw fun _ _ h => h⟩, by first | omega | (dsimp only; omega)⟩
    rw [hcx] at hm2
    have : ((List.range 3).map fun c : Nat => if c < x.toNat then dg s.v (ag s c) else ag s c).set x.toNat (dg s.v (ag s x.toNat)) = (List.range 3).map fun c : Nat => if c < (x + 1).toNat then dg s.v (ag s c) else ag s c := by
     refine map_set hx3 (fun j hj => ?_) ?_
     ·by_cases h7 : j < x.toNat
      ·rw [if_pos h7, if_pos (by omega)]
      ·rw [if_neg h7, if_neg (by omega)]
     ·rw [if_pos (by omega)]
    rw [<- this]
    exact hm2
   ·have hxe : x.toNat = 3 := by omega
    have : ((List.range 3).map fun c : Nat => if c < x.toNat then dg s.v (ag s c) else ag s c) = s.ak.map (dg s.v) := by
     rw [hxe]
     have e1 : s.ak.map (dg s.v) = ((List.range 3).map fun i => s.ak.getD i Ct.zero).map (dg s.v) := by rw [tN I.cl]
     rw [e1, List.map_map]
     exact List.map_congr_left fun j hj => if_pos (List.mem_range.1 hj)
    rw [this] at hm
    rw [hact, if_neg k1, if_neg k2, if_neg (by omega), if_neg k5, if_pos k8]
    exact ⟨rfl, hm, hup⟩
  ·exact vis (.inl k6)
  ·exact vis (.inr (.inl k7))
  ·exact vis (.inr (.inr k9))
  ·exact cno 2 M1 up1 (by rw [hact, if_neg k1, if_neg k2, if_neg (by omega), if_neg k5, if_neg k8, if_neg (by omega)])
def bw (s : Sv) (i : Int) : Bs × Bool × Bool := if i < 0 \/ 3 <= i \/ (ag s i.toNat).here = false then ([], false, false) else ((ag s i.toNat).queue, (ag s i.toNat).lost, true)
theorem nR {u : World} {sb : Nat} {B : Nat -> Prop} {s : Sv} (h : SvM u sb B s) (i : Int) :
  Spec Tryz.prog fZ #[.pointer (some ⟨sb, 0, none⟩), .int .i64 i] u fun e u' => e = .returned (.tuple #[.string (aW (bw s i).1), .bool (bw s i).2.1, .bool (bw s i).2.2]) /\ Ext u u' := by
 apply jE
 delta fG se cnd iI lq
 simp only [decide_eq_true_eq, decide_eq_false_iff_not, true_and, Bool.not_eq_true', Bool.not_eq_false']
 have no : ∀ {v : World}, Ext u v -> (i < 0 \/ 3 <= i \/ (ag s i.toNat).here = false) -> (Ending.returned (.tuple #[.string (ByteArray.mk #[]), .bool false, .bool false]) = .returned (.tuple #[.string (aW (bw s i).1), .bool (bw s i).2.1, .bool (bw s i).2.2]) /\ Ext u v) := fun hv hi => by
  unfold bw
  rw [if_pos hi]
  exact ⟨rfl, hv⟩
 have hr : Ext u u := Upd.refl u
 refine ⟨fun hn => (by cases hn), fun _ => ⟨fun h1 => no hr (.inl h1), fun h1 => ⟨fun h2 => no hr (.inr (.inl h2)), fun h2 => ⟨by omega, by omega, ?_⟩⟩⟩⟩
 have hi : i.toNat < 3 := by omega
 obtain ⟨cs, hc, hrd⟩ := h.rd
 obtain ⟨y, Y, y0, y10, y11, _, _, ysub⟩ := hc.ct hi
 have hd : Ext u (af u) := hr.drew
 have rd : ∀ {w : World} {j m o : Nat} {z : List Value}, Ext u w -> takeN y j m = some z -> j + m <= 12 -> o = 82 + i.toNat * 12 + j -> Rd w sb o z := fun hw hz hjm ho => by
  rw [ho]
  exact hw.rd (hrd (ysub hz hjm)) fun h => h
 refine ⟨_, rfl, rd hr y0 (by decide) (by omega), fun hh => no hr (.inr (.inr hh)), fun hh => ⟨by omega, by omega, _, rfl, rd hd y10 (by decide) (by omega), by omega, by omega, _, rfl, rd hd y11 (by decide) (by omega), ?_⟩⟩
 unfold bw
 rw [if_neg (by rw [hh]; simp; omega)]
 exact ⟨rfl, hd⟩
def oq : Sv := ⟨⟨[[0]], List.replicate 6 .zero, 20, 7, 0⟩, List.replicate 6 .zero, List.replicate 3 .zero, 0⟩
theorem Hi {w : World} {C : List Value} {t : TypeId} {n0 : Nat} (hn : n0 <= w.heap.size) (hC : SvC w (fun k => ¬ (k = w.heap.size \/ k < n0)) oq C) : Spec Tryz.prog dR #[.pointer (some ⟨w.heap.size, 0, none⟩)] (ab w (.cells C.toArray t)) fun e u1 => e = .returned (.tuple #[]) /\ SvM u1 w.heap.size (fun k => k = w.heap.size \/ k < n0) yO /\ Ext w u1 := by
 have ha : Ext w (ab w (.cells C.toArray t)) := (Upd.refl _).alloc _
 have M : SvM (ab w (.cells C.toArray t)) w.heap.size (fun k => k = w.heap.size \/ k < n0) oq := ⟨⟨C, Blk.fresh _ _ _, hC.upd ha fun _ _ h => h⟩, .inl rfl, fun k hk => by rw [size_alloc]; omega⟩
 refine (qg M ⟨by decide, by simp [oq]⟩ rfl rfl (fun i hi => .inr ?_)).mono fun e u1 ⟨he, hm, hu⟩ => ⟨he, hm, (ha.trans hu fun k hk h => by omega).mono fun _ _ h => h⟩
 match i, hi with
 | 0, _ | 1, _ | 2, _ | 3, _ | 4, _ | 5, _ => rfl
theorem Fa {u : World} : Spec Tryz.prog qP #[] u fun e u' => ∃ sb, e = .returned (.pointer (some ⟨sb, 0, none⟩)) /\ SvM u' sb (fun k => k = sb \/ k < u.heap.size) yO /\ u.heap.size <= sb /\ Ext u u' := by
 apply ry
 delta qO cnd iI lq
 have e1 : Ext u (ab u (.cells #[.int .i64 0] aF)) := (Upd.refl u).alloc _
 have e2 : Ext (ab u (.cells #[.int .i64 0] aF)) (ab (ab u (.cells #[.int .i64 0] aF)) (.cells #[.slice (some (Addr.mk u.heap.size 0 none)) 1 1] aL)) := (Upd.refl _).alloc _
 have s1 : (ab u (.cells #[.int .i64 0] aF)).heap.size = u.heap.size + 1 := size_alloc _ _
 have s2 : (ab (ab u (.cells #[.int .i64 0] aF)) (.cells #[.slice (some (Addr.mk u.heap.size 0 none)) 1 1] aL)).heap.size = u.heap.size + 2 := by rw [size_alloc, s1]
 have n1 : bY (ab u (.cells #[.int .i64 0] aF)) (some ⟨u.heap.size, 0, none⟩) 1 [0] := (Own.fresh u (cs := bg [0]) (n := 1) (es := 1) rfl).iG
 have o2 : Own (ab (ab u (.cells #[.int .i64 0] aF)) (.cells #[.slice (some (Addr.mk u.heap.size 0 none)) 1 1] aL)) 1 (some ⟨(ab u (.cells #[.int .i64 0] aF)).heap.size, 0, none⟩) 1 1 [.slice (some (Addr.mk u.heap.size 0 none)) 1 1] := Own.fresh (ab u (.cells #[.int .i64 0] aF)) (cs := [.slice (some (Addr.mk u.heap.size 0 none)) 1 1]) (n := 1) (es := 1) rfl
 have t2 : TlF (ab (ab u (.cells #[.int .i64 0] aF)) (.cells #[.slice (some (Addr.mk u.heap.size 0 none)) 1 1] aL)) (fun k => u.heap.size <= k /\ k < u.heap.size + 2) (some ⟨(ab u (.cells #[.int .i64 0] aF)).heap.size, 0, none⟩) [[0]] :=
  ⟨[[.slice (some (Addr.mk u.heap.size 0 none)) 1 1]], ⟨by simpa using o2.aH, rfl, by simp⟩, ⟨⟨_, _, rfl, n1.ext e2, fun k hk => by have := ar hk; simp only at this; omega⟩, trivial⟩, fun k hk => by have := ar hk; simp only at this; omega⟩
 generalize hw2 : ab (ab u (.cells #[.int .i64 0] aF)) (.cells #[.slice (some (Addr.mk u.heap.size 0 none)) 1 1] aL) = w2 at *
 have x2 : Ext u w2 := by rw [<- hw2]; exact e1.ext (by rw [hw2]; exact e2)
 have hsb : w2.heap.size = u.heap.size + 2 := s2
 have gz : ∀ i, i < 6 -> aq oq.v i = .zero := fun i hi => by
  match i, hi with
  | 0, _ | 1, _ | 2, _ | 3, _ | 4, _ | 5, _ => rfl
 have pz : ∀ i, i < 6 -> an oq i = .zero := fun i hi => by
  match i, hi with
  | 0, _ | 1, _ | 2, _ | 3, _ | 4, _ | 5, _ => rfl
 have cz : ∀ i, i < 3 -> ag oq i = .zero := fun i hi => by
  match i, hi with
  | 0, _ | 1, _ | 2, _ => rfl
 have G0 : HX w2 (fun k => ¬ (k = w2.heap.size \/ k < u.heap.size)) .zero (grV .zero none 0 0) := ⟨⟨none, 0, rfl, Cells.nil _, fun _ k hk => (aJ hk).elim, Nat.le_refl _⟩, by decide⟩
 have P0 : Fo w2 (fun k => ¬ (k = w2.heap.size \/ k < u.heap.size)) .zero [.int .i64 0, .slice none 0 0, .string (ByteArray.mk #[]), .bool false] := ⟨⟨none, 0, 0, rfl, ⟨rfl, rfl⟩, fun _ k hk => (aJ hk).elim⟩⟩
 have C0 : Gp w2 (fun k => ¬ (k = w2.heap.size \/ k < u.heap.size)) .zero ([.bool false] ++ grV .zero none 0 0 ++ [.string (aW []), .bool false]) := ⟨⟨none, 0, rfl, Cells.nil _, fun _ k hk => (aJ hk).elim⟩, by decide⟩
 refine Spec.mono (Hi (n0 := u.heap.size) (by omega) ?_) fun e u1 ⟨he, hm, hx⟩ => ⟨he, _, rfl, hm, by omega, x2.ext hx⟩
 refine ⟨rfl, ⟨_, _, rfl, t2.mono fun k hk => by omega⟩, fun i hi => ?_, rfl, rfl, rfl, fun i hi => ?_, fun i hi => ?_, rfl⟩
 ·rw [gz i hi]
  match i, hi with
  | 0, _ | 1, _ | 2, _ | 3, _ | 4, _ | 5, _ => exact ⟨_, rfl, G0⟩
 ·rw [pz i hi]
  match i, hi with
  | 0, _ | 1, _ | 2, _ | 3, _ | 4, _ | 5, _ => exact ⟨_, rfl, P0⟩
 ·rw [cz i hi]
  match i, hi with
  | 0, _ | 1, _ | 2, _ => exact ⟨_, rfl, C0⟩
theorem Hh {u : World} (n : Int) : Spec Tryz.prog cE #[.int .i64 n] u fun e u' => e = .returned (.agg #[.int .i64 n, .int .i64 0, .string (ByteArray.mk #[])]) /\ Ext u u' := by
 apply gN
 delta dG cnd iI lq
 exact ⟨rfl, (Upd.refl _).alloc _⟩
theorem BL {u : World} (k p n m : Int) (b : ByteArray) : Spec Tryz.prog jy #[.agg #[.int .i64 k, .int .i64 p, .int .i64 n, .int .i64 m, .string b]] u (Told u (decide (1 <= n /\ n <= 24 /\ 1 <= m /\ m <= 10))) := by
 apply lH
 delta jA cnd iI lq
 simp only [decide_eq_true_eq, decide_eq_false_iff_not]
 have hu : Ext u (ab u hole) := (Upd.refl _).alloc _
 have no : ¬ (1 <= n /\ n <= 24 /\ 1 <= m /\ m <= 10) -> Told u (decide (1 <= n /\ n <= 24 /\ 1 <= m /\ m <= 10)) (.returned (.bool false)) (ab u hole) := fun h => ⟨by rw [decide_eq_false h], hu⟩
 refine ⟨fun h1 => ⟨fun h2 => ⟨fun h3 => ⟨?_, hu⟩, fun h => no (by omega)⟩, fun h => no (by omega)⟩, fun h => no (by omega)⟩
 have : (1 <= n /\ n <= 24 /\ 1 <= m /\ m <= 10) ↔ m <= 10 := ⟨fun h => h.2.2.2, fun h => ⟨h1, h2, h3, h⟩⟩
 simp only [this]
theorem Gn {w : World} {C : List Value} {t : TypeId} {n0 : Nat} (hn : n0 <= w.heap.size) (hC : RvC w (fun k => ¬ (k = w.heap.size \/ k < n0)) oq C) : Spec Tryz.prog cO #[.pointer (some ⟨w.heap.size, 0, none⟩)] (ab w (.cells C.toArray t)) fun e u1 => e = .returned (.tuple #[]) /\ RvM u1 w.heap.size (fun k => k = w.heap.size \/ k < n0) yO /\ Ext w u1 := by
 have ha : Ext w (ab w (.cells C.toArray t)) := (Upd.refl _).alloc _
 have M : RvM (ab w (.cells C.toArray t)) w.heap.size (fun k => k = w.heap.size \/ k < n0) oq := ⟨⟨C, Blk.fresh _ _ _, hC.upd ha fun _ _ h => h⟩, .inl rfl, fun k hk => by rw [size_alloc]; omega⟩
 refine (Bq M ⟨by decide, by simp [oq]⟩ rfl rfl (fun i hi => .inr ?_)).mono fun e u1 ⟨he, hm, hu⟩ => ⟨he, hm, (ha.trans hu fun k hk h => by omega).mono fun _ _ h => h⟩
 match i, hi with
 | 0, _ | 1, _ | 2, _ | 3, _ | 4, _ | 5, _ => rfl
theorem EM {u : World} : Spec Tryz.prog eR #[] u fun e u' => ∃ sb, e = .returned (.pointer (some ⟨sb, 0, none⟩)) /\ RvM u' sb (fun k => k = sb \/ k < u.heap.size) yO /\ u.heap.size <= sb /\ Ext u u' := by
 apply jl
 delta fm cnd iI lq
 have e1 : Ext u (ab u (.cells #[.int .i64 0] aF)) := (Upd.refl u).alloc _
 have e2 : Ext (ab u (.cells #[.int .i64 0] aF)) (ab (ab u (.cells #[.int .i64 0] aF)) (.cells #[.slice (some (Addr.mk u.heap.size 0 none)) 1 1] aL)) := (Upd.refl _).alloc _
 have s1 : (ab u (.cells #[.int .i64 0] aF)).heap.size = u.heap.size + 1 := size_alloc _ _
 have s2 : (ab (ab u (.cells #[.int .i64 0] aF)) (.cells #[.slice (some (Addr.mk u.heap.size 0 none)) 1 1] aL)).heap.size = u.heap.size + 2 := by rw [size_alloc, s1]
 have n1 : bY (ab u (.cells #[.int .i64 0] aF)) (some ⟨u.heap.size, 0, none⟩) 1 [0] := (Own.fresh u (cs := bg [0]) (n := 1) (es := 1) rfl).iG
 have o2 : Own (ab (ab u (.cells #[.int .i64 0] aF)) (.cells #[.slice (some (Addr.mk u.heap.size 0 none)) 1 1] aL)) 1 (some ⟨(ab u (.cells #[.int .i64 0] aF)).heap.size, 0, none⟩) 1 1 [.slice (some (Addr.mk u.heap.size 0 none)) 1 1] := Own.fresh (ab u (.cells #[.int .i64 0] aF)) (cs := [.slice (some (Addr.mk u.heap.size 0 none)) 1 1]) (n := 1) (es := 1) rfl
 have t2 : TlF (ab (ab u (.cells #[.int .i64 0] aF)) (.cells #[.slice (some (Addr.mk u.heap.size 0 none)) 1 1] aL)) (fun k => u.heap.size <= k /\ k < u.heap.size + 2) (some ⟨(ab u (.cells #[.int .i64 0] aF)).heap.size, 0, none⟩) [[0]] :=
  ⟨[[.slice (some (Addr.mk u.heap.size 0 none)) 1 1]], ⟨by simpa using o2.aH, rfl, by simp⟩, ⟨⟨_, _, rfl, n1.ext e2, fun k hk => by have := ar hk; simp only at this; omega⟩, trivial⟩, fun k hk => by have := ar hk; simp only at this; omega⟩
 generalize hw2 : ab (ab u (.cells #[.int .i64 0] aF)) (.cells #[.slice (some (Addr.mk u.heap.size 0 none)) 1 1] aL) = w2 at *
 have x2 : Ext u w2 := by rw [<- hw2]; exact e1.ext (by rw [hw2]; exact e2)
 have hsb : w2.heap.size = u.heap.size + 2 := s2
 have gz : ∀ i, i < 6 -> aq oq.v i = .zero := fun i hi => by
  match i, hi with
  | 0, _ | 1, _ | 2, _ | 3, _ | 4, _ | 5, _ => rfl
 have pz : ∀ i, i < 6 -> an oq i = .zero := fun i hi => by
  match i, hi with
  | 0, _ | 1, _ | 2, _ | 3, _ | 4, _ | 5, _ => rfl
 have cz : ∀ i, i < 3 -> ag oq i = .zero := fun i hi => by
  match i, hi with
  | 0, _ | 1, _ | 2, _ => rfl
 have G0 : HQ w2 (fun k => ¬ (k = w2.heap.size \/ k < u.heap.size)) .zero (grV .zero none 0 0) := ⟨⟨none, 0, rfl, Cells.nil _, fun _ k hk => (aJ hk).elim⟩, by decide⟩
 have P0 : Fo w2 (fun k => ¬ (k = w2.heap.size \/ k < u.heap.size)) .zero [.int .i64 0, .slice none 0 0, .string (ByteArray.mk #[]), .bool false] := ⟨⟨none, 0, 0, rfl, ⟨rfl, rfl⟩, fun _ k hk => (aJ hk).elim⟩⟩
 refine Spec.mono (Gn (n0 := u.heap.size) (by omega) ?_) fun e u1 ⟨he, hm, hx⟩ => ⟨he, _, rfl, hm, by omega, x2.ext hx⟩
 refine ⟨rfl, ⟨_, _, rfl, t2.mono fun k hk => by omega⟩, fun i hi => ?_, rfl, rfl, rfl, fun i hi => ?_, fun i hi => ?_, rfl⟩
 ·rw [gz i hi]
  match i, hi with
  | 0, _ | 1, _ | 2, _ | 3, _ | 4, _ | 5, _ => exact ⟨_, rfl, G0⟩
 ·rw [pz i hi]
  match i, hi with
  | 0, _ | 1, _ | 2, _ | 3, _ | 4, _ | 5, _ => exact ⟨_, rfl, P0⟩
 ·rw [cz i hi]
  match i, hi with
  | 0, _ | 1, _ | 2, _ => exact rfl
theorem yG (pr : Pr) (s_p : Option Addr) (s_n s_c : Nat) {u : World} (h : bY u s_p s_n pr.ps) (hn : s_n <= 100000000) :
  Spec Tryz.prog eo #[PrV pr s_p s_n s_c] u fun e u' => ∃ p c, e = .returned (PrV pr p s_n c) /\ Own u' 1 p s_n c (bg pr.ps) /\ Ext u u' /\ ∀ k, At p k -> u.heap.size <= k := by
 apply iE
 delta eC cnd iI lq
 have hu : Ext u (ab (ab u hole) hole) := ((Upd.refl u).alloc _).alloc _
 have h' := h.ext hu
 refine ⟨[], bg pr.ps, rfl, rfl, by rw [bF, h'.2]; omega, h'.1, by decide, by omega, iY _, fun _ => trivial, fun p cap u1 hr => ?_⟩
 obtain ⟨h1, h2, h3⟩ := cD.none hr rfl (by rw [bF, h'.2]; omega) rfl
 simp only [Nat.zero_add] at h1 ⊢
 refine ⟨p, cap, rfl, h1, hu.ext h2, fun k hk => ?_⟩
 obtain ⟨a, ha, rfl⟩ := hk
 rcases h3 with ⟨_, h3⟩ | h3
 ·rw [h3] at ha; cases ha
 ·rw [h3] at ha; cases ha; simp only [size_alloc]; omega
theorem yF (pr : Pr) (s_p : Option Addr) (s_n s_c : Nat) {u : World} (h : bY u s_p s_n pr.ps) (hb : s_n <= 100000000) :
  Spec Tryz.prog eF #[PrV pr s_p s_n s_c] u fun e u' => ∃ g, e = .returned (.bool g) /\ (g = true ↔ bB pr) /\ Ext u u' := by
 apply iM
 delta eB Ad Al s7 Aw cnd iI lq
 obtain ⟨a, ps, pl, lg⟩ := pr
 simp only at h
 have hlen := h.2
 have hu : Ext u (ab u hole) := (Upd.refl u).alloc _
 simp only [decide_eq_false_iff_not, decide_eq_true_eq, true_and, vp]
 refine ⟨fun x u1 => Ext u u1 /\ 0 <= x /\ x <= s_n /\ ∀ i : Nat, i < x.toNat -> nT (ps.getD i 0), fun x _ => (s_n - x).toNat, ⟨hu, by omega, by omega, by omega⟩, fun x u1 ⟨hu1, h0, hx, hi⟩ => ⟨fun hlt => ?_, fun hlt => ?_⟩⟩
 ·obtain ⟨b, o, hp, hr⟩ := (h.ext hu1).at (i := x.toNat) (by omega)
  have bad : ¬ nT (ps.getD x.toNat 0) -> ¬ bB ⟨a, ps, pl, lg⟩ := fun hb g => hb (g.iG _ (by
   show ps.getD x.toNat 0 ∈ ps
   rw [List.getD_eq_getElem?_getD, List.getElem?_eq_getElem (by omega)]
   exact List.getElem_mem _))
  refine ⟨b, o, hp, h0, hlt, _, rfl, hr, fun h5 => ⟨_, rfl, by simp [bad fun h => by have := h.1; omega], hu1⟩, fun h5 => ⟨fun h6 => ⟨_, rfl, by simp [bad fun h => by have := h.2; omega], hu1⟩, fun h6 => ⟨by simp only [inK]; omega, ⟨hu1, by omega, by omega, fun i hi' => ?_⟩, by first | omega | (dsimp only; omega)⟩⟩⟩
  rcases (by omega : i < x.toNat \/ i = x.toNat) with h | rfl
  ·exact hi i h
  ·exact ⟨by omega, by omega⟩
 ·have hnums : ∀ n ∈ ps, nT n := fun n hn => by
   obtain ⟨i, hi2, rfl⟩ := List.getElem_of_mem hn
   have := hi i (by omega)
   simpa [List.getD_eq_getElem?_getD, List.getElem?_eq_getElem hi2] using this
  have key : (bB ⟨a, ps, pl, lg⟩) ↔ (0 <= a /\ a <= 4 /\ s_n <= 4 /\ pl.size <= 48 /\ (a = 2 ↔ 0 < s_n)) /\ (a = 3 \/ a = 4 \/ (pl = au /\ lg = false)) := ⟨fun g => ⟨⟨g.lo, g.hi, by have := g.len; simp only at this; omega, g.pay, by have := g.cmd; simp only at this; omega⟩, g.rest⟩, fun ⟨g, r⟩ => ⟨by simp only; omega, by simp only; omega, by simp only; omega, by simp only; omega, hnums, by simp only; omega, r⟩⟩
  repeat' (refine And.intro (fun _ => ?_) (fun _ => ?_))
  all_goals
   refine ⟨_, rfl, ?_, hu1⟩
   rw [key]
   by_cases hpl : pl = au
   ·have hz : pl.size = 0 := by rw [hpl]; rfl
    cases lg <;> first | contradiction | (simp only [hpl, Bool.not_eq_true', decide_eq_true_eq, and_true, and_false, true_and, false_and, or_false, Bool.false_eq_true, Bool.true_eq_false, false_iff, true_iff, Bool.not_true, Bool.not_false, or_true]; have hz2 : au.size = 0 := rfl; omega)
   ·cases lg <;> first | contradiction | (simp only [hpl, Bool.not_eq_true', decide_eq_true_eq, and_true, and_false, true_and, false_and, or_false, Bool.false_eq_true, Bool.true_eq_false, false_iff, true_iff, Bool.not_true, Bool.not_false, or_true]; omega)
abbrev bG (p : Pr) (pp : Option Addr) (n c : Nat) : List Value := [.int .i64 p.at_, .slice pp n c, .string p.pl, .bool p.fA]
structure RI (u : World) (bp bl bs : Nat) (s : ByteArray) (N : Nat) (pr : Pr) (pp : Option Addr) (pn pc : Nat) (lp : Option Addr) (ln lc : Nat) (evs : List Ev) (xs : List (List Value)) (u1 : World) : Prop where
 hp : ∃ t, u1.heap[bp]? = some (.cells (bG pr pp pn pc).toArray t (0, 0))
 hl : ∃ t, u1.heap[bl]? = some (.cells [Value.slice lp ln lc].toArray t (0, 0))
 bytes : Rd u1 bs 0 (aV s)
 own : Own u1 1 pp pn pc (bg pr.ps)
 list : Own u1 4 lp ln lc xs.flatten
 told : Evs u1 (fun k => k < N /\ (k ≠ bp /\ k ≠ bl) /\ ¬ At lp k /\ ¬ At pp k /\ u.heap.size <= k) xs evs
 ext : Ext u u1
 inP : ∀ k, At pp k -> u.heap.size <= k /\ k < N /\ k ≠ bp /\ k ≠ bl /\ k ≠ bs
 inL : ∀ k, At lp k -> u.heap.size <= k /\ k < N /\ k ≠ bp /\ k ≠ bl /\ k ≠ bs
 apart : ∀ k, At pp k -> ¬ At lp k
 ne : bp ≠ bl /\ bp ≠ bs /\ bl ≠ bs
 lo : u.heap.size <= bp /\ u.heap.size <= bl /\ u.heap.size <= bs
 hi : bp < N /\ bl < N /\ bs < N
 bound : N <= u1.heap.size
section
variable {u : World} {bp bl bs N : Nat} {s : ByteArray} {pr : Pr} {pp : Option Addr} {pn pc : Nat} {lp : Option Addr} {ln lc : Nat} {evs : List Ev} {xs : List (List Value)} {u1 : World}
theorem RI.len (h : RI u bp bl bs s N pr pp pn pc lp ln lc evs xs u1) : evs.length = ln := by
 have := h.list.len
 rw [h.told.flat] at this
 omega
theorem RI.go (h : RI u bp bl bs s N pr pp pn pc lp ln lc evs xs u1) {v : World} (hv : Ext u1 v) : RI u bp bl bs s N pr pp pn pc lp ln lc evs xs v := by
 obtain ⟨⟨t, hp⟩, ⟨t', hl⟩, hb, ho, hL, ht, he, h1, h2, h3, h4, h5, h6, h7⟩ := h
 exact ⟨⟨t, by rw [hv.old bp (by omega) fun h => h]; exact hp⟩, ⟨t', by rw [hv.old bl (by omega) fun h => h]; exact hl⟩, hv.rd hb fun h => h, ho.ext hv, hL.ext hv, ht.upd hv fun k hk => ⟨fun h => h, hk⟩, he.ext hv, h1, h2, h3, h4, h5, h6, Nat.le_trans h7 hv.size⟩
theorem RI.Ip (h : RI u bp bl bs s N pr pp pn pc lp ln lc evs xs u1) {v : World} {pr' : Pr} {q : Option Addr} {n c : Nat} (ho : Own v 1 q n c (bg pr'.ps)) (hq : ∀ k, At q k -> At pp k \/ N <= k) {S : Nat -> Prop} (hv : Upd S u1 v) (hS : ∀ k, S k -> k = bp \/ At pp k) (hp : ∃ t, v.heap[bp]? = some (.cells (bG pr' q n c).toArray t (0, 0))) :
  RI u bp bl bs s v.heap.size pr' q n c lp ln lc evs xs v := by
 obtain ⟨_, ⟨t', hl⟩, hb, ho', hL, ht, he, h1, h2, h3, h4, h5, h6, h7⟩ := h
 have hvs := hv.size
 have hn : ∀ k, k ≠ bp -> ¬ At pp k -> ¬ S k := fun k h1 h2 hs => (hS k hs).elim h1 h2
 have hbl : ¬ At pp bl := fun h => (h1 _ h).2.2.2.1 rfl
 have hbs : ¬ At pp bs := fun h => (h1 _ h).2.2.2.2 rfl
 refine ⟨hp, ⟨t', by rw [hv.old bl (by omega) (hn _ h4.1.symm hbl)]; exact hl⟩, hv.rd hb (hn _ h4.2.1.symm hbs), ho, hL.upd hv fun k hk => hn k (h2 k hk).2.2.1 fun h => h3 k h hk, ht.upd hv fun k hk => ⟨hn k hk.2.1.1 hk.2.2.2.1, by omega, hk.2.1, hk.2.2.1, fun h => (hq k h).elim hk.2.2.2.1 (by omega), hk.2.2.2.2⟩, ?_, fun k hk => ?_, fun k hk => ?_, fun k hk hl => ?_, h4, h5, by omega, Nat.le_refl _⟩
 ·exact (he.trans hv fun k hk hs => (hS k hs).elim (fun e => by omega) fun h => by have := (h1 k h).1; omega).mono fun _ _ h => h
 ·have hkv := (ho.at hk).1
  rcases hq k hk with h | h
  ·exact ⟨(h1 k h).1, hkv, (h1 k h).2.2⟩
  ·exact ⟨by omega, hkv, by omega, by omega, by omega⟩
 ·have := h2 k hk
  exact ⟨this.1, by omega, this.2.2⟩
 ·rcases hq k hk with h | h
  ·exact h3 k h hl
  ·have := h2 k hl; omega
theorem RI.store (h : RI u bp bl bs s N pr pp pn pc lp ln lc evs xs u1) {pr' : Pr} {q : Option Addr} {n c : Nat} (ho : Own u1 1 q n c (bg pr'.ps)) (hq : ∀ k, At q k -> At pp k \/ N <= k) {o : Nat} {ys : List Value} (hput : putN (bG pr pp pn pc) o ys = some (bG pr' q n c)) :
  Wr u1 bp o ys.length /\ RI u bp bl bs s (ae u1 bp o ys).heap.size pr' q n c lp ln lc evs xs (ae u1 bp o ys) := by
 obtain ⟨t, hp⟩ := h.hp
 have hU : Upd (· = bp) u1 (ae u1 bp o ys) := Upd.put (S := (· = bp)) (Upd.refl u1) (b := bp) (fun _ => rfl) _ _
 refine ⟨pt hp hput, h.Ip (ho.upd hU fun k hk e => ?_) hq hU (fun k hk => .inl hk) ⟨t, kB ys o _ _ u1 hp hput⟩⟩
 subst e
 rcases hq _ hk with h2 | h2
 ·exact (h.inP _ h2).2.2.1 rfl
 ·have := h.hi; omega
theorem RI.rdP (h : RI u bp bl bs s N pr pp pn pc lp ln lc evs xs u1) : Rd u1 bp 0 (bG pr pp pn pc) := by
 obtain ⟨t, hp⟩ := h.hp
 have := j0 (u := u1) (b := bp) (t := t) (f := (0, 0)) (bG pr pp pn pc) [] [] (by rw [hp]; simp)
 exact this
theorem RI.rdL (h : RI u bp bl bs s N pr pp pn pc lp ln lc evs xs u1) : Rd u1 bl 0 [.slice lp ln lc] := by
 obtain ⟨t, hp⟩ := h.hl
 have := j0 (u := u1) (b := bl) (t := t) (f := (0, 0)) [.slice lp ln lc] [] [] (by rw [hp]; simp)
 exact this
theorem Ej (h : RI u bp bl bs s N pr pp pn pc lp ln lc evs xs u1) (ev : Ev) (ep : Option Addr) (en ec : Nat) (hn : bY u1 ep en ev.ps) (hk : ∀ k, At ep k -> k < u1.heap.size /\ (k ≠ bp /\ k ≠ bl) /\ ¬ At lp k /\ ¬ At pp k /\ u.heap.size <= k) (hln : ln <= 4194304) :
  Spec Tryz.prog cC #[EvV ev ep en ec, .pointer (some ⟨bl, 0, none⟩)] u1 fun e u2 => e = .returned (.tuple #[]) /\ ∃ lp' lc', RI u bp bl bs s u2.heap.size pr pp pn pc lp' (ln + 1) lc' (evs ++ [ev]) (xs ++ [sV ev ep en ec]) u2 := by
 apply gD
 delta dK cnd iI lq
 have hv1 : Ext u1 (ab u1 hole) := (Upd.refl u1).alloc _
 refine ⟨lp, ln, lc, rfl, (h.go hv1).rdL, ?_⟩
 have hw : Ext u1 (ab (ab u1 hole) (.cells #[.int .i64 ev.kind, .int .i64 ev.b, .slice ep en ec, .string ev.pl] gX)) := hv1.alloc _
 have hh := h.go hw
 have ef : Own (ab (ab u1 hole) (.cells #[.int .i64 ev.kind, .int .i64 ev.b, .slice ep en ec, .string ev.pl] gX)) 4 _ 1 1 (sV ev ep en ec) := Own.fresh (ab u1 hole) (cs := sV ev ep en ec) rfl
 refine ⟨xs.flatten, sV ev ep en ec, hh.list.len, hh.list.aH, rfl, ef.aH, by decide, by omega, by simp [okCells, sV], fun hc => hh.list.wrs (by omega), fun p' cap u3 hr => ?_⟩
 obtain ⟨a1, a2, a3⟩ := hh.list.app hr hh.list.len hh.list.aH rfl rfl
 have hws := hw.size
 have has := a2.size
 obtain ⟨⟨t, hp⟩, ⟨t', hl⟩, hb, ho, hL, ht, he, h1, h2, h3, h4, h5, h6, h7⟩ := hh
 have hbl : ¬ At lp bl := fun h => (h2 _ h).2.2.2.1 rfl
 have hl3 : u3.heap[bl]? = some (.cells [Value.slice lp ln lc].toArray t' (0, 0)) := by rw [a2.old bl (by omega) hbl]; exact hl
 have hput : putN [Value.slice lp ln lc] 0 [.slice p' (ln + 1) cap] = some [.slice p' (ln + 1) cap] := rfl
 have hU : Upd (· = bl) u3 (ae u3 bl 0 [.slice p' (ln + 1) cap]) := Upd.put (S := (· = bl)) (Upd.refl u3) (b := bl) (fun _ => rfl) _ _
 have hA : Upd (fun k => k = bl \/ At lp k) _ _ := (a2.mono fun k _ hk => Or.inr hk).trans hU fun k _ hk => Or.inl hk
 have hAs := hA.size
 have hp' : ∀ k, At p' k -> At lp k \/ (ab (ab u1 hole) (.cells #[.int .i64 ev.kind, .int .i64 ev.b, .slice ep en ec, .string ev.pl] gX)).heap.size <= k := by
  clear hk
  intro k hk1
  rcases a3 with ⟨rfl, _⟩ | ⟨rfl, _⟩
  ·exact .inl hk1
  ·rw [ar hk1]; exact .inr (Nat.le_refl _)
 have hpl : ∀ k, At p' k -> k ≠ bl := by
  intro k hk1 e
  rcases hp' _ hk1 with h | h
  ·exact hbl (e ▸ h)
  ·omega
 refine ⟨rfl, pt hl3 hput, rfl, p', cap, ⟨t, ?_⟩, ⟨t', kB _ 0 _ _ u3 hl3 hput⟩, ?_, ?_, ?_, ?_, ?_, ?_, ?_, ?_, h4, h5, by omega, Nat.le_refl _⟩
 ·rw [hA.old bp (by omega) fun h => h.elim h4.1 fun h => (h2 _ h).2.2.1 rfl]
  exact hp
 ·exact hA.rd hb fun h => h.elim (fun e => h4.2.2 e.symm) fun h => (h2 _ h).2.2.2.2 rfl
 ·exact ho.upd hA fun k hk h => h.elim (h1 k hk).2.2.2.1 (h3 k hk)
 ·have := a1.upd hU fun k hk e => hpl k hk e
  rw [List.flatten_append]
  simpa using this
 ·have hok : ∀ k, k < u1.heap.size /\ (k ≠ bp /\ k ≠ bl) /\ ¬ At lp k /\ ¬ At pp k /\ u.heap.size <= k -> k < (ae u3 bl 0 [.slice p' (ln + 1) cap]).heap.size /\ (k ≠ bp /\ k ≠ bl) /\ ¬ At p' k /\ ¬ At pp k /\ u.heap.size <= k := fun k hk => ⟨by omega, hk.2.1, fun h => (hp' k h).elim hk.2.2.1 (by omega), hk.2.2.2⟩
  have hN := h.bound
  refine Evs.snoc ⟨ep, en, ec, rfl, (hn.ext hw).upd hA fun k hk' h => ?_, fun k hk' => hok k (hk k hk')⟩ (ht.upd hA fun k hk' => ⟨fun h => h.elim hk'.2.1.2 hk'.2.2.1, hok k ⟨by omega, hk'.2⟩⟩)
  exact h.elim (hk k hk').2.1.2 (hk k hk').2.2.1
 ·exact (he.trans hA fun k hk h => h.elim (fun e => by omega) fun h => by have := (h2 k h).1; omega).mono fun _ _ h => h
 ·intro k hk
  have := h1 k hk
  exact ⟨this.1, by omega, this.2.2⟩
 ·intro k hk
  have hkk : k < u3.heap.size := (a1.at hk).1
  have hN := h.bound
  have hpu : (ae u3 bl 0 [.slice p' (ln + 1) cap]).heap.size = u3.heap.size := fb _ _ _
  rcases hp' k hk with h | h
  ·have := h2 k h
   exact ⟨this.1, by omega, this.2.2⟩
  ·exact ⟨by omega, by omega, by omega, by omega, by omega⟩
 ·intro k hk hl
  rcases hp' k hl with h | h
  ·exact h3 k hk h
  ·have := h1 k hk; omega
theorem fN (h : RI u bp bl bs s N pr pp pn pc lp ln lc evs xs u1) :
  Spec Tryz.prog dJ #[.pointer (some ⟨bp, 0, none⟩)] u1 fun e u2 => e = .returned (.tuple #[]) /\ RI u bp bl bs s u2.heap.size .zero none 0 0 lp ln lc evs xs u2 := by
 apply gF
 delta dI cnd iI lq
 have := h.store (pr' := .zero) (q := none) (n := 0) (c := 0) (Own.nil _ _) (fun _ h => (aJ h).elim) (o := 0) (ys := bG .zero none 0 0) rfl
 exact ⟨rfl, this.1, rfl, this.2⟩
end
end Go.Proofs.YtkmmphkjmamckacGreatDoor
