/-
  A client is shown what is: the server's function.
-/
import Derived.Test.YtkmmphkjmamckabDoorSShow
namespace Go.Proofs.YtkmmphkjmamckabDoor
open Go
set_option linter.all false

theorem shc1_ok {u : World} (frm : Gr) (fp : Option Addr) (fc : Nat) {to : Gr} {tp : Option Addr} (ht : Cells u tp to.cells) (tc : Nat) (hto : GoodG to ∧ to.col < to.wide) (htl : to.cells.length ≤ 10000000) :
    Spec Tryd.prog fn_server_Server_show_c1 #[GrV frm fp frm.cells.length fc, GrV to tp to.cells.length tc] u fun e u' => ∃ gp gc st, st.data.toList = [27, 99] ++ (turnD (newG to.wide to.high) to).2 ∧ e = .returned (.tuple #[.string st, GrV (turnD (newG to.wide to.high) to).1 gp (turnD (newG to.wide to.high) to).1.cells.length gc, .int .i64 0]) ∧
      Cells u' gp (turnD (newG to.wide to.high) to).1.cells ∧ (∀ k, At gp k → u.heap.size ≤ k) ∧ Ext u u' := by
  apply vc_server_Server_show_c1_spec
  unfold vc_server_Server_show_c1
  have hu : Ext u (allocW (allocW (allocW u hole) hole) hole) := (((Upd.refl u).alloc _).alloc _).alloc _
  refine (danew_ok (ht.ext hu) tc htl).mono fun e u1 h7 => ?_
  obtain ⟨gp, gc, st, hst, he, C, hfar⟩ := h7.yes hto
  exact ⟨_, _, _, _, _, _, _, _, _, _, _, _, _, he, gp, gc, st, hst, rfl, C, fun k hk => by have := hfar k hk; have := hu.size; omega, hu.ext h7.ext⟩

set_option maxHeartbeats 2000000 in
theorem srvShow_ok {u : World} {sb i co : Nat} {B : Nat → Prop} {s : Sv} (h : SvM u sb B s) (few : FewT 1048576 s.v.cols) (hg : ∀ p, p < 6 → gridOf s.v p = .zero ∨ GoodG (gridOf s.v p)) (hcl : s.clients.length = 3) (hi : i < 3) (hco : co = 82 + i * 12) (hct : CtOk (clientOf s i)) :
    Spec Tryd.prog fn_server_Server_show #[.pointer (some ⟨sb, 0, none⟩), .pointer (some ⟨sb, co, none⟩)] u (ShTo u sb B s i) := by
  apply vc_server_Server_show_spec
  unfold vc_server_Server_show
  simp only [decide_eq_true_eq, decide_eq_false_iff_not, true_and, Bool.not_eq_true', Bool.not_eq_false']
  obtain ⟨cs, hc, hrd⟩ := h.rd
  obtain ⟨y, k1, ⟨⟨sp, sd, rfl, sC, sk⟩, sfew⟩⟩ := hc.client i hi
  have rd : ∀ {w : World} {j m o : Nat} {z : List Value}, Ext u w → takeN ([.bool (clientOf s i).here] ++ grV (clientOf s i).shown sp (clientOf s i).shown.cells.length sd ++ [.string (bstr (clientOf s i).queue), .bool (clientOf s i).lost]) j m = some z → j + m ≤ 12 → o = co + j → Rd w sb o z := fun hw hz hjm ho => by
    rw [ho, hco]
    exact hw.rd (hrd (takeN_sub k1 hz hjm)) fun h => h
  have hsame : ∀ {v : World}, Ext u v → showS s.v (clientOf s i) = clientOf s i → ShTo u sb B s i (.returned (.tuple #[])) v := fun hv he => by
    refine ⟨rfl, ?_, hv.any⟩
    have : ({ s with clients := s.clients.set i (showS s.v (clientOf s i)) } : Sv) = s := by
      rw [he]
      have : s.clients.set i (clientOf s i) = s.clients := by
        refine List.ext_getElem (by simp) fun j h1 h2 => ?_
        rw [List.getElem_set]
        split
        · next e => subst e; show s.clients.getD i .zero = _; simp [List.getD_eq_getElem?_getD, h2]
        · rfl
      rw [this]
    rw [this]
    exact h.ext hv
  have hre : Ext u u := Upd.refl u
  refine ⟨_, rfl, rd hre (j := 0) (m := 1) rfl (by decide) rfl, fun hh => hsame hre (by unfold showS; rw [if_pos (.inl hh)]), fun hh => ⟨_, rfl, rd hre (j := 11) (m := 1) rfl (by decide) rfl, fun hl => ⟨_, rfl, rd hre (j := 10) (m := 1) rfl (by decide) rfl, fun hne => ?_, fun heq => ?_⟩, fun hl => ?_⟩⟩
  · refine hsame hre ?_
    unfold showS
    rw [if_pos (.inr ⟨hl, fun e => hne (by rw [bstr_list, e])⟩)]
  have hnot : ¬ ((clientOf s i).here = false ∨ ((clientOf s i).lost = true ∧ (clientOf s i).queue ≠ [])) := by
    rintro (h7 | h7)
    · rw [hh] at h7; cases h7
    · rw [bstr_list] at heq
      exact h7.2 heq
  rotate_left 1
  have hnot : ¬ ((clientOf s i).here = false ∨ ((clientOf s i).lost = true ∧ (clientOf s i).queue ≠ [])) := by
    rintro (h7 | h7)
    · rw [hh] at h7; cases h7
    · rw [hl] at h7; cases h7.1
  all_goals
    obtain ⟨hs, hq⟩ := hct.on hh
    have hto := screen_good hg (clientOf s i).shown.wide (clientOf s i).shown.high
    have hsd := screen_sides (v := s.v) hs
    have hm : mayTurn (clientOf s i).shown (screenV s.v (clientOf s i).shown.wide (clientOf s i).shown.high) := ⟨hs, hto.1, hsd.1.symm, hsd.2.symm, hto.2⟩
    have hP := turn_law hm
    have hA := (anew_law hs hto.1 hto.2 hsd.1.symm hsd.2.symm).2
    have hP1 := hP.few
    have hP2 := few_cells hP.good
    have hA1 := hA.few
    have hA2 := few_cells hA.good
    have hto240 : (screenV s.v (clientOf s i).shown.wide (clientOf s i).shown.high).cells.length ≤ 10000000 := by have := few_cells hto.1; omega
    have hshA : (clientOf s i).lost = true → showS s.v (clientOf s i) = if 4000 - ((clientOf s i).queue.length : Int) < ((([27, 99] ++ (turnD (newG (screenV s.v (clientOf s i).shown.wide (clientOf s i).shown.high).wide (screenV s.v (clientOf s i).shown.wide (clientOf s i).shown.high).high) (screenV s.v (clientOf s i).shown.wide (clientOf s i).shown.high)).2 : Bs).length : Nat) : Int) then { clientOf s i with lost := true } else ⟨(clientOf s i).here, (turnD (newG (screenV s.v (clientOf s i).shown.wide (clientOf s i).shown.high).wide (screenV s.v (clientOf s i).shown.wide (clientOf s i).shown.high).high) (screenV s.v (clientOf s i).shown.wide (clientOf s i).shown.high)).1, (clientOf s i).queue ++ ([27, 99] ++ (turnD (newG (screenV s.v (clientOf s i).shown.wide (clientOf s i).shown.high).wide (screenV s.v (clientOf s i).shown.wide (clientOf s i).shown.high).high) (screenV s.v (clientOf s i).shown.wide (clientOf s i).shown.high)).2), false⟩ := fun hl1 => by
      unfold showS
      rw [if_neg hnot]
      dsimp only
      rw [if_pos hl1]
      rfl
    have hshT : (clientOf s i).lost = false → showS s.v (clientOf s i) = if 4000 - ((clientOf s i).queue.length : Int) < (((turnD (clientOf s i).shown (screenV s.v (clientOf s i).shown.wide (clientOf s i).shown.high)).2.length : Nat) : Int) then { clientOf s i with lost := true } else ⟨(clientOf s i).here, (turnD (clientOf s i).shown (screenV s.v (clientOf s i).shown.wide (clientOf s i).shown.high)).1, (clientOf s i).queue ++ (turnD (clientOf s i).shown (screenV s.v (clientOf s i).shown.wide (clientOf s i).shown.high)).2, false⟩ := fun hl1 => by
      unfold showS
      rw [if_neg hnot]
      dsimp only
      simp only [hl1, Bool.false_eq_true, if_false]
    obtain ⟨vl, v58, VM⟩ := hc.view few hg
    have hd : Ext u (drewW u) := (Upd.refl u).drew
    have hlt := h.lt
    have rdV : ∀ {w : World}, Ext u w → Rd w sb (0 + 0) (cs.take 58) := fun hw => hw.rd (hrd v58) fun h => h
    have rdS : ∀ {w : World}, Ext u w → Rd w sb (co + 1) (grV (clientOf s i).shown sp (clientOf s i).shown.cells.length sd) := fun hw => rd hw (j := 1) (m := 9) rfl (by decide) rfl
    refine ⟨cs.take 58, vl.symm, rdV hd, _, rfl, rd hd (j := 1) (m := 1) rfl (by decide) rfl, _, rfl, rd hd (j := 2) (m := 1) rfl (by decide) rfl, ⟨?_, ?_⟩⟩
    · refine (pscreen_ok (VM.ext hd) (clientOf s i).shown.wide (clientOf s i).shown.high).mono fun e u1 ⟨⟨nb, he, hco2, hnb⟩, hu1⟩ => ?_
      have hW := (hd.ext hu1).alloc hole
      refine ⟨_, _, _, _, _, _, _, _, _, _, _, he, rd hW (j := 2) (m := 1) rfl (by decide) rfl, rd hW (j := 1) (m := 1) rfl (by decide) rfl, rdV hW, _, rfl, rd hW (j := 11) (m := 1) rfl (by decide) rfl, ?_⟩
      have hV : Ext u (drewW (allocW u1 hole)) := hW.drew
      have hCt := (hco2.ext (((Upd.refl (S := fun _ => False) u1).alloc hole).drew)).cells
      have hCs : Cells (drewW (allocW u1 hole)) sp (clientOf s i).shown.cells := sC.ext hV
      have hal : Ext (drewW (allocW u1 hole)) (allocW (drewW (allocW u1 hole)) hole) := (Upd.refl _).alloc _
      have hVs := hV.size
      have hVs2 := hal.size
      refine ⟨fun hl1 => ⟨_, _, _, _, _, _, _, _, _, _, _, rfl, rdS hV, ⟨?_, ?_⟩⟩, fun hl1 => ⟨_, _, _, _, _, _, _, _, _, _, _, rfl, rdS hV, ⟨?_, ?_⟩⟩⟩
      · refine (shc1_ok (clientOf s i).shown sp sd hCt _ hto hto240).mono fun e w1 ⟨gp, gc, st, hst, he, C, hfar, hw1⟩ => ⟨_, _, _, _, _, _, _, _, _, _, _, _, _, he, rdS ((hV.ext hw1).alloc _), ?_⟩
        exact show_end h ((hV.ext hw1).alloc _) hcl hi hco hq hst (by simp only [List.length_append, List.length_cons, List.length_nil]; omega) (C.ext ((Upd.refl _).alloc _)) (fun k hk => h.new (by have := hfar k hk; omega)) (by omega) (hshA hl1)
      · refine ⟨rdS (hV.alloc _), (shc1_ok (clientOf s i).shown sp sd (hCt.ext hal) _ hto hto240).mono fun e w1 ⟨gp, gc, st, hst, he, C, hfar, hw1⟩ => ⟨_, _, _, _, _, _, _, _, _, _, _, _, _, he, ?_⟩⟩
        exact show_end h ((hV.alloc _).ext hw1) hcl hi hco hq hst (by simp only [List.length_append, List.length_cons, List.length_nil]; omega) C (fun k hk => h.new (by have := hfar k hk; omega)) (by omega) (hshA hl1)
      · refine (dturn_ok hCs hCt sd _ (by omega) hto240).mono fun e w1 h7 => ?_
        obtain ⟨gp, gc, he, C, hfar⟩ := h7.yes hm
        have hw1 := h7.ext
        refine ⟨_, _, _, _, _, _, _, _, _, _, _, _, _, he, rdS ((hV.ext hw1).alloc _), ?_⟩
        exact show_end h ((hV.ext hw1).alloc _) hcl hi hco hq (bstr_list _) (by omega) (C.ext ((Upd.refl _).alloc _)) (fun k hk => (hfar k hk).elim (sk hs.pos k) fun h8 => h.new (by omega)) (by omega) (hshT hl1)
      · refine ⟨rdS (hV.alloc _), (dturn_ok (hCs.ext hal) (hCt.ext hal) sd _ (by omega) hto240).mono fun e w1 h7 => ?_⟩
        obtain ⟨gp, gc, he, C, hfar⟩ := h7.yes hm
        have hw1 := h7.ext
        refine ⟨_, _, _, _, _, _, _, _, _, _, _, _, _, he, ?_⟩
        exact show_end h ((hV.alloc _).ext hw1) hcl hi hco hq (bstr_list _) (by omega) C (fun k hk => (hfar k hk).elim (sk hs.pos k) fun h8 => h.new (by omega)) (by omega) (hshT hl1)
    · have hal0 := hd.alloc hole
      refine ⟨rd hal0 (j := 2) (m := 1) rfl (by decide) rfl, rd hal0 (j := 1) (m := 1) rfl (by decide) rfl, rdV hal0, (pscreen_ok (VM.ext hal0) (clientOf s i).shown.wide (clientOf s i).shown.high).mono fun e u1 ⟨⟨nb, he, hco2, hnb⟩, hu1⟩ => ?_⟩
      have hW := hal0.ext hu1
      refine ⟨_, _, _, _, _, _, _, _, _, _, _, he, _, rfl, rd hW (j := 11) (m := 1) rfl (by decide) rfl, ?_⟩
      have hV : Ext u (drewW u1) := hW.drew
      have hCt := (hco2.ext ((Upd.refl (S := fun _ => False) u1).drew)).cells
      have hCs : Cells (drewW u1) sp (clientOf s i).shown.cells := sC.ext hV
      have hal : Ext (drewW u1) (allocW (drewW u1) hole) := (Upd.refl _).alloc _
      have hVs := hV.size
      have hVs2 := hal.size
      refine ⟨fun hl1 => ⟨_, _, _, _, _, _, _, _, _, _, _, rfl, rdS hV, ⟨?_, ?_⟩⟩, fun hl1 => ⟨_, _, _, _, _, _, _, _, _, _, _, rfl, rdS hV, ⟨?_, ?_⟩⟩⟩
      · refine (shc1_ok (clientOf s i).shown sp sd hCt _ hto hto240).mono fun e w1 ⟨gp, gc, st, hst, he, C, hfar, hw1⟩ => ⟨_, _, _, _, _, _, _, _, _, _, _, _, _, he, rdS ((hV.ext hw1).alloc _), ?_⟩
        exact show_end h ((hV.ext hw1).alloc _) hcl hi hco hq hst (by simp only [List.length_append, List.length_cons, List.length_nil]; omega) (C.ext ((Upd.refl _).alloc _)) (fun k hk => h.new (by have := hfar k hk; omega)) (by omega) (hshA hl1)
      · refine ⟨rdS (hV.alloc _), (shc1_ok (clientOf s i).shown sp sd (hCt.ext hal) _ hto hto240).mono fun e w1 ⟨gp, gc, st, hst, he, C, hfar, hw1⟩ => ⟨_, _, _, _, _, _, _, _, _, _, _, _, _, he, ?_⟩⟩
        exact show_end h ((hV.alloc _).ext hw1) hcl hi hco hq hst (by simp only [List.length_append, List.length_cons, List.length_nil]; omega) C (fun k hk => h.new (by have := hfar k hk; omega)) (by omega) (hshA hl1)
      · refine (dturn_ok hCs hCt sd _ (by omega) hto240).mono fun e w1 h7 => ?_
        obtain ⟨gp, gc, he, C, hfar⟩ := h7.yes hm
        have hw1 := h7.ext
        refine ⟨_, _, _, _, _, _, _, _, _, _, _, _, _, he, rdS ((hV.ext hw1).alloc _), ?_⟩
        exact show_end h ((hV.ext hw1).alloc _) hcl hi hco hq (bstr_list _) (by omega) (C.ext ((Upd.refl _).alloc _)) (fun k hk => (hfar k hk).elim (sk hs.pos k) fun h8 => h.new (by omega)) (by omega) (hshT hl1)
      · refine ⟨rdS (hV.alloc _), (dturn_ok (hCs.ext hal) (hCt.ext hal) sd _ (by omega) hto240).mono fun e w1 h7 => ?_⟩
        obtain ⟨gp, gc, he, C, hfar⟩ := h7.yes hm
        have hw1 := h7.ext
        refine ⟨_, _, _, _, _, _, _, _, _, _, _, _, _, he, ?_⟩
        exact show_end h ((hV.alloc _).ext hw1) hcl hi hco hq (bstr_list _) (by omega) C (fun k hk => (hfar k hk).elim (sk hs.pos k) fun h8 => h.new (by omega)) (by omega) (hshT hl1)

end Go.Proofs.YtkmmphkjmamckabDoor
