/-
  The pen, on: a cell; a whole screen turned.
-/
import Derived.Test.YtkmmphkjmamckabDoorDWalk
namespace Go.Proofs.YtkmmphkjmamckabDoor
open Go
set_option linter.all false

theorem good_pos {g : Gr} (hg : GoodG g) : 0 < g.cells.length := by
  have hlen := cells_len hg
  have := hg.h1
  have := hg.w1
  have h1 : 1 ≤ g.high.toNat := by omega
  have h2 : 1 ≤ g.wide.toNat := by omega
  have := Nat.mul_le_mul h1 h2
  omega

theorem fresh_gets (u : World) (cs : List Value) (t : TypeId) : Gets (allocW u (.cells cs.toArray t)) (some ⟨u.heap.size, 0, none⟩) cs := (Own.fresh u (cs := cs) (n := cs.length) (es := 1) (by omega)).gets

theorem byteN_toNat {n : Int} (h0 : 0 ≤ n) (h1 : n ≤ 255) : bytesV (bstr [byteN n]) = [.int .u8 n] := by
  have := byteN_val h0 h1
  show ((bstr [byteN n]).data.toList.map fun b => Value.int .u8 b.toNat) = _
  rw [bstr_list]
  simp [this]

theorem cell_ok {N : Nat} {F : Nat → Prop} {u : World} {b : Nat} {g : Gr} {out : Bs} (h : Pen N F u b (g, out)) (hg : GoodG g) {r c : Int} (hr : 0 ≤ r ∧ r < g.high) (hc : 0 ≤ c ∧ c < g.wide) {k : Cl} (hk : goodC k = true) (ho : out.length ≤ 100000) :
    Spec Tryd.prog fn_draw_pen_cell #[.pointer (some ⟨b, 0, none⟩), .int .i64 r, .int .i64 c, .agg #[.int .i64 k.ch, .int .i64 k.ink, .int .i64 k.pic, .bool k.bold]] u (PenTo N F u b (cellD (g, out) r c k)) := by
  apply vc_draw_pen_cell_spec
  unfold vc_draw_pen_cell
  simp only [decide_eq_true_eq, decide_eq_false_iff_not, true_and]
  have hu : Ext u (allocW u hole) := (Upd.refl u).alloc _
  have hfew := few_cells hg
  have hpos := good_pos hg
  obtain ⟨s, hm, _, hs, _⟩ := moveD_eq (out := out) hg hr hc
  have hg1 : GoodG { g with row := r, col := c } := hg.with rfl hg.all hr ⟨hc.1, by omega⟩ ⟨hg.i1, hg.i2⟩ ⟨hg.t1, hg.t2, hg.b2⟩
  refine (move_ok (h.ext hu) hg hr hc (by omega)).mono fun e u1 ⟨he, hp, hu1⟩ => ⟨he, ?_⟩
  have x1 : Upd (fun k => N ≤ k) u u1 := (hu.any).trans hu1 fun _ _ h => h
  unfold cellD
  simp only [hm]
  rw [hm] at hp
  rcases goodC_cases hk with ⟨h1, h2, h3⟩ | ⟨h1, h2, h3⟩ | ⟨h1, h2, h3, h4, h5, h6, h7⟩
  · rw [if_pos h1]
    refine ⟨fun _ => ⟨by simp only [inK]; omega, by simp only [inK]; omega, by simp only [inK]; omega, bstr [byteN (97 + k.pic - 1)], by rw [bstr_size]; rfl, ?_, by rw [bstr_size]; show ((2 + 1 : Nat) : Int) ≤ _; omega, by rw [ByteArray.size_append, bstr_size]; show ((2 + 1 + 2 : Nat) : Int) ≤ _; omega, ?_⟩, fun hn => (hn h1).elim⟩
    · rw [byteN_toNat (by omega) (by omega)]
      exact fresh_gets u1 [.int .u8 (97 + k.pic - 1)] _
    · have ha : Ext u1 (allocW u1 (.cells #[.int .u8 (97 + k.pic - 1)] ty_u8)) := (Upd.refl _).alloc _
      refine (write_ok (hp.ext ha) (l := picBytes k) (by simp [picBytes, ByteArray.data_append, bstr_list]) (by simp [picBytes]) (by rw [List.length_append]; omega) (by show g.cells.length ≤ _; omega) (by rw [wrD_eq (pic_runs hg1 hc.2 h1 h2)]; show 0 < (g.cells.set _ _).length; rw [List.length_set]; exact hpos)).mono fun e u2 h8 => ⟨h8.e, rfl, h8.pen, (x1.ext ha).trans h8.upd fun _ _ h => h⟩
  · rw [if_neg (by omega), if_pos h2]
    refine ⟨fun hn => by omega, fun _ => ⟨fun _ => ?_, fun hn => (hn h2).elim⟩⟩
    exact (write_ok hp (l := [27, 91, 75]) rfl (by simp) (by rw [List.length_append]; omega) (by show g.cells.length ≤ _; omega) (by rw [wrD_eq (blank_runs hg1 hc.2)]; show 0 < (eraseC _ _ g.cells).length; rw [eraseC_len]; exact hpos)).mono fun e u2 h8 => ⟨h8.e, rfl, h8.pen, x1.trans h8.upd fun _ _ h => h⟩
  · rw [if_neg (by omega), if_neg h2]
    obtain ⟨s2, he2, hrun2, hs2⟩ := inkD_eq (out := out ++ s) hg1 h5 h6
    have hg2 : GoodG { g with row := r, col := c, ink := k.ink, bold := k.bold } := hg.with rfl hg.all hr ⟨hc.1, by omega⟩ ⟨h5, h6⟩ ⟨hg.t1, hg.t2, hg.b2⟩
    refine ⟨fun hn => by omega, fun _ => ⟨fun hn => (h2 hn).elim, fun _ => ?_⟩⟩
    refine (ink_ok hp hg1 h5 h6 (by rw [List.length_append]; omega)).mono fun e u2 ⟨he, hp2, hu2⟩ => ⟨he, by simp only [inK]; omega, bstr [byteN k.ch], by rw [bstr_size]; rfl, ?_, ?_⟩
    · rw [byteN_toNat (by omega) (by omega)]
      exact fresh_gets u2 [.int .u8 k.ch] _
    · have ha : Ext u2 (allocW u2 (.cells #[.int .u8 k.ch] ty_u8)) := (Upd.refl _).alloc _
      rw [he2] at hp2 ⊢
      exact (write_ok (hp2.ext ha) (l := [byteN k.ch]) (bstr_list _) (by simp) (by simp only [List.length_append]; omega) (by show g.cells.length ≤ _; omega) (by rw [wrD_eq (show_runs hg2 hc.2 h3 h4)]; show 0 < (g.cells.set _ _).length; rw [List.length_set]; exact hpos)).mono fun e u3 h8 => ⟨h8.e, rfl, h8.pen, ((x1.trans hu2 fun _ _ h => h).ext ha).trans h8.upd fun _ _ h => h⟩

/-- What Turn answers. -/
structure TurnAns (u : World) (frm to : Gr) (fp : Option Addr) (fc : Nat) (e : Ending) (u' : World) : Prop where
  no : ¬ mayTurn frm to → e = .returned (.tuple #[.string (ByteArray.mk #[]), GrV frm fp frm.cells.length fc, .int .i64 1])
  yes : mayTurn frm to → ∃ gp gc, e = .returned (.tuple #[.string (bstr (turnD frm to).2), GrV (turnD frm to).1 gp (turnD frm to).1.cells.length gc, .int .i64 0]) ∧ Cells u' gp (turnD frm to).1.cells ∧ ∀ k, At gp k → At fp k ∨ u.heap.size ≤ k
  ext : Ext u u'

theorem clEq_d (a b : Cl) : (decide (a.ch = b.ch) && (decide (a.ink = b.ink) && (decide (a.pic = b.pic) && (a.bold == b.bold)))) = decide (a = b) := by
  rw [Bool.eq_iff_iff, decide_eq_true_eq, Cl.ext_iff']
  simp only [Bool.and_eq_true, decide_eq_true_eq, beq_iff_eq]

set_option maxHeartbeats 1000000 in
theorem dturn_ok {u : World} {frm to : Gr} {fp tp : Option Addr} (hf : Cells u fp frm.cells) (ht : Cells u tp to.cells) (fc tc : Nat) (hfl : frm.cells.length ≤ 10000000) (htl : to.cells.length ≤ 10000000) :
    Spec Tryd.prog fn_draw_Turn #[GrV frm fp frm.cells.length fc, GrV to tp to.cells.length tc] u (TurnAns u frm to fp fc) := by
  apply vc_draw_Turn_spec
  unfold vc_draw_Turn
  simp only [decide_eq_true_eq, decide_eq_false_iff_not, Bool.not_eq_true', Bool.not_eq_false', true_and]
  have hu : Ext u (allocW (allocW (allocW u hole) hole) hole) := (((Upd.refl u).alloc _).alloc _).alloc _
  have no : ∀ {v : World}, Ext u v → ¬ mayTurn frm to → TurnAns u frm to fp fc (.returned (.tuple #[.string (ByteArray.mk #[]), GrV frm fp frm.cells.length fc, .int .i64 1])) v := fun hv hn => ⟨fun _ => rfl, fun hy => (hn hy).elim, hv⟩
  refine (ggood_ok (hf.ext hu) fc (by omega)).mono fun e u1 ⟨he, hu1⟩ => ⟨_, he, fun hb => no (hu.ext hu1).drew fun hm => (by rw [goodG_iff.2 hm.1] at hb; cases hb), fun hb => ?_⟩
  have gf := goodG_iff.1 hb
  have x1 := hu.ext hu1
  refine (ggood_ok (ht.ext x1) tc (by omega)).mono fun e u2 ⟨he, hu2⟩ => ⟨_, he, fun hb => no (x1.ext hu2).drew fun hm => (by rw [goodG_iff.2 hm.2.1] at hb; cases hb), fun hb => ?_⟩
  have gt := goodG_iff.1 hb
  have x2 := x1.ext hu2
  refine ⟨fun hn => no x2.drew fun hm => hn hm.2.2.1, fun hw => ⟨fun hn => no x2.drew fun hm => hn hm.2.2.2.1, fun hh => ⟨fun hn => no x2.drew fun hm => by have := hm.2.2.2.2; omega, fun hcol => ?_⟩⟩⟩
  have hm : mayTurn frm to := ⟨gf, gt, hw, hh, by omega⟩
  have hW1 := gt.w1
  have hW2 := gt.w2
  have hH1 := gt.h1
  have hH2 := gt.h2
  have hfpos := good_pos gf
  have htpos := good_pos gt
  -- the pen
  obtain ⟨b, hb⟩ : ∃ b, b = u2.heap.size := ⟨_, rfl⟩
  rw [← hb]
  have ha : Ext u2 (allocW u2 (.cells ([.int .i64 frm.wide, .int .i64 frm.high, .slice fp frm.cells.length fc, .int .i64 frm.row, .int .i64 frm.col, .int .i64 frm.ink, .bool frm.bold, .int .i64 frm.top, .int .i64 frm.bottom, .slice none 0 0] : List Value).toArray ty_draw_pen)) := (Upd.refl _).alloc _
  have hpen : Pen b (At fp) (allocW u2 (.cells ([.int .i64 frm.wide, .int .i64 frm.high, .slice fp frm.cells.length fc, .int .i64 frm.row, .int .i64 frm.col, .int .i64 frm.ink, .bool frm.bold, .int .i64 frm.top, .int .i64 frm.bottom, .slice none 0 0] : List Value).toArray ty_draw_pen)) b (frm, []) := by
    subst hb
    refine ⟨⟨fp, fc, none, 0, Blk.fresh u2 _ _, hf.ext (x2.ext ha), fun k hk => ?_, Own.nil _ _, fun k hk => (at_none hk).elim⟩, Nat.le_refl _⟩
    have := (hf.ext x2).lt hfpos hk
    have h7 := ha.size
    exact ⟨by omega, fun hat => at_none hat, by omega, .inl hk⟩
  have T2 := ht.ext x2
  have hkeep : ∀ {v : World}, Upd (fun k => b ≤ k) u2 v → Cells v tp to.cells := fun hv => T2.upd hv fun k hk => by have := T2.lt htpos hk; omega
  have hext : ∀ {v : World}, Upd (fun k => b ≤ k) u2 v → Ext u v := fun hv => (x2.trans hv fun k hk h7 => by have := x2.size; omega).mono fun _ _ h => h
  have hnW : ∀ r c : Nat, c < to.wide.toNat → (r * to.wide.toNat + c) / to.wide.toNat = r ∧ (r * to.wide.toNat + c) % to.wide.toNat = c := fun r c hc => by
    rw [Nat.mul_comm r]
    exact ⟨by rw [Nat.mul_add_div (by omega), Nat.div_eq_of_lt hc, Nat.add_zero], by rw [Nat.mul_add_mod, Nat.mod_eq_of_lt hc]⟩
  have inv : ∀ r c : Nat, c < to.wide.toNat → (r < to.high.toNat ∨ (r = to.high.toNat ∧ c = 0)) → TurnI frm to to.wide.toNat r c (turnCells to (frm, []) (r * to.wide.toNat + c)) := fun r c hc hr => by
    refine turn_rows hm _ r c rfl hc ?_
    rw [Nat.mul_comm to.wide.toNat]
    rcases hr with hr | ⟨rfl, rfl⟩
    · have := Nat.mul_le_mul_right to.wide.toNat (show r + 1 ≤ to.high.toNat by omega)
      rw [Nat.add_mul] at this
      omega
    · omega
  have few : ∀ {r c : Nat} {x : Gr × Bs}, r ≤ 10 → c ≤ 24 → TurnI frm to to.wide.toNat r c x → x.2.length ≤ 100000 := fun {r c x} hr hc hx => by
    have h7 := hx.few
    unfold boundD at h7
    have := Nat.mul_le_mul hr (show 31 * to.wide.toNat + 5 ≤ 749 by omega)
    split at h7 <;> omega
  refine ⟨fun r v => 0 ≤ r ∧ r ≤ to.high ∧ Pen b (At fp) v b (turnCells to (frm, []) (r.toNat * to.wide.toNat)) ∧ Upd (fun k => b ≤ k) u2 v, fun r _ => (to.high - r).toNat, ⟨Int.le_refl _, by omega, by simpa [turnCells] using hpen, ha.any⟩, ?_⟩
  rintro r v ⟨r0, r1, hp, hv⟩
  refine ⟨fun hr => ?_, fun hr => ?_⟩
  · refine ⟨fun c w => 0 ≤ c ∧ c ≤ to.wide ∧ Pen b (At fp) w b (turnCells to (frm, []) (r.toNat * to.wide.toNat + c.toNat)) ∧ Upd (fun k => b ≤ k) u2 w, fun c _ => (to.wide - c).toNat, ⟨Int.le_refl _, by omega, by simpa using hp, hv⟩, ?_⟩
    rintro c w ⟨c0, c1, hp, hw'⟩
    refine ⟨fun hc => ?_, fun hc => ?_⟩
    · have hI := inv r.toNat c.toNat (by omega) (.inl (by omega))
      have hstep : turnCells to (frm, []) (r.toNat * to.wide.toNat + (c + 1).toNat) = turnCell to (turnCells to (frm, []) (r.toNat * to.wide.toNat + c.toNat)) (r.toNat * to.wide.toNat + c.toNat) := by
        rw [show r.toNat * to.wide.toNat + (c + 1).toNat = r.toNat * to.wide.toNat + c.toNat + 1 by omega]
        rfl
      have hf2 := few (r := r.toNat) (c := c.toNat) (by omega) (by omega) hI
      obtain ⟨q1, q2⟩ := hnW r.toNat c.toNat (by omega)
      generalize hx : turnCells to (frm, []) (r.toNat * to.wide.toNat + c.toNat) = x at *
      obtain ⟨g, out⟩ := x
      dsimp only at hf2
      have gg : GoodG g := hI.good
      have gw : g.wide = to.wide := hI.wide.trans hw
      have gh : g.high = to.high := hI.high.trans hh
      have gfew := few_cells gg
      refine (gat_ok (hkeep hw') tc r c (by omega)).mono fun e w1 ⟨he, hw1⟩ => ⟨_, _, _, _, he, ?_⟩
      have hd : Ext w (drewW (allocW w1 hole)) := (hw1.alloc _).drew
      obtain ⟨gp, gc, op, oc, h1, h2, h3, h4, h5⟩ := (hp.ext hd).ex
      dsimp only at h1 h2 h4
      refine ⟨_, _, _, _, _, _, _, _, _, _, _, rfl, h1.rdAt (n := 9) rfl, ?_⟩
      refine (gat_ok h2 gc r c (by omega)).mono fun e w2 ⟨he, hw2⟩ => ⟨_, _, _, _, he, ?_⟩
      have y2 := hd.ext hw2
      have hidx : (r * to.wide + c).toNat = r.toNat * to.wide.toNat + c.toNat := by
        have := place_nat gt r.toNat c.toNat
        rw [Int.toNat_of_nonneg r0, Int.toNat_of_nonneg c0] at this
        exact this
      have a1 : atG to r c = cg to.cells (r.toNat * to.wide.toNat + c.toNat) := by
        unfold atG
        rw [if_pos (by omega), hidx]
      have a2 : atG g r c = cg g.cells (r.toNat * to.wide.toNat + c.toNat) := by
        unfold atG
        rw [if_pos (by omega), gw, hidx]
      rw [a1, a2, clEq_d]
      have hk : goodC (cg to.cells (r.toNat * to.wide.toNat + c.toNat)) = true := AllG.cg gt.all _
      generalize hkk : cg to.cells (r.toNat * to.wide.toNat + c.toNat) = k at *
      refine ⟨fun hne => ?_, fun heq => ?_⟩
      · rw [decide_eq_false_iff_not] at hne
        refine (cell_ok (hp.ext y2) gg (r := r) (c := c) ⟨r0, by omega⟩ ⟨c0, by omega⟩ hk hf2).mono fun e w3 ⟨he, hp3, hw3⟩ => ⟨he, by simp only [inK]; omega, ⟨by omega, by omega, ?_, (hw'.ext y2).trans hw3 fun _ _ h => h⟩, by first | omega | (dsimp only; omega)⟩
        rw [hstep]
        unfold turnCell
        rw [if_neg (by rw [hkk]; exact hne), q1, q2, hkk, Int.toNat_of_nonneg r0, Int.toNat_of_nonneg c0]
        exact hp3
      · rw [decide_eq_true_eq] at heq
        refine ⟨by simp only [inK]; omega, ⟨by omega, by omega, ?_, hw'.ext y2⟩, by first | omega | (dsimp only; omega)⟩
        rw [hstep]
        unfold turnCell
        rw [if_pos (by rw [hkk]; exact heq)]
        exact hp.ext y2
    · have hcw : c = to.wide := by omega
      subst hcw
      refine ⟨by simp only [inK]; omega, ⟨by omega, by omega, ?_, hw'⟩, by first | omega | (dsimp only; omega)⟩
      rw [show (r + 1).toNat = r.toNat + 1 by omega, Nat.add_mul, Nat.one_mul]
      exact hp
  · have hrh : r = to.high := by omega
    subst hrh
    have hI := inv to.high.toNat 0 (by omega) (.inr ⟨rfl, rfl⟩)
    rw [Nat.add_zero] at hI
    have hf2 := few (by omega) (by omega) hI
    have hD : turnD frm to = moveD (turnCells to (frm, []) (to.high.toNat * to.wide.toNat)) to.row to.col := by
      unfold turnD
      rw [Nat.mul_comm to.wide.toNat]
    generalize turnCells to (frm, []) (to.high.toNat * to.wide.toNat) = x at *
    obtain ⟨g, out⟩ := x
    dsimp only at hf2
    have gg : GoodG g := hI.good
    have gw : g.wide = to.wide := hI.wide.trans hw
    have gh : g.high = to.high := hI.high.trans hh
    refine (move_ok hp gg (r := to.row) (c := to.col) ⟨gt.r1, by have := gt.r2; omega⟩ ⟨gt.c1, by omega⟩ (by omega)).mono fun e w1 ⟨he, hp1, hw1⟩ => ⟨he, ?_⟩
    have hd : Ext w1 (drewW w1) := (Upd.refl w1).drew
    rw [← hD] at hp1
    obtain ⟨gp, gc, op, oc, h1, h2, h3, h4, h5⟩ := (hp1.ext hd).ex
    refine ⟨_, _, _, rfl, h1.rdAt (n := 1) rfl, _, _, _, _, _, _, _, _, _, _, _, rfl, h1.rdAt (n := 9) rfl, bstr (turnD frm to).2, bstr_size _, ?_, h1.rdAt (n := 9) rfl, fun hn => (hn hm).elim, fun _ => ⟨gp, gc, rfl, h2, fun k hk => (h3 k hk).2.2.2.imp id fun h8 => by have := x2.size; omega⟩, hext ((hv.trans hw1 fun _ _ h => h).ext hd)⟩
    have : bytesV (bstr (turnD frm to).2) = bsV (turnD frm to).2 := by
      show ((bstr _).data.toList.map _) = _
      rw [bstr_list]
      rfl
    rw [this]
    exact h4.gets

end Go.Proofs.YtkmmphkjmamckabDoor
