/-
  What a client is to see: the program's functions.
-/
import Derived.Test.YtkmmphkjmamckabDoorZM
import Derived.Test.YtkmmphkjmamckabDoorZG
import Derived.Test.YtkmmphkjmamckabDoorTWalk
import Derived.Test.YtkmmphkjmamckabDoorZVd
namespace Go.Proofs.YtkmmphkjmamckabDoor
open Go
set_option linter.all false

theorem sign_ok (c : Int) {u : World} : Spec Tryd.prog fn_paint_sign #[.int .i64 c] u fun e u' => e = .returned (ClV (sign c)) ∧ Ext u u' := by
  apply vc_paint_sign_spec
  unfold vc_paint_sign
  exact ⟨rfl, (Upd.refl u).alloc _⟩

theorem pcell_ok {u : World} {cs : List Value} {v : Vw} (h : VwM u cs v) (row col : Int) (hr : inK .i64 row) (hc : inK .i64 col) :
    Spec Tryd.prog fn_paint_Cell #[.agg cs.toArray, .int .i64 row, .int .i64 col] u fun e u' => e = .returned (ClV (cellV v row col)) ∧ Ext u u' := by
  apply vc_paint_Cell_spec
  unfold vc_paint_Cell
  simp only [decide_eq_true_eq, decide_eq_false_iff_not, true_and]
  simp only [inK] at hr hc
  have hu : Ext u (allocW (allocW u hole) hole) := ((Upd.refl u).alloc _).alloc _
  have out : (row < 0 ∨ col < 0 ∨ v.high ≤ row ∨ v.wide ≤ col) → Spec Tryd.prog fn_paint_sign #[.int .i64 46] (allocW (allocW u hole) hole) (fun e u1 => ∃ (x30q_Ch : Int) (x30q_Ink : Int) (x30q_Pic : Int) (x30q_Bold : Bool), e = .returned (.agg #[.int .i64 x30q_Ch, .int .i64 x30q_Ink, .int .i64 x30q_Pic, .bool x30q_Bold]) ∧
      (Ending.returned (.agg #[.int .i64 x30q_Ch, .int .i64 x30q_Ink, .int .i64 x30q_Pic, .bool x30q_Bold]) = .returned (ClV (cellV v row col)) ∧ Ext u u1)) := fun ho => (sign_ok 46).mono fun e u1 ⟨he, hu1⟩ => ⟨_, _, _, _, he, by
    unfold cellV
    rw [if_pos ho], hu.ext hu1⟩
  refine ⟨fun h1 => out (.inl h1), fun h1 => ⟨fun h2 => out (.inr (.inl h2)), fun h2 => ⟨_, h.high, fun h3 => out (.inr (.inr (.inl h3))), fun h3 => ⟨_, h.wide, fun h4 => out (.inr (.inr (.inr h4))), fun h4 => ?_⟩⟩⟩⟩
  have hcell : cellV v row col = match paneAt v.cols v.wide v.high row col with
    | some p => atG (v.grids.getD p .zero) (row - (whereT v.cols v.wide v.high p).row) (col - (whereT v.cols v.wide v.high p).col)
    | none => if lineAt v.wide v.cols.length col = true then sign 124 else sign 45 := by
    unfold cellV
    rw [if_neg (by omega)]
    cases paneAt v.cols v.wide v.high row col <;> rfl
  rw [hcell]
  refine ⟨fun x a b c d w => Ext u w ∧ 0 ≤ x ∧ x ≤ 6 ∧ ∀ q : Nat, q < x.toNat → ¬ inR (whereT v.cols v.wide v.high q) row col, fun x _ _ _ _ _ => (6 - x).toNat, ⟨hu, Int.le_refl _, by decide, by omega⟩, ?_⟩
  rintro x a1 a2 a3 a4 w ⟨hw, h0, h6, hq⟩
  refine ⟨fun hx => ?_, fun hx => ?_⟩
  · obtain ⟨p, c, hp, ht⟩ := (h.ext hw).cols
    refine ⟨_, _, _, hp, _, h.wide, _, h.high, (where_ok ht c v.wide v.high x (h.few.le (by decide))).mono fun e u2 ⟨he, hu2⟩ => ⟨_, _, _, _, he, ?_⟩⟩
    have sm := where_small v.cols v.wide v.high x
    have ha : Ext u2 (allocW u2 hole) := (Upd.refl _).alloc _
    have x2 := (hw.ext hu2).ext ha
    have next : ¬ inR (whereT v.cols v.wide v.high x) row col → inK .i64 (x + 1) ∧ (Ext u (allocW u2 hole) ∧ 0 ≤ x + 1 ∧ x + 1 ≤ 6 ∧ ∀ q : Nat, q < (x + 1).toNat → ¬ inR (whereT v.cols v.wide v.high q) row col) ∧ (6 - (x + 1)).toNat < (6 - x).toNat := fun hn => by
      refine ⟨by simp only [inK]; omega, ⟨x2, by omega, by omega, fun q hq' => ?_⟩, by omega⟩
      rcases (by omega : q < x.toNat ∨ q = x.toNat) with h | rfl
      · exact hq q h
      · rw [show ((x.toNat : Nat) : Int) = x by omega]; exact hn
    refine ⟨fun c1 => ⟨by simp only [inK]; omega, fun c2 => ⟨fun c3 => ⟨by simp only [inK]; omega, fun c4 => ?_, fun c4 => next fun hi => c4 hi.2.2.2⟩, fun c3 => next fun hi => c3 hi.2.2.1⟩, fun c2 => next fun hi => c2 hi.2.1⟩, fun c1 => next fun hi => c1 hi.1⟩
    obtain ⟨gp, gc, hg, hcl, hgl, _⟩ := (h.ext (x2.drew)).grid x.toNat (by omega)
    refine ⟨h0, by omega, _, _, _, _, _, _, _, _, _, _, _, hg, by simp only [inK]; omega, by simp only [inK]; omega, ?_⟩
    refine (gat_ok hcl gc _ _ (by omega)).mono fun e u3 ⟨he, hu3⟩ => ⟨_, _, _, _, he, ?_, (x2.drew).ext hu3⟩
    have hpa : paneAt v.cols v.wide v.high row col = some x.toNat := paneAt_some (by omega) (by rw [show ((x.toNat : Nat) : Int) = x by omega]; exact ⟨c1, c2, c3, c4⟩)
    rw [hpa]
    dsimp only
    rw [show ((x.toNat : Nat) : Int) = x by omega]
  · have hpa : paneAt v.cols v.wide v.high row col = none := paneAt_none fun p hp => hq p (by omega)
    rw [hpa]
    dsimp only
    have hn := h.few.n
    obtain ⟨p, c, hp, ht⟩ := h.cols
    refine ⟨_, _, _, hp, by simp only [inK]; omega, fun x a b c d w => Ext u w ∧ 0 ≤ x ∧ ∀ q : Nat, q < x.toNat → ¬ (q + 1 < v.cols.length ∧ 0 < (shareT v.wide v.cols.length q).2 ∧ col = (shareT v.wide v.cols.length q).1 + (shareT v.wide v.cols.length q).2), fun x _ _ _ _ _ => (v.cols.length - x).toNat, ⟨hw, Int.le_refl _, by omega⟩, ?_⟩
    rintro y b1 b2 b3 b4 w1 ⟨hw1, y0, hq1⟩
    refine ⟨fun hy => ?_, fun hy => (sign_ok 45).mono fun e u4 ⟨he, hu4⟩ => ⟨_, _, _, _, he, ?_, hw1.ext hu4⟩⟩
    · refine ⟨_, h.wide, _, _, _, hp, (share_ok v.wide v.cols.length y).mono fun e u3 ⟨he, hu3⟩ => ⟨_, _, he, ?_⟩⟩
      have ss := share_small' v.wide v.cols.length y
      have ey : ((y.toNat : Nat) : Int) = y := by omega
      have next : ¬ (0 < (shareT v.wide v.cols.length y).2 ∧ col = (shareT v.wide v.cols.length y).1 + (shareT v.wide v.cols.length y).2) → inK .i64 (y + 1) ∧ (Ext u u3 ∧ 0 ≤ y + 1 ∧ ∀ q : Nat, q < (y + 1).toNat → ¬ (q + 1 < v.cols.length ∧ 0 < (shareT v.wide v.cols.length q).2 ∧ col = (shareT v.wide v.cols.length q).1 + (shareT v.wide v.cols.length q).2)) ∧ ((v.cols.length : Int) - (y + 1)).toNat < ((v.cols.length : Int) - y).toNat := fun hn => by
        refine ⟨by simp only [inK]; omega, ⟨hw1.ext hu3, by omega, fun q hq' => ?_⟩, by omega⟩
        rcases (by omega : q < y.toNat ∨ q = y.toNat) with h | rfl
        · exact hq1 q h
        · rw [ey]; exact fun hh => hn hh.2
      refine ⟨fun c1 => ⟨by simp only [inK]; omega, fun c2 => (sign_ok 124).mono fun e u4 ⟨he, hu4⟩ => ⟨_, _, _, _, he, ?_, (hw1.ext hu3).ext hu4⟩, fun c2 => next fun hh => c2 hh.2⟩, fun c1 => next fun hh => c1 hh.1⟩
      rw [if_pos]
      rw [lineAt_iff]
      exact ⟨y.toNat, by omega, by rw [ey]; exact c1, by rw [ey]; exact c2⟩
    · rw [if_neg]
      rw [lineAt_iff]
      rintro ⟨i, i1, i2, i3⟩
      exact hq1 i (by omega) ⟨i1, i2, i3⟩

theorem pstatus_ok {u : World} {cs : List Value} {v : Vw} (h : VwM u cs v) (col : Int) (hc : inK .i64 col) :
    Spec Tryd.prog fn_paint_Status #[.agg cs.toArray, .int .i64 col] u fun e u' => e = .returned (ClV (statusV v.cols v.focus col)) ∧ Ext u u' := by
  apply vc_paint_Status_spec
  unfold vc_paint_Status
  simp only [decide_eq_true_eq, decide_eq_false_iff_not, true_and]
  simp only [inK] at hc
  have hu : Ext u (allocW (allocW u hole) hole) := ((Upd.refl u).alloc _).alloc _
  obtain ⟨p, c, hp, ht⟩ := h.cols
  have hn := h.few.n
  refine ⟨_, _, _, hp, fun k x a b c d w => Ext u w ∧ 0 ≤ x ∧ x ≤ v.cols.length ∧ k = ((v.cols.take x.toNat).flatten.length : Nat) ∧ ∀ j : Nat, j < k.toNat → col ≠ 2 * j, fun _ x _ _ _ _ _ => (v.cols.length - x).toNat, ⟨hu, Int.le_refl _, by omega, by simp, by omega⟩, ?_⟩
  rintro k x a1 a2 a3 a4 w ⟨hw, h0, h1, hk, hj⟩
  refine ⟨fun hx => ?_, fun hx => (sign_ok 32).mono fun e u4 ⟨he, hu4⟩ => ⟨_, _, _, _, he, ?_, hw.ext hu4⟩⟩
  · obtain ⟨b, o, q', c', hp', hr, hnum⟩ := (ht.ext hw).at (i := x.toNat) (by omega)
    have hcl := h.few.getD x.toNat
    have hfl := h.few.flat x.toNat (by omega)
    have hm : x.toNat * 1048576 ≤ 1048576 * 1048576 := Nat.mul_le_mul_right _ (by omega)
    refine ⟨b, o, hp', h0, hx, _, _, _, rfl, hr, fun k1 y a b c d w1 => Ext u w1 ∧ Ext w w1 ∧ 0 ≤ y ∧ y ≤ (v.cols.getD x.toNat []).length ∧ k1 = k + y ∧ ∀ j : Nat, j < k1.toNat → col ≠ 2 * j, fun _ y _ _ _ _ _ => ((v.cols.getD x.toNat []).length - y).toNat, ⟨hw, Upd.refl _, Int.le_refl _, by omega, by omega, hj⟩, ?_⟩
    rintro k1 y b1 b2 b3 b4 w1 ⟨hw1, hww, y0, y1, hk1, hj1⟩
    refine ⟨fun hy => ?_, fun hy => ⟨by simp only [inK]; omega, ⟨hw1, by omega, by omega, ?_, hj1⟩, by first | omega | (dsimp only; omega)⟩⟩
    · obtain ⟨b5, o5, hp5, hr5⟩ := (hnum.ext hww).at (i := y.toNat) (by omega)
      have fa := flat_at (t := v.cols) (x := x.toNat) (y := y.toNat) (by omega) (by omega)
      generalize (v.cols.getD x.toNat []).getD y.toNat 0 = z at hr5 fa
      refine ⟨b5, o5, hp5, y0, hy, _, rfl, hr5, by simp only [inK]; omega, fun heq => ⟨by simp only [inK]; omega, _, h.focus, ?_, hw1⟩, fun hne => ⟨by simp only [inK]; omega, by simp only [inK]; omega, ⟨hw1, hww, by omega, by omega, by omega, fun j hj' => ?_⟩, by first | omega | (dsimp only; omega)⟩⟩
      · have e : (col / 2).toNat = (v.cols.take x.toNat).flatten.length + y.toNat := by omega
        unfold statusV
        rw [if_pos ⟨by omega, by omega, by rw [e]; exact fa.2⟩, e, fa.1]
      · rcases (by omega : j < k1.toNat ∨ j = k1.toNat) with h | rfl
        · exact hj1 j h
        · omega
    · have hfl : (v.cols.take (x + 1).toNat).flatten = (v.cols.take x.toNat).flatten ++ v.cols.getD x.toNat [] := by
        rw [show (x + 1).toNat = x.toNat + 1 by omega, take_succ_getD v.cols [] (by omega), List.flatten_append]
        simp
      rw [hfl, List.length_append]
      omega
  · rw [List.take_of_length_le (by omega)] at hk
    unfold statusV
    rw [if_neg]
    rintro ⟨c1, c2, c3⟩
    exact hj (col / 2).toNat (by omega) (by omega)

theorem pscreen_ok {u : World} {cs : List Value} {v : Vw} (h : VwM u cs v) (wide high : Int) :
    Spec Tryd.prog fn_paint_Screen #[.agg cs.toArray, .int .i64 wide, .int .i64 high] u (NewPost u (screenV v wide high)) := by
  apply vc_paint_Screen_spec
  unfold vc_paint_Screen
  simp only [decide_eq_true_eq, decide_eq_false_iff_not, true_and]
  have hu : Ext u (allocW (allocW u hole) hole) := ((Upd.refl u).alloc _).alloc _
  refine (gnew_ok wide high).mono fun e u1 ⟨⟨b, he, ho, hb⟩, hu1⟩ => ⟨_, _, _, _, _, _, _, _, _, _, _, he, ?_⟩
  have hg := new_ok' wide high
  have hcl := cells_len' hg
  have hw1 := hg.w1
  have hw2 := hg.w2
  have hh1 := hg.h1
  have hh2 := hg.h2
  have hscr : screenV v wide high = ⟨(newG wide high).wide, (newG wide high).high, screenCells v (newG wide high).wide.toNat (newG wide high).high.toNat, (cursorV v (newG wide high).wide (newG wide high).high).1, (cursorV v (newG wide high).wide (newG wide high).high).2, 0, false, 0, (newG wide high).high⟩ := rfl
  have hrest : (newG wide high).row = 0 ∧ (newG wide high).col = 0 ∧ (newG wide high).ink = 0 ∧ (newG wide high).bold = false ∧ (newG wide high).top = 0 ∧ (newG wide high).bottom = (newG wide high).high := ⟨rfl, rfl, rfl, rfl, rfl, rfl⟩
  rw [hscr]
  generalize newG wide high = g at hg hcl hw1 hw2 hh1 hh2 ho he hrest
  have hsl := screen_len v g.wide.toNat g.high.toNat
  have hsl2 : (screenCells v g.wide.toNat g.high.toNat).length = g.cells.length := by rw [hsl, hcl, Nat.mul_comm]
  have hscg := fun (r c : Nat) hc hr => screen_cg v (w := g.wide.toNat) (h := g.high.toNat) (r := r) (c := c) hc hr
  generalize hC : screenCells v g.wide.toNat g.high.toNat = C at hsl2 hscg
  have x1 := hu.ext hu1
  have hb0 : u.heap.size ≤ b := by have := hu.size; omega
  have S0 : ScrI u C b g.cells.length 0 (allocW u1 hole) := ⟨⟨g.cells, ho.ext ((Upd.refl _).alloc _), hsl2.symm, by omega⟩, x1.alloc _, hb0⟩
  have hfew := few_cells hg
  obtain ⟨q1, q2, q3, q4, q5, q6⟩ := hrest
  refine ⟨fun r w => 0 ≤ r ∧ r ≤ g.high ∧ ScrI u C b g.cells.length (r.toNat * g.wide.toNat) w, fun r _ => (g.high - r).toNat, ⟨Int.le_refl _, by omega, by simpa using S0⟩, ?_⟩
  rintro r w ⟨r0, r1, S⟩
  refine ⟨fun hr => ?_, fun hr => ?_⟩
  · have f0 := row_facts hg r0 r1
    have f1 := row_facts hg (r := r + 1) (by omega) (by omega)
    rw [succ_mul'] at f1
    have f2 : (r + 1).toNat * g.wide.toNat = r.toNat * g.wide.toNat + g.wide.toNat := by rw [show (r + 1).toNat = r.toNat + 1 by omega, Nat.add_mul, Nat.one_mul]
    refine ⟨fun c w => 0 ≤ c ∧ c ≤ g.wide ∧ ScrI u C b g.cells.length (r.toNat * g.wide.toNat + c.toNat) w, fun c _ => (g.wide - c).toNat, ⟨Int.le_refl _, by omega, by simpa using S⟩, ?_⟩
    rintro c w' ⟨c0, c1, S'⟩
    refine ⟨fun hc => ?_, fun hc => ⟨by simp only [inK]; omega, ⟨by omega, by omega, ?_⟩, by first | omega | (dsimp only; omega)⟩⟩
    · have hd : Ext w' (drewW w') := (Upd.refl _).drew
      have ev := h.ext (S'.ext.ext hd)
      have hidx : (r * g.wide + c).toNat = r.toNat * g.wide.toNat + c.toNat := by omega
      have hcg := hscg r.toNat c.toNat (by omega) (by omega)
      rw [show ((r.toNat : Nat) : Int) = r by omega, show ((c.toNat : Nat) : Int) = c by omega] at hcg
      have put : ∀ {k : Cl} {w2 : World}, Ext (drewW w') w2 → k = cg C (r.toNat * g.wide.toNat + c.toNat) → ∃ b1 o1, some (Addr.mk b 0 none) = some ⟨b1, o1, none⟩ ∧ 0 ≤ r * g.wide + c ∧ r * g.wide + c < ((g.cells.length : Nat) : Int) ∧ 4 = ([.int .i64 k.ch, .int .i64 k.ink, .int .i64 k.pic, .bool k.bold] : List Value).length ∧
          Wr w2 b1 (o1 + (r * g.wide + c).toNat * 4) 4 ∧ inK .i64 (c + 1) ∧ (0 ≤ c + 1 ∧ c + 1 ≤ g.wide ∧ ScrI u C b g.cells.length (r.toNat * g.wide.toNat + (c + 1).toNat) (putCells w2 b1 (o1 + (r * g.wide + c).toNat * 4) [.int .i64 k.ch, .int .i64 k.ink, .int .i64 k.pic, .bool k.bold])) ∧ (g.wide - (c + 1)).toNat < (g.wide - c).toNat := fun {k w2} hw2' hk => by
        have st := (S'.ext' (hd.ext hw2')).store (o := 0 + (r * g.wide + c).toNat * 4) (k := k) (by omega) (by omega) hk
        rw [show r.toNat * g.wide.toNat + c.toNat + 1 = r.toNat * g.wide.toNat + (c + 1).toNat by omega] at st
        exact ⟨b, 0, rfl, by omega, by omega, rfl, st.1, by simp only [inK]; omega, ⟨by omega, by omega, st.2⟩, by omega⟩
      refine ⟨by simp only [inK]; omega, fun hl => ⟨by simp only [inK]; omega, by simp only [inK]; omega, h.whole, (pstatus_ok ev c (by simp only [inK]; omega)).mono fun e u3 ⟨he, hu3⟩ => ⟨_, _, _, _, he, put hu3 ?_⟩⟩, fun hl => ⟨by simp only [inK]; omega, by simp only [inK]; omega, h.whole, (pcell_ok ev r c (by simp only [inK]; omega) (by simp only [inK]; omega)).mono fun e u3 ⟨he, hu3⟩ => ⟨_, _, _, _, he, put hu3 ?_⟩⟩⟩
      · rw [hcg, if_pos (by omega)]
      · rw [hcg, if_neg (by omega)]
    · rw [f2, show g.wide.toNat = c.toNat by omega]
      rw [show g.wide.toNat = c.toNat by omega] at S'
      exact S'
  · have hfin : r.toNat * g.wide.toNat = C.length := by rw [hsl2, hcl, show r.toNat = g.high.toNat by omega]
    have O := S.done hfin
    have xw := S.ext
    have same : ∀ {w' : World}, Ext w w' → (cursorV v g.wide g.high = (0, 0)) → NewPost u ⟨g.wide, g.high, C, (cursorV v g.wide g.high).1, (cursorV v g.wide g.high).2, 0, false, 0, g.high⟩ (.returned (.agg #[.int .i64 g.wide, .int .i64 g.high, .slice (some ⟨b, 0, none⟩) g.cells.length g.cells.length, .int .i64 g.row, .int .i64 g.col, .int .i64 g.ink, .bool g.bold, .int .i64 g.top, .int .i64 g.bottom])) w' := fun hw' hz => by
      rw [hz, q1, q2, q3, q4, q5, q6, ← hsl2]
      rw [← hsl2] at O
      exact ⟨⟨b, rfl, O.ext hw', hb0⟩, xw.ext hw'⟩
    refine ⟨_, h.focus, fun h1 => same (Upd.refl _) (by unfold cursorV; rw [if_pos (.inl h1)]), fun h1 => ⟨_, h.focus, fun h2 => same (Upd.refl _) (by unfold cursorV; rw [if_pos (.inr h2)]), fun h2 => ?_⟩⟩
    obtain ⟨p, c, hp, ht⟩ := h.cols
    obtain ⟨gp, gc, hgr, hgc, hgl, hgrow, hgcol⟩ := h.grid v.focus.toNat (by omega)
    simp only [inK] at hgrow hgcol
    have sm := where_small v.cols v.wide v.high v.focus
    have hcur : cursorV v g.wide g.high = if 0 < (whereT v.cols v.wide v.high v.focus).wide then (max 0 (min ((whereT v.cols v.wide v.high v.focus).row + min (v.grids.getD v.focus.toNat .zero).row ((whereT v.cols v.wide v.high v.focus).high - 1)) (g.high - 1)), max 0 (min ((whereT v.cols v.wide v.high v.focus).col + min (v.grids.getD v.focus.toNat .zero).col ((whereT v.cols v.wide v.high v.focus).wide - 1)) (g.wide - 1))) else (0, 0) := by
      unfold cursorV
      rw [if_neg (by omega)]
    have fin : ∀ {w' : World}, Ext w w' → (0 < (whereT v.cols v.wide v.high v.focus).wide → inK .i64 ((whereT v.cols v.wide v.high v.focus).high - 1) ∧ inK .i64 ((whereT v.cols v.wide v.high v.focus).row + min (v.grids.getD v.focus.toNat .zero).row ((whereT v.cols v.wide v.high v.focus).high - 1)) ∧ inK .i64 (g.high - 1) ∧
        inK .i64 ((whereT v.cols v.wide v.high v.focus).wide - 1) ∧ inK .i64 ((whereT v.cols v.wide v.high v.focus).col + min (v.grids.getD v.focus.toNat .zero).col ((whereT v.cols v.wide v.high v.focus).wide - 1)) ∧ inK .i64 (g.wide - 1) ∧
        NewPost u ⟨g.wide, g.high, C, (cursorV v g.wide g.high).1, (cursorV v g.wide g.high).2, 0, false, 0, g.high⟩ (.returned (.agg #[.int .i64 g.wide, .int .i64 g.high, .slice (some ⟨b, 0, none⟩) g.cells.length g.cells.length, .int .i64 (max 0 (min ((whereT v.cols v.wide v.high v.focus).row + min (v.grids.getD v.focus.toNat .zero).row ((whereT v.cols v.wide v.high v.focus).high - 1)) (g.high - 1))), .int .i64 (max 0 (min ((whereT v.cols v.wide v.high v.focus).col + min (v.grids.getD v.focus.toNat .zero).col ((whereT v.cols v.wide v.high v.focus).wide - 1)) (g.wide - 1))), .int .i64 g.ink, .bool g.bold, .int .i64 g.top, .int .i64 g.bottom])) w') ∧
        (¬ 0 < (whereT v.cols v.wide v.high v.focus).wide → NewPost u ⟨g.wide, g.high, C, (cursorV v g.wide g.high).1, (cursorV v g.wide g.high).2, 0, false, 0, g.high⟩ (.returned (.agg #[.int .i64 g.wide, .int .i64 g.high, .slice (some ⟨b, 0, none⟩) g.cells.length g.cells.length, .int .i64 g.row, .int .i64 g.col, .int .i64 g.ink, .bool g.bold, .int .i64 g.top, .int .i64 g.bottom])) w') := fun {w'} hw' => by
      refine ⟨fun hp => ⟨by simp only [inK]; omega, by simp only [inK]; omega, by simp only [inK]; omega, by simp only [inK]; omega, by simp only [inK]; omega, by simp only [inK]; omega, ?_⟩, fun hp => same hw' (by rw [hcur, if_neg hp])⟩
      rw [hcur, if_pos hp, q3, q4, q5, q6, ← hsl2]
      rw [← hsl2] at O
      exact ⟨⟨b, rfl, O.ext hw', hb0⟩, xw.ext hw'⟩
    have d0 : Ext w (drewW w) := (Upd.refl w).drew
    have d1 : Ext w (allocW (drewW w) hole) := d0.alloc _
    have d2 : Ext w (allocW (allocW (drewW w) hole) hole) := d1.alloc _
    refine ⟨_, _, _, hp, _, h.wide, _, h.high, _, h.focus, _, h.focus, by omega, by omega, _, _, _, _, _, _, _, _, _, _, _, hgr, ?_⟩
    refine ⟨(where_ok (ht.ext (xw.ext d0)) c _ _ _ (h.few.le (by decide))).mono fun e u3 ⟨he, hu3⟩ => ⟨_, _, _, _, he, ⟨fin (((d0.ext hu3).alloc _).alloc _), fin (((d0.ext hu3).alloc _).alloc _)⟩⟩, ⟨?_, ?_⟩, ⟨?_, ?_⟩⟩
    · exact (where_ok (ht.ext (xw.ext d1)) c _ _ _ (h.few.le (by decide))).mono fun e u3 ⟨he, hu3⟩ => ⟨_, _, _, _, he, fin ((d1.ext hu3).alloc _)⟩
    · exact (where_ok (ht.ext (xw.ext d2)) c _ _ _ (h.few.le (by decide))).mono fun e u3 ⟨he, hu3⟩ => ⟨_, _, _, _, he, fin (d2.ext hu3)⟩
    · exact (where_ok (ht.ext (xw.ext d1)) c _ _ _ (h.few.le (by decide))).mono fun e u3 ⟨he, hu3⟩ => ⟨_, _, _, _, he, fin ((d1.ext hu3).alloc _)⟩
    · exact (where_ok (ht.ext (xw.ext d2)) c _ _ _ (h.few.le (by decide))).mono fun e u3 ⟨he, hu3⟩ => ⟨_, _, _, _, he, fin (d2.ext hu3)⟩

end Go.Proofs.YtkmmphkjmamckabDoor
