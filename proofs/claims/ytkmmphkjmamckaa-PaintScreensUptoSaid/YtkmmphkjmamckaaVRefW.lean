/-
  What a client is to see: the document's functions.
-/
import Derived.Test.YtkmmphkjmamckaaZM
import Derived.Test.YtkmmphkjmamckaaGRef
import Derived.Test.YtkmmphkjmamckaaTRef
import Derived.Test.YtkmmphkjmamckaaVRefV
import Derived.Test.YtkmmphkjmamckaaVRefG2
namespace Go.Proofs.Ytkmmphkjmamckaa
open Go
set_option linter.all false

theorem cellAt_ok {u : World} {g : Gr} {p : Option Addr} (h : Cells u p g.cells) (c : Nat) (row col : Int) (hl : g.cells.length ≤ 100000000) :
    Spec Try.prog fn_fenestraref_CellAt #[GrV g p g.cells.length c, .int .i64 row, .int .i64 col] u fun e u' => e = .returned (ClV (atG g row col)) ∧ Ext u u' := by
  apply vc_fenestraref_CellAt_spec
  unfold vc_fenestraref_CellAt
  simp only [decide_eq_true_eq, decide_eq_false_iff_not, true_and]
  have hu : Ext u (allocW (allocW u hole) hole) := ((Upd.refl u).alloc _).alloc _
  have no : ¬ (g.wide ≤ 24 ∧ g.high ≤ 10 ∧ 0 ≤ row ∧ row < g.high ∧ 0 ≤ col ∧ col < g.wide) → Ending.returned (.agg #[.int .i64 0, .int .i64 0, .int .i64 0, .bool false]) = .returned (ClV (atG g row col)) ∧ Ext u (allocW (allocW u hole) hole) := fun hn => ⟨by
    unfold atG
    rw [if_neg hn], hu⟩
  refine ⟨fun a1 => ⟨fun a2 => ⟨fun a3 => ⟨fun a4 => ⟨fun a5 => ⟨fun a6 => ?_, fun _ => no (by omega)⟩, fun _ => no (by omega)⟩, fun _ => no (by omega)⟩, fun _ => no (by omega)⟩, fun _ => no (by omega)⟩, fun _ => no (by omega)⟩
  have hat : atG g row col = cg g.cells (row * g.wide + col).toNat := by
    unfold atG
    rw [if_pos ⟨a1, a2, a3, a4, a5, a6⟩]
  have hm : 0 ≤ row * g.wide := Int.mul_nonneg a3 (by omega)
  rw [hat]
  refine ⟨fun x a b c d w => Ext u w ∧ 0 ≤ x ∧ x ≤ g.cells.length ∧ (row * g.wide + col < g.cells.length → x ≤ row * g.wide + col), fun x _ _ _ _ _ => (g.cells.length - x).toNat, ⟨hu, Int.le_refl _, by omega, by omega⟩, ?_⟩
  rintro x b1 b2 b3 b4 w ⟨hw, h0, h1, hx⟩
  refine ⟨fun hlt => ?_, fun hlt => ⟨?_, hw⟩⟩
  · obtain ⟨b, o, hp, hr⟩ := (h.ext hw).at (i := x.toNat) (by omega)
    have ha : Ext w (allocW w hole) := (Upd.refl w).alloc _
    have hdm := Int.mul_ediv_add_emod x g.wide
    have next : ¬ (x / g.wide = row ∧ x % g.wide = col) → inK .i64 (x + 1) ∧ (Ext u (allocW w hole) ∧ 0 ≤ x + 1 ∧ x + 1 ≤ g.cells.length ∧ (row * g.wide + col < g.cells.length → x + 1 ≤ row * g.wide + col)) ∧ ((g.cells.length : Int) - (x + 1)).toNat < ((g.cells.length : Int) - x).toNat := fun hn => by
      refine ⟨by simp only [inK]; omega, ⟨hw.ext ha, by omega, by omega, fun hl => ?_⟩, by omega⟩
      have := hx hl
      rcases (by omega : x + 1 ≤ row * g.wide + col ∨ x = row * g.wide + col) with h | h
      · exact h
      · exfalso
        apply hn
        have e1 : (row * g.wide + col) / g.wide = row := by
          rw [Int.add_comm, Int.add_mul_ediv_right _ _ (by omega), Int.ediv_eq_zero_of_lt a5 a6, Int.zero_add]
        have e2 : (row * g.wide + col) % g.wide = col := by
          rw [Int.add_comm, Int.add_mul_emod_self_right, Int.emod_eq_of_lt a5 a6]
        rw [h]
        exact ⟨e1, e2⟩
    refine ⟨b, o, hp, h0, hlt, _, _, _, _, rfl, hr, h0, by omega, by simp only [inK]; omega, fun c1 => ⟨h0, by omega, fun c2 => ⟨?_, hw.ext ha⟩, fun c2 => next fun hh => c2 hh.2⟩, fun c1 => next fun hh => c1 hh.1⟩
    rw [show row * g.wide + col = x by rw [← c1, ← c2, Int.mul_comm]; exact hdm]
  · rw [cg_out]
    have := hx
    omega

theorem seenAt_ok {u : World} {cs : List Value} {v : Vw} (h : VwM u cs v) (row col : Int) (hr : inK .i64 row) (hc : inK .i64 col) :
    Spec Try.prog fn_fenestraref_SeenAt #[.agg cs.toArray, .int .i64 row, .int .i64 col] u fun e u' => e = .returned (ClV (cellV v row col)) ∧ Ext u u' := by
  apply vc_fenestraref_SeenAt_spec
  unfold vc_fenestraref_SeenAt
  simp only [decide_eq_true_eq, decide_eq_false_iff_not, true_and]
  simp only [inK] at hr hc
  have hu : Ext u (allocW (allocW u hole) hole) := ((Upd.refl u).alloc _).alloc _
  have out : (row < 0 ∨ col < 0 ∨ v.high ≤ row ∨ v.wide ≤ col) → Ending.returned (.agg #[.int .i64 46, .int .i64 0, .int .i64 0, .bool false]) = .returned (ClV (cellV v row col)) ∧ Ext u (allocW (allocW u hole) hole) := fun ho => ⟨by
    unfold cellV
    rw [if_pos ho]
    rfl, hu⟩
  refine ⟨fun h1 => out (.inl h1), fun h1 => ⟨_, h.high, fun h3 => out (.inr (.inr (.inl h3))), fun h3 => ⟨fun h2 => out (.inr (.inl h2)), fun h2 => ⟨_, h.wide, fun h4 => out (.inr (.inr (.inr h4))), fun h4 => ?_⟩⟩⟩⟩
  have hcell : cellV v row col = match paneAt v.cols v.wide v.high row col with
    | some p => atG (v.grids.getD p .zero) (row - (whereT v.cols v.wide v.high p).row) (col - (whereT v.cols v.wide v.high p).col)
    | none => if lineAt v.wide v.cols.length col = true then sign 124 else sign 45 := by
    unfold cellV
    rw [if_neg (by omega)]
    cases paneAt v.cols v.wide v.high row col <;> rfl
  rw [hcell]
  refine ⟨fun x a b c d w => Ext u w ∧ -1 ≤ x ∧ x ≤ 5 ∧ ∀ q : Nat, x < q → q < 6 → ¬ inR (whereT v.cols v.wide v.high q) row col, fun x _ _ _ _ _ => (x + 1).toNat, ⟨hu, by decide, by decide, by omega⟩, ?_⟩
  rintro x a1 a2 a3 a4 w ⟨hw, h0, h6, hq⟩
  refine ⟨fun hx => ?_, fun hx => ?_⟩
  · obtain ⟨p, c, hp, ht⟩ := (h.ext hw).cols
    refine ⟨_, _, _, hp, _, h.wide, _, h.high, (placeOf_ok ht c v.wide v.high x h.few).mono fun e u2 ⟨he, hu2⟩ => ⟨_, _, _, _, he, ?_⟩⟩
    have sm := where_small v.cols v.wide v.high x
    have ha : Ext u2 (allocW u2 hole) := (Upd.refl _).alloc _
    have x2 := (hw.ext hu2).ext ha
    have next : ¬ inR (whereT v.cols v.wide v.high x) row col → inK .i64 (x - 1) ∧ (Ext u (allocW u2 hole) ∧ -1 ≤ x - 1 ∧ x - 1 ≤ 5 ∧ ∀ q : Nat, x - 1 < q → q < 6 → ¬ inR (whereT v.cols v.wide v.high q) row col) ∧ (x - 1 + 1).toNat < (x + 1).toNat := fun hn => by
      refine ⟨by simp only [inK]; omega, ⟨x2, by omega, by omega, fun q hq' hq6 => ?_⟩, by omega⟩
      rcases (by omega : x < q ∨ (q : Int) = x) with h | h
      · exact hq q h hq6
      · rw [h]; exact hn
    refine ⟨fun c1 => ⟨by simp only [inK]; omega, fun c2 => ⟨fun c3 => ⟨by simp only [inK]; omega, fun c4 => ?_, fun c4 => next fun hi => c4 (by have := hi.2.2.2; omega)⟩, fun c3 => next fun hi => c3 hi.2.2.1⟩, fun c2 => next fun hi => c2 (by have := hi.2.1; omega)⟩, fun c1 => next fun hi => c1 hi.1⟩
    obtain ⟨gp, gc, hg, hcl, hgl, _⟩ := (h.ext (x2.drew)).grid x.toNat (by omega)
    refine ⟨hx, by omega, _, _, _, _, _, _, _, _, _, _, _, hg, by simp only [inK]; omega, by simp only [inK]; omega, ?_⟩
    refine (cellAt_ok hcl gc _ _ (by omega)).mono fun e u3 ⟨he, hu3⟩ => ⟨_, _, _, _, he, ?_, (x2.drew).ext hu3⟩
    have hpa : paneAt v.cols v.wide v.high row col = some x.toNat := paneAt_some (by omega) (by rw [show ((x.toNat : Nat) : Int) = x by omega]; exact ⟨c1, by omega, c3, by omega⟩)
    rw [hpa]
    dsimp only
    rw [show ((x.toNat : Nat) : Int) = x by omega]
  · have hpa : paneAt v.cols v.wide v.high row col = none := paneAt_none fun p hp => hq p (by omega) hp
    rw [hpa]
    dsimp only
    have hn := h.few.n
    obtain ⟨p, c, hp, ht⟩ := h.cols
    refine ⟨fun x a b c d w => Ext u w ∧ 1 ≤ x ∧ ∀ q : Nat, q < x.toNat → ¬ (1 ≤ q ∧ q < v.cols.length ∧ 0 < (shareT v.wide v.cols.length q).2 ∧ col = (shareT v.wide v.cols.length q).1 - 1), fun x _ _ _ _ _ => (v.cols.length - x).toNat, ⟨hw, Int.le_refl _, by omega⟩, ?_⟩
    rintro y b1 b2 b3 b4 w1 ⟨hw1, y0, hq1⟩
    refine ⟨_, _, _, hp, fun hy => ?_, fun hy => ⟨?_, hw1⟩⟩
    · refine ⟨_, h.wide, _, _, _, hp, (shareOf_ok v.wide v.cols.length y).mono fun e u3 ⟨he, hu3⟩ => ⟨_, _, he, ?_⟩⟩
      have ss := share_small' v.wide v.cols.length y
      have ey : ((y.toNat : Nat) : Int) = y := by omega
      have next : ¬ (0 < (shareT v.wide v.cols.length y).2 ∧ col = (shareT v.wide v.cols.length y).1 - 1) → inK .i64 (y + 1) ∧ (Ext u u3 ∧ 1 ≤ y + 1 ∧ ∀ q : Nat, q < (y + 1).toNat → ¬ (1 ≤ q ∧ q < v.cols.length ∧ 0 < (shareT v.wide v.cols.length q).2 ∧ col = (shareT v.wide v.cols.length q).1 - 1)) ∧ ((v.cols.length : Int) - (y + 1)).toNat < ((v.cols.length : Int) - y).toNat := fun hn => by
        refine ⟨by simp only [inK]; omega, ⟨hw1.ext hu3, by omega, fun q hq' => ?_⟩, by omega⟩
        rcases (by omega : q < y.toNat ∨ q = y.toNat) with h | rfl
        · exact hq1 q h
        · rw [ey]; exact fun hh => hn hh.2.2
      refine ⟨fun c1 => ⟨by simp only [inK]; omega, fun c2 => ⟨?_, hw1.ext hu3⟩, fun c2 => next fun hh => c2 hh.2⟩, fun c1 => next fun hh => c1 hh.1⟩
      rw [if_pos]
      · rfl
      rw [lineAt_iff']
      exact ⟨y.toNat, by omega, by omega, by rw [ey]; exact c1, by rw [ey]; exact c2⟩
    · rw [if_neg]
      · rfl
      rw [lineAt_iff']
      rintro ⟨i, i1, i2, i3, i4⟩
      exact hq1 i (by omega) ⟨i1, i2, i3, i4⟩

theorem footAt_ok {u : World} {cs : List Value} {v : Vw} (h : VwM u cs v) (col : Int) (hc : inK .i64 col) :
    Spec Try.prog fn_fenestraref_FootAt #[.agg cs.toArray, .int .i64 col] u fun e u' => e = .returned (ClV (statusV v.cols v.focus col)) ∧ Ext u u' := by
  apply vc_fenestraref_FootAt_spec
  unfold vc_fenestraref_FootAt
  simp only [decide_eq_true_eq, decide_eq_false_iff_not, true_and]
  simp only [inK] at hc
  have hu : Ext u (allocW (allocW u hole) hole) := ((Upd.refl u).alloc _).alloc _
  obtain ⟨p, c, hp, ht⟩ := h.cols
  refine ⟨_, _, _, hp, (all_ok (ht.ext hu) c h.few).mono fun e u1 ⟨lp, lc, he, ho, hk, hu1⟩ => ⟨_, _, _, he, ?_⟩⟩
  have x1 := hu.ext hu1
  have no : ¬ (0 ≤ col ∧ col % 2 = 0 ∧ (col / 2).toNat < v.cols.flatten.length) → Ending.returned (.agg #[.int .i64 32, .int .i64 0, .int .i64 0, .bool false]) = .returned (ClV (statusV v.cols v.focus col)) ∧ Ext u u1 := fun hn => ⟨by
    unfold statusV
    rw [if_neg hn]
    rfl, x1⟩
  refine ⟨fun c1 => ⟨c1, by decide, fun c2 => ⟨c1, by decide, by simp only [inK]; omega, fun c3 => ⟨c1, by decide, by simp only [inK]; omega, ?_⟩, fun c3 => no (by omega)⟩, fun c2 => no (by omega)⟩, fun c1 => no (by omega)⟩
  obtain ⟨b, o, hp', hr⟩ := (ho.nums).at (i := (col / 2).toNat) (by omega)
  refine ⟨b, o, hp', by omega, c3, _, rfl, hr, by simp only [inK]; omega, _, h.focus, ?_, x1⟩
  unfold statusV
  rw [if_pos ⟨c1, c2, by omega⟩]
  rw [show max 0 (min (v.cols.flatten.getD (col / 2).toNat 0) 9) = min (max (v.cols.flatten.getD (col / 2).toNat 0) 0) 9 by omega]

theorem screenOf_ok {u : World} {cs : List Value} {v : Vw} (h : VwM u cs v) (wide high : Int) :
    Spec Try.prog fn_fenestraref_ScreenOf #[.agg cs.toArray, .int .i64 wide, .int .i64 high] u (OwnPost u (screenV v wide high)) := by
  apply vc_fenestraref_ScreenOf_spec
  unfold vc_fenestraref_ScreenOf
  simp only [decide_eq_true_eq, decide_eq_false_iff_not, true_and, Bool.not_eq_true', Bool.not_eq_false']
  have hu : Ext u (allocW (allocW u hole) hole) := ((Upd.refl u).alloc _).alloc _
  refine (newGrid_ok wide high).mono fun e u1 ⟨⟨p1, c1, he, ho, hb⟩, hu1⟩ => ⟨_, _, _, _, _, _, _, _, _, _, _, he, ?_⟩
  have hg := new_ok' wide high
  have hcl := cells_len' hg
  have hw1 := hg.w1
  have hw2 := hg.w2
  have hh1 := hg.h1
  have hh2 := hg.h2
  have hscr : screenV v wide high = ⟨(newG wide high).wide, (newG wide high).high, screenCells v (newG wide high).wide.toNat (newG wide high).high.toNat, (cursorV v (newG wide high).wide (newG wide high).high).1, (cursorV v (newG wide high).wide (newG wide high).high).2, 0, false, 0, (newG wide high).high⟩ := rfl
  have hrest : (newG wide high).row = 0 ∧ (newG wide high).col = 0 ∧ (newG wide high).ink = 0 ∧ (newG wide high).bold = false ∧ (newG wide high).top = 0 ∧ (newG wide high).bottom = (newG wide high).high := ⟨rfl, rfl, rfl, rfl, rfl, rfl⟩
  rw [hscr]
  generalize newG wide high = g at hg hcl hw1 hw2 hh1 hh2 ho he hrest
  obtain ⟨b, rfl⟩ := ho.some' (by
    have a := hg.len
    have b := Int.mul_pos (show (0 : Int) < g.wide by omega) (show (0 : Int) < g.high by omega)
    omega)
  have hsl := screen_len v g.wide.toNat g.high.toNat
  have hsl2 : (screenCells v g.wide.toNat g.high.toNat).length = g.cells.length := by rw [hsl, hcl, Nat.mul_comm]
  have hscg := fun (r c : Nat) hc hr => screen_cg v (w := g.wide.toNat) (h := g.high.toNat) (r := r) (c := c) hc hr
  generalize hC : screenCells v g.wide.toNat g.high.toNat = C at hsl2 hscg
  have x1 := hu.ext hu1
  have hb0 : u.heap.size ≤ b := by have := hb b ⟨_, rfl, rfl⟩; have := hu.size; omega
  have ho' : CO u1 b c1 g.cells := ho
  have S0 : ScrI u C b c1 0 (allocW u1 hole) := ⟨⟨g.cells, ho'.ext ((Upd.refl _).alloc _), hsl2.symm, by omega⟩, x1.alloc _, hb0⟩
  have hfew := few_cells hg
  obtain ⟨q1, q2, q3, q4, q5, q6⟩ := hrest
  refine ⟨fun x w => 0 ≤ x ∧ x ≤ g.cells.length ∧ ScrI u C b c1 x.toNat w, fun x _ => (g.cells.length - x).toNat, ⟨Int.le_refl _, by omega, S0⟩, ?_⟩
  rintro x w ⟨r0, r1, S⟩
  refine ⟨fun hr => ?_, fun hr => ?_⟩
  · have hd : Ext w (drewW (drewW w)) := ((Upd.refl _).drew).drew
    have d0 : 0 ≤ x / g.wide := Int.ediv_nonneg r0 (by omega)
    have d1 : 0 ≤ x % g.wide := Int.emod_nonneg _ (by omega)
    have d2 : x % g.wide < g.wide := Int.emod_lt_of_pos _ (by omega)
    have d3 := Int.mul_ediv_add_emod x g.wide
    have d4 : x / g.wide < g.high := by
      rw [Int.ediv_lt_iff_lt_mul (by omega)]
      have := hg.len
      rw [Int.mul_comm]
      omega
    have hcg := hscg (x / g.wide).toNat (x % g.wide).toNat (by omega) (by omega)
    have hidx : (x / g.wide).toNat * g.wide.toNat + (x % g.wide).toNat = x.toNat := by
      have := mul_of_nat (w := x / g.wide) (h := g.wide) d0 (by omega)
      rw [← this]
      have h3 : x / g.wide * g.wide = g.wide * (x / g.wide) := Int.mul_comm _ _
      have h4 : 0 ≤ x / g.wide * g.wide := Int.mul_nonneg d0 (by omega)
      omega
    rw [hidx, show (((x / g.wide).toNat : Nat) : Int) = x / g.wide by omega, show (((x % g.wide).toNat : Nat) : Int) = x % g.wide by omega] at hcg
    have f1 : x % g.wide ≤ 24 := by omega
    have hx1 : (x + 1).toNat = x.toNat + 1 := by omega
    refine ⟨r0, by omega, by simp only [inK]; omega, r0, by omega, h.whole, (seenAt_ok (h.ext (S.ext.ext hd)) _ _ (by simp only [inK]; omega) (by simp only [inK]; omega)).mono fun e u3 ⟨he, hu3⟩ => ⟨_, _, _, _, he, b, 0, rfl, r0, hr, rfl, ?_⟩⟩
    have S3 := S.ext' (hd.ext hu3)
    refine ⟨(S3.put (o := 0 + x.toNat * 4) (by omega) (by omega) (cellV v (x / g.wide) (x % g.wide))).1, by simp only [inK]; omega, fun hl => ⟨h.whole, ?_⟩, fun hl => ?_⟩
    · have S4 := (S3.put (o := 0 + x.toNat * 4) (by omega) (by omega) (cellV v (x / g.wide) (x % g.wide))).2
      have hd4 := (Upd.refl (S := fun _ => False) (putCells u3 b (0 + x.toNat * 4) (clV (cellV v (x / g.wide) (x % g.wide))))).drew
      refine (footAt_ok (h.ext (S4.ext.ext hd4)) _ (by simp only [inK]; omega)).mono fun e u4 ⟨he, hu4⟩ => ⟨_, _, _, _, he, b, 0, rfl, r0, hr, rfl, ?_⟩
      have st := (S4.ext' (hd4.ext hu4)).store (o := 0 + x.toNat * 4) (k := statusV v.cols v.focus (x % g.wide)) (by omega) (by omega) (by rw [hcg, if_pos (by omega)])
      rw [← hx1] at st
      exact ⟨st.1, by simp only [inK]; omega, ⟨by omega, by omega, st.2⟩, by first | omega | (dsimp only; omega)⟩
    · have st := S3.store (o := 0 + x.toNat * 4) (k := cellV v (x / g.wide) (x % g.wide)) (by omega) (by omega) (by rw [hcg, if_neg (by omega)])
      rw [← hx1] at st
      exact ⟨by simp only [inK]; omega, ⟨by omega, by omega, st.2⟩, by first | omega | (dsimp only; omega)⟩
  · have O := S.done (by omega)
    have xw := S.ext
    have same : ∀ {w' : World}, Ext w w' → (cursorV v g.wide g.high = (0, 0)) → OwnPost u ⟨g.wide, g.high, C, (cursorV v g.wide g.high).1, (cursorV v g.wide g.high).2, 0, false, 0, g.high⟩ (.returned (.agg #[.int .i64 g.wide, .int .i64 g.high, .slice (some ⟨b, 0, none⟩) g.cells.length c1, .int .i64 g.row, .int .i64 g.col, .int .i64 g.ink, .bool g.bold, .int .i64 g.top, .int .i64 g.bottom])) w' := fun hw' hz => by
      rw [hz, q1, q2, q3, q4, q5, q6, ← hsl2]
      exact ⟨⟨_, _, rfl, O.ext hw', fun k hk => by have := at_some hk; simp only at this; omega⟩, xw.ext hw'⟩
    refine ⟨_, h.focus, (isPane_ok v.focus).mono fun e u3 ⟨he, hu3⟩ => ⟨_, he, fun hb => same hu3 (by
      unfold cursorV
      rw [if_pos]
      simp only [isPane, decide_eq_false_iff_not] at hb
      omega), fun hb => ?_⟩⟩
    simp only [isPane, decide_eq_true_eq] at hb
    obtain ⟨p, c, hp, ht⟩ := h.cols
    obtain ⟨gp, gc, hgr, hgc, hgl, hgrow, hgcol⟩ := h.grid v.focus.toNat (by omega)
    simp only [inK] at hgrow hgcol
    have sm := where_small v.cols v.wide v.high v.focus
    have hcur : cursorV v g.wide g.high = if 0 < (whereT v.cols v.wide v.high v.focus).wide then (max 0 (min ((whereT v.cols v.wide v.high v.focus).row + min (v.grids.getD v.focus.toNat .zero).row ((whereT v.cols v.wide v.high v.focus).high - 1)) (g.high - 1)), max 0 (min ((whereT v.cols v.wide v.high v.focus).col + min (v.grids.getD v.focus.toNat .zero).col ((whereT v.cols v.wide v.high v.focus).wide - 1)) (g.wide - 1))) else (0, 0) := by
      unfold cursorV
      rw [if_neg (by omega)]
    refine ⟨_, _, _, hp, _, h.wide, _, h.high, _, h.focus, (placeOf_ok (ht.ext (xw.ext hu3)) c _ _ _ h.few).mono fun e u4 ⟨he, hu4⟩ => ⟨_, _, _, _, he, fun hpos => ?_, fun hn => same ((hu3.ext hu4).alloc _) (by rw [hcur, if_neg hn])⟩⟩
    refine ⟨_, h.focus, by omega, by omega, _, _, _, _, _, _, _, _, _, _, _, hgr, by simp only [inK]; omega, by simp only [inK]; omega, by simp only [inK]; omega, by simp only [inK]; omega, by simp only [inK]; omega, by simp only [inK]; omega, ?_⟩
    have hw' : Ext w (allocW (allocW u4 hole) hole) := ((hu3.ext hu4).alloc _).alloc _
    rw [hcur, if_pos hpos, q3, q4, q5, q6, ← hsl2]
    rw [show ∀ a : Int, min (max a 0) (g.high - 1) = max 0 (min a (g.high - 1)) by intro a; omega, show ∀ a : Int, min (max a 0) (g.wide - 1) = max 0 (min a (g.wide - 1)) by intro a; omega]
    exact ⟨⟨_, _, rfl, O.ext hw', fun k hk => by have := at_some hk; simp only at this; omega⟩, xw.ext hw'⟩

end Go.Proofs.Ytkmmphkjmamckaa
