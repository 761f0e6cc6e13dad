/-
  What the keeping statements of screens answer, on: true.
-/
import Derived.Test.YtkmmphkjmamckabGShowK
import Derived.Test.YtkmmphkjmamckabZP
namespace Go.Proofs.Ytkmmphkjmamckab
open Go
set_option linter.all false

/-- Two cells of two screens are held against each other. -/
abbrev CmpP (i j wd : Int) (I : Int → World → Prop) (R : World → Prop) (a b : Cl) (v : World) : Prop :=
  ((decide (a.ch = b.ch) && (decide (a.ink = b.ink) && (decide (a.pic = b.pic) && (a.bold == b.bold)))) = false → R v) ∧
  ((decide (a.ch = b.ch) && (decide (a.ink = b.ink) && (decide (a.pic = b.pic) && (a.bold == b.bold)))) = true → inK .i64 (j + 1) ∧ I (j + 1) v ∧ (wd - (j + 1)).toNat < (wd - j).toNat)

theorem cmp_ok {i j wd : Int} {I : Int → World → Prop} {R : World → Prop} {a b : Cl} {v : World} (h : a = b) (hj : inK .i64 (j + 1)) (hI : I (j + 1) v) (hm : (wd - (j + 1)).toNat < (wd - j).toNat) : CmpP i j wd I R a b v := by
  subst h
  unfold CmpP
  rw [clEq_k]
  exact ⟨fun hn => by simp at hn, fun _ => ⟨hj, hI, hm⟩⟩

theorem gridScrolls_ok {u : World} {g : Gr} {p : Option Addr} (h : Cells u p g.cells) (c : Nat) (hl : g.cells.length ≤ 10000000) :
    Spec Try.prog fn_fenestrakeep_GridScrolls #[GrV g p g.cells.length c] u (Told u true) := by
  apply vc_fenestrakeep_GridScrolls_spec
  unfold vc_fenestrakeep_GridScrolls
  simp only [decide_eq_true_eq, decide_eq_false_iff_not, Bool.not_eq_true', Bool.not_eq_false', true_and]
  have hu : Ext u (allocW u hole) := (Upd.refl u).alloc _
  have hnil : Nums (allocW u hole) none 0 (⟨2, 10, [], noBytes⟩ : Ev).ps := ⟨rfl, rfl⟩
  refine (gdo_ok (h.ext hu) c (by omega) ⟨2, 10, [], noBytes⟩ (ec := 0) hnil (by decide) (Nat.zero_le _)).mono fun r u1 ⟨⟨p', c', hr, hc, _, hs⟩, hu1⟩ => ⟨_, _, _, _, _, _, _, _, _, _, _, _, hr, ?_⟩
  have x1 := hu.ext hu1
  have hh : Ext u1 (allocW u1 hole) := (Upd.refl _).alloc _
  have x2 := x1.ext hh
  have hsh : ∀ {v : World}, Ext u v → Spec Try.prog fn_fenestrakeep_shows #[] v fun e u11 => ∃ x30 : Bool, e = .returned (.bool x30) ∧ Told u true (.returned (.bool x30)) u11 := fun hv => shows_ok_k.mono fun r u3 ⟨hr, hu3⟩ => ⟨_, hr, rfl, hv.ext hu3⟩
  refine ⟨fun _ => hsh x2, fun hz => ?_⟩
  refine shows_ok_k.mono fun r u2 ⟨hr, hu2⟩ => ⟨_, hr, fun hn => by simp at hn, fun _ => ?_⟩
  have hg := do_zero hz
  have hd := do_ctl hg 10 [] noBytes
  have hcf : controlG g 10 = feedG g := by unfold controlG; rw [if_neg (by decide), if_neg (by decide), if_pos rfl]
  rw [hcf] at hd
  rw [hd] at hc ⊢
  dsimp only at hc ⊢
  obtain ⟨fg, fw, fh, _⟩ := feed_ok' hg
  have fl := feed_law hg
  have x3 := x2.ext hu2
  have y3 := hh.ext hu2
  have hr1 := hg.r1
  have hr2 := hg.r2
  have hw2 := hg.w2
  have hh2 := hg.h2
  have hb2 := hg.b2
  have ht1 := hg.t1
  have ht2 := hg.t2
  have hlen : (feedG g).cells.length ≤ 240 := few_cells fg
  refine ⟨by simp only [inK]; omega, fun hne => ?_, fun heq => ?_⟩
  · obtain ⟨f1, f2, f3⟩ := fl.1 hne
    refine (sameCells_ok_k (hc.ext y3) (h.ext x3) c' c (by omega)).mono fun r u4 ⟨hr, hu4⟩ => ⟨_, hr, fun _ => ⟨by simp only [inK]; omega, by simp only [inK]; omega, fun _ => ⟨by rw [f3]; simp, x3.ext hu4⟩, fun hn => (hn f2).elim⟩, fun hn => ?_⟩
    rw [show sameC_k (feedG g) g = true by unfold sameC_k; rw [decide_eq_true]; exact ⟨fw, fh, f1⟩] at hn
    cases hn
  · obtain ⟨f1, f2, f3⟩ := fl.2 heq
    refine ⟨fun i v => Ext u v ∧ Ext u1 v ∧ 0 ≤ i, fun i _ => (g.high - i).toNat, ⟨x3, y3, Int.le_refl _⟩, fun i v ⟨hv, hv1, hi⟩ => ⟨fun hlt => ?_, fun hlt => ⟨fun _ => ⟨by rw [f2]; simp, hv⟩, fun hn => (hn f1).elim⟩⟩⟩
    refine ⟨fun j w => Ext u w ∧ Ext u1 w ∧ 0 ≤ j, fun j _ => (g.wide - j).toNat, ⟨hv, hv1, Int.le_refl _⟩, fun j w ⟨hw, hw1, hj⟩ => ⟨fun hjt => ?_, fun hjt => ⟨by simp only [inK]; omega, ⟨hw, hw1, by omega⟩, by first | omega | (dsimp only; omega)⟩⟩⟩
    refine (gat_ok (h.ext hw) c i j (by omega)).mono fun r w1 ⟨hr, hw1'⟩ => ⟨_, _, _, _, hr, ?_⟩
    have l3' := f3 i.toNat j.toNat (by omega) (by omega)
    rw [show ((i.toNat : Nat) : Int) = i by omega, show ((j.toNat : Nat) : Int) = j by omega] at l3'
    have z := hw.ext hw1'
    have z1 := hw1.ext hw1'
    have step : ∀ (k : Cl) {W : World}, Ext u W → Ext u1 W → atG (feedG g) i j = k → Spec Try.prog fn_grid_At #[GrV (feedG g) p' (feedG g).cells.length c', .int .i64 i, .int .i64 j] W (fun e u18 => ∃ (x64_Ch : Int) (x64_Ink : Int) (x64_Pic : Int) (x64_Bold : Bool), e = .returned (.agg #[.int .i64 x64_Ch, .int .i64 x64_Ink, .int .i64 x64_Pic, .bool x64_Bold]) ∧
        (((decide (x64_Ch = k.ch) && (decide (x64_Ink = k.ink) && (decide (x64_Pic = k.pic) && (x64_Bold == k.bold)))) = false → Told u true (.returned (.bool false)) u18) ∧
         ((decide (x64_Ch = k.ch) && (decide (x64_Ink = k.ink) && (decide (x64_Pic = k.pic) && (x64_Bold == k.bold)))) = true → inK .i64 (j + 1) ∧ (Ext u u18 ∧ Ext u1 u18 ∧ 0 ≤ j + 1) ∧ (g.wide - (j + 1)).toNat < (g.wide - j).toNat))) := fun k {W} hW hW1 hk => by
      refine (gat_ok (hc.ext hW1) c' i j (by omega)).mono fun r w2 ⟨hr, hw2'⟩ => ⟨_, _, _, _, hr, ?_⟩
      rw [hk, clEq_k]
      exact ⟨fun hn => by simp at hn, fun _ => ⟨by simp only [inK]; omega, ⟨hW.ext hw2', hW1.ext hw2', by omega⟩, by omega⟩⟩
    refine ⟨by simp only [inK]; omega, fun hb => ?_, fun hb => ⟨fun ht => ⟨fun hb' => ⟨by simp only [inK]; omega, ?_⟩, fun hb' => ?_⟩, fun ht => ?_⟩⟩
    · exact step .z ((z.alloc _).drew) ((z1.alloc _).drew) (by rw [l3', if_pos hb])
    · refine (gat_ok (h.ext (z.alloc _)) c (i + 1) j (by omega)).mono fun r w2 ⟨hr, hw2'⟩ => ⟨_, _, _, _, hr, ?_⟩
      refine step (atG g (i + 1) j) ((z.alloc _).ext hw2' |>.drew) ((z1.alloc _).ext hw2' |>.drew) ?_
      rw [l3', if_neg hb, if_pos ⟨ht, hb'⟩, show ((i.toNat + 1 : Nat) : Int) = i + 1 by omega]
    · exact step (atG g i j) ((z.alloc _).drew) ((z1.alloc _).drew) (by rw [l3', if_neg hb, if_neg (fun hh => hb' hh.2)])
    · exact step (atG g i j) ((z.alloc _).drew) ((z1.alloc _).drew) (by rw [l3', if_neg hb, if_neg (fun hh => ht hh.1)])

theorem gridRegion_ok {u : World} {g : Gr} {p : Option Addr} (h : Cells u p g.cells) (c : Nat) (hl : g.cells.length ≤ 10000000) (e : Ev) {ep : Option Addr} {en ec : Nat} (he : Nums u ep en e.ps) (hen : en ≤ 10000000) (hpl : e.pl.size ≤ 10000000) :
    Spec Try.prog fn_fenestrakeep_GridRegion #[GrV g p g.cells.length c, EvV e ep en ec] u (Told u true) := by
  apply vc_fenestrakeep_GridRegion_spec
  unfold vc_fenestrakeep_GridRegion
  simp only [decide_eq_true_eq, decide_eq_false_iff_not, Bool.not_eq_true', Bool.not_eq_false', true_and]
  have hu : Ext u (allocW (allocW u hole) hole) := ((Upd.refl u).alloc _).alloc _
  have hsh : ∀ {v : World}, Ext u v → Spec Try.prog fn_fenestrakeep_shows #[] v fun e u11 => ∃ x30 : Bool, e = .returned (.bool x30) ∧ Told u true (.returned (.bool x30)) u11 := fun hv => shows_ok_k.mono fun r u3 ⟨hr, hu3⟩ => ⟨_, hr, rfl, hv.ext hu3⟩
  refine ⟨fun _ => hsh hu, fun k1 => ⟨fun _ => hsh hu, fun k4 => ⟨fun _ => hsh hu, fun k5 => ⟨fun k3 => ⟨fun _ => hsh hu, fun b74 => ⟨fun _ => hsh hu, fun b75 => ?_⟩⟩, fun k3 => ?_⟩⟩⟩⟩
  all_goals
    have hk : ¬ (e.kind = 1 ∨ e.kind = 4 ∨ e.kind = 5 ∨ (e.kind = 3 ∧ (e.b = 74 ∨ e.b = 75))) := by omega
    refine (gdo_ok (h.ext hu) c (by omega) e (ec := ec) (he.ext hu) (by omega) (by omega)).mono fun r u1 ⟨⟨p', c', hr, hc, _, hs⟩, hu1⟩ => ⟨_, _, _, _, _, _, _, _, _, _, _, _, hr, ?_⟩
    have x1 := hu.ext hu1
    have hh : Ext u1 (allocW u1 hole) := (Upd.refl _).alloc _
    have x2 := x1.ext hh
    refine ⟨fun _ => hsh x2, fun hz => ?_⟩
    refine shows_ok_k.mono fun r u2 ⟨hr2, hu2⟩ => ⟨_, hr2, fun hn => by simp at hn, fun _ => ?_⟩
    have hg := do_zero hz
    have hlaw := region_law hg hk hz
    have ho := do_ok' hg e
    have hlen : (doG g e).1.cells.length ≤ 240 := few_cells ho.1
    generalize doG g e = d at hc hlaw hlen ho
    have x3 := x2.ext hu2
    have y3 := hh.ext hu2
    have hw2 := hg.w2
    have hh2 := hg.h2
    refine ⟨fun i v => Ext u v ∧ Ext u1 v ∧ 0 ≤ i, fun i _ => (g.high - i).toNat, ⟨x3, y3, Int.le_refl _⟩, fun i v ⟨hv, hv1, hi⟩ => ⟨fun hlt => ?_, fun hlt => ⟨rfl, hv⟩⟩⟩
    refine ⟨fun j w => Ext u w ∧ Ext u1 w ∧ 0 ≤ j, fun j _ => (g.wide - j).toNat, ⟨hv, hv1, Int.le_refl _⟩, fun j w ⟨hw, hw1, hj⟩ => ⟨fun hjt => ?_, fun hjt => ⟨by simp only [inK]; omega, ⟨hw, hw1, by omega⟩, by first | omega | (dsimp only; omega)⟩⟩⟩
    have hd : Ext w (drewW w) := (Upd.refl _).drew
    have cmp : (i < g.top ∨ g.bottom ≤ i) → Spec Try.prog fn_grid_At #[GrV d.1 p' d.1.cells.length c', .int .i64 i, .int .i64 j] (drewW w) (fun e u111 => ∃ (a1 : Int) (a2 : Int) (a3 : Int) (a4 : Bool), e = .returned (.agg #[.int .i64 a1, .int .i64 a2, .int .i64 a3, .bool a4]) ∧
        Spec Try.prog fn_grid_At #[GrV g p g.cells.length c, .int .i64 i, .int .i64 j] u111 (fun e u18 => ∃ (x64_Ch : Int) (x64_Ink : Int) (x64_Pic : Int) (x64_Bold : Bool), e = .returned (.agg #[.int .i64 x64_Ch, .int .i64 x64_Ink, .int .i64 x64_Pic, .bool x64_Bold]) ∧
        (((decide (a1 = x64_Ch) && (decide (a2 = x64_Ink) && (decide (a3 = x64_Pic) && (a4 == x64_Bold)))) = false → Told u true (.returned (.bool false)) u18) ∧
         ((decide (a1 = x64_Ch) && (decide (a2 = x64_Ink) && (decide (a3 = x64_Pic) && (a4 == x64_Bold)))) = true → inK .i64 (j + 1) ∧ (Ext u u18 ∧ Ext u1 u18 ∧ 0 ≤ j + 1) ∧ (g.wide - (j + 1)).toNat < (g.wide - j).toNat)))) := fun hout => by
      refine (gat_ok (hc.ext (hw1.ext hd)) c' i j (by omega)).mono fun r w2 ⟨hr, hw2'⟩ => ⟨_, _, _, _, hr, ?_⟩
      refine (gat_ok (h.ext ((hw.ext hd).ext hw2')) c i j (by omega)).mono fun r w3 ⟨hr, hw3'⟩ => ⟨_, _, _, _, hr, ?_⟩
      have l := hlaw i.toNat j.toNat (by omega) (by omega) (by omega)
      rw [show ((i.toNat : Nat) : Int) = i by omega, show ((j.toNat : Nat) : Int) = j by omega] at l
      rw [l, clEq_k]
      exact ⟨fun hn => by simp at hn, fun _ => ⟨by simp only [inK]; omega, ⟨((hw.ext hd).ext hw2').ext hw3', ((hw1.ext hd).ext hw2').ext hw3', by omega⟩, by omega⟩⟩
    exact ⟨fun c1 => cmp (.inl c1), fun c1 => ⟨fun c2 => cmp (.inr c2), fun c2 => ⟨by simp only [inK]; omega, ⟨hw.ext hd, hw1.ext hd, by omega⟩, by first | omega | (dsimp only; omega)⟩⟩⟩

theorem gridPictures_ok {u : World} {g : Gr} {p : Option Addr} (h : Cells u p g.cells) (c : Nat) (hl : g.cells.length ≤ 10000000) (s : ByteArray) (hs : s.size ≤ 10000000) :
    Spec Try.prog fn_fenestrakeep_GridPictures #[GrV g p g.cells.length c, .string s] u (Told u true) := by
  apply vc_fenestrakeep_GridPictures_spec
  unfold vc_fenestrakeep_GridPictures
  simp only [decide_eq_true_eq, decide_eq_false_iff_not, Bool.not_eq_true', Bool.not_eq_false', true_and]
  have hu : Ext u (allocW u hole) := (Upd.refl u).alloc _
  have hnil : Nums (allocW u hole) none 0 (⟨4, 0, [], s⟩ : Ev).ps := ⟨rfl, rfl⟩
  refine (gdo_ok (h.ext hu) c (by omega) ⟨4, 0, [], s⟩ (ec := 0) hnil (by decide) (by show s.size ≤ _; omega)).mono fun r u1 ⟨⟨p', c', hr, hc, _, _⟩, hu1⟩ => ⟨_, _, _, _, _, _, _, _, _, _, _, _, hr, ?_⟩
  have x1 := hu.ext hu1
  have hh : Ext u1 (allocW u1 hole) := (Upd.refl _).alloc _
  have x2 := x1.ext hh
  have hsh : ∀ {v : World}, Ext u v → Spec Try.prog fn_fenestrakeep_shows #[] v fun e u11 => ∃ x30 : Bool, e = .returned (.bool x30) ∧ Told u true (.returned (.bool x30)) u11 := fun hv => shows_ok_k.mono fun r u3 ⟨hr, hu3⟩ => ⟨_, hr, rfl, hv.ext hu3⟩
  refine ⟨fun _ => hsh x2, fun hz => ?_⟩
  refine shows_ok_k.mono fun r u2 ⟨hr2, hu2⟩ => ⟨_, hr2, fun hn => by simp at hn, fun _ => ?_⟩
  have hg := do_zero hz
  have hd := do_pic hg 0 [] s
  rw [hd] at hc ⊢
  dsimp only at hc ⊢
  have hlaw := picture_law hg s.data.toList
  have ho := picture_ok' hg s.data.toList
  have hlen : (pictureG g s.data.toList).cells.length ≤ 240 := few_cells ho.1
  have hsame : (pictureG g s.data.toList).row = g.row ∧ (pictureG g s.data.toList).col = g.col ∧ (pictureG g s.data.toList).ink = g.ink ∧ (pictureG g s.data.toList).bold = g.bold := ⟨rfl, rfl, rfl, rfl⟩
  generalize pictureG g s.data.toList = d at hc hlaw hlen ho hsame ⊢
  obtain ⟨q1, q2, q3, q4⟩ := hsame
  have x3 := x2.ext hu2
  have y3 := hh.ext hu2
  have hw1' := hg.w1
  have hw2 := hg.w2
  have hh2 := hg.h2
  have hc1 := hg.c1
  refine ⟨fun i v => Ext u v ∧ Ext u1 v ∧ 0 ≤ i, fun i _ => (g.high - i).toNat, ⟨x3, y3, Int.le_refl _⟩, fun i v ⟨hv, hv1, hi⟩ => ⟨fun hlt => ?_, fun hlt => ?_⟩⟩
  rotate_left
  · rw [q1, q2, q3, q4]
    simp only [not_true, false_implies, true_implies, true_and, and_true, beq_self_eq_true]
    exact ⟨rfl, hv⟩
  refine ⟨fun j w => Ext u w ∧ Ext u1 w ∧ 0 ≤ j, fun j _ => (g.wide - j).toNat, ⟨hv, hv1, Int.le_refl _⟩, fun j w ⟨hw, hw1, hj⟩ => ⟨fun hjt => ?_, fun hjt => ⟨by simp only [inK]; omega, ⟨hw, hw1, by omega⟩, by first | omega | (dsimp only; omega)⟩⟩⟩
  have l := hlaw i.toNat j.toNat (by omega) (by omega)
  rw [show ((i.toNat : Nat) : Int) = i by omega, show ((j.toNat : Nat) : Int) = j by omega] at l
  have next : ∀ {W : World}, Ext w W → inK .i64 (j + 1) ∧ (Ext u W ∧ Ext u1 W ∧ 0 ≤ j + 1) ∧ (g.wide - (j + 1)).toNat < (g.wide - j).toNat := fun hW => ⟨by simp only [inK]; omega, ⟨hw.ext hW, hw1.ext hW, by omega⟩, by omega⟩
  have leaf : ∀ {W : World}, Ext w W → ((decide (atG g i j = atG d i j) = false → ((atG d i j).pic = 0 → Told u true (.returned (.bool false)) W) ∧ (¬ (atG d i j).pic = 0 → (i < g.row → Told u true (.returned (.bool false)) W) ∧ (¬ i < g.row → inK .i64 (g.wide - 1) ∧
      (j < min g.col (g.wide - 1) → Told u true (.returned (.bool false)) W) ∧ (¬ j < min g.col (g.wide - 1) → inK .i64 (j + 1) ∧ (Ext u W ∧ Ext u1 W ∧ 0 ≤ j + 1) ∧ (g.wide - (j + 1)).toNat < (g.wide - j).toNat)))) ∧
      (decide (atG g i j = atG d i j) = true → inK .i64 (j + 1) ∧ (Ext u W ∧ Ext u1 W ∧ 0 ≤ j + 1) ∧ (g.wide - (j + 1)).toNat < (g.wide - j).toNat)) := fun hW => by
    refine ⟨fun hne => ?_, fun _ => next hW⟩
    have l' := l.resolve_left (of_decide_eq_false hne)
    exact ⟨fun h0 => (l'.1 h0).elim, fun _ => ⟨fun h1 => by omega, fun _ => ⟨by simp only [inK]; omega, fun h2 => by omega, fun _ => next hW⟩⟩⟩
  have k0 : Ext w w := Upd.refl _
  repeat' apply And.intro
  all_goals
    refine (gat_ok (h.ext (hw.ext (by repeat (first | assumption | apply Upd.drew | apply Upd.alloc)))) c i j (by omega)).mono fun r w2 ⟨hr, hw2'⟩ => ⟨_, _, _, _, hr, ?_⟩
    have E2 : Ext w w2 := Upd.ext (S := fun _ => False) (u := w) (by repeat (first | assumption | apply Upd.drew | apply Upd.alloc)) hw2'
  all_goals repeat' apply And.intro
  all_goals
    refine (gat_ok (hc.ext (hw1.ext (by repeat (first | assumption | apply Upd.drew | apply Upd.alloc)))) c' i j (by omega)).mono fun r w3 ⟨hr, hw3'⟩ => ⟨_, _, _, _, hr, ?_⟩
    have E3 : Ext w w3 := Upd.ext (S := fun _ => False) (u := w) (by repeat (first | assumption | apply Upd.drew | apply Upd.alloc)) hw3'
    rw [clEq_k]
    first
      | exact leaf E3
      | exact leaf (E3.alloc _)
      | exact leaf ((E3.alloc _).alloc _)
      | exact ⟨leaf ((E3.alloc _).alloc _), leaf ((E3.alloc _).alloc _)⟩

end Go.Proofs.Ytkmmphkjmamckab
