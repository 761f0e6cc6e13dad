/-
  What the keeping statements of screens answer: true.
-/
import Derived.Test.YtkmmphkjmamckaaGShowK
namespace Go.Proofs.Ytkmmphkjmamckaa
open Go
set_option linter.all false

/-- A law's function: it answers true, and leaves all as it was. -/
abbrev LawTrue (u : World) (e : Ending) (u' : World) : Prop := Told u true e u'

theorem pick_ok (k : Int) {n : Int} (hn : 0 < n) (hn2 : n ≤ 1000) {u : World} : Spec Try.prog fn_fenestrakeep_pick #[.int .i64 k, .int .i64 n] u fun e u' => ∃ x : Int, e = .returned (.int .i64 x) ∧ 0 ≤ x ∧ x < n ∧ Ext u u' := by
  apply vc_fenestrakeep_pick_spec
  unfold vc_fenestrakeep_pick
  simp only [decide_eq_true_eq, decide_eq_false_iff_not]
  have h1 : k.tmod n < n := Int.tmod_lt_of_pos k hn
  have h2 : -n < k.tmod n := by
    have := Int.tmod_lt_of_pos (-k) hn
    rw [Int.neg_tmod] at this
    omega
  refine ⟨by omega, fun h => ⟨_, rfl, ?_, ?_, Upd.refl u⟩, fun h => ⟨_, rfl, by omega, h1, Upd.refl u⟩⟩
  · rw [show IntKind.wrap .i64 (k.tmod n + n) = k.tmod n + n by simp [IntKind.wrap, IntKind.signed, IntKind.bits, IntKind.min, IntKind.max]; omega]
    omega
  · rw [show IntKind.wrap .i64 (k.tmod n + n) = k.tmod n + n by simp [IntKind.wrap, IntKind.signed, IntKind.bits, IntKind.min, IntKind.max]; omega]
    omega

theorem gridGood_ok {u : World} {g : Gr} {p : Option Addr} (h : Cells u p g.cells) (c : Nat) (hl : g.cells.length ≤ 10000000) (e : Ev) {ep : Option Addr} {en ec : Nat} (he : Nums u ep en e.ps) (hen : en ≤ 10000000) (hpl : e.pl.size ≤ 10000000) :
    Spec Try.prog fn_fenestrakeep_GridGood #[GrV g p g.cells.length c, EvV e ep en ec] u (Told u true) := by
  apply vc_fenestrakeep_GridGood_spec
  unfold vc_fenestrakeep_GridGood
  simp only [decide_eq_true_eq, decide_eq_false_iff_not, Bool.not_eq_true', Bool.not_eq_false']
  have hu : Ext u (allocW (allocW u hole) hole) := ((Upd.refl u).alloc _).alloc _
  refine (gdo_ok (h.ext hu) c (by omega) e (he.ext hu) (by omega) (by omega)).mono fun r u1 ⟨⟨p', c', hr, hc, _, hs⟩, hu1⟩ => ⟨_, _, _, _, _, _, _, _, _, _, _, _, hr, fun hne => ?_, fun heq => ?_⟩
  · have hx := do_err hne
    have hh : Ext u1 (allocW u1 hole) := (Upd.refl _).alloc _
    have x2 := (hu.ext hu1).ext hh
    refine (sameCells_ok_k (hc.ext hh) (h.ext x2) c' c (by rw [hx]; omega)).mono fun r u2 ⟨hr, hu2⟩ => ⟨_, hr, fun _ => ⟨fun _ => ⟨fun _ => ?_, fun hn => ?_⟩, fun hn => ?_⟩, fun hn => ?_⟩
    · exact shows_ok_k.mono fun r u3 ⟨hr, hu3⟩ => ⟨_, hr, rfl, (x2.ext hu2).ext hu3⟩
    · rw [hx] at hn; exact (hn rfl).elim
    · rw [hx] at hn; exact (hn rfl).elim
    · rw [hx] at hn; simp [sameC_k] at hn
  · have hg := do_zero heq
    have ho := do_ok' hg e
    have hh : Ext u1 (allocW u1 hole) := (Upd.refl _).alloc _
    have x2 := (hu.ext hu1).ext hh
    refine shows_ok_k.mono fun r u2 ⟨hr, hu2⟩ => ⟨_, hr, fun hn => by simp at hn, fun _ => ?_⟩
    have hlen : (doG g e).1.cells.length ≤ 240 := few_cells ho.1
    refine (ggood_ok (hc.ext (hh.ext hu2)) c' (by omega)).mono fun r u3 ⟨hr, hu3⟩ => ⟨_, hr, fun _ => ⟨fun _ => ?_, fun hn => (hn ho.2.wide).elim⟩, fun hn => ?_⟩
    · exact ⟨by rw [ho.2.high]; simp, (x2.ext hu2).ext hu3⟩
    · rw [goodG_iff.2 ho.1] at hn; cases hn

theorem gridErases_ok {u : World} {g : Gr} {p : Option Addr} (h : Cells u p g.cells) (c : Nat) (hl : g.cells.length ≤ 10000000) (how : Int) :
    Spec Try.prog fn_fenestrakeep_GridErases #[GrV g p g.cells.length c, .int .i64 how] u (Told u true) := by
  apply vc_fenestrakeep_GridErases_spec
  unfold vc_fenestrakeep_GridErases
  simp only [decide_eq_true_eq, decide_eq_false_iff_not, Bool.not_eq_true', Bool.not_eq_false', true_and]
  have hu : Ext u (allocW u hole) := (Upd.refl u).alloc _
  refine (pick_ok how (by decide) (by decide)).mono fun r u1 ⟨x, hr, hx0, hx3, hu1⟩ => ⟨_, hr, ?_⟩
  have x1 := hu.ext hu1
  have hx1 : Ext u1 (allocW u1 (.cells #[.int .i64 x] ty_int)) := (Upd.refl _).alloc _
  have hf : Own (allocW u1 (.cells #[.int .i64 x] ty_int)) 1 (some ⟨u1.heap.size, 0, none⟩) 1 1 (numV [x]) := Own.fresh u1 (cs := numV [x]) rfl
  have x2 := x1.ext hx1
  refine (gdo_ok (h.ext x2) c (by omega) ⟨3, 74, [x], noBytes⟩ (ec := 1) hf.nums (by decide) (Nat.zero_le _)).mono fun r u2 ⟨⟨p', c', hr, hc, _, hs⟩, hu2⟩ => ⟨_, _, _, _, _, _, _, _, _, _, _, _, hr, ?_⟩
  have hh : Ext u2 (allocW u2 hole) := (Upd.refl _).alloc _
  have x3 := (x2.ext hu2).ext hh
  have hc2 := hc.ext hh
  generalize hd : doG g ⟨3, 74, [x], noBytes⟩ = d at hc hc2 hs hr ⊢
  clear hc
  refine ⟨fun b v => Ext (allocW u2 hole) v ∧ (b = true ↔ d.2 ≠ 0), ⟨fun hne => ⟨Upd.refl _, by simp [hne]⟩, fun heq => shows_ok_k.mono fun r u3 ⟨hr, hu3⟩ => ⟨_, hr, hu3, by simp [heq]⟩⟩, fun b v ⟨hv, hb⟩ => ⟨fun ht => ?_, fun hf => ?_⟩⟩
  · exact shows_ok_k.mono fun r u3 ⟨hr, hu3⟩ => ⟨_, hr, rfl, (x3.ext hv).ext hu3⟩
  have hz : d.2 = 0 := by
    apply Classical.byContradiction
    intro hn
    rw [hb.2 hn] at hf
    cases hf
  have hg : GoodG g := do_zero (e := ⟨3, 74, [x], noBytes⟩) (by rw [hd]; exact hz)
  have he := erase_law hg hx0 hx3
  have hde : d.1 = commandG g 74 [x] := by rw [← hd, do_csi hg]
  rw [← hde] at he
  obtain ⟨e1, e2, e3, e4⟩ := he
  have r0 := row_facts hg hg.r1 (by have := hg.r2; omega)
  have hw := hg.w1
  have hw2 := hg.w2
  have hc1 := hg.c1
  have hcc2 := hg.c2
  have x4 := x3.ext hv
  refine ⟨by simp only [inK]; omega, by simp only [inK]; omega, by simp only [inK]; omega, fun i v => Ext u v ∧ Ext (allocW u2 hole) v ∧ 0 ≤ i, fun i _ => (d.1.cells.length - i).toNat, ⟨x4, hv, Int.le_refl _⟩, fun i v1 ⟨hv1, hv2, hi⟩ => ⟨fun hlt => ?_, fun hlt => ⟨fun _ => ⟨by rw [e3]; simp, hv1⟩, fun hn => (hn e2).elim⟩⟩⟩
  have hin : i.toNat < g.cells.length := by rw [← e1]; omega
  have h4 := e4 i.toNat hin
  refine ⟨fun gone w => w = v1 ∧ (gone = true ↔ (x = 2 ∨ (x = 0 ∧ g.row * g.wide + min g.col (g.wide - 1) ≤ i) ∨ (x = 1 ∧ i ≤ g.row * g.wide + min g.col (g.wide - 1)))), ⟨fun a => ⟨rfl, by simp [a]⟩, fun a => ⟨fun b => ⟨fun k => ⟨rfl, by simp; omega⟩, fun k => ⟨fun l => by omega, fun l => ⟨rfl, by simp; omega⟩⟩⟩, fun b => ⟨fun k => ⟨rfl, by simp; omega⟩, fun k => ⟨rfl, by simp; omega⟩⟩⟩⟩, fun gone w ⟨hw', hgone⟩ => ?_⟩
  subst hw'
  have hd1 : Ext w (drewW w) := (Upd.refl _).drew
  obtain ⟨b1, o1, hp1, hr1⟩ := (hc2.ext (hv2.ext hd1)).at (i := i.toNat) (by omega)
  obtain ⟨b2, o2, hp2, hr2⟩ := (h.ext (hv1.ext hd1)).at (i := i.toNat) hin
  have hgone' : gone = true ↔ (x = 2 ∨ (x = 0 ∧ g.row * g.wide + min g.col (g.wide - 1) ≤ (i.toNat : Nat)) ∨ (x = 1 ∧ ((i.toNat : Nat) : Int) ≤ g.row * g.wide + min g.col (g.wide - 1))) := by
    rw [hgone, show ((i.toNat : Nat) : Int) = i by omega]
  have next : ∀ {P : Prop}, P → inK .i64 (i + 1) ∧ (Ext u (drewW w) ∧ Ext (allocW u2 hole) (drewW w) ∧ 0 ≤ i + 1) ∧ ((d.1.cells.length : Int) - (i + 1)).toNat < ((d.1.cells.length : Int) - i).toNat := fun _ => ⟨by simp only [inK]; omega, ⟨hv1.ext hd1, hv2.ext hd1, by omega⟩, by omega⟩
  refine ⟨fun ht => ?_, fun hf => ?_⟩
  · rw [if_pos (hgone'.1 ht)] at h4
    refine ⟨b1, o1, hp1, hi, hlt, _, _, _, _, rfl, hr1, fun hbad => ?_, fun _ => ⟨fun hg' => ?_, fun _ => next trivial⟩⟩
    · rw [h4] at hbad; simp at hbad
    · rw [ht] at hg'; cases hg'
  · rw [if_neg (fun hn => by rw [hgone'.2 hn] at hf; cases hf)] at h4
    refine ⟨fun _ => ⟨b1, o1, hp1, hi, hlt, _, _, _, _, rfl, hr1, b2, o2, hp2, hi, by omega, _, _, _, _, rfl, hr2, fun hbad => ?_, fun _ => next trivial⟩, fun hg' => ?_⟩
    · rw [clEq_k, h4] at hbad; simp at hbad
    · rw [hf] at hg'; cases hg'

theorem gridPrints_ok {u : World} {g : Gr} {p : Option Addr} (h : Cells u p g.cells) (c : Nat) (hl : g.cells.length ≤ 10000000) (ch : Int) :
    Spec Try.prog fn_fenestrakeep_GridPrints #[GrV g p g.cells.length c, .int .i64 ch] u (Told u true) := by
  apply vc_fenestrakeep_GridPrints_spec
  unfold vc_fenestrakeep_GridPrints
  simp only [decide_eq_true_eq, decide_eq_false_iff_not, Bool.not_eq_true', Bool.not_eq_false', true_and]
  have hu : Ext u (allocW u hole) := (Upd.refl u).alloc _
  have hnil : Nums (allocW u hole) none 0 (⟨1, ch, [], noBytes⟩ : Ev).ps := ⟨rfl, rfl⟩
  refine (gdo_ok (h.ext hu) c (by omega) ⟨1, ch, [], noBytes⟩ (ec := 0) hnil (by decide) (Nat.zero_le _)).mono fun r u1 ⟨⟨p', c', hr, hc, _, hs⟩, hu1⟩ => ⟨_, _, _, _, _, _, _, _, _, _, _, _, hr, ?_⟩
  have x1 := hu.ext hu1
  have hh : Ext u1 (allocW u1 hole) := (Upd.refl _).alloc _
  have x2 := x1.ext hh
  have hsh : ∀ {v : World}, Ext u v → Spec Try.prog fn_fenestrakeep_shows #[] v fun e u11 => ∃ x30 : Bool, e = .returned (.bool x30) ∧ Told u true (.returned (.bool x30)) u11 := fun hv => shows_ok_k.mono fun r u3 ⟨hr, hu3⟩ => ⟨_, hr, rfl, hv.ext hu3⟩
  refine ⟨fun _ => hsh x2, fun hz => ⟨fun _ => hsh x2, fun hcol => ?_⟩⟩
  refine shows_ok_k.mono fun r u2 ⟨hr, hu2⟩ => ⟨_, hr, fun hn => by simp at hn, fun _ => ?_⟩
  obtain ⟨hg, ho, l1, l2, l3⟩ := print_law hz hcol
  have hsd := (do_ok' hg ⟨1, ch, [], noBytes⟩).2
  generalize doG g ⟨1, ch, [], noBytes⟩ = d at hc hs hr ho l1 l2 l3 hsd ⊢
  have x3 := x2.ext hu2
  have hw2 := hg.w2
  have hh2 := hg.h2
  have hcc := hg.c2
  have hc1 := hg.c1
  have hlen : d.1.cells.length ≤ 240 := few_cells ho
  refine ⟨fun i v => Ext u v ∧ Ext u1 v ∧ 0 ≤ i, fun i _ => (g.high - i).toNat, ⟨x3, hh.ext hu2, Int.le_refl _⟩, fun i v ⟨hv, hv1, hi⟩ => ⟨fun hlt => ?_, fun hlt => ⟨fun _ => ⟨by simp only [inK]; omega, by rw [l2]; simp, hv⟩, fun hn => (hn l1).elim⟩⟩⟩
  refine ⟨fun j w => Ext u w ∧ Ext u1 w ∧ 0 ≤ j, fun j _ => (g.wide - j).toNat, ⟨hv, hv1, Int.le_refl _⟩, fun j w ⟨hw, hw1, hj⟩ => ⟨fun hjt => ?_, fun hjt => ⟨by simp only [inK]; omega, ⟨hw, hw1, by omega⟩, by first | omega | (dsimp only; omega)⟩⟩⟩
  refine (gat_ok (h.ext hw) c i j (by omega)).mono fun r w1 ⟨hr, hw1'⟩ => ⟨_, _, _, _, hr, ?_⟩
  have hd1 : Ext w1 (drewW (allocW w1 hole)) := ((Upd.refl _).alloc _).drew
  have y := (hw.ext hw1').ext hd1
  have y1 := (hw1.ext hw1').ext hd1
  have l3' := l3 i.toNat j.toNat (by omega) (by omega)
  rw [show ((i.toNat : Nat) : Int) = i by omega, show ((j.toNat : Nat) : Int) = j by omega] at l3'
  have step : ∀ k : Cl, atG d.1 i j = k → Spec Try.prog fn_grid_At #[GrV d.1 p' d.1.cells.length c', .int .i64 i, .int .i64 j] (drewW (allocW w1 hole)) (fun e u18 => ∃ (x64_Ch : Int) (x64_Ink : Int) (x64_Pic : Int) (x64_Bold : Bool), e = .returned (.agg #[.int .i64 x64_Ch, .int .i64 x64_Ink, .int .i64 x64_Pic, .bool x64_Bold]) ∧
      ((((decide (x64_Ch = k.ch) && (decide (x64_Ink = k.ink) && (decide (x64_Pic = k.pic) && (x64_Bold == k.bold))))) = false → Told u true (.returned (.bool false)) u18) ∧
       (((decide (x64_Ch = k.ch) && (decide (x64_Ink = k.ink) && (decide (x64_Pic = k.pic) && (x64_Bold == k.bold))))) = true → inK .i64 (j + 1) ∧ (Ext u u18 ∧ Ext u1 u18 ∧ 0 ≤ j + 1) ∧ (g.wide - (j + 1)).toNat < (g.wide - j).toNat))) := fun k hk => by
    refine (gat_ok (hc.ext y1) c' i j (by omega)).mono fun r w2 ⟨hr, hw2'⟩ => ⟨_, _, _, _, hr, ?_⟩
    rw [hk, clEq_k]
    exact ⟨fun hn => by simp at hn, fun _ => ⟨by simp only [inK]; omega, ⟨y.ext hw2', y1.ext hw2', by omega⟩, by omega⟩⟩
  refine ⟨fun hi' => ⟨fun hj' => ?_, fun hj' => ?_⟩, fun hi' => ?_⟩
  · exact step ⟨ch, g.ink, 0, g.bold⟩ (by rw [l3', if_pos ⟨hi', hj'⟩])
  · exact step (atG g i j) (by rw [l3', if_neg (fun hh => hj' hh.2)])
  · exact step (atG g i j) (by rw [l3', if_neg (fun hh => hi' hh.1)])

end Go.Proofs.Ytkmmphkjmamckaa
