/-
  The document's own screens: what its functions answer.
-/
import Derived.Test.YtkmmphkjmamckabGWalk5
import Derived.Test.YtkmmphkjmamckabVRefG
namespace Go.Proofs.Ytkmmphkjmamckab
open Go
set_option linter.all false

theorem clEqR (a b : Cl) : (decide (a.ch = b.ch) && (decide (a.ink = b.ink) && (decide (a.pic = b.pic) && (a.bold == b.bold)))) = decide (a = b) := by
  rw [Bool.eq_iff_iff, decide_eq_true_eq, Cl.ext_iff']
  simp only [Bool.and_eq_true, decide_eq_true_eq, beq_iff_eq]

theorem isCell_ok (k : Cl) {u : World} : Spec Try.prog fn_fenestraref_IsCell #[ClV k] u (Told u (goodC k)) := by
  apply vc_fenestraref_IsCell_spec
  unfold vc_fenestraref_IsCell
  have hu : Ext u (allocW u hole) := (Upd.refl u).alloc _
  have leaf : ∀ x : Bool, (x = true ↔ goodC k = true) → Told u (goodC k) (.returned (.bool x)) (allocW u hole) := fun x h => ⟨by rw [Bool.eq_iff_iff.2 h], hu⟩
  simp only [goodC_iff] at leaf
  obtain ⟨ch, ink, pic, bold⟩ := k
  simp only [Bool.and_eq_true, Bool.and_eq_false_iff, decide_eq_true_eq, decide_eq_false_iff_not, beq_iff_eq, beq_eq_false_iff_ne, Bool.not_eq_true', Bool.not_eq_false', ne_eq] at leaf ⊢
  cases bold
  · simp only [and_true, not_true, or_false, Bool.false_eq_true] at leaf ⊢
    repeat' (refine And.intro (fun _ => ?_) (fun _ => ?_))
    all_goals (refine leaf _ ?_; simp only [Bool.false_eq_true, decide_eq_true_eq, false_iff, true_iff, iff_true, iff_false]; omega)
  · simp only [and_false, false_implies, true_and, not_false_iff, or_true, true_implies, Bool.true_eq_false, false_or, or_false] at leaf ⊢
    repeat' (refine And.intro (fun _ => ?_) (fun _ => ?_))
    all_goals (refine leaf _ ?_; simp only [Bool.false_eq_true, decide_eq_true_eq, false_iff, true_iff, iff_true, iff_false]; omega)

theorem within_ok (n a b : Int) {u : World} : Spec Try.prog fn_fenestraref_GoodGrid_c1 #[.int .i64 n, .int .i64 a, .int .i64 b] u (Told u (decide (a ≤ n ∧ n ≤ b))) := by
  apply vc_fenestraref_GoodGrid_c1_spec
  unfold vc_fenestraref_GoodGrid_c1
  simp only [decide_eq_true_eq, decide_eq_false_iff_not]
  refine ⟨fun h => ⟨?_, Upd.refl u⟩, fun h => ⟨?_, Upd.refl u⟩⟩
  · congr 2
    exact decide_eq_decide.2 (by omega)
  · congr 2
    symm
    exact decide_eq_false (by omega)

theorem goodGrid_ok {u : World} {g : Gr} {p : Option Addr} (h : Cells u p g.cells) (c : Nat) (hl : g.cells.length ≤ 100000000) :
    Spec Try.prog fn_fenestraref_GoodGrid #[GrV g p g.cells.length c] u (Told u (goodG g)) := by
  apply vc_fenestraref_GoodGrid_spec
  unfold vc_fenestraref_GoodGrid
  simp only [decide_eq_true_eq, decide_eq_false_iff_not, Bool.not_eq_true', Bool.not_eq_false', true_and]
  have hu : Ext u (allocW u hole) := (Upd.refl u).alloc _
  have no : ∀ {v : World}, Ext u v → ¬ GoodG g → Told u (goodG g) (.returned (.bool false)) v := fun hv hn => ⟨by
    congr 2
    symm
    rw [← Bool.not_eq_true, goodG_iff]
    exact hn, hv⟩
  refine ⟨fun x u1 => Ext u u1 ∧ 0 ≤ x ∧ x ≤ g.cells.length ∧ ∀ i : Nat, i < x.toNat → goodC (cg g.cells i) = true, fun x _ => (g.cells.length - x).toNat, ⟨hu, by omega, by omega, by omega⟩, fun x u1 ⟨hu1, h0, h1, hi⟩ => ⟨fun hx => ?_, fun hx => ?_⟩⟩
  · obtain ⟨b, o, hp, hr⟩ := (h.ext hu1).at (i := x.toNat) (by omega)
    refine ⟨b, o, hp, h0, hx, _, _, _, _, rfl, hr, ?_⟩
    have ha : Ext u1 (allocW u1 hole) := (Upd.refl u1).alloc _
    refine (isCell_ok (cg g.cells x.toNat)).mono fun e u2 ⟨he, hu2⟩ => ⟨_, he, fun hb => no (hu1.ext (ha.ext hu2)) fun hg => ?_, fun hb => ⟨by simp only [inK]; omega, ⟨hu1.ext (ha.ext hu2), by omega, by omega, fun i hi' => ?_⟩, by first | omega | (dsimp only; omega)⟩⟩
    · rw [hg.all _ (cg_mem (by omega))] at hb; cases hb
    · rcases (by omega : i < x.toNat ∨ i = x.toNat) with h | rfl
      · exact hi i h
      · exact hb
  · have hall : AllG g.cells := fun k hk => by
      obtain ⟨i, hi', rfl⟩ := mem_cg hk
      exact hi i (by omega)
    refine (within_ok g.wide 1 24).mono fun e u2 ⟨he, hu2⟩ => ⟨_, he, fun hw => ?_, fun hw => no (hu1.ext hu2) fun hg => by have := hg.w1; have := hg.w2; simp at hw; omega⟩
    simp only [decide_eq_true_eq] at hw
    refine (within_ok g.high 1 10).mono fun e u3 ⟨he, hu3⟩ => ⟨_, he, fun hh => ?_, fun hh => no ((hu1.ext hu2).ext hu3) fun hg => by have := hg.h1; have := hg.h2; simp at hh; omega⟩
    simp only [decide_eq_true_eq] at hh
    have a : 0 ≤ g.wide * g.high := Int.mul_nonneg (by omega) (by omega)
    have b : g.wide * g.high ≤ 24 * g.high := Int.mul_le_mul_of_nonneg_right (by omega) (by omega)
    have x3 := (hu1.ext hu2).ext hu3
    refine ⟨by simp only [inK]; omega, fun hlen => ⟨by simp only [inK]; omega, ?_⟩, fun hlen => no x3 fun hg => hlen hg.len⟩
    refine (within_ok g.row 0 (g.high - 1)).mono fun e u4 ⟨he, hu4⟩ => ⟨_, he, fun hr => ?_, fun hr => no (x3.ext hu4) fun hg => by have := hg.r1; have := hg.r2; simp at hr; omega⟩
    simp only [decide_eq_true_eq] at hr
    refine (within_ok g.col 0 g.wide).mono fun e u5 ⟨he, hu5⟩ => ⟨_, he, fun hc => ?_, fun hc => no ((x3.ext hu4).ext hu5) fun hg => by have := hg.c1; have := hg.c2; simp at hc; omega⟩
    simp only [decide_eq_true_eq] at hc
    have x5 := (x3.ext hu4).ext hu5
    refine (within_ok g.ink 0 8).mono fun e u6 ⟨he, hu6⟩ => ⟨_, he, fun hi => ?_, fun hi => no (x5.ext hu6) fun hg => by have := hg.i1; have := hg.i2; simp at hi; omega⟩
    simp only [decide_eq_true_eq] at hi
    refine (within_ok g.bottom 1 g.high).mono fun e u7 ⟨he, hu7⟩ => ⟨_, he, fun hb => ?_, fun hb => no ((x5.ext hu6).ext hu7) fun hg => by have := hg.t1; have := hg.t2; have := hg.b2; simp at hb; omega⟩
    simp only [decide_eq_true_eq] at hb
    have x7 := (x5.ext hu6).ext hu7
    refine ⟨by simp only [inK]; omega, (within_ok g.top 0 (g.bottom - 1)).mono fun e u8 ⟨he, hu8⟩ => ⟨_, he, ?_, x7.ext hu8⟩⟩
    congr 2
    rw [Bool.eq_iff_iff, decide_eq_true_eq, goodG_iff]
    exact ⟨fun ht => ⟨hw.1, hw.2, hh.1, hh.2, hlen, hr.1, by omega, hc.1, hc.2, hi.1, hi.2, ht.1, by omega, hb.2, hall⟩, fun hg => ⟨hg.t1, by have := hg.t2; omega⟩⟩

/-- A screen of one's own has come. -/
structure OwnPost (u : World) (g : Gr) (e : Ending) (u' : World) : Prop where
  ex : ∃ p c, e = .returned (GrV g p g.cells.length c) ∧ Own u' 4 p g.cells.length c (cellsV g.cells) ∧ ∀ k, At p k → u.heap.size ≤ k
  ext : Ext u u'

theorem Own.cells {u : World} {p : Option Addr} {n c : Nat} {l : List Cl} (h : Own u 4 p n c (cellsV l)) : Cells u p l := ⟨h.gets⟩

theorem copyGrid_ok {u : World} {g : Gr} {p : Option Addr} (h : Cells u p g.cells) (c : Nat) (hl : g.cells.length ≤ 100000000) :
    Spec Try.prog fn_fenestraref_CopyGrid #[GrV g p g.cells.length c] u (OwnPost u g) := by
  apply vc_fenestraref_CopyGrid_spec
  unfold vc_fenestraref_CopyGrid
  have hu : Ext u (allocW (allocW u hole) hole) := ((Upd.refl u).alloc _).alloc _
  have h' := h.ext hu
  refine ⟨[], cellsV g.cells, rfl, rfl, cellsV_len _, h'.gets, by decide, by omega, (cellsV_ok _ _).2 trivial, fun _ => trivial, fun p cap u1 hr => ?_⟩
  obtain ⟨h1, h2, h3⟩ := AppR.none hr rfl (cellsV_len _) rfl
  rw [Nat.zero_add] at h1 ⊢
  refine ⟨⟨p, cap, rfl, h1, fun k hk => ?_⟩, hu.ext h2⟩
  rcases h3 with ⟨_, h3⟩ | h3
  · rw [h3] at hk; exact (at_none hk).elim
  · rw [h3] at hk; rw [at_some hk]; exact hu.size

theorem newGrid_ok (w h : Int) {u : World} : Spec Try.prog fn_fenestraref_NewGrid #[.int .i64 w, .int .i64 h] u (OwnPost u (newG w h)) := by
  apply vc_fenestraref_NewGrid_spec
  unfold vc_fenestraref_NewGrid
  simp only [decide_eq_true_eq, decide_eq_false_iff_not, true_and]
  rw [show min (max w 1) 24 = max 1 (min w 24) by omega, show min (max h 1) 10 = max 1 (min h 10) by omega]
  have a : 0 ≤ max (1 : Int) (min w 24) * max (1 : Int) (min h 10) := Int.mul_nonneg (by omega) (by omega)
  have b : max (1 : Int) (min w 24) * max (1 : Int) (min h 10) ≤ 24 * max (1 : Int) (min h 10) := Int.mul_le_mul_of_nonneg_right (by omega) (by omega)
  have hlen : (newG w h).cells.length = (max (1 : Int) (min w 24) * max (1 : Int) (min h 10)).toNat := by simp [newG]
  have hnew : newG w h = ⟨max 1 (min w 24), max 1 (min h 10), List.replicate (max (1 : Int) (min w 24) * max (1 : Int) (min h 10)).toNat .z, 0, 0, 0, false, 0, max 1 (min h 10)⟩ := rfl
  generalize max (1 : Int) (min w 24) * max (1 : Int) (min h 10) = N at a b hlen hnew ⊢
  have hu : Ext u (allocW (allocW u hole) hole) := ((Upd.refl u).alloc _).alloc _
  refine ⟨by simp only [inK]; omega, fun x w' h' p n c row col ink bold top bottom u1 => Ext u u1 ∧ 0 ≤ x ∧ x ≤ N ∧ n = x.toNat ∧ Own u1 4 p n c (cellsV (List.replicate n .z)) ∧ (∀ k, At p k → u.heap.size ≤ k) ∧ w' = max 1 (min w 24) ∧ h' = max 1 (min h 10) ∧ row = 0 ∧ col = 0 ∧ ink = 0 ∧ bold = false ∧ top = 0, fun x _ _ _ _ _ _ _ _ _ _ _ _ => (N - x).toNat,
    ⟨hu, Int.le_refl _, a, rfl, Own.nil _ _, fun k hk => (at_none hk).elim, rfl, rfl, rfl, rfl, rfl, rfl, rfl⟩, ?_⟩
  rintro x w' h' p n c row col ink bold top bottom u1 ⟨hu1, h0, h1, rfl, ho, hk, rfl, rfl, rfl, rfl, rfl, rfl, rfl⟩
  refine ⟨fun hx => ?_, fun hx => ?_⟩
  · have hv : Ext u1 (allocW u1 (.cells #[.int .i64 0, .int .i64 0, .int .i64 0, .bool false] ty_api_Cell)) := (Upd.refl u1).alloc _
    have ef : Own (allocW u1 (.cells #[.int .i64 0, .int .i64 0, .int .i64 0, .bool false] ty_api_Cell)) 4 _ 1 1 (clV .z) := Own.fresh u1 (cs := clV .z) rfl
    have ho' := ho.ext hv
    refine ⟨cellsV (List.replicate x.toNat .z), clV .z, ho'.len, ho'.gets, rfl, ef.gets, by decide, by omega, by simp [okCells, clV], fun hc => ho'.wrs (by omega), fun p' cap u2 hr => ?_⟩
    obtain ⟨q1, q2, q3⟩ := ho'.app hr ho'.len ho'.gets rfl rfl
    have hx1 : (x + 1).toNat = x.toNat + 1 := by omega
    refine ⟨by simp only [inK]; omega, ⟨(hu1.ext hv).trans q2 (fun k hk' hat => by have := hk k hat; omega) |>.mono fun _ _ h => h, by omega, by omega, hx1.symm, ?_, fun k hk' => ?_, rfl, rfl, rfl, rfl, rfl, rfl, rfl⟩, by first | omega | (dsimp only; omega)⟩
    · have : cellsV (List.replicate (x.toNat + 1) .z) = cellsV (List.replicate x.toNat .z) ++ clV .z := by
        rw [List.replicate_succ', cellsV_append]
        simp [cellsV]
      rw [this]
      exact q1
    · rcases q3 with ⟨rfl, _⟩ | ⟨rfl, _⟩
      · exact hk k hk'
      · rw [at_some hk']
        have := hu1.size
        have := hv.size
        show u.heap.size ≤ (allocW u1 _).heap.size
        omega
  · have hxN : x = N := by omega
    subst hxN
    rw [hnew]
    exact ⟨⟨p, c, by simp only [List.length_replicate], by simp only [List.length_replicate]; exact ho, hk⟩, hu1⟩

def sameGb (a b : Gr) : Bool := decide (a.wide = b.wide ∧ a.high = b.high ∧ a.cells = b.cells ∧ a.row = b.row ∧ a.col = b.col ∧ a.ink = b.ink ∧ a.bold = b.bold ∧ a.top = b.top ∧ a.bottom = b.bottom)

theorem sameGb_iff {a b : Gr} : sameGb a b = true ↔ a = b := by
  unfold sameGb
  rw [decide_eq_true_eq]
  cases a; cases b
  simp only [Gr.mk.injEq]

theorem given_ok {u : World} {p : Option Addr} {n c : Nat} {l : List Int} (h : Nums u p n l) {k : Int} (hk : 0 ≤ k) :
    Spec Try.prog fn_fenestraref_given #[.slice p n c, .int .i64 k] u fun e u' => e = .returned (.int .i64 (numP l k.toNat 0)) ∧ Ext u u' := by
  apply vc_fenestraref_given_spec
  unfold vc_fenestraref_given
  simp only [decide_eq_true_eq, decide_eq_false_iff_not]
  have hl := h.2
  refine ⟨fun hge => ⟨?_, Upd.refl u⟩, fun hlt => ?_⟩
  · unfold numP
    rw [show l.getD k.toNat 0 = 0 by rw [List.getD_eq_getElem?_getD, List.getElem?_eq_none (by omega)]; rfl]
    rfl
  · obtain ⟨b, o, hp, hr⟩ := h.at (i := k.toNat) (by omega)
    refine ⟨b, o, hp, hk, by omega, _, rfl, hr, fun hneg => ⟨?_, Upd.refl u⟩, fun hpos => ⟨b, o, hp, hk, by omega, _, rfl, hr, ?_, Upd.refl u⟩⟩
    · unfold numP
      rw [show max 0 (min (l.getD k.toNat 0) 999) = 0 by omega]
    · unfold numP
      rw [show max 0 (min (l.getD k.toNat 0) 999) = min (l.getD k.toNat 0) 999 by omega]

end Go.Proofs.Ytkmmphkjmamckab
