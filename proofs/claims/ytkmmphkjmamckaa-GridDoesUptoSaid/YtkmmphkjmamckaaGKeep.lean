/-
  A screen, plainly: what the statements say of single events.
-/
import Derived.Test.YtkmmphkjmamckaaGLaw
namespace Go.Proofs.Ytkmmphkjmamckaa
open Go
set_option linter.all false

theorem cells_len' {g : Gr} (h : GoodG g) : g.cells.length = g.high.toNat * g.wide.toNat := by
  have hl := h.len
  have := h.w1
  have := h.h1
  obtain ⟨w, hw⟩ : ∃ w : Nat, g.wide = w := ⟨g.wide.toNat, by omega⟩
  obtain ⟨k, hk⟩ : ∃ k : Nat, g.high = k := ⟨g.high.toNat, by omega⟩
  rw [hw, hk] at hl ⊢
  simp only [Int.toNat_natCast]
  rw [Nat.mul_comm]
  exact_mod_cast hl

theorem nat_place {w : Int} (hw : 0 ≤ w) (r c : Nat) : ((r : Int) * w + c).toNat = r * w.toNat + c := by
  obtain ⟨k, hk⟩ : ∃ k : Nat, w = k := ⟨w.toNat, by omega⟩
  rw [hk]
  simp only [Int.toNat_natCast]
  have e : (r : Int) * k + c = ((r * k + c : Nat) : Int) := by simp
  rw [e, Int.toNat_natCast]

theorem at_eq {g : Gr} (h : GoodG g) {r c : Nat} (hr : (r : Int) < g.high) (hc : (c : Int) < g.wide) : atG g r c = cg g.cells (r * g.wide.toNat + c) := by
  have := h.w1
  unfold atG
  rw [if_pos ⟨h.w2, h.h2, by omega, hr, by omega, hc⟩, nat_place (by omega)]

theorem place_in {g : Gr} (h : GoodG g) {r c : Nat} (hr : (r : Int) < g.high) (hc : (c : Int) < g.wide) : r * g.wide.toNat + c < g.cells.length := by
  rw [cells_len' h]
  exact row_lt (by omega) (by omega)

theorem place_inj {w r c r' c' : Nat} (hc : c < w) (hc' : c' < w) : r * w + c = r' * w + c' ↔ r = r' ∧ c = c' := by
  constructor
  · intro h
    have h1 := congrArg (· / w) h
    have h2 := congrArg (· % w) h
    simp only [row_div hc, row_div hc', row_mod hc, row_mod hc'] at h1 h2
    exact ⟨h1, h2⟩
  · rintro ⟨rfl, rfl⟩; rfl

theorem print_law {g : Gr} {ch : Int} (h : (doG g ⟨1, ch, [], noBytes⟩).2 = 0) (hcol : g.col ≠ g.wide) :
    GoodG g ∧ GoodG (doG g ⟨1, ch, [], noBytes⟩).1 ∧ (doG g ⟨1, ch, [], noBytes⟩).1.row = g.row ∧ (doG g ⟨1, ch, [], noBytes⟩).1.col = g.col + 1 ∧
    ∀ r c : Nat, (r : Int) < g.high → (c : Int) < g.wide → atG (doG g ⟨1, ch, [], noBytes⟩).1 r c = if (r : Int) = g.row ∧ (c : Int) = g.col then ⟨ch, g.ink, 0, g.bold⟩ else atG g r c := by
  have hg := do_zero h
  have ho := do_ok' hg ⟨1, ch, [], noBytes⟩
  have hr1 := hg.r1
  have hr2 := hg.r2
  have hc1 := hg.c1
  have hc2 := hg.c2
  refine ⟨hg, ho.1, ?_⟩
  have he : (doG g ⟨1, ch, [], noBytes⟩).1 = { g with cells := g.cells.set (g.row * g.wide + g.col).toNat ⟨ch, g.ink, 0, g.bold⟩, col := g.col + 1 } := by
    unfold doG at h ⊢
    rw [if_neg (by rw [goodG_iff.2 hg]; simp)] at h ⊢
    dsimp only at h ⊢
    rw [if_pos rfl] at h ⊢
    by_cases hb : ch < 32 ∨ 126 < ch
    · rw [if_pos hb] at h; cases h
    · rw [if_neg hb]
      unfold showG
      rw [if_neg hcol]
  rw [he] at ho ⊢
  refine ⟨rfl, rfl, fun r c hr hc => ?_⟩
  rw [at_eq ho.1 hr hc, at_eq hg hr hc]
  obtain ⟨r', hr'⟩ : ∃ r' : Nat, g.row = r' := ⟨g.row.toNat, by omega⟩
  obtain ⟨c', hc'⟩ : ∃ c' : Nat, g.col = c' := ⟨g.col.toNat, by omega⟩
  show cg (g.cells.set _ _) (r * g.wide.toNat + c) = _
  rw [hr', hc', nat_place (by omega), cg_set (place_in hg (by omega) (by omega))]
  simp only [place_inj (w := g.wide.toNat) (r := r) (c := c) (r' := r') (c' := c') (by omega) (by omega), Int.natCast_inj]

theorem feed_law {g : Gr} (hg : GoodG g) : (g.row ≠ g.bottom - 1 → (feedG g).cells = g.cells ∧ (feedG g).row = min (g.row + 1) (g.high - 1) ∧ (feedG g).col = g.col) ∧
    (g.row = g.bottom - 1 → (feedG g).row = g.row ∧ (feedG g).col = g.col ∧ ∀ r c : Nat, (r : Int) < g.high → (c : Int) < g.wide → atG (feedG g) r c =
      if (r : Int) = g.bottom - 1 then .z else if g.top ≤ r ∧ (r : Int) < g.bottom then atG g (r + 1 : Nat) c else atG g r c) := by
  have hr1 := hg.r1
  have hr2 := hg.r2
  have ht1 := hg.t1
  have ht2 := hg.t2
  have hb2 := hg.b2
  have hw1 := hg.w1
  constructor
  · intro h
    unfold feedG
    rw [if_neg h]
    split
    · exact ⟨rfl, by show g.row + 1 = _; omega, rfl⟩
    · exact ⟨rfl, by omega, rfl⟩
  · intro h
    have hf := (feed_ok' hg).1
    unfold feedG at hf ⊢
    rw [if_pos h] at hf ⊢
    refine ⟨rfl, rfl, fun r c hr hc => ?_⟩
    rw [at_eq hf hr hc]
    show cg (rollC _ _ _ _ g.cells) (r * g.wide.toNat + c) = _
    have hcw : c < g.wide.toNat := by omega
    rw [roll_cg (place_in hg hr hc), row_div hcw]
    by_cases h1 : (r : Int) = g.bottom - 1
    · rw [if_pos h1, if_neg (by omega), if_neg (by omega)]
    · rw [if_neg h1]
      by_cases h2 : g.top ≤ r ∧ (r : Int) < g.bottom
      · rw [if_pos h2, if_neg (by omega), if_pos (by omega)]
        have := row_src (w := g.wide.toNat) (q := r) (s := c) (m := 1) (by omega)
        rw [this, at_eq hg (by omega) hc]
        congr 2
      · rw [if_neg h2, if_pos (by omega), at_eq hg hr hc]

theorem do_ctl {g : Gr} (hg : GoodG g) (b : Int) (ps : List Int) (pl : ByteArray) : doG g ⟨2, b, ps, pl⟩ = (controlG g b, 0) := by
  unfold doG
  rw [if_neg (by rw [goodG_iff.2 hg]; simp)]
  dsimp only
  rw [if_neg (by omega), if_pos rfl]

theorem do_csi {g : Gr} (hg : GoodG g) (b : Int) (ps : List Int) (pl : ByteArray) : doG g ⟨3, b, ps, pl⟩ = (commandG g b ps, 0) := by
  unfold doG
  rw [if_neg (by rw [goodG_iff.2 hg]; simp)]
  dsimp only
  rw [if_neg (by omega), if_neg (by omega), if_pos rfl]

theorem do_pic {g : Gr} (hg : GoodG g) (b : Int) (ps : List Int) (pl : ByteArray) : doG g ⟨4, b, ps, pl⟩ = (pictureG g pl.data.toList, 0) := by
  unfold doG
  rw [if_neg (by rw [goodG_iff.2 hg]; simp)]
  dsimp only
  rw [if_neg (by omega), if_neg (by omega), if_neg (by omega), if_pos rfl]

theorem erase_law {g : Gr} (hg : GoodG g) {how : Int} (h0 : 0 ≤ how) (h3 : how < 3) :
    (commandG g 74 [how]).cells.length = g.cells.length ∧ (commandG g 74 [how]).row = g.row ∧ (commandG g 74 [how]).col = g.col ∧
    ∀ i : Nat, i < g.cells.length → cg (commandG g 74 [how]).cells i = if how = 2 ∨ (how = 0 ∧ g.row * g.wide + min g.col (g.wide - 1) ≤ i) ∨ (how = 1 ∧ (i : Int) ≤ g.row * g.wide + min g.col (g.wide - 1)) then .z else cg g.cells i := by
  have hn : numP [how] 0 0 = how := by show max 0 (min how 999) = how; omega
  have hpl : 0 ≤ g.row * g.wide := Int.mul_nonneg hg.r1 (by have := hg.w1; omega)
  have hm : 0 ≤ min g.col (g.wide - 1) := by have := hg.c1; have := hg.w1; omega
  unfold commandG
  dsimp only
  rw [if_neg (by omega), if_neg (by omega), if_neg (by omega), if_neg (by omega), if_neg (by omega), if_pos rfl, hn]
  unfold eraseG
  rcases (by omega : how = 0 ∨ how = 1 ∨ how = 2) with rfl | rfl | rfl
  · rw [if_pos rfl]
    refine ⟨eraseC_len _ _ _, rfl, rfl, fun i hi => ?_⟩
    show cg (eraseC _ _ g.cells) i = _
    rw [erase_cg hi]
    congr 1
    apply propext
    omega
  · rw [if_neg (by omega), if_pos rfl]
    refine ⟨eraseC_len _ _ _, rfl, rfl, fun i hi => ?_⟩
    show cg (eraseC _ _ g.cells) i = _
    rw [erase_cg hi]
    congr 1
    apply propext
    omega
  · rw [if_neg (by omega), if_neg (by omega), if_pos rfl]
    refine ⟨eraseC_len _ _ _, rfl, rfl, fun i hi => ?_⟩
    show cg (eraseC _ _ g.cells) i = _
    rw [erase_cg hi]
    congr 1
    apply propext
    omega

theorem region_law {g : Gr} (hg : GoodG g) {e : Ev} (hk : ¬ (e.kind = 1 ∨ e.kind = 4 ∨ e.kind = 5 ∨ (e.kind = 3 ∧ (e.b = 74 ∨ e.b = 75)))) (h : (doG g e).2 = 0) :
    ∀ r c : Nat, (r : Int) < g.high → (c : Int) < g.wide → ((r : Int) < g.top ∨ g.bottom ≤ r) → atG (doG g e).1 r c = atG g r c := by
  intro r c hr hc hout
  have ho := do_ok' hg e
  have hcw : c < g.wide.toNat := by omega
  have hr1 := hg.r1
  have ht1 := hg.t1
  have same : (doG g e).1.cells = g.cells → atG (doG g e).1 r c = atG g r c := fun hs => by
    rw [at_eq ho.1 (by rw [ho.2.high]; exact hr) (by rw [ho.2.wide]; exact hc), at_eq hg hr hc, hs, ho.2.wide]
  have roll : ∀ a b n, (doG g e).1.cells = (rollG g a b n).cells → g.top ≤ a → b = g.bottom → atG (doG g e).1 r c = atG g r c := fun a b n hs ha hb => by
    rw [at_eq ho.1 (by rw [ho.2.high]; exact hr) (by rw [ho.2.wide]; exact hc), at_eq hg hr hc, hs, ho.2.wide]
    show cg (rollC _ _ _ _ g.cells) _ = _
    rw [roll_cg (place_in hg hr hc), row_div hcw, if_pos (by omega)]
  have hfeed : (doG g e).1 = feedG g → atG (doG g e).1 r c = atG g r c := fun hs => by
    by_cases h1 : g.row = g.bottom - 1
    · refine roll g.top g.bottom 1 ?_ (Int.le_refl _) rfl
      rw [hs]; unfold feedG; rw [if_pos h1]
    · refine same ?_
      rw [hs]; exact ((feed_law hg).1 h1).1
  obtain ⟨k, b, ps, pl⟩ := e
  simp only at hk
  by_cases h2 : k = 2
  · subst h2
    rw [do_ctl hg] at ho same roll hfeed ⊢
    by_cases h10 : b = 10
    · subst h10; exact hfeed rfl
    · refine same ?_
      show (controlG g b).cells = _
      unfold controlG
      repeat' split
      all_goals first | rfl | omega
  by_cases h3 : k = 3
  · subst h3
    rw [do_csi hg] at ho same roll hfeed ⊢
    by_cases h7 : b = 76 ∨ b = 77
    · by_cases hin : g.row < g.top ∨ g.bottom ≤ g.row
      · refine same ?_
        show (commandG g b ps).cells = _
        unfold commandG
        dsimp only
        rw [if_neg (by omega), if_neg (by omega), if_neg (by omega), if_neg (by omega), if_neg (by omega), if_neg (by omega), if_neg (by omega), if_pos h7, if_pos hin]
      · refine roll g.row g.bottom (if b = 76 then - min (numP ps 0 1) 10 else min (numP ps 0 1) 10) ?_ (by omega) rfl
        show (commandG g b ps).cells = _
        unfold commandG
        dsimp only
        rw [if_neg (by omega), if_neg (by omega), if_neg (by omega), if_neg (by omega), if_neg (by omega), if_neg (by omega), if_neg (by omega), if_pos h7, if_neg hin]
    · refine same ?_
      have hinks : ∀ (l : List Int) (x : Gr), (l.foldl inkG x).cells = x.cells := fun l => by
        induction l with
        | nil => intro x; rfl
        | cons a l ih =>
          intro x
          rw [List.foldl_cons, ih]
          unfold inkG
          repeat' split
          all_goals rfl
      have hreg : ∀ a b, (regionG g a b).cells = g.cells := fun a b => by
        unfold regionG
        dsimp only
        generalize (if b = 0 ∨ g.high < b then g.high else b) = q
        split <;> rfl
      show (commandG g b ps).cells = _
      unfold commandG
      dsimp only
      by_cases e1 : b = 65
      · rw [if_pos e1]
      rw [if_neg e1]
      by_cases e1 : b = 66
      · rw [if_pos e1]
      rw [if_neg e1]
      by_cases e1 : b = 67
      · rw [if_pos e1]
      rw [if_neg e1]
      by_cases e1 : b = 68
      · rw [if_pos e1]
      rw [if_neg e1]
      by_cases e1 : b = 72
      · rw [if_pos e1]
      rw [if_neg e1, if_neg (by omega), if_neg (by omega), if_neg h7]
      by_cases e1 : b = 109
      · rw [if_pos e1]; exact hinks _ _
      rw [if_neg e1]
      by_cases e1 : b = 114
      · rw [if_pos e1]; exact hreg _ _
      rw [if_neg e1]
  · exfalso
    unfold doG at h
    rw [if_neg (by rw [goodG_iff.2 hg]; simp)] at h
    dsimp only at h
    rw [if_neg (by omega), if_neg h2, if_neg h3, if_neg (by omega), if_neg (by omega)] at h
    cases h

theorem pic_law {w h left : Int} (hw : 0 < w) (row : Nat) (hl : 0 ≤ left) (l0 : List Cl) : ∀ (s : List UInt8) (r c : Int) (l : List Cl), (row : Int) ≤ r → left ≤ c → (∀ i, cg l i = cg l0 i ∨ ((cg l i).pic ≠ 0 ∧ row ≤ i / w.toNat ∧ left ≤ (i % w.toNat : Nat))) →
    ∀ i, cg (picC w h left s r c l) i = cg l0 i ∨ ((cg (picC w h left s r c l) i).pic ≠ 0 ∧ row ≤ i / w.toNat ∧ left ≤ (i % w.toNat : Nat))
  | [], _, _, _, _, _, hi => hi
  | b :: s, r, c, l, hr, hc, hi => by
    unfold picC
    split
    · exact pic_law hw row hl l0 s _ _ _ (by omega) (Int.le_refl _) hi
    · split
      · next hb =>
        refine pic_law hw row hl l0 s _ _ _ hr (by omega) fun i => ?_
        obtain ⟨r', hr'⟩ : ∃ r' : Nat, r = r' := ⟨r.toNat, by omega⟩
        obtain ⟨c', hc'⟩ : ∃ c' : Nat, c = c' := ⟨c.toNat, by omega⟩
        rw [hr', hc', nat_place (by omega)]
        by_cases hlt : r' * w.toNat + c' < l.length
        · rw [cg_set hlt]
          by_cases e : i = r' * w.toNat + c'
          · rw [if_pos e, e, row_div (by omega), row_mod (by omega)]
            refine .inr ⟨?_, by omega, by omega⟩
            show (b.toNat : Int) - 96 ≠ 0
            omega
          · rw [if_neg e]; exact hi i
        · rw [List.set_eq_of_length_le (by omega)]; exact hi i
      · exact pic_law hw row hl l0 s _ _ _ hr (by omega) hi

theorem picture_law {g : Gr} (hg : GoodG g) (s : List UInt8) : ∀ r c : Nat, (r : Int) < g.high → (c : Int) < g.wide → atG g r c = atG (pictureG g s) r c ∨ ((atG (pictureG g s) r c).pic ≠ 0 ∧ g.row ≤ r ∧ min g.col (g.wide - 1) ≤ c) := by
  intro r c hr hc
  have ho := picture_ok' hg s
  have hr1 := hg.r1
  have hc1 := hg.c1
  have hw1 := hg.w1
  rw [at_eq hg hr hc, at_eq ho.1 hr hc]
  have hcw : c < g.wide.toNat := by omega
  have := pic_law (w := g.wide) (h := g.high) (left := min g.col (g.wide - 1)) (by omega) g.row.toNat (by omega) g.cells s g.row (min g.col (g.wide - 1)) g.cells (by omega) (Int.le_refl _) (fun i => .inl rfl) (r * g.wide.toNat + c)
  rw [row_div hcw, row_mod hcw] at this
  rcases this with h | ⟨h1, h2, h3⟩
  · exact .inl h.symm
  · exact .inr ⟨h1, by omega, h3⟩

theorem resize_law {g : Gr} (hg : GoodG g) (w h : Int) : (resizeG g w h).2 = 0 ∧ GoodG (resizeG g w h).1 ∧ (resizeG g w h).1.wide = max 1 (min w 24) ∧ (resizeG g w h).1.high = max 1 (min h 10) ∧
    ∀ r c : Nat, (r : Int) < (resizeG g w h).1.high → (c : Int) < (resizeG g w h).1.wide → atG (resizeG g w h).1 r c = atG g r c := by
  have hr1 := hg.r1
  have hc1 := hg.c1
  have hw1 := hg.w1
  have he : resizeG g w h = (⟨max 1 (min w 24), max 1 (min h 10), resizeC g.wide.toNat (max 1 (min w 24)).toNat (max 1 (min h 10)).toNat g.high.toNat g.cells, min g.row (max 1 (min h 10) - 1), min g.col (max 1 (min w 24) - 1), g.ink, g.bold, 0, max 1 (min h 10)⟩, 0) := by
    unfold resizeG
    rw [if_neg (by rw [goodG_iff.2 hg]; simp)]
  have hgood : GoodG (resizeG g w h).1 := by
    rw [he]
    refine ⟨?_, ?_, ?_, ?_, ?_, ?_, ?_, ?_, ?_, hg.i1, hg.i2, Int.le_refl _, ?_, Int.le_refl _, ?_⟩
    · show (1 : Int) ≤ max 1 (min w 24); omega
    · show max 1 (min w 24) ≤ (24 : Int); omega
    · show (1 : Int) ≤ max 1 (min h 10); omega
    · show max 1 (min h 10) ≤ (10 : Int); omega
    · show ((resizeC _ _ _ _ _).length : Int) = max 1 (min w 24) * max 1 (min h 10)
      unfold resizeC
      rw [tab_len]
      have e1 : ((max 1 (min w 24)).toNat : Int) = max 1 (min w 24) := Int.toNat_of_nonneg (by omega)
      have e2 : ((max 1 (min h 10)).toNat : Int) = max 1 (min h 10) := Int.toNat_of_nonneg (by omega)
      push_cast
      rw [e1, e2]
    · show 0 ≤ min g.row (max 1 (min h 10) - 1); omega
    · show min g.row (max 1 (min h 10) - 1) < max 1 (min h 10); omega
    · show 0 ≤ min g.col (max 1 (min w 24) - 1); omega
    · show min g.col (max 1 (min w 24) - 1) ≤ max 1 (min w 24); omega
    · show (0 : Int) < max 1 (min h 10); omega
    · refine AllG.tab fun i _ => ?_
      split
      · exact AllG.cg hg.all _
      · rfl
  refine ⟨by rw [he], hgood, by rw [he], by rw [he], fun r c hr hc => ?_⟩
  rw [at_eq hgood hr hc]
  rw [he] at hr hc ⊢
  simp only at hr hc ⊢
  have hcw : c < (max 1 (min w 24)).toNat := by omega
  unfold resizeC
  rw [tab_cg (by rw [Nat.mul_comm (max 1 (min w 24)).toNat]; exact row_lt hcw (by omega)), row_div hcw, row_mod hcw]
  split
  · next hin => rw [at_eq hg (by omega) (by omega)]
  · next hin =>
    unfold atG
    rw [if_neg (by omega)]

end Go.Proofs.Ytkmmphkjmamckaa
