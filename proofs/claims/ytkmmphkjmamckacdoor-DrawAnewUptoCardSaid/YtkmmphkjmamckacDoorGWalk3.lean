/-
  The screen's functions, on: what is good, an empty screen, a command, a picture, an event.
-/
import Derived.Test.YtkmmphkjmamckacDoorGWalk2
import Derived.Test.YtkmmphkjmamckacDoorZB
namespace Go.Proofs.YtkmmphkjmamckacDoor
open Go
set_option linter.all false

theorem goodC_iff {c : Cl} : goodC c = true ↔ (0 ≤ c.pic ∧ c.pic ≤ 8 ∧ 0 ≤ c.ink ∧ c.ink ≤ 8) ∧ ((c.pic = 0 ∧ ((c.ch = 0 ∧ c.ink = 0 ∧ c.bold = false) ∨ (32 ≤ c.ch ∧ c.ch < 127))) ∨ (c.pic ≠ 0 ∧ c.ch = 0 ∧ c.ink = 0 ∧ c.bold = false)) := by
  unfold goodC
  rw [Bool.and_eq_true, decide_eq_true_eq]
  by_cases h : c.pic = 0
  · rw [if_pos h, decide_eq_true_eq]
    simp only [h, true_and, ne_eq, not_true, false_and, or_false]
  · rw [if_neg h, decide_eq_true_eq]
    simp only [h, false_and, ne_eq, not_false_iff, true_and, false_or]

theorem goodCell_ok (k : Cl) {u : World} : Spec Tryd.prog fn_grid_GoodCell #[ClV k] u (Told u (goodC k)) := by
  apply vc_grid_GoodCell_spec
  unfold vc_grid_GoodCell
  have hu : Ext u (allocW u hole) := (Upd.refl u).alloc _
  have leaf : ∀ x : Bool, (x = true ↔ goodC k = true) → Told u (goodC k) (.returned (.bool x)) (allocW u hole) := fun x h => ⟨by rw [Bool.eq_iff_iff.2 h], hu⟩
  simp only [goodC_iff] at leaf
  obtain ⟨ch, ink, pic, bold⟩ := k
  simp only [decide_eq_true_eq, decide_eq_false_iff_not, Bool.not_eq_true', Bool.not_eq_false'] at leaf ⊢
  cases bold
  · simp only [and_true, true_implies, Bool.false_eq_true, false_implies, Bool.true_eq_false, Bool.not_false, Bool.not_true] at leaf ⊢
    repeat' (refine And.intro (fun _ => ?_) (fun _ => ?_))
    all_goals first
      | exact leaf _ (by simp only [Bool.false_eq_true, decide_eq_true_eq, false_iff, true_iff]; omega)
      | skip
    all_goals (refine leaf _ ?_; simp only [Bool.false_eq_true, decide_eq_true_eq, false_iff, true_iff, iff_true, iff_false]; omega)
  · simp only [and_false, true_implies, Bool.false_eq_true, false_implies, Bool.true_eq_false, Bool.not_false, Bool.not_true, false_or, or_false, true_and] at leaf ⊢
    repeat' (refine And.intro (fun _ => ?_) (fun _ => ?_))
    all_goals (refine leaf _ ?_; simp only [Bool.false_eq_true, decide_eq_true_eq, false_iff, true_iff, iff_true, iff_false]; omega)

theorem good_c1_ok (k : Cl) {u : World} : Spec Tryd.prog fn_grid_Good_c1 #[ClV k] u (Told u (!goodC k)) := by
  apply vc_grid_Good_c1_spec
  unfold vc_grid_Good_c1
  have hu : Ext u (allocW u hole) := (Upd.refl u).alloc _
  exact (goodCell_ok k).mono fun e u1 ⟨he, hu1⟩ => ⟨_, he, rfl, hu.ext hu1⟩

theorem indexFunc_ok {u : World} {p : Option Addr} {l : List Cl} (h : Cells u p l) (c : Nat) (hl : l.length ≤ 100000000000000) :
    Spec Tryd.prog fn_slices_IndexFunc_api_Cell_api_Cell #[.slice p l.length c, .func (.func fn_grid_Good_c1) #[] #[]] u fun e u' => ∃ x : Int, e = .returned (.int .i64 x) ∧ (0 ≤ x ↔ ¬ AllG l) ∧ Ext u u' := by
  apply vc_slices_IndexFunc_api_Cell_api_Cell_spec
  unfold vc_slices_IndexFunc_api_Cell_api_Cell
  simp only [decide_eq_true_eq, decide_eq_false_iff_not]
  refine ⟨fun x u1 => Ext u u1 ∧ 0 ≤ x ∧ x ≤ l.length ∧ ∀ i : Nat, i < x.toNat → goodC (cg l i) = true, fun x _ => (l.length - x).toNat, ⟨Upd.refl _, by omega, by omega, by omega⟩, fun x u1 ⟨hu, h0, h1, hi⟩ => ⟨fun hx => ?_, fun hx => ?_⟩⟩
  · obtain ⟨b, o, hp, hr⟩ := (h.ext hu).at (i := x.toNat) (by omega)
    refine ⟨b, o, hp, h0, hx, _, _, _, _, rfl, hr, ?_⟩
    refine (good_c1_ok (cg l x.toNat)).mono fun e u2 ⟨he, hu2⟩ => ⟨_, he, fun hb => ⟨x, rfl, ?_, hu.ext hu2⟩, fun hb => ⟨by simp only [inK]; omega, ⟨hu.ext hu2, by omega, by omega, fun i hi' => ?_⟩, by dsimp only; omega⟩⟩
    · simp only [h0, true_iff]
      intro hall
      rw [hall _ (cg_mem (by omega))] at hb
      cases hb
    · rcases (by omega : i < x.toNat ∨ i = x.toNat) with h | rfl
      · exact hi i h
      · simpa using hb
  · refine ⟨-1, rfl, ?_, hu⟩
    constructor
    · intro h; omega
    · intro h
      exact (h fun k hk => by
        obtain ⟨i, hi', rfl⟩ := mem_cg hk
        exact hi i (by omega)).elim

theorem containsFunc_ok {u : World} {p : Option Addr} {l : List Cl} (h : Cells u p l) (c : Nat) (hl : l.length ≤ 100000000000000) :
    Spec Tryd.prog fn_slices_ContainsFunc_api_Cell_api_Cell #[.slice p l.length c, .func (.func fn_grid_Good_c1) #[] #[]] u (Told u (!l.all goodC)) := by
  apply vc_slices_ContainsFunc_api_Cell_api_Cell_spec
  unfold vc_slices_ContainsFunc_api_Cell_api_Cell
  refine (indexFunc_ok h c hl).mono fun e u1 ⟨x, he, hx, hu⟩ => ⟨x, he, ?_, hu⟩
  congr 2
  rw [Bool.eq_iff_iff, decide_eq_true_eq, hx, Bool.not_eq_true', ← Bool.not_eq_true, List.all_eq_true]

theorem ggood_ok {u : World} {g : Gr} {p : Option Addr} (h : Cells u p g.cells) (c : Nat) (hl : g.cells.length ≤ 100000000000000) :
    Spec Tryd.prog fn_grid_Good #[GrV g p g.cells.length c] u (Told u (goodG g)) := by
  apply vc_grid_Good_spec
  unfold vc_grid_Good
  simp only [decide_eq_true_eq, decide_eq_false_iff_not, Bool.not_eq_true', Bool.not_eq_false']
  have hu : Ext u (allocW u hole) := (Upd.refl u).alloc _
  have no : ¬ (1 ≤ g.wide ∧ g.wide ≤ 24 ∧ 1 ≤ g.high ∧ g.high ≤ 10 ∧ (g.cells.length : Int) = g.wide * g.high ∧ 0 ≤ g.row ∧ g.row < g.high ∧ 0 ≤ g.col ∧ g.col ≤ g.wide ∧ 0 ≤ g.ink ∧ g.ink ≤ 8 ∧ 0 ≤ g.top ∧ g.top < g.bottom ∧ g.bottom ≤ g.high) → Told u (goodG g) (.returned (.bool false)) (allocW u hole) := fun hn => ⟨by
    congr 2
    symm
    unfold goodG
    rw [decide_eq_false hn]
    rfl, hu⟩
  refine ⟨fun _ => no (by omega), fun h1 => ⟨fun _ => no (by omega), fun h2 => ⟨fun _ => no (by omega), fun h3 => ⟨fun _ => no (by omega), fun h4 => ⟨?_, fun _ => no (by omega), fun h5 => ?_⟩⟩⟩⟩⟩
  · have a : 0 ≤ g.wide * g.high := Int.mul_nonneg (by omega) (by omega)
    have b : g.wide * g.high ≤ 24 * g.high := Int.mul_le_mul_of_nonneg_right (by omega) (by omega)
    simp only [inK]; omega
  refine ⟨fun _ => no (by omega), fun h6 => ⟨fun _ => no (by omega), fun h7 => ⟨fun _ => no (by omega), fun h8 => ⟨fun _ => no (by omega), fun h9 => ⟨fun _ => no (by omega), fun h10 => ⟨fun _ => no (by omega), fun h11 => ⟨fun _ => no (by omega), fun h12 => ⟨fun _ => no (by omega), fun h13 => ⟨fun _ => no (by omega), fun h14 => ?_⟩⟩⟩⟩⟩⟩⟩⟩⟩
  refine (containsFunc_ok (h.ext hu) c hl).mono fun e u1 ⟨he, hu1⟩ => ⟨_, he, ?_, hu.ext hu1⟩
  congr 2
  unfold goodG
  rw [decide_eq_true (by omega)]
  simp

theorem repl_cells (n : Nat) : repl n [.int .i64 0, .int .i64 0, .int .i64 0, .bool false] = cellsV (List.replicate n .z) := by rw [cellsV_repl]; rfl

/-- An empty screen has come. -/
structure NewPost (u : World) (g : Gr) (e : Ending) (u' : World) : Prop where
  ex : ∃ b, e = .returned (GrV g (some ⟨b, 0, none⟩) g.cells.length g.cells.length) ∧ CO u' b g.cells.length g.cells ∧ u.heap.size ≤ b
  ext : Ext u u'

theorem gnew_ok (w h : Int) {u : World} : Spec Tryd.prog fn_grid_New #[.int .i64 w, .int .i64 h] u (NewPost u (newG w h)) := by
  apply vc_grid_New_spec
  unfold vc_grid_New
  have hu : Ext u (allocW u hole) := (Upd.refl u).alloc _
  have a : 0 ≤ max (1 : Int) (min w 24) * max (1 : Int) (min h 10) := Int.mul_nonneg (by omega) (by omega)
  have b : max (1 : Int) (min w 24) * max (1 : Int) (min h 10) ≤ 24 * max (1 : Int) (min h 10) := Int.mul_le_mul_of_nonneg_right (by omega) (by omega)
  have hlen : (newG w h).cells.length = (max (1 : Int) (min w 24) * max (1 : Int) (min h 10)).toNat := by simp [newG]
  refine ⟨by simp only [inK]; omega, a, Int.le_refl _, by omega, by omega, ⟨(allocW u hole).heap.size, ?_, ?_, hu.size⟩, hu.alloc _⟩
  · rw [hlen]; rfl
  · rw [repl_cells]
    have := CO.fresh (allocW u hole) (List.replicate (max (1 : Int) (min w 24) * max (1 : Int) (min h 10)).toNat .z) ty_api_Cell
    rw [List.length_replicate] at this
    rw [hlen]
    exact this

theorem gclone_ok {u : World} {p : Option Addr} {l : List Cl} (h : Cells u p l) (c : Nat) (hl : l.length ≤ 100000000) (h0 : 0 < l.length) :
    Spec Tryd.prog fn_slices_Clone_api_Cell_api_Cell #[.slice p l.length c] u fun e u' => ∃ b c', e = .returned (.slice (some ⟨b, 0, none⟩) l.length c') ∧ CO u' b c' l ∧ Ext u u' ∧ u.heap.size ≤ b := by
  apply vc_slices_Clone_api_Cell_api_Cell_spec
  unfold vc_slices_Clone_api_Cell_api_Cell
  refine ⟨fun hp => ?_, fun hp => ?_⟩
  · obtain ⟨b, o, hp', _⟩ := h.at h0
    rw [hp'] at hp
    cases hp
  · have hu : Ext u (allocW u (.cells #[] ty_api_Cell)) := (Upd.refl u).alloc _
    have h' := h.ext hu
    have hf : Own (allocW u (.cells #[] ty_api_Cell)) 4 (some ⟨u.heap.size, 0, none⟩) 0 0 [] := Own.fresh u (cs := []) rfl
    refine ⟨[], cellsV l, rfl, hf.gets, cellsV_len l, h'.gets, by decide, by omega, (cellsV_ok _ _).2 trivial, fun hc => hf.wrs (by omega), fun p cap u1 hr => ?_⟩
    obtain ⟨h1, h2, h3⟩ := hf.app hr rfl hf.gets (cellsV_len l) rfl
    simp only [Nat.zero_add, List.nil_append] at h1 ⊢
    rcases h3 with ⟨rfl, hn⟩ | ⟨rfl, hx⟩
    · omega
    · exact ⟨_, cap, rfl, h1, hu.ext hx, hu.size⟩

theorem gat_ok {u : World} {g : Gr} {p : Option Addr} (h : Cells u p g.cells) (c : Nat) (r cl : Int) (hl : g.cells.length ≤ 100000000) :
    Spec Tryd.prog fn_grid_At #[GrV g p g.cells.length c, .int .i64 r, .int .i64 cl] u fun e u' => e = .returned (ClV (atG g r cl)) ∧ Ext u u' := by
  apply vc_grid_At_spec
  unfold vc_grid_At
  simp only [decide_eq_true_eq, decide_eq_false_iff_not]
  have hu : Ext u (allocW (allocW u hole) hole) := ((Upd.refl u).alloc _).alloc _
  have no : ¬ (g.wide ≤ 24 ∧ g.high ≤ 10 ∧ 0 ≤ r ∧ r < g.high ∧ 0 ≤ cl ∧ cl < g.wide ∧ r * g.wide + cl < (g.cells.length : Nat)) → Ending.returned (.agg #[.int .i64 0, .int .i64 0, .int .i64 0, .bool false]) = .returned (ClV (atG g r cl)) ∧ Ext u (allocW (allocW u hole) hole) := fun hn => ⟨by
    have : atG g r cl = .z := by
      unfold atG
      split
      · next hc =>
        have hm : 0 ≤ r * g.wide := Int.mul_nonneg hc.2.2.1 (by omega)
        exact cg_out (by omega)
      · rfl
    rw [this], hu⟩
  have hmul : 0 ≤ r → r < g.high → g.high ≤ 10 → 0 ≤ g.wide → g.wide ≤ 24 → 0 ≤ r * g.wide ∧ r * g.wide ≤ 240 := fun a b c d e => by
    have x : 0 ≤ r * g.wide := Int.mul_nonneg a d
    have y : r * g.wide ≤ 10 * g.wide := Int.mul_le_mul_of_nonneg_right (by omega) d
    omega
  refine ⟨fun _ => no (by omega), fun h1 => ⟨fun _ => no (by omega), fun h2 => ⟨fun _ => no (by omega), fun h3 => ⟨fun _ => no (by omega), fun h4 => ⟨fun _ => no (by omega), fun h5 => ⟨fun _ => no (by omega), fun h6 => ?_⟩⟩⟩⟩⟩⟩
  have hm := hmul (by omega) (by omega) (by omega) (by omega) (by omega)
  refine ⟨by simp only [inK]; omega, by simp only [inK]; omega, fun h7 => no (by omega), fun h7 => ⟨by simp only [inK]; omega, by simp only [inK]; omega, ?_⟩⟩
  obtain ⟨b, o, hp, hr⟩ := (h.ext hu).at (i := (r * g.wide + cl).toNat) (by omega)
  refine ⟨b, o, hp, by omega, by omega, _, _, _, _, rfl, hr, ?_, hu⟩
  unfold atG
  rw [if_pos (by omega)]

end Go.Proofs.YtkmmphkjmamckacDoor
