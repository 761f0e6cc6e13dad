/-
  The document's own screens, on: a command.
-/
import Derived.Test.YtkmmphkjmamckabGRef3
import Derived.Test.YtkmmphkjmamckabVRefC
namespace Go.Proofs.Ytkmmphkjmamckab
open Go
set_option linter.all false

theorem nums_upd {S : Nat → Prop} {u u' : World} {p : Option Addr} {n : Nat} {l : List Int} (h : Nums u p n l) (hu : Upd S u u') (hp : n ≠ 0 → ∀ k, At p k → ¬ S k) : Nums u' p n l := by
  by_cases hn : n = 0
  · have hl := h.2
    have : l = [] := List.length_eq_zero_iff.1 (by omega)
    subst this
    refine ⟨?_, hl⟩
    cases p with
    | none => rfl
    | some a => exact gets_nil _ _
  · exact h.upd hu (hp hn)

theorem inks_other : ∀ (l : List Int) (g : Gr), (l.foldl inkG g).wide = g.wide ∧ (l.foldl inkG g).high = g.high ∧ (l.foldl inkG g).cells = g.cells ∧ (l.foldl inkG g).row = g.row ∧ (l.foldl inkG g).col = g.col ∧ (l.foldl inkG g).top = g.top ∧ (l.foldl inkG g).bottom = g.bottom
  | [], g => ⟨rfl, rfl, rfl, rfl, rfl, rfl, rfl⟩
  | x :: l, g => by
    have h : (inkG g x).wide = g.wide ∧ (inkG g x).high = g.high ∧ (inkG g x).cells = g.cells ∧ (inkG g x).row = g.row ∧ (inkG g x).col = g.col ∧ (inkG g x).top = g.top ∧ (inkG g x).bottom = g.bottom := by
      unfold inkG
      repeat' split
      all_goals exact ⟨rfl, rfl, rfl, rfl, rfl, rfl, rfl⟩
    have ih := inks_other l (inkG g x)
    rw [List.foldl_cons]
    exact ⟨ih.1.trans h.1, ih.2.1.trans h.2.1, ih.2.2.1.trans h.2.2.1, ih.2.2.2.1.trans h.2.2.2.1, ih.2.2.2.2.1.trans h.2.2.2.2.1, ih.2.2.2.2.2.1.trans h.2.2.2.2.2.1, ih.2.2.2.2.2.2.trans h.2.2.2.2.2.2⟩

/-- What is to be erased, and what is not. -/
theorem jk_law {g : Gr} (hg : GoodG g) {b : Int} (hjk : b = 74 ∨ b = 75) (l : List Int) : ∃ cs, commandG g b l = { g with cells := cs } ∧ cs.length = g.cells.length ∧ ∀ i : Nat, i < g.cells.length →
    (((b = 75 → (i : Int) / g.wide = g.row) ∧ ((numP l 0 0 = 0 ∧ g.row * g.wide + min g.col (g.wide - 1) ≤ i) ∨ (numP l 0 0 = 1 ∧ (i : Int) ≤ g.row * g.wide + min g.col (g.wide - 1)) ∨ numP l 0 0 = 2)) → cg cs i = .z) ∧
    (¬ ((b = 75 → (i : Int) / g.wide = g.row) ∧ ((numP l 0 0 = 0 ∧ g.row * g.wide + min g.col (g.wide - 1) ≤ i) ∨ (numP l 0 0 = 1 ∧ (i : Int) ≤ g.row * g.wide + min g.col (g.wide - 1)) ∨ numP l 0 0 = 2)) → cg cs i = cg g.cells i) := by
  have hw1 := hg.w1
  have hr1 := hg.r1
  have hr2 := hg.r2
  have hc1 := hg.c1
  have r0 := row_facts hg hr1 (by omega)
  have r1 := row_facts hg (r := g.row + 1) (by omega) (by omega)
  have e1 := succ_mul' g.row g.wide
  have hdiv : ∀ i : Nat, (i : Int) / g.wide = g.row ↔ g.row * g.wide ≤ i ∧ (i : Int) < (g.row + 1) * g.wide := fun i => by
    have a := Int.le_ediv_iff_mul_le (a := g.row) (b := (i : Int)) (c := g.wide) (by omega)
    have b := Int.ediv_lt_iff_lt_mul (a := (i : Int)) (b := g.row + 1) (c := g.wide) (by omega)
    constructor
    · intro h
      exact ⟨a.1 (by omega), b.1 (by omega)⟩
    · rintro ⟨h1, h2⟩
      have := a.2 h1
      have := b.2 h2
      omega
  have key : ∀ (lo hi : Int) (fr to : Nat), commandG g b l = eraseG g (numP l 0 0) (g.row * g.wide + min g.col (g.wide - 1)) lo hi → 0 ≤ lo → lo ≤ g.row * g.wide → (∀ i : Nat, i < g.cells.length → ((b = 75 → (i : Int) / g.wide = g.row) ↔ lo ≤ i ∧ (i : Int) < hi)) →
      g.row * g.wide + min g.col (g.wide - 1) < hi →
      ∃ cs, commandG g b l = { g with cells := cs } ∧ cs.length = g.cells.length ∧ ∀ i : Nat, i < g.cells.length →
    (((b = 75 → (i : Int) / g.wide = g.row) ∧ ((numP l 0 0 = 0 ∧ g.row * g.wide + min g.col (g.wide - 1) ≤ i) ∨ (numP l 0 0 = 1 ∧ (i : Int) ≤ g.row * g.wide + min g.col (g.wide - 1)) ∨ numP l 0 0 = 2)) → cg cs i = .z) ∧
    (¬ ((b = 75 → (i : Int) / g.wide = g.row) ∧ ((numP l 0 0 = 0 ∧ g.row * g.wide + min g.col (g.wide - 1) ≤ i) ∨ (numP l 0 0 = 1 ∧ (i : Int) ≤ g.row * g.wide + min g.col (g.wide - 1)) ∨ numP l 0 0 = 2)) → cg cs i = cg g.cells i) := fun lo hi fr to he h0 hlo hio hhi => by
    have fin : ∀ a z : Nat, (∀ i : Nat, i < g.cells.length → ((a ≤ i ∧ i < z) ↔ ((lo ≤ i ∧ (i : Int) < hi) ∧ ((numP l 0 0 = 0 ∧ g.row * g.wide + min g.col (g.wide - 1) ≤ i) ∨ (numP l 0 0 = 1 ∧ (i : Int) ≤ g.row * g.wide + min g.col (g.wide - 1)) ∨ numP l 0 0 = 2)))) →
        commandG g b l = { g with cells := eraseC a z g.cells } → ∃ cs, commandG g b l = { g with cells := cs } ∧ cs.length = g.cells.length ∧ ∀ i : Nat, i < g.cells.length →
    (((b = 75 → (i : Int) / g.wide = g.row) ∧ ((numP l 0 0 = 0 ∧ g.row * g.wide + min g.col (g.wide - 1) ≤ i) ∨ (numP l 0 0 = 1 ∧ (i : Int) ≤ g.row * g.wide + min g.col (g.wide - 1)) ∨ numP l 0 0 = 2)) → cg cs i = .z) ∧
    (¬ ((b = 75 → (i : Int) / g.wide = g.row) ∧ ((numP l 0 0 = 0 ∧ g.row * g.wide + min g.col (g.wide - 1) ≤ i) ∨ (numP l 0 0 = 1 ∧ (i : Int) ≤ g.row * g.wide + min g.col (g.wide - 1)) ∨ numP l 0 0 = 2)) → cg cs i = cg g.cells i) := fun a z hiff heq => by
      refine ⟨_, heq, eraseC_len _ _ _, fun i hi' => ⟨fun hc => ?_, fun hc => ?_⟩⟩
      · rw [erase_cg hi', if_pos ((hiff i hi').2 ⟨(hio i hi').1 hc.1, hc.2⟩)]
      · rw [erase_cg hi', if_neg fun ha => hc ⟨(hio i hi').2 ((hiff i hi').1 ha).1, ((hiff i hi').1 ha).2⟩]
    unfold eraseG at he
    by_cases c0 : numP l 0 0 = 0
    · rw [if_pos c0] at he
      exact fin _ _ (fun i hi' => by omega) he
    rw [if_neg c0] at he
    by_cases c1 : numP l 0 0 = 1
    · rw [if_pos c1] at he
      exact fin _ _ (fun i hi' => by omega) he
    rw [if_neg c1] at he
    by_cases c2 : numP l 0 0 = 2
    · rw [if_pos c2] at he
      exact fin _ _ (fun i hi' => by omega) he
    rw [if_neg c2] at he
    exact fin 0 0 (fun i hi' => by omega) (by
      rw [he]
      have : eraseC 0 0 g.cells = g.cells := cg_ext (eraseC_len _ _ _) fun i hi' => by
        rw [eraseC_len] at hi'
        rw [erase_cg hi', if_neg (by omega)]
      rw [this])
  rcases hjk with rfl | rfl
  · refine key 0 g.cells.length 0 0 ?_ (Int.le_refl _) r0.1 (fun i hi => ⟨fun _ => by omega, fun _ h => by omega⟩) (by omega)
    unfold commandG
    dsimp only
    rw [if_neg (by decide), if_neg (by decide), if_neg (by decide), if_neg (by decide), if_neg (by decide), if_pos rfl]
  · refine key (g.row * g.wide) ((g.row + 1) * g.wide) 0 0 ?_ r0.1 (Int.le_refl _) (fun i hi => ⟨fun h => (hdiv i).1 (h rfl), fun h _ => (hdiv i).2 h⟩) (by omega)
    unfold commandG
    dsimp only
    rw [if_neg (by decide), if_neg (by decide), if_neg (by decide), if_neg (by decide), if_neg (by decide), if_neg (by decide), if_pos rfl]

/-- So far cells are erased. -/
structure JKI (u : World) (gb c : Nat) (g : Gr) (cs : List Cl) (i : Int) (v : World) : Prop where
  ex : ∃ m, CO v gb c m ∧ m.length = g.cells.length ∧ ∀ j : Nat, j < g.cells.length → cg m j = if (j : Int) < i then cg cs j else cg g.cells j
  upd : Upd (At (some ⟨gb, 0, none⟩)) u v
  i0 : 0 ≤ i
  i1 : i ≤ g.cells.length

theorem JKI.skip {u v w : World} {gb c : Nat} {g : Gr} {cs : List Cl} {i : Int} (h : JKI u gb c g cs i v) (hi : i < g.cells.length) (hw : Ext v w) (he : cg cs i.toNat = cg g.cells i.toNat) : JKI u gb c g cs (i + 1) w := by
  obtain ⟨⟨m, h1, h2, h3⟩, h4, h5, h6⟩ := h
  refine ⟨⟨m, h1.ext hw, h2, fun j hj => ?_⟩, h4.ext hw, by omega, by omega⟩
  rw [h3 j hj]
  by_cases hji : j = i.toNat
  · subst hji
    rw [if_neg (by omega), if_pos (by omega), he]
  · by_cases hlt : (j : Int) < i
    · rw [if_pos hlt, if_pos (by omega)]
    · rw [if_neg hlt, if_neg (by omega)]

theorem JKI.store {u v w : World} {gb c : Nat} {g : Gr} {cs : List Cl} {i : Int} (h : JKI u gb c g cs i v) (hi : i < g.cells.length) (hw : Ext v w) (he : cg cs i.toNat = .z) :
    Wr w gb (0 + i.toNat * 4) 4 ∧ JKI u gb c g cs (i + 1) (putCells w gb (0 + i.toNat * 4) [.int .i64 0, .int .i64 0, .int .i64 0, .bool false]) := by
  obtain ⟨⟨m, h1, h2, h3⟩, h4, h5, h6⟩ := h
  refine ⟨(h1.ext hw).wr (by omega), ⟨m.set i.toNat .z, (h1.ext hw).set .z (by omega) (by omega), by rw [List.length_set]; exact h2, fun j hj => ?_⟩, (h4.ext hw).put (fun _ => ⟨_, rfl, rfl⟩) _ _, by omega, by omega⟩
  rw [cg_set (by omega)]
  by_cases hji : j = i.toNat
  · subst hji
    rw [if_pos rfl, if_pos (by omega), he]
  · rw [if_neg hji, h3 j hj]
    by_cases hlt : (j : Int) < i
    · rw [if_pos hlt, if_pos (by omega)]
    · rw [if_neg hlt, if_neg (by omega)]

theorem roll_min {g : Gr} (hg : GoodG g) (b : Int) {N : Int} (hN : 1 ≤ N) : rollG g g.row g.bottom (if b = 76 then - min N 10 else min N 10) = rollG g g.row g.bottom (if b = 76 then -N else N) := by
  have hh2 := hg.h2
  have hr1 := hg.r1
  have hb2 := hg.b2
  have ht1 := hg.t1
  have ht2 := hg.t2
  by_cases h : N ≤ 10
  · rw [show min N 10 = N by omega]
  · unfold rollG
    rw [roll_far (m := if b = 76 then - min N 10 else min N 10) (n := if b = 76 then -N else N)]
    · split <;> omega
    · split <;> omega

theorem csi_ok {u : World} {g : Gr} {gb c : Nat} (h : CO u gb c g.cells) (hg : GoodG g) {b : Int} {lp : Option Addr} {ln lc : Nat} {l : List Int} (hl : Nums u lp ln l) (hp : ln ≠ 0 → ∀ k, At lp k → k ≠ gb) (hn : ln ≤ 100000000) :
    Spec Try.prog fn_fenestraref_csi #[GrV g (some ⟨gb, 0, none⟩) g.cells.length c, .int .i64 b, .slice lp ln lc] u (OwnStep u (some ⟨gb, 0, none⟩) (commandG g b l)) := by
  apply vc_fenestraref_csi_spec
  unfold vc_fenestraref_csi
  simp only [decide_eq_true_eq, decide_eq_false_iff_not, Bool.not_eq_true', Bool.not_eq_false', true_and]
  have hu : Ext u (allocW (allocW u hole) hole) := ((Upd.refl u).alloc _).alloc _
  refine (given_ok (c := lc) (hl.ext hu) (k := 0) (by decide)).mono fun e u1 ⟨he, hu1⟩ => ⟨_, he, ?_⟩
  have x1 := hu.ext hu1
  have H := h.ext x1
  have hl1 := (hl.ext hu).ext hu1
  have hw1 := hg.w1
  have hw2 := hg.w2
  have hh1 := hg.h1
  have hh2 := hg.h2
  have hr1 := hg.r1
  have hr2 := hg.r2
  have hc1 := hg.c1
  have hc2 := hg.c2
  have ht1 := hg.t1
  have ht2 := hg.t2
  have hb2 := hg.b2
  have r0 := row_facts hg hr1 (by omega)
  have hfew := few_cells hg
  rw [show (0 : Int).toNat = 0 from rfl]
  have hn1 : max (numP l 0 0) 1 = numP l 0 1 := by unfold numP; omega
  rw [hn1]
  have hnum : 1 ≤ numP l 0 1 ∧ numP l 0 1 ≤ 999 := by unfold numP; omega
  generalize hN : numP l 0 1 = N at hnum
  have withs : ∀ (g' : Gr) {v : World}, g'.cells = g.cells → Ext u v → OwnStep u (some ⟨gb, 0, none⟩) g' (.returned (GrV g' (some ⟨gb, 0, none⟩) g'.cells.length c)) v := fun g' v hc hv => OwnStep.same (by rw [hc]; exact h) hv
  generalize hcmd : commandG g b l = g'
  refine ⟨by simp only [inK]; omega, by simp only [inK]; omega, by simp only [inK]; omega, fun hc => ?_, fun h65 => ⟨fun hc => ?_, fun h66 => ⟨fun hc => ?_, fun h67 => ⟨fun hc => ?_, fun h68 => ⟨fun hc => ?_, fun h72 => ⟨fun h74 => ⟨fun _ => ?_, fun h => (h h74).elim⟩, fun h74 => ⟨fun h75 => ?_, fun h75 => ?_⟩⟩⟩⟩⟩⟩⟩
  rotate_left 7
  · refine ⟨fun h76 => ⟨fun _ => ?_, fun h => (h h76).elim⟩, fun h76 => ⟨fun h77 => ?_, fun h77 => ?_⟩⟩
    rotate_left 2
    · refine ⟨fun hc => ?_, fun h109 => ⟨fun hc => ?_, fun h114 => ?_⟩⟩
      · -- inks
        subst hc
        have e : g' = l.foldl inkG g := by
          rw [← hcmd]
          unfold commandG
          dsimp only
          rw [if_neg (by decide), if_neg (by decide), if_neg (by decide), if_neg (by decide), if_neg (by decide), if_neg (by decide), if_neg (by decide), if_neg (by decide), if_pos rfl]
        refine ⟨fun i w hi p n c' r cl ik bo t bt v => Ext u v ∧ Nums v lp ln l ∧ 0 ≤ i ∧ i ≤ ln ∧ w = g.wide ∧ hi = g.high ∧ p = some ⟨gb, 0, none⟩ ∧ n = g.cells.length ∧ c = c' ∧ r = g.row ∧ cl = g.col ∧ ik = ((l.take i.toNat).foldl inkG g).ink ∧ bo = ((l.take i.toNat).foldl inkG g).bold ∧ t = g.top ∧ bt = g.bottom,
          fun i _ _ _ _ _ _ _ _ _ _ _ _ => (ln - i).toNat, ⟨x1, hl1, Int.le_refl _, by omega, rfl, rfl, rfl, rfl, rfl, rfl, rfl, rfl, rfl, rfl, rfl⟩, ?_⟩
        rintro i w hi p n c' r cl ik bo t bt v ⟨hv, hlv, i0, i1, rfl, rfl, rfl, rfl, rfl, rfl, rfl, hik, hbo, rfl, rfl⟩
        have hln := hl.2
        refine ⟨fun hlt => ?_, fun hlt => ?_⟩
        · obtain ⟨b', o', hp', hr'⟩ := hlv.at (i := i.toNat) (by omega)
          have hlast := inks_last g (l := l) (i := i.toNat) (by omega)
          rw [← show (i + 1).toNat = i.toNat + 1 by omega] at hlast
          generalize l.getD i.toNat 0 = x at hr' hlast
          generalize (l.take i.toNat).foldl inkG g = F at hik hbo hlast
          have next : ∀ (v' : World), v' = v → ∀ ik' bo', (inkG F x).ink = ik' → (inkG F x).bold = bo' → inK .i64 (i + 1) ∧ (Ext u v' ∧ Nums v' lp ln l ∧ 0 ≤ i + 1 ∧ i + 1 ≤ ln ∧ g.wide = g.wide ∧ g.high = g.high ∧ some (Addr.mk gb 0 none) = some ⟨gb, 0, none⟩ ∧ g.cells.length = g.cells.length ∧ c = c ∧ g.row = g.row ∧ g.col = g.col ∧ ik' = ((l.take (i + 1).toNat).foldl inkG g).ink ∧ bo' = ((l.take (i + 1).toNat).foldl inkG g).bold ∧ g.top = g.top ∧ g.bottom = g.bottom) ∧ (ln - (i + 1)).toNat < (ln - i).toNat := fun v' hv' ik' bo' h1 h2 => by
            subst hv'
            exact ⟨by simp only [inK]; omega, ⟨hv, hlv, by omega, by omega, rfl, rfl, rfl, rfl, rfl, rfl, rfl, by rw [hlast]; exact h1.symm, by rw [hlast]; exact h2.symm, rfl, rfl⟩, by omega⟩
          refine ⟨b', o', hp', i0, hlt, x, rfl, hr', fun c0 => ?_, fun c0 => ?_⟩
          · exact next _ rfl _ _ (by unfold inkG; rw [if_pos c0]) (by unfold inkG; rw [if_pos c0])
          refine ⟨fun q v' => v' = v ∧ (q = true ↔ x = 1 ∨ x = 22), ⟨fun a => ⟨rfl, by simp [a]⟩, fun a => ⟨rfl, by simp [a]⟩⟩, fun q v' ⟨hv', hq⟩ => ⟨fun hqt => ?_, fun hqf => ?_⟩⟩
          · rcases hq.1 hqt with c1 | c1
            · exact next _ hv' _ _ (by unfold inkG; rw [if_neg c0, if_pos c1]; exact hik.symm) (by unfold inkG; rw [if_neg c0, if_pos c1]; simp [c1])
            · exact next _ hv' _ _ (by unfold inkG; rw [if_neg c0, if_neg (by omega), if_pos c1]; exact hik.symm) (by unfold inkG; rw [if_neg c0, if_neg (by omega), if_pos c1]; simp [c1])
          have c1 : ¬ (x = 1 ∨ x = 22) := fun hh => by rw [hq.2 hh] at hqf; cases hqf
          refine ⟨fun q2 v2 => v2 = v ∧ (q2 = true ↔ 30 ≤ x ∧ x ≤ 37), ⟨fun a => ⟨hv', by simp [a]⟩, fun a => ⟨hv', by simp [a]⟩⟩, fun q2 v2 ⟨hv2, hq2⟩ => ⟨fun hqt => ?_, fun hqf2 => ?_⟩⟩
          · have c2 := hq2.1 hqt
            exact ⟨by simp only [inK]; omega, next _ hv2 _ _ (by unfold inkG; rw [if_neg c0, if_neg (by omega), if_neg (by omega), if_pos (by omega)]) (by unfold inkG; rw [if_neg c0, if_neg (by omega), if_neg (by omega), if_pos (by omega)]; exact hbo.symm)⟩
          have c2 : ¬ (30 ≤ x ∧ x ≤ 37) := fun hh => by rw [hq2.2 hh] at hqf2; cases hqf2
          refine ⟨fun c3 => ?_, fun c3 => ?_⟩
          · exact next _ hv2 _ _ (by unfold inkG; rw [if_neg c0, if_neg (by omega), if_neg (by omega), if_neg (by omega), if_pos c3]) (by unfold inkG; rw [if_neg c0, if_neg (by omega), if_neg (by omega), if_neg (by omega), if_pos c3]; exact hbo.symm)
          · exact next _ hv2 _ _ (by unfold inkG; rw [if_neg c0, if_neg (by omega), if_neg (by omega), if_neg (by omega), if_neg c3]; exact hik.symm) (by unfold inkG; rw [if_neg c0, if_neg (by omega), if_neg (by omega), if_neg (by omega), if_neg c3]; exact hbo.symm)
        · rw [List.take_of_length_le (by omega), ← e] at hik hbo
          have ho := inks_other l g
          rw [← e] at ho
          obtain ⟨o1, o2, o3, o4, o5, o6, o7⟩ := ho
          have := withs g' o3 hv
          unfold GrV at this
          rw [o1, o2, o3, o4, o5, o6, o7, ← hik, ← hbo] at this
          exact this
      · -- what scrolls
        subst hc
        have e : g' = regionG g (N - 1) (numP l 1 0) := by
          rw [← hcmd, ← hN]
          unfold commandG
          dsimp only
          rw [if_neg (by decide), if_neg (by decide), if_neg (by decide), if_neg (by decide), if_neg (by decide), if_neg (by decide), if_neg (by decide), if_neg (by decide), if_neg (by decide), if_pos rfl]
        refine (given_ok (c := lc) hl1 (k := 1) (by decide)).mono fun r u2 ⟨he, hu2⟩ => ⟨_, he, ?_⟩
        rw [show (1 : Int).toNat = 1 from rfl]
        have hm : 0 ≤ numP l 1 0 ∧ numP l 1 0 ≤ 999 := by unfold numP; omega
        generalize numP l 1 0 = M at hm e
        have x2 := x1.ext hu2
        have hset : ∀ bot : Int, bot = (if M = 0 ∨ g.high < M then g.high else M) → ∀ v : World, Ext u v → (N ≤ bot → inK .i64 (N - 1) ∧ OwnStep u (some ⟨gb, 0, none⟩) g' (.returned (GrV { g with top := N - 1, bottom := bot, row := 0, col := 0 } (some ⟨gb, 0, none⟩) g.cells.length c)) v) ∧
            (¬ N ≤ bot → OwnStep u (some ⟨gb, 0, none⟩) g' (.returned (GrV g (some ⟨gb, 0, none⟩) g.cells.length c)) v) := fun bot hbot v hv => by
          have hreg : regionG g (N - 1) M = if N - 1 < bot then { g with top := N - 1, bottom := bot, row := 0, col := 0 } else g := by
            unfold regionG
            rw [hbot]
          rw [hreg] at e
          refine ⟨fun hlt => ⟨by simp only [inK]; omega, ?_⟩, fun hlt => ?_⟩
          · rw [if_pos (by omega)] at e
            rw [e]
            exact withs { g with top := N - 1, bottom := bot, row := 0, col := 0 } rfl hv
          · rw [if_neg (by omega)] at e
            rw [e]
            exact withs g rfl hv
        refine ⟨fun q v => v = u2 ∧ (q = true ↔ M = 0 ∨ g.high < M), ⟨fun a => ⟨rfl, by simp [a]⟩, fun a => ⟨rfl, by simp [a]⟩⟩, fun q v ⟨hv, hq⟩ => ?_⟩
        subst hv
        refine ⟨fun hqt => ?_, fun hqf => ?_⟩
        · exact hset g.high (by rw [if_pos (hq.1 hqt)]) _ x2
        · exact hset M (by rw [if_neg (fun hh => by rw [hq.2 hh] at hqf; cases hqf)]) _ x2
      · -- nothing
        have e : g' = g := by
          rw [← hcmd]
          unfold commandG
          dsimp only
          rw [if_neg h65, if_neg h66, if_neg h67, if_neg h68, if_neg h72, if_neg h74, if_neg h75, if_neg (by omega), if_neg h109, if_neg h114]
        rw [e]
        exact withs g rfl x1
    all_goals
      have hlm : b = 76 ∨ b = 77 := by omega
      have hcm : commandG g b l = if g.row < g.top ∨ g.bottom ≤ g.row then g else { rollG g g.row g.bottom (if b = 76 then - min N 10 else min N 10) with col := 0 } := by
        rw [← hN]
        unfold commandG
        dsimp only
        rw [if_neg (by omega), if_neg (by omega), if_neg (by omega), if_neg (by omega), if_neg (by omega), if_neg (by omega), if_neg (by omega), if_pos hlm]
      rw [roll_min hg b hnum.1, hcmd] at hcm
      refine ⟨fun q v => v = u1 ∧ (q = true ↔ g.top ≤ g.row ∧ g.row < g.bottom), ⟨fun a => ⟨rfl, by simp [a]⟩, fun a => ⟨rfl, by simp [a]⟩⟩, fun q v ⟨hv, hq⟩ => ?_⟩
      subst hv
      refine ⟨fun hqt => ⟨fun hch => ⟨by simp only [inK]; omega, ?_⟩, fun hch => ?_⟩, fun hqf => ?_⟩
      · have := hq.1 hqt
        rw [if_neg (by omega), if_pos hch] at hcm
        rw [hcm]
        exact (roll_ok H.cells H.le hg (fr := g.row) (to := g.bottom) (n := -N) hr1 hb2 (by omega) (by omega)).mono fun e u2 ⟨⟨p', c', he, ho, hk⟩, hu2⟩ => ⟨_, _, _, _, _, _, _, _, _, _, _, he, ⟨p', c', rfl, ho, fun k hk' => .inr (by have := hk k hk'; have := x1.size; omega)⟩, (x1.ext hu2).any⟩
      · have := hq.1 hqt
        rw [if_neg (by omega), if_neg hch] at hcm
        rw [hcm]
        exact (roll_ok H.cells H.le hg (fr := g.row) (to := g.bottom) (n := N) hr1 hb2 (by omega) (by omega)).mono fun e u2 ⟨⟨p', c', he, ho, hk⟩, hu2⟩ => ⟨_, _, _, _, _, _, _, _, _, _, _, he, ⟨p', c', rfl, ho, fun k hk' => .inr (by have := hk k hk'; have := x1.size; omega)⟩, (x1.ext hu2).any⟩
      · rw [if_pos (by
          have : ¬ (g.top ≤ g.row ∧ g.row < g.bottom) := fun hh => by rw [hq.2 hh] at hqf; cases hqf
          omega)] at hcm
        rw [hcm]
        exact withs g rfl x1
  · -- up
    subst hc
    have e : g' = { g with row := max 0 (g.row - N) } := by
      rw [← hcmd, ← hN]
      unfold commandG
      dsimp only
      rw [if_pos rfl]
    refine ⟨fun i w hi p n c' r cl ik bo t bt v => Ext u v ∧ 0 ≤ i ∧ i ≤ N ∧ w = g.wide ∧ hi = g.high ∧ p = some ⟨gb, 0, none⟩ ∧ n = g.cells.length ∧ c = c' ∧ r = max 0 (g.row - i) ∧ cl = g.col ∧ ik = g.ink ∧ bo = g.bold ∧ t = g.top ∧ bt = g.bottom,
      fun i _ _ _ _ _ _ _ _ _ _ _ _ => (N - i).toNat, ⟨x1, Int.le_refl _, by omega, rfl, rfl, rfl, rfl, rfl, by omega, rfl, rfl, rfl, rfl, rfl⟩, ?_⟩
    rintro i w hi p n c' r cl ik bo t bt v ⟨hv, i0, i1, rfl, rfl, rfl, rfl, rfl, hr, rfl, rfl, rfl, rfl, rfl⟩
    refine ⟨fun hlt => ⟨fun hc => ⟨by simp only [inK]; omega, by simp only [inK]; omega, ⟨hv, by omega, by omega, rfl, rfl, rfl, rfl, rfl, by omega, rfl, rfl, rfl, rfl, rfl⟩, by first | omega | (dsimp only; omega)⟩, fun hc => ⟨by simp only [inK]; omega, ⟨hv, by omega, by omega, rfl, rfl, rfl, rfl, rfl, by omega, rfl, rfl, rfl, rfl, rfl⟩, by first | omega | (dsimp only; omega)⟩⟩, fun hlt => ?_⟩
    have : i = N := by omega
    rw [e, ← this, ← hr]
    exact withs { g with row := r } rfl hv
  · -- down
    subst hc
    have e : g' = { g with row := min (g.high - 1) (g.row + N) } := by
      rw [← hcmd, ← hN]
      unfold commandG
      dsimp only
      rw [if_neg (by decide), if_pos rfl]
    refine ⟨fun i w hi p n c' r cl ik bo t bt v => Ext u v ∧ 0 ≤ i ∧ i ≤ N ∧ w = g.wide ∧ hi = g.high ∧ p = some ⟨gb, 0, none⟩ ∧ n = g.cells.length ∧ c = c' ∧ r = min (g.high - 1) (g.row + i) ∧ cl = g.col ∧ ik = g.ink ∧ bo = g.bold ∧ t = g.top ∧ bt = g.bottom,
      fun i _ _ _ _ _ _ _ _ _ _ _ _ => (N - i).toNat, ⟨x1, Int.le_refl _, by omega, rfl, rfl, rfl, rfl, rfl, by omega, rfl, rfl, rfl, rfl, rfl⟩, ?_⟩
    rintro i w hi p n c' r cl ik bo t bt v ⟨hv, i0, i1, rfl, rfl, rfl, rfl, rfl, hr, rfl, rfl, rfl, rfl, rfl⟩
    refine ⟨fun hlt => ⟨by simp only [inK]; omega, fun hc => ⟨by simp only [inK]; omega, by simp only [inK]; omega, ⟨hv, by omega, by omega, rfl, rfl, rfl, rfl, rfl, by omega, rfl, rfl, rfl, rfl, rfl⟩, by first | omega | (dsimp only; omega)⟩, fun hc => ⟨by simp only [inK]; omega, ⟨hv, by omega, by omega, rfl, rfl, rfl, rfl, rfl, by omega, rfl, rfl, rfl, rfl, rfl⟩, by first | omega | (dsimp only; omega)⟩⟩, fun hlt => ?_⟩
    have : i = N := by omega
    rw [e, ← this, ← hr]
    exact withs { g with row := r } rfl hv
  · -- right
    subst hc
    have e : g' = { g with col := min (g.col + N) (g.wide - 1) } := by
      rw [← hcmd, ← hN, show min (g.col + numP l 0 1) (g.wide - 1) = min (g.wide - 1) (g.col + numP l 0 1) by omega]
      unfold commandG
      dsimp only
      rw [if_neg (by decide), if_neg (by decide), if_pos rfl]
    rw [e]
    exact ⟨by simp only [inK]; omega, by simp only [inK]; omega, withs { g with col := min (g.col + N) (g.wide - 1) } rfl x1⟩
  · -- left
    subst hc
    have e : g' = { g with col := max (min g.col (g.wide - 1) - N) 0 } := by
      rw [← hcmd, ← hN, show max (min g.col (g.wide - 1) - numP l 0 1) 0 = max 0 (min g.col (g.wide - 1) - numP l 0 1) by omega]
      unfold commandG
      dsimp only
      rw [if_neg (by decide), if_neg (by decide), if_neg (by decide), if_pos rfl]
    rw [e]
    exact ⟨by simp only [inK]; omega, withs { g with col := max (min g.col (g.wide - 1) - N) 0 } rfl x1⟩
  · -- to a place
    subst hc
    have hd : Ext u1 (drewW u1) := (Upd.refl u1).drew
    refine ⟨by simp only [inK]; omega, (given_ok (c := lc) (hl1.ext hd) (k := 1) (by decide)).mono fun r u2 ⟨he, hu2⟩ => ⟨_, he, ?_⟩⟩
    rw [show (1 : Int).toNat = 1 from rfl]
    have hm1 : max (numP l 1 0) 1 = numP l 1 1 := by unfold numP; omega
    rw [hm1]
    have hm : 1 ≤ numP l 1 1 ∧ numP l 1 1 ≤ 999 := by unfold numP; omega
    have e : g' = { g with row := min N g.high - 1, col := min (numP l 1 1) g.wide - 1 } := by
      rw [← hcmd, ← hN, show min (numP l 0 1) g.high = min g.high (numP l 0 1) by omega, show min (numP l 1 1) g.wide = min g.wide (numP l 1 1) by omega]
      unfold commandG
      dsimp only
      rw [if_neg (by decide), if_neg (by decide), if_neg (by decide), if_neg (by decide), if_pos rfl]
    rw [e]
    exact ⟨by simp only [inK]; omega, withs { g with row := min N g.high - 1, col := min (numP l 1 1) g.wide - 1 } rfl ((x1.ext hd).ext hu2)⟩
  all_goals
    have hjk : b = 74 ∨ b = 75 := by omega
    obtain ⟨cs, e1, e2, e3⟩ := jk_law hg hjk l
    rw [hcmd] at e1
    refine ⟨fun i v => JKI u gb c g cs i v, fun i _ => (g.cells.length - i).toNat, ⟨⟨g.cells, H, rfl, fun j hj => by rw [if_neg (by omega)]⟩, x1.any, Int.le_refl _, by omega⟩, fun i v I => ⟨fun hi => ?_, fun hi => ?_⟩⟩
    · have i0 := I.i0
      have hd : Ext v (drewW v) := (Upd.refl v).drew
      have hi' : i.toNat < g.cells.length := by omega
      have e4 := e3 i.toNat hi'
      rw [show ((i.toNat : Nat) : Int) = i by omega] at e4
      have hlv : Nums (drewW v) lp ln l := nums_upd hl (I.upd.ext hd) fun h0 k hk ha => hp h0 k hk (at_some ha)
      refine ⟨fun hb75 => ⟨i0, by omega, by simp only [inK]; omega, fun hne => ⟨by simp only [inK]; omega, I.skip hi hd (e4.2 fun hh => hne (hh.1 hb75)), by first | omega | (dsimp only; omega)⟩, fun heq => ?_⟩, fun hb75 => ?_⟩
      all_goals
        have hrow : b = 75 → i / g.wide = g.row := by
          intro hh
          first | assumption | (exfalso; omega)
        refine (given_ok (c := lc) hlv (k := 0) (by decide)).mono fun e w ⟨he, hw⟩ => ⟨_, he, ?_⟩
        rw [show (0 : Int).toNat = 0 from rfl]
        have hvw := hd.ext hw
        have st : ((numP l 0 0 = 0 ∧ g.row * g.wide + min g.col (g.wide - 1) ≤ i) ∨ (numP l 0 0 = 1 ∧ i ≤ g.row * g.wide + min g.col (g.wide - 1)) ∨ numP l 0 0 = 2) → Wr w gb (0 + i.toNat * 4) 4 ∧ inK .i64 (i + 1) ∧ JKI u gb c g cs (i + 1) (putCells w gb (0 + i.toNat * 4) [.int .i64 0, .int .i64 0, .int .i64 0, .bool false]) ∧ ((g.cells.length : Int) - (i + 1)).toNat < ((g.cells.length : Int) - i).toNat := fun hc => by
          have s := I.store hi hvw (e4.1 ⟨hrow, hc⟩)
          exact ⟨s.1, by simp only [inK]; omega, s.2, by omega⟩
        have sk : ¬ ((numP l 0 0 = 0 ∧ g.row * g.wide + min g.col (g.wide - 1) ≤ i) ∨ (numP l 0 0 = 1 ∧ i ≤ g.row * g.wide + min g.col (g.wide - 1)) ∨ numP l 0 0 = 2) → inK .i64 (i + 1) ∧ JKI u gb c g cs (i + 1) w ∧ ((g.cells.length : Int) - (i + 1)).toNat < ((g.cells.length : Int) - i).toNat := fun hc =>
          ⟨by simp only [inK]; omega, I.skip hi hvw (e4.2 fun hh => hc hh.2), by omega⟩
        exact ⟨fun c0 => ⟨fun hle => ⟨gb, 0, rfl, i0, hi, rfl, st (by omega)⟩, fun hle => sk (by omega)⟩, fun c0 => ⟨fun c1 => ⟨fun hle => ⟨gb, 0, rfl, i0, hi, rfl, st (by omega)⟩, fun hle => sk (by omega)⟩, fun c1 => ⟨fun c2 => ⟨gb, 0, rfl, i0, hi, rfl, st (by omega)⟩, fun c2 => sk (by omega)⟩⟩⟩
    · obtain ⟨⟨m, m1, m2, m3⟩, iu, i0, i1⟩ := I
      have hm : m = cs := cg_ext (by omega) fun j hj => by rw [m3 j (by omega), if_pos (by omega)]
      subst hm
      rw [e1]
      exact ⟨⟨some ⟨gb, 0, none⟩, c, by rw [← m2], m1, fun _ h => .inl h⟩, iu⟩

end Go.Proofs.Ytkmmphkjmamckab
