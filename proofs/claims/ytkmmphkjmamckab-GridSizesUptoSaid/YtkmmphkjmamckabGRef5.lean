/-
  The document's own screens, on: an event.
-/
import Derived.Test.YtkmmphkjmamckabGRef4
namespace Go.Proofs.Ytkmmphkjmamckab
open Go
set_option linter.all false

/-- A screen and a number have come. -/
structure ActPost (u : World) (r : Gr × Int) (e : Ending) (u' : World) : Prop where
  ex : ∃ p c, e = .returned (.tuple #[GrV r.1 p r.1.cells.length c, .int .i64 r.2]) ∧ Cells u' p r.1.cells
  ext : Ext u u'

theorem feedG_col (g : Gr) : feedG { g with col := 0 } = { feedG g with col := 0 } := by
  unfold feedG
  dsimp only
  by_cases h1 : g.row = g.bottom - 1
  · rw [if_pos h1, if_pos h1]; rfl
  · rw [if_neg h1, if_neg h1]
    by_cases h2 : g.row < g.high - 1
    · rw [if_pos h2, if_pos h2]
    · rw [if_neg h2, if_neg h2]

theorem cells_pos {g : Gr} (hg : GoodG g) : 0 < g.cells.length := by
  have a := hg.len
  have b := Int.mul_pos (show (0 : Int) < g.wide by have := hg.w1; omega) (show (0 : Int) < g.high by have := hg.h1; omega)
  omega

theorem act_ok {u : World} {g : Gr} {p : Option Addr} (h : Cells u p g.cells) (c : Nat) (hl : g.cells.length ≤ 100000000) (e : Ev) {ep : Option Addr} {en ec : Nat} (he : Nums u ep en e.ps) (hen : en ≤ 100000000) (hpl : e.pl.size ≤ 100000000) :
    Spec Try.prog fn_fenestraref_Act #[GrV g p g.cells.length c, EvV e ep en ec] u (ActPost u (doG g e)) := by
  apply vc_fenestraref_Act_spec
  unfold vc_fenestraref_Act
  simp only [decide_eq_true_eq, decide_eq_false_iff_not, Bool.not_eq_true', Bool.not_eq_false', true_and]
  have hu : Ext u (allocW (allocW (allocW u hole) hole) hole) := (((Upd.refl u).alloc _).alloc _).alloc _
  refine (goodGrid_ok (h.ext hu) c hl).mono fun r u1 ⟨hr, hu1⟩ => ⟨_, hr, fun hb => ?_, fun hb => ?_⟩
  · have hd : doG g e = (g, 1) := by unfold doG; rw [if_pos hb]
    rw [hd]
    exact ⟨⟨p, c, rfl, h.ext (hu.ext hu1)⟩, hu.ext hu1⟩
  have hg := goodG_iff.1 hb
  have x1 := hu.ext hu1
  have hw1 := hg.w1
  have hw2 := hg.w2
  have hh1 := hg.h1
  have hh2 := hg.h2
  have hr1 := hg.r1
  have hr2 := hg.r2
  have hc1 := hg.c1
  have hc2 := hg.c2
  rw [do_good_eq' hg]
  refine ⟨fun q v => v = u1 ∧ (q = true ↔ e.kind < 1 ∨ 5 < e.kind), ⟨fun a => ⟨rfl, by simp [a]⟩, fun a => ⟨rfl, by simp [a]⟩⟩, fun q v ⟨hv, hq⟩ => ?_⟩
  subst hv
  refine ⟨fun hqt => ?_, fun hqf => ?_⟩
  · have hk := hq.1 hqt
    rw [if_neg (by omega), if_neg (by omega), if_neg (by omega), if_neg (by omega), if_neg (by omega)]
    exact ⟨⟨p, c, rfl, h.ext x1⟩, x1⟩
  have hk : ¬ (e.kind < 1 ∨ 5 < e.kind) := fun hh => by rw [hq.2 hh] at hqf; cases hqf
  have ha : Ext v (allocW v hole) := (Upd.refl _).alloc _
  refine (copyGrid_ok (h.ext (x1.ext ha)) c hl).mono fun r u2 ⟨⟨p2, c2, hr, ho, hnew⟩, hu2⟩ => ⟨_, _, _, _, _, _, _, _, _, _, _, hr, ?_⟩
  obtain ⟨gb, rfl⟩ := ho.some' (cells_pos hg)
  have hgb : u.heap.size ≤ gb := by have := hnew gb ⟨_, rfl, rfl⟩; have := (x1.ext ha).size; omega
  have x2 := (x1.ext ha).ext hu2
  have H : CO u2 gb c2 g.cells := ho
  have out : ∀ {v : World}, Upd (At (some ⟨gb, 0, none⟩)) u2 v → Ext u v := fun hv => (x2.trans hv fun k hk hat => by have := at_some hat; simp only at this; omega).mono fun _ _ h => h
  have fin : ∀ (g' : Gr) {p' : Option Addr} {n c' : Nat} {v : World}, n = g'.cells.length → Cells v p' g'.cells → Ext u v → ActPost u (g', 0) (.returned (.tuple #[.agg #[.int .i64 g'.wide, .int .i64 g'.high, .slice p' n c', .int .i64 g'.row, .int .i64 g'.col, .int .i64 g'.ink, .bool g'.bold, .int .i64 g'.top, .int .i64 g'.bottom], .int .i64 0])) v := fun g' p' n c' v hn hc hv => by
    subst hn
    exact ⟨⟨p', c', rfl, hc⟩, hv⟩
  refine ⟨fun k1 => ?_, fun k1 => ?_⟩
  · rw [if_pos k1]
    refine ⟨fun q v => v = u2 ∧ (q = true ↔ e.b < 32 ∨ 126 < e.b), ⟨fun a => ⟨rfl, by simp [a]⟩, fun a => ⟨rfl, by simp [a]⟩⟩, fun q v ⟨hv, hq⟩ => ?_⟩
    subst hv
    refine ⟨fun hqt => ?_, fun hqf => ?_⟩
    · rw [if_pos (hq.1 hqt)]
      exact ⟨⟨p, c, rfl, h.ext x2⟩, x2⟩
    rw [if_neg (fun hh => by rw [hq.2 hh] at hqf; cases hqf)]
    refine ⟨fun hcol => ?_, fun hcol => ?_⟩
    · have hs : showG g e.b = { feedG g with cells := (feedG g).cells.set ((feedG g).row * (feedG g).wide + 0).toNat ⟨e.b, (feedG g).ink, 0, (feedG g).bold⟩, col := 0 + 1 } := by
        unfold showG
        rw [if_pos hcol]
        dsimp only
        rw [feedG_col]
      rw [hs]
      obtain ⟨f1, f2, f3, _⟩ := feed_ok' hg
      refine (nextRow_ok ho hg).mono fun r u3 ⟨⟨p3, c3, hr, ho3, hk3⟩, hu3⟩ => ⟨_, _, _, _, _, _, _, _, _, _, _, hr, ?_⟩
      obtain ⟨b3, rfl⟩ := ho3.some' (cells_pos f1)
      have hb3 : u.heap.size ≤ b3 := by
        rcases hk3 b3 ⟨_, rfl, rfl⟩ with h | h
        · have := at_some h; simp only at this; omega
        · have := x2.size; omega
      have H3 : CO u3 b3 c3 (feedG g).cells := ho3
      have g1 := f1.r1
      have g2 := f1.r2
      have g3 := f1.h2
      have gw1 := f1.w1
      have gw2 := f1.w2
      have q0 := row_facts f1 g1 (by omega)
      have q1 := row_facts f1 (r := (feedG g).row + 1) (by omega) (by omega)
      rw [succ_mul'] at q1
      exact ⟨by simp only [inK]; omega, by simp only [inK]; omega, b3, 0, rfl, by omega, by omega, rfl, H3.wr (by omega), by simp only [inK]; omega,
        fin { feedG g with cells := (feedG g).cells.set ((feedG g).row * (feedG g).wide + 0).toNat ⟨e.b, (feedG g).ink, 0, (feedG g).bold⟩, col := 0 + 1 } (by show _ = (List.set _ _ _).length; rw [List.length_set])
          (H3.set ⟨e.b, (feedG g).ink, 0, (feedG g).bold⟩ (i := ((feedG g).row * (feedG g).wide + 0).toNat) (by omega) (by omega)).cells ((out hu3).put (fun hlt => by omega) _ _)⟩
    · have hs : showG g e.b = { g with cells := g.cells.set (g.row * g.wide + g.col).toNat ⟨e.b, g.ink, 0, g.bold⟩, col := g.col + 1 } := by
        unfold showG
        rw [if_neg hcol]
      rw [hs]
      have q0 := row_facts hg hr1 (by omega)
      have q1 := row_facts hg (r := g.row + 1) (by omega) (by omega)
      rw [succ_mul'] at q1
      exact ⟨by simp only [inK]; omega, by simp only [inK]; omega, gb, 0, rfl, by omega, by omega, rfl, H.wr (by omega), by simp only [inK]; omega,
        fin { g with cells := g.cells.set (g.row * g.wide + g.col).toNat ⟨e.b, g.ink, 0, g.bold⟩, col := g.col + 1 } (by show _ = (List.set _ _ _).length; rw [List.length_set])
          (H.set ⟨e.b, g.ink, 0, g.bold⟩ (i := (g.row * g.wide + g.col).toNat) (by omega) (by omega)).cells (x2.put (fun hlt => by omega) _ _)⟩
  rw [if_neg k1]
  refine ⟨fun k2 => ?_, fun k2 => ?_⟩
  · rw [if_pos k2]
    refine ⟨fun c13 => ?_, fun c13 => ⟨fun c10 => ?_, fun c10 => ⟨fun c9 => ⟨by simp only [inK]; omega, ?_⟩, fun c9 => ⟨fun c8 => ?_, fun c8 => ?_⟩⟩⟩⟩
    · have hs : controlG g e.b = { g with col := 0 } := by unfold controlG; rw [if_neg (by omega), if_neg (by omega), if_neg (by omega), if_pos c13]
      rw [hs]
      exact fin { g with col := 0 } rfl H.cells x2
    · have hs : controlG g e.b = feedG g := by unfold controlG; rw [if_neg (by omega), if_neg (by omega), if_pos c10]
      rw [hs]
      exact (nextRow_ok ho hg).mono fun r u3 ⟨⟨p3, c3, hr, ho3, hk3⟩, hu3⟩ => ⟨_, _, _, _, _, _, _, _, _, _, _, hr, fin (feedG g) rfl ⟨ho3.gets⟩ (out hu3)⟩
    · have hs : controlG g e.b = { g with col := min (g.wide - 1) (g.col / 8 * 8 + 8) } := by unfold controlG; rw [if_neg (by omega), if_pos c9]
      rw [hs]
      refine ⟨fun w hi p n c' r cl ik bo t bt v => v = u2 ∧ w = g.wide ∧ hi = g.high ∧ p = some ⟨gb, 0, none⟩ ∧ n = g.cells.length ∧ c2 = c' ∧ r = g.row ∧ ik = g.ink ∧ bo = g.bold ∧ t = g.top ∧ bt = g.bottom ∧ g.col + 1 ≤ cl ∧ cl ≤ g.col / 8 * 8 + 8,
        fun _ _ _ _ _ _ cl _ _ _ _ _ => (g.col / 8 * 8 + 8 - cl).toNat, ⟨rfl, rfl, rfl, rfl, rfl, rfl, rfl, rfl, rfl, rfl, rfl, by omega, by omega⟩, ?_⟩
      rintro w hi p n c' r cl ik bo t bt v ⟨hv, rfl, rfl, rfl, rfl, rfl, rfl, rfl, rfl, rfl, rfl, i0, i1⟩
      subst hv
      refine ⟨by omega, by decide, fun hne => ⟨by simp only [inK]; omega, ⟨rfl, rfl, rfl, rfl, rfl, rfl, rfl, rfl, rfl, rfl, rfl, by omega, by omega⟩, by first | omega | (dsimp only; omega)⟩, fun heq => ⟨by simp only [inK]; omega, ?_⟩⟩
      rw [show min (g.wide - 1) (g.col / 8 * 8 + 8) = min cl (g.wide - 1) by omega]
      exact fin { g with col := min cl (g.wide - 1) } rfl H.cells x2
    · have hs : controlG g e.b = { g with col := max 0 (min g.col (g.wide - 1) - 1) } := by unfold controlG; rw [if_pos c8]
      rw [hs]
      refine ⟨fun hcw => ⟨by simp only [inK]; omega, fun hp => ⟨by simp only [inK]; omega, ?_⟩, fun hp => ?_⟩, fun hcw => ⟨fun hp => ⟨by simp only [inK]; omega, ?_⟩, fun hp => ?_⟩⟩
      · rw [show max 0 (min g.col (g.wide - 1) - 1) = g.col - 1 - 1 by omega]
        exact fin { g with col := g.col - 1 - 1 } rfl H.cells x2
      · rw [show max 0 (min g.col (g.wide - 1) - 1) = g.col - 1 by omega]
        exact fin { g with col := g.col - 1 } rfl H.cells x2
      · rw [show max 0 (min g.col (g.wide - 1) - 1) = g.col - 1 by omega]
        exact fin { g with col := g.col - 1 } rfl H.cells x2
      · rw [show max 0 (min g.col (g.wide - 1) - 1) = g.col by omega]
        exact fin g rfl H.cells x2
    · have hs : controlG g e.b = g := by unfold controlG; rw [if_neg c8, if_neg c9, if_neg c10, if_neg c13]
      rw [hs]
      exact fin g rfl H.cells x2
  rw [if_neg k2]
  refine ⟨fun k3 => ?_, fun k3 => ?_⟩
  · rw [if_pos k3]
    refine (csi_ok H hg (lc := ec) (he.ext x2) (fun h0 k hk => ?_) hen).mono fun r u3 ⟨⟨p3, c3, hr, ho3, hk3⟩, hu3⟩ => ⟨_, _, _, _, _, _, _, _, _, _, _, hr, fin (commandG g e.b e.ps) rfl ⟨ho3.gets⟩ (out hu3)⟩
    have hlt : k < u.heap.size := by
      obtain ⟨a, ha, rfl⟩ := hk
      obtain ⟨b', o', hp', hr'⟩ := he.at (i := 0) (by omega)
      rw [ha] at hp'
      cases hp'
      exact rd_lt hr'
    omega
  rw [if_neg k3]
  refine ⟨fun k4 => ?_, fun k4 => ?_⟩
  · rw [if_pos k4]
    exact (drawn_ok H hg e.pl hpl).mono fun r u3 ⟨⟨p3, c3, hr, ho3, hk3⟩, hu3⟩ => ⟨_, _, _, _, _, _, _, _, _, _, _, hr, fin (pictureG g e.pl.data.toList) rfl ⟨ho3.gets⟩ (out hu3)⟩
  rw [if_neg k4]
  have k5 : e.kind = 5 := by omega
  rw [if_pos k5]
  exact ⟨fun _ => (newGrid_ok g.wide g.high).mono fun r u3 ⟨⟨p3, c3, hr, ho3, hk3⟩, hu3⟩ => ⟨_, _, _, _, _, _, _, _, _, _, _, hr, fin (newG g.wide g.high) rfl ⟨ho3.gets⟩ (x2.ext hu3)⟩, fun hn => (hn k5).elim⟩

end Go.Proofs.Ytkmmphkjmamckab
