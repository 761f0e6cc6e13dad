/-
  The screen's functions, on: a row on, a byte shown, control bytes, erasing, ink, numbers.
-/
import Derived.Test.YtkmmphkjmamckacDoorGWalk
import Derived.Test.YtkmmphkjmamckacDoorZM
namespace Go.Proofs.YtkmmphkjmamckacDoor
open Go
set_option linter.all false

/-- A screen's two blocks. -/
def UB (gb b : Nat) (k : Nat) : Prop := k = gb ∨ k = b

theorem UB.cells {gb b : Nat} {u u' : World} (h : Upd (· = b) u u') : Upd (UB gb b) u u' := h.mono fun _ _ h => .inr h
theorem UB.self {gb b : Nat} {u u' : World} (h : Upd (· = gb) u u') : Upd (UB gb b) u u' := h.mono fun _ _ h => .inl h
theorem UB.trans {gb b : Nat} {u v w : World} (h : Upd (UB gb b) u v) (k : Upd (UB gb b) v w) : Upd (UB gb b) u w := Upd.trans h k fun _ _ h => h
theorem UB.putS {gb b : Nat} {u v : World} (h : Upd (UB gb b) u v) (o : Nat) (ys : List Value) : Upd (UB gb b) u (putCells v gb o ys) := h.trans (UB.self (upd_put gb o ys)) fun _ _ h => h
theorem UB.putC {gb b : Nat} {u v : World} (h : Upd (UB gb b) u v) (o : Nat) (ys : List Value) : Upd (UB gb b) u (putCells v b o ys) := h.trans (UB.cells (upd_put b o ys)) fun _ _ h => h

/-- A function that changes a screen of its caller's has ended. -/
structure GDone (u : World) (gb b c : Nat) (g : Gr) (e : Ending) (u' : World) : Prop where
  e : e = .returned (.tuple #[])
  scr : GB u' gb g b c
  upd : Upd (UB gb b) u u'

theorem gfeed_ok {u : World} {gb : Nat} {g : Gr} {b c : Nat} (h : GB u gb g b c) (hg : GoodG g) :
    Spec Tryd.prog fn_grid_feed #[.pointer (some ⟨gb, 0, none⟩)] u (GDone u gb b c (feedG g)) := by
  apply vc_grid_feed_spec
  unfold vc_grid_feed
  simp only [decide_eq_true_eq, decide_eq_false_iff_not]
  have hu : Ext u (drewW u) := (Upd.refl u).drew
  have hu2 : Ext u (drewW (drewW u)) := hu.drew
  have h2 := h.ext hu2
  have := hg.b2
  have := hg.h2
  have := hg.t1
  have := hg.t2
  have := hg.r1
  have := hg.r2
  refine ⟨_, rfl, h.rdRow hu, _, rfl, h.rdBottom hu, by simp only [inK]; omega, fun hx => ⟨_, rfl, h.rdTop hu2, _, rfl, h.rdBottom hu2, ?_⟩, fun hx => ⟨_, rfl, h.rdRow hu2, _, rfl, h.rdHigh hu2, by simp only [inK]; omega, fun hy => ⟨_, rfl, h.rdRow hu2, by simp only [inK]; omega, rfl, h2.wr (by omega), rfl, ?_, ?_⟩, fun hy => ⟨rfl, ?_, hu2.any⟩⟩⟩
  · refine (up_ok h2 hg hg.t1 hg.t2 hg.b2).mono fun e u1 ⟨he, hb, hu1⟩ => ⟨he, rfl, ?_, hu2.any.trans (UB.cells hu1) fun _ _ h => h⟩
    unfold feedG
    rw [if_pos hx]
    exact hb
  · unfold feedG
    rw [if_neg hx, if_pos hy]
    exact h2.put (g' := { g with row := g.row + 1 }) rfl rfl
  · exact UB.putS hu2.any _ _
  · unfold feedG
    rw [if_neg hx, if_neg hy]
    exact h2

theorem gshow_ok {u : World} {gb : Nat} {g : Gr} {b c : Nat} (h : GB u gb g b c) (hg : GoodG g) {ch : Int} :
    Spec Tryd.prog fn_grid_show #[.pointer (some ⟨gb, 0, none⟩), .int .i64 ch] u (GDone u gb b c (showG g ch)) := by
  apply vc_grid_show_spec
  unfold vc_grid_show
  simp only [decide_eq_true_eq, decide_eq_false_iff_not]
  have hu : Ext u (drewW u) := (Upd.refl u).drew
  have hd := h.ext hu
  have hw1 := hg.w1
  have hc2 := hg.c2
  refine ⟨_, rfl, h.rdCol hu, _, rfl, h.rdWide hu, fun hx => ⟨rfl, hd.wr (by omega), ?_⟩, fun hx => ?_⟩
  · have hp := hd.put (g' := { g with col := 0 }) (o := 0 + 4) (ys := [.int .i64 0]) rfl rfl
    have hg0 := hg.col (c := 0) (by omega)
    refine (gfeed_ok hp hg0).mono fun e u1 ⟨he, X, hu1⟩ => ⟨he, ?_⟩
    have f := feed_ok' hg0
    simp only at f
    have hv : Upd (UB gb b) u u1 := UB.trans (UB.putS hu.any _ _) hu1
    have heq : showG g ch = { feedG { g with col := 0 } with cells := (feedG { g with col := 0 }).cells.set ((feedG { g with col := 0 }).row * (feedG { g with col := 0 }).wide + (feedG { g with col := 0 }).col).toNat ⟨ch, (feedG { g with col := 0 }).ink, 0, (feedG { g with col := 0 }).bold⟩, col := (feedG { g with col := 0 }).col + 1 } := by
      unfold showG
      rw [if_pos hx]
    have hcw : (feedG { g with col := 0 }).col < (feedG { g with col := 0 }).wide := by rw [f.2.2.2.1, f.2.1]; omega
    rw [heq]
    have Xg := f.1
    generalize feedG { g with col := 0 } = x at X Xg hcw
    clear f heq hp
    have hd : Ext u1 (drewW u1) := (Upd.refl u1).drew
    have r1 := row_facts Xg Xg.r1 (by have := Xg.r2; omega)
    have r2 := row_facts Xg (r := x.row + 1) (by have := Xg.r1; omega) (by have := Xg.r2; omega)
    rw [succ_mul'] at r2
    have xc := Xg.c1
    have xw := Xg.w2
    refine ⟨_, rfl, X.rdRow hd, _, rfl, X.rdCol hd, _, rfl, X.rdInk hd, _, rfl, X.rdBold hd, ?_⟩
    refine (row_ok (X.ext hd) Xg Xg.r1 Xg.r2).mono fun e u2 ⟨c', he, hu2⟩ => ⟨_, _, _, he, X.rdBold (hd.ext hu2), X.rdInk (hd.ext hu2), X.rdCol (hd.ext hu2), b, _, rfl, xc, by omega, rfl, ?_, ?_⟩
    · exact (X.ext (hd.ext hu2)).own.wr (by omega)
    · have Y := (X.ext (hd.ext hu2)).cell ⟨ch, x.ink, 0, x.bold⟩ (i := (x.row * x.wide + x.col).toNat) (o := 0 + (x.row * x.wide).toNat * 4 + x.col.toNat * 4) (by omega) (by omega)
      have hY : Upd (UB gb b) u _ := UB.putC (UB.trans hv (hd.ext hu2).any) (0 + (x.row * x.wide).toNat * 4 + x.col.toNat * 4) (clV ⟨ch, x.ink, 0, x.bold⟩)
      exact ⟨_, rfl, Y.rdCol (Upd.refl _), by simp only [inK]; omega, rfl, Y.wr (by omega), rfl, Y.put (g' := { x with cells := x.cells.set (x.row * x.wide + x.col).toNat ⟨ch, x.ink, 0, x.bold⟩, col := x.col + 1 }) rfl rfl, UB.putS hY _ _⟩
  · have heq : showG g ch = { g with cells := g.cells.set (g.row * g.wide + g.col).toNat ⟨ch, g.ink, 0, g.bold⟩, col := g.col + 1 } := by
      unfold showG
      rw [if_neg hx]
    rw [heq]
    have hcw : g.col < g.wide := by omega
    have hd : Ext u (drewW (drewW u)) := hu.drew
    have r1 := row_facts hg hg.r1 (by have := hg.r2; omega)
    have r2 := row_facts hg (r := g.row + 1) (by have := hg.r1; omega) (by have := hg.r2; omega)
    rw [succ_mul'] at r2
    have xc := hg.c1
    have xw := hg.w2
    refine ⟨_, rfl, h.rdRow hd, _, rfl, h.rdCol hd, _, rfl, h.rdInk hd, _, rfl, h.rdBold hd, ?_⟩
    refine (row_ok (h.ext hd) hg hg.r1 hg.r2).mono fun e u2 ⟨c', he, hu2⟩ => ⟨_, _, _, he, h.rdBold (hd.ext hu2), h.rdInk (hd.ext hu2), h.rdCol (hd.ext hu2), b, _, rfl, xc, by omega, rfl, ?_, ?_⟩
    · exact (h.ext (hd.ext hu2)).own.wr (by omega)
    · have Y := (h.ext (hd.ext hu2)).cell ⟨ch, g.ink, 0, g.bold⟩ (i := (g.row * g.wide + g.col).toNat) (o := 0 + (g.row * g.wide).toNat * 4 + g.col.toNat * 4) (by omega) (by omega)
      have hY : Upd (UB gb b) u _ := UB.putC ((hd.ext hu2).any) (0 + (g.row * g.wide).toNat * 4 + g.col.toNat * 4) (clV ⟨ch, g.ink, 0, g.bold⟩)
      exact ⟨_, rfl, Y.rdCol (Upd.refl _), by simp only [inK]; omega, rfl, Y.wr (by omega), rfl, Y.put (g' := { g with cells := g.cells.set (g.row * g.wide + g.col).toNat ⟨ch, g.ink, 0, g.bold⟩, col := g.col + 1 }) rfl rfl, UB.putS hY _ _⟩

theorem control_ok {u : World} {gb : Nat} {g : Gr} {b c : Nat} (h : GB u gb g b c) (hg : GoodG g) {ch : Int} :
    Spec Tryd.prog fn_grid_control #[.pointer (some ⟨gb, 0, none⟩), .int .i64 ch] u (GDone u gb b c (controlG g ch)) := by
  apply vc_grid_control_spec
  unfold vc_grid_control
  simp only [decide_eq_true_eq, decide_eq_false_iff_not]
  have hu : Ext u (drewW u) := (Upd.refl u).drew
  have hd := h.ext hu
  have hw1 := hg.w1
  have hw2 := hg.w2
  have hc1 := hg.c1
  have hc2 := hg.c2
  unfold controlG
  refine ⟨fun h8 => ?_, fun h8 => ⟨fun h9 => ?_, fun h9 => ⟨fun h10 => ?_, fun h10 => ⟨fun h13 => ?_, fun h13 => ?_⟩⟩⟩⟩
  · rw [if_pos h8]
    exact ⟨_, rfl, h.rdCol hu, _, rfl, h.rdWide hu, by simp only [inK]; omega, by simp only [inK]; omega, rfl, hd.wr (by omega), rfl, hd.put (g' := { g with col := max 0 (min g.col (g.wide - 1) - 1) }) rfl rfl, UB.putS hu.any _ _⟩
  · rw [if_neg h8, if_pos h9]
    exact ⟨_, rfl, h.rdWide hu, by simp only [inK]; omega, _, rfl, h.rdCol hu, hc1, by omega, by simp only [inK]; omega, by simp only [inK]; omega, by simp only [inK]; omega, rfl, hd.wr (by omega), rfl, hd.put (g' := { g with col := min (g.wide - 1) (g.col / 8 * 8 + 8) }) rfl rfl, UB.putS hu.any _ _⟩
  · rw [if_neg h8, if_neg h9, if_pos h10]
    exact (gfeed_ok h hg).mono fun e u1 ⟨he, hb, hu1⟩ => ⟨he, rfl, hb, hu1⟩
  · rw [if_neg h8, if_neg h9, if_neg h10, if_pos h13]
    exact ⟨rfl, h.wr (by omega), rfl, h.put (g' := { g with col := 0 }) rfl rfl, UB.putS (Upd.refl u) _ _⟩
  · rw [if_neg h8, if_neg h9, if_neg h10, if_neg h13]
    exact ⟨rfl, h, Upd.refl u⟩

theorem number_ok {u : World} {p : Option Addr} {n c : Nat} {l : List Int} (h : Nums u p n l) {k : Int} (hk : 0 ≤ k) (least : Int) :
    Spec Tryd.prog fn_grid_number #[.slice p n c, .int .i64 k, .int .i64 least] u fun e u' => e = .returned (.int .i64 (numP l k.toNat least)) ∧ Ext u u' := by
  apply vc_grid_number_spec
  unfold vc_grid_number
  simp only [decide_eq_true_eq, decide_eq_false_iff_not]
  have hl := h.2
  refine ⟨fun hlt => ?_, fun hlt => ?_⟩
  · obtain ⟨b, o, hp, hr⟩ := h.at (i := k.toNat) (by omega)
    exact ⟨b, o, hp, hk, hlt, _, rfl, hr, rfl, Upd.refl u⟩
  · refine ⟨?_, Upd.refl u⟩
    unfold numP
    rw [show l.getD k.toNat 0 = 0 by rw [List.getD_eq_getElem?_getD, List.getElem?_eq_none (by omega)]; rfl]

theorem cut_ptr {c b o k : Nat} (h : c ≠ k) : (if c = k then some (Addr.mk b o none) else Option.map (fun a => Addr.add a (k * 4)) (some ⟨b, o, none⟩)) = some ⟨b, o + k * 4, none⟩ := by rw [if_neg h, map_add]

theorem erase_ok {u : World} {gb : Nat} {g : Gr} {b c : Nat} (h : GB u gb g b c) (hg : GoodG g) {how a fr to : Int} (h0 : 0 ≤ fr) (h1 : fr ≤ a) (h2 : a < to) (h3 : to ≤ (g.cells.length : Nat)) :
    Spec Tryd.prog fn_grid_erase #[.pointer (some ⟨gb, 0, none⟩), .int .i64 how, .int .i64 a, .int .i64 fr, .int .i64 to] u (GDone u gb b c (eraseG g how a fr to)) := by
  apply vc_grid_erase_spec
  unfold vc_grid_erase
  simp only [decide_eq_true_eq, decide_eq_false_iff_not]
  have hc := h.own.le
  have hfew := few_cells hg
  have wipe : ∀ i j : Int, 0 ≤ i → i < j → j ≤ (g.cells.length : Nat) → Spec Tryd.prog fn_grid_wipe #[.slice (if c = i.toNat then some (Addr.mk b 0 none) else Option.map (fun a => Addr.add a (i.toNat * 4)) (some ⟨b, 0, none⟩)) (j.toNat - i.toNat) (c - i.toNat)] u
      (fun e u' => e = .returned (.tuple #[]) ∧ GDone u gb b c { g with cells := eraseC i.toNat j.toNat g.cells } (.returned (.tuple #[])) u') := fun i j hi hj hl => by
    rw [cut_ptr (by omega)]
    refine (wipe_ok h.own (by omega) (i := i.toNat) (n := j.toNat - i.toNat) (by omega)).mono fun e u1 ⟨he, ho, hu1⟩ => ⟨he, rfl, ?_, UB.cells hu1⟩
    rw [show i.toNat + (j.toNat - i.toNat) = j.toNat by omega] at ho
    exact h.back hu1 ho (eraseC_len _ _ _)
  unfold eraseG
  refine ⟨fun e0 => ⟨_, _, _, rfl, h.rdCells (Upd.refl u), by omega, by omega, by omega, ?_⟩, fun e0 => ⟨fun e1 => ⟨_, _, _, rfl, h.rdCells (Upd.refl u), by simp only [inK]; omega, h0, by omega, by omega, ?_⟩, fun e1 => ⟨fun e2 => ⟨_, _, _, rfl, h.rdCells (Upd.refl u), h0, by omega, by omega, ?_⟩, fun e2 => ?_⟩⟩⟩
  · rw [if_pos e0]
    exact wipe a to (by omega) h2 h3
  · rw [if_neg e0, if_pos e1]
    exact wipe fr (a + 1) h0 (by omega) (by omega)
  · rw [if_neg e0, if_neg e1, if_pos e2]
    exact wipe fr to h0 (by omega) h3
  · rw [if_neg e0, if_neg e1, if_neg e2]
    exact ⟨rfl, h, Upd.refl u⟩

theorem gink_ok {u : World} {gb : Nat} {g : Gr} {b c : Nat} (h : GB u gb g b c) {n : Int} :
    Spec Tryd.prog fn_grid_ink #[.pointer (some ⟨gb, 0, none⟩), .int .i64 n] u (GDone u gb b c (inkG g n)) := by
  apply vc_grid_ink_spec
  unfold vc_grid_ink
  simp only [decide_eq_true_eq, decide_eq_false_iff_not]
  have r := Upd.refl (S := UB gb b) u
  unfold inkG
  refine ⟨fun e0 => ?_, fun e0 => ⟨fun e1 => ?_, fun e1 => ⟨fun e2 => ?_, fun e2 => ⟨fun e3 => ⟨fun e4 => ?_, fun e4 => ⟨fun e5 => ?_, fun e5 => ?_⟩⟩, fun e3 => ⟨fun e5 => ?_, fun e5 => ?_⟩⟩⟩⟩⟩
  · rw [if_pos e0]
    have hp := h.put (g' := { g with ink := 0 }) (o := 0 + 5) (ys := [.int .i64 0]) rfl rfl
    exact ⟨rfl, h.wr (by omega), rfl, hp.wr (by omega), rfl, hp.put (g' := { g with ink := 0, bold := false }) rfl rfl, UB.putS (UB.putS r _ _) _ _⟩
  · rw [if_neg e0, if_pos e1]
    exact ⟨rfl, h.wr (by omega), rfl, h.put (g' := { g with bold := true }) rfl rfl, UB.putS r _ _⟩
  · rw [if_neg e0, if_neg e1, if_pos e2]
    exact ⟨rfl, h.wr (by omega), rfl, h.put (g' := { g with bold := false }) rfl rfl, UB.putS r _ _⟩
  · rw [if_neg e0, if_neg e1, if_neg e2, if_pos ⟨e3, e4⟩]
    exact ⟨by simp only [inK]; omega, rfl, h.wr (by omega), rfl, h.put (g' := { g with ink := n - 29 }) rfl rfl, UB.putS r _ _⟩
  · rw [if_neg e0, if_neg e1, if_neg e2, if_neg (by omega), if_pos e5]
    exact ⟨rfl, h.wr (by omega), rfl, h.put (g' := { g with ink := 0 }) rfl rfl, UB.putS r _ _⟩
  · rw [if_neg e0, if_neg e1, if_neg e2, if_neg (by omega), if_neg e5]
    exact ⟨rfl, h, r⟩
  · rw [if_neg e0, if_neg e1, if_neg e2, if_neg (by omega), if_pos e5]
    exact ⟨rfl, h.wr (by omega), rfl, h.put (g' := { g with ink := 0 }) rfl rfl, UB.putS r _ _⟩
  · rw [if_neg e0, if_neg e1, if_neg e2, if_neg (by omega), if_neg e5]
    exact ⟨rfl, h, r⟩

end Go.Proofs.YtkmmphkjmamckacDoor
