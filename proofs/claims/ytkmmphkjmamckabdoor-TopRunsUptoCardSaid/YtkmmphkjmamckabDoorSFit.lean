/-
  Each pane's screen has the sides of its place.
-/
import Derived.Test.YtkmmphkjmamckabDoorZS
import Derived.Test.YtkmmphkjmamckabDoorGWalk6
import Derived.Test.YtkmmphkjmamckabDoorTKill
import Derived.Test.YtkmmphkjmamckabDoorZVd
namespace Go.Proofs.YtkmmphkjmamckabDoor
open Go
set_option linter.all false

theorem map_set {α : Type} {f g : Nat → α} {n x : Nat} (hx : x < n) (hfg : ∀ j, j ≠ x → f j = g j) {v : α} (hv : g x = v) : ((List.range n).map f).set x v = (List.range n).map g := by
  refine List.ext_getElem (by simp) fun j h1 h2 => ?_
  rw [List.getElem_set]
  split
  · next e => subst e; simp [hv]
  · next e => simp [hfg j (fun h => e h.symm)]

theorem map_getD {α : Type} {l : List α} {n : Nat} (hl : l.length = n) (d : α) : (List.range n).map (fun i => l.getD i d) = l := by
  refine List.ext_getElem (by simp [hl]) fun j h1 h2 => ?_
  simp [List.getD_eq_getElem?_getD, h2]

/-- So many panes have been seen to. -/
def fitX (s : Sv) (x : Nat) : Sv := { s with v := { s.v with grids := (List.range 6).map fun p => if p < x then fitG s.v.cols s.v.wide s.v.high p (gridOf s.v p) else gridOf s.v p }, parsers := (List.range 6).map fun p : Nat => if p < x then (if hasT s.v.cols p = true then parserOf s p else .zero) else parserOf s p }

theorem fitX_zero {s : Sv} (hg : s.v.grids.length = 6) (hp : s.parsers.length = 6) : fitX s 0 = s := by
  unfold fitX
  simp only [Nat.not_lt_zero, if_false]
  have e1 := map_getD hg Gr.zero
  have e2 := map_getD hp Pr.zero
  show ({ s with v := { s.v with grids := (List.range 6).map fun i => s.v.grids.getD i .zero }, parsers := (List.range 6).map fun i => s.parsers.getD i .zero } : Sv) = s
  rw [e1, e2]

theorem fitX_six (s : Sv) : fitX s 6 = fitS s := by
  have e1 : ((List.range 6).map fun p : Nat => if p < 6 then fitG s.v.cols s.v.wide s.v.high p (gridOf s.v p) else gridOf s.v p) = fitGrids s.v := List.map_congr_left fun j hj => if_pos (List.mem_range.1 hj)
  have e2 : ((List.range 6).map fun p : Nat => if p < 6 then (if hasT s.v.cols p = true then parserOf s p else Pr.zero) else parserOf s p) = fitParsers s.v.cols s.parsers := List.map_congr_left fun j hj => if_pos (List.mem_range.1 hj)
  unfold fitX fitS
  rw [e1, e2]

theorem fitX_no {s : Sv} {x : Nat} (hx : x < 6) (h : hasT s.v.cols (x : Nat) = false) : ({ fitX s x with v := { (fitX s x).v with grids := (fitX s x).v.grids.set x .zero }, parsers := (fitX s x).parsers.set x .zero } : Sv) = fitX s (x + 1) := by
  have e1 : ((List.range 6).map fun p : Nat => if p < x then fitG s.v.cols s.v.wide s.v.high p (gridOf s.v p) else gridOf s.v p).set x .zero = (List.range 6).map fun p : Nat => if p < x + 1 then fitG s.v.cols s.v.wide s.v.high p (gridOf s.v p) else gridOf s.v p := by
    refine map_set hx (fun j hj => ?_) ?_
    · by_cases h7 : j < x
      · rw [if_pos h7, if_pos (show j < x + 1 by omega)]
      · rw [if_neg h7, if_neg (by omega)]
    · rw [if_pos (by omega)]
      unfold fitG
      rw [if_pos h]
  have e2 : ((List.range 6).map fun p : Nat => if p < x then (if hasT s.v.cols p = true then parserOf s p else Pr.zero) else parserOf s p).set x .zero = (List.range 6).map fun p : Nat => if p < x + 1 then (if hasT s.v.cols p = true then parserOf s p else Pr.zero) else parserOf s p := by
    refine map_set hx (fun j hj => ?_) ?_
    · by_cases h7 : j < x
      · rw [if_pos h7, if_pos (show j < x + 1 by omega)]
      · rw [if_neg h7, if_neg (by omega)]
    · rw [if_pos (by omega), if_neg (by rw [h]; simp)]
  unfold fitX
  dsimp only
  rw [e1, e2]

theorem fitX_yes {s : Sv} {x : Nat} (hx : x < 6) (h : hasT s.v.cols (x : Nat) = true) {g : Gr} (hg : fitG s.v.cols s.v.wide s.v.high x (gridOf s.v x) = g) : ({ fitX s x with v := { (fitX s x).v with grids := (fitX s x).v.grids.set x g } } : Sv) = fitX s (x + 1) := by
  have e1 : ((List.range 6).map fun p : Nat => if p < x then fitG s.v.cols s.v.wide s.v.high p (gridOf s.v p) else gridOf s.v p).set x g = (List.range 6).map fun p : Nat => if p < x + 1 then fitG s.v.cols s.v.wide s.v.high p (gridOf s.v p) else gridOf s.v p := by
    refine map_set hx (fun j hj => ?_) ?_
    · by_cases h7 : j < x
      · rw [if_pos h7, if_pos (show j < x + 1 by omega)]
      · rw [if_neg h7, if_neg (by omega)]
    · rw [if_pos (by omega)]
      exact hg
  have e2 : ((List.range 6).map fun p : Nat => if p < x then (if hasT s.v.cols p = true then parserOf s p else Pr.zero) else parserOf s p) = (List.range 6).map fun p : Nat => if p < x + 1 then (if hasT s.v.cols p = true then parserOf s p else Pr.zero) else parserOf s p := by
    refine List.map_congr_left fun j hj => ?_
    by_cases e : j = x
    · subst e
      rw [if_neg (by omega), if_pos (by omega), if_pos h]
    · by_cases h7 : j < x
      · rw [if_pos h7, if_pos (show j < x + 1 by omega)]
      · rw [if_neg h7, if_neg (by omega)]
  unfold fitX
  dsimp only
  rw [e1, e2]

theorem lenX {s : Sv} {x : Nat} : (fitX s x).v.grids.length = 6 := by simp [fitX]
theorem lenPX {s : Sv} {x : Nat} : (fitX s x).parsers.length = 6 := by simp [fitX]
theorem gridX {s : Sv} {x i : Nat} (h : ¬ i < x) (hi : i < 6) : gridOf (fitX s x).v i = gridOf s.v i := by
  unfold gridOf fitX
  simp [List.getD_eq_getElem?_getD, hi, h]

theorem resize_zero {g : Gr} (h : GoodG g) (w hi : Int) : (resizeG g w hi).2 = 0 := by
  unfold resizeG
  rw [if_neg (by rw [goodG_iff.2 h]; simp)]

set_option maxHeartbeats 2000000 in
theorem sfit_ok {u : World} {sb : Nat} {B : Nat → Prop} {s : Sv} (h : SvM u sb B s) (few : FewT 10000000 s.v.cols) (hgl : s.v.grids.length = 6) (hpl : s.parsers.length = 6) (hgr : ∀ i, i < 6 → GoodG (gridOf s.v i) ∨ gridOf s.v i = .zero) :
    Spec Tryd.prog fn_server_Server_fit #[.pointer (some ⟨sb, 0, none⟩)] u fun e u' => e = .returned (.tuple #[]) ∧ SvM u' sb B (fitS s) ∧ Upd (· = sb) u u' := by
  apply vc_server_Server_fit_spec
  unfold vc_server_Server_fit
  simp only [decide_eq_true_eq, decide_eq_false_iff_not, true_and, Bool.not_eq_true', Bool.not_eq_false']
  refine ⟨fun x v => SvM v sb B (fitX s x.toNat) ∧ 0 ≤ x ∧ x ≤ 6 ∧ Upd (· = sb) u v, fun x _ => (6 - x).toNat, ⟨by rw [show (0 : Int).toNat = 0 from rfl, fitX_zero hgl hpl]; exact h, by omega, by omega, Upd.refl _⟩, ?_⟩
  rintro x v ⟨hp, h0, h6, hv⟩
  refine ⟨fun hx => ?_, fun hx => ?_⟩
  rotate_left 1
  · have : x.toNat = 6 := by omega
    rw [this, fitX_six] at hp
    exact ⟨hp, hv⟩
  have hx6 : x.toNat < 6 := by omega
  have hx1 : (x + 1).toNat = x.toNat + 1 := by omega
  have ho : 0 + 0 + 1 + x.toNat * 9 = 1 + x.toNat * 9 := by omega
  obtain ⟨cs, hc, hrd⟩ := hp.rd
  obtain ⟨tp, tc, kt, TF⟩ := hc.tiles
  have TF : TlF v (fun k => ¬ B k) tp s.v.cols := TF
  have kt : takeN cs 0 1 = some [.slice tp s.v.cols.length tc] := kt
  have hxc : ((x.toNat : Nat) : Int) = x := by omega
  refine ⟨tp, _, tc, rfl, hrd kt, (has_ok TF.tl tc x few).mono fun e v1 ⟨he, hv1⟩ => ⟨_, he, fun hno => ?_, fun hhas => ?_⟩⟩
  · have hd : Ext v (drewW v1) := hv1.drew
    have hno' : hasT s.v.cols (x.toNat : Nat) = false := by rw [hxc]; exact hno
    obtain ⟨k1, k2⟩ := (hp.ext hd).setGrid lenX hx6 (g := .zero) (x := [.int .i64 0, .int .i64 0, .slice none 0 0, .int .i64 0, .int .i64 0, .int .i64 0, .bool false, .int .i64 0, .int .i64 0]) ⟨⟨none, 0, rfl, Cells.nil _, fun _ k hk => (at_none hk).elim, Nat.le_refl _⟩, by decide⟩ ho
    obtain ⟨m1, m2⟩ := k2.setParser lenPX hx6 (r := .zero) (x := [.int .i64 0, .slice none 0 0, .string (ByteArray.mk #[]), .bool false]) ⟨⟨none, 0, 0, rfl, ⟨rfl, rfl⟩, fun _ k hk => (at_none hk).elim⟩⟩ (o := 0 + 58 + x.toNat * 4) (by omega)
    refine ⟨by omega, by omega, rfl, k1, by omega, by omega, rfl, m1, by simp only [inK]; omega, ⟨?_, by omega, by omega, ((hv.ext hd).put (fun _ => rfl) _ _).put (fun _ => rfl) _ _⟩, by first | omega | (dsimp only; omega)⟩
    rw [hx1, ← fitX_no hx6 hno']
    exact m2
  have hhas' : hasT s.v.cols (x.toNat : Nat) = true := by rw [hxc]; exact hhas
  have hd : Ext v (drewW v1) := hv1.drew
  have hr := fun {w : World} (hw : Ext v w) => (hp.ext hw).rd
  have rd : ∀ {w : World}, Ext v w → Rd w sb (0 + 0 + 0) [.slice tp s.v.cols.length tc] ∧ Rd w sb (0 + 0 + 55) [.int .i64 s.v.wide] ∧ Rd w sb (0 + 0 + 56) [.int .i64 s.v.high] := fun hw => ⟨hw.rd (hrd kt) fun h => h, hw.rd (hrd hc.wide) fun h => h, hw.rd (hrd hc.high) fun h => h⟩
  obtain ⟨r1, r2, r3⟩ := rd hd
  have heqs : True ∨ ((x.toNat : Nat) : Int) = x := .inl trivial
  refine ⟨tp, _, tc, rfl, r1, _, rfl, r2, _, rfl, r3, ⟨?_, ?_⟩⟩
  · refine (where_ok (TF.tl.ext hd) tc s.v.wide s.v.high x few).mono fun e w1 ⟨he, hw1⟩ => ?_
    have hWv1 : Ext v (allocW w1 hole) := (hd.ext hw1).alloc _
    obtain ⟨q1, q2, q3⟩ := rd hWv1
    refine ⟨_, _, _, _, he, q3, q2, q1, by omega, by omega, ?_⟩
    have hWv : Ext v (drewW (allocW w1 hole)) := hWv1.drew
    have SW : SvM (drewW (allocW w1 hole)) sb B (fitX s x.toNat) := hp.ext hWv
    obtain ⟨cs2, hc2, hrd2⟩ := SW.rd
    obtain ⟨y, ky, GA⟩ := hc2.grid x.toNat hx6
    rw [gridX (Nat.lt_irrefl _) hx6] at GA
    obtain ⟨⟨gp, gc, rfl, gC, gk, gcap⟩, gfew⟩ := GA
    have ky' := hrd2 ky
    rw [← ho] at ky'
    refine ⟨_, _, _, _, _, _, _, _, _, _, _, rfl, ky', ?_⟩
    have eqs := fun g' => @fitX_yes s x.toNat hx6 hhas' g'
    rw [← hx1] at eqs
    have store : ∀ {w : World} {g' : Gr} {p' : Option Addr} {c' : Nat}, Ext (drewW (allocW w1 hole)) w → fitG s.v.cols s.v.wide s.v.high x.toNat (gridOf s.v x.toNat) = g' → Cells w p' g'.cells → (0 < g'.cells.length → ∀ k, At p' k → ¬ B k) → g'.cells.length ≤ c' → g'.cells.length ≤ 1000 →
        Wr w sb (0 + 0 + 1 + x.toNat * 9) 9 ∧ inK .i64 (x + 1) ∧ (SvM (putCells w sb (0 + 0 + 1 + x.toNat * 9) (grV g' p' g'.cells.length c')) sb B (fitX s (x + 1).toNat) ∧ 0 ≤ x + 1 ∧ x + 1 ≤ 6 ∧ Upd (· = sb) u (putCells w sb (0 + 0 + 1 + x.toNat * 9) (grV g' p' g'.cells.length c'))) ∧ (6 - (x + 1)).toNat < (6 - x).toNat := fun {w g' p' c'} hw hg' hC hk hc hf => by
      obtain ⟨k1, k2⟩ := (SW.ext hw).setGrid lenX hx6 (g := g') ⟨⟨p', c', rfl, hC, hk, hc⟩, hf⟩ ho
      rw [eqs g' hg'] at k2
      exact ⟨k1, by simp only [inK]; omega, ⟨k2, by omega, by omega, ((hv.trans (hWv.any (S := (· = sb))) fun _ _ h => h).trans (hw.any (S := (· = sb))) fun _ _ h => h).put (fun _ => rfl) _ _⟩, by omega⟩
    have hal : Ext (drewW (allocW w1 hole)) (allocW (drewW (allocW w1 hole)) hole) := (Upd.refl _).alloc _
    have ff := hgr x.toNat hx6
    refine ⟨fun hz => ?_, fun hz => ⟨fun hne => ?_, fun heqw => ⟨fun hne => ?_, fun heqh => ?_⟩⟩⟩
    · refine (gnew_ok _ _).mono fun e w2 ⟨⟨nb, he, hco, hnb⟩, hw2⟩ => ⟨_, _, _, _, _, _, _, _, _, _, _, he, by omega, by omega, rfl, ?_⟩
      have hd2 : Ext w2 (drewW w2) := (Upd.refl _).drew
      refine store ((hal.ext hw2).ext hd2) ?_ (hco.ext hd2).cells (fun _ k hk => SW.new (by have := at_some hk; simp only at this; have := hal.size; omega)) (Nat.le_refl _) (by have := few_cells (new_ok' (max 1 (whereT s.v.cols s.v.wide s.v.high x).wide) (max 1 (whereT s.v.cols s.v.wide s.v.high x).high)); omega)
      unfold fitG
      rw [if_neg (by rw [hhas']; simp), hxc]
      exact if_pos hz
    · have gg : GoodG (gridOf s.v x.toNat) := ff.resolve_right fun h0 => hz (by rw [h0])
      refine (gresize_ok (gC.ext hal) gcap (by omega) _ _).mono fun e w2 ⟨⟨p2, c2, he, hC2, hf2, hk2⟩, hw2⟩ => ⟨_, _, _, _, _, _, _, _, _, _, _, _, he, by omega, by omega, rfl, ?_⟩
      have h0 := resize_zero gg (max 1 (whereT s.v.cols s.v.wide s.v.high x).wide) (max 1 (whereT s.v.cols s.v.wide s.v.high x).high)
      have hd2 : Ext w2 (drewW w2) := (Upd.refl _).drew
      refine store ((hal.ext hw2).ext hd2) ?_ (hC2.ext hd2) (fun _ k hk => SW.new (by have := (hk2 h0).2 k hk; have := hal.size; omega)) (hk2 h0).1 (by have := hf2 h0; omega)
      unfold fitG
      rw [if_neg (by rw [hhas']; simp), hxc]
      simp only
      rw [if_neg hz, if_pos (.inl hne)]
    · have gg : GoodG (gridOf s.v x.toNat) := ff.resolve_right fun h0 => hz (by rw [h0])
      refine (gresize_ok (gC.ext hal) gcap (by omega) _ _).mono fun e w2 ⟨⟨p2, c2, he, hC2, hf2, hk2⟩, hw2⟩ => ⟨_, _, _, _, _, _, _, _, _, _, _, _, he, by omega, by omega, rfl, ?_⟩
      have h0 := resize_zero gg (max 1 (whereT s.v.cols s.v.wide s.v.high x).wide) (max 1 (whereT s.v.cols s.v.wide s.v.high x).high)
      have hd2 : Ext w2 (drewW w2) := (Upd.refl _).drew
      refine store ((hal.ext hw2).ext hd2) ?_ (hC2.ext hd2) (fun _ k hk => SW.new (by have := (hk2 h0).2 k hk; have := hal.size; omega)) (hk2 h0).1 (by have := hf2 h0; omega)
      unfold fitG
      rw [if_neg (by rw [hhas']; simp), hxc]
      simp only
      rw [if_neg hz, if_pos (.inr hne)]
    · have hd2 : Ext (allocW (drewW (allocW w1 hole)) hole) (drewW (allocW (drewW (allocW w1 hole)) hole)) := (Upd.refl _).drew
      refine ⟨by omega, by omega, rfl, store (hal.ext hd2) ?_ (gC.ext (hal.ext hd2)) gk gcap gfew⟩
      unfold fitG
      rw [if_neg (by rw [hhas']; simp), hxc]
      simp only
      rw [if_neg hz, if_neg (fun hh => hh.elim (fun h7 => h7 heqw) fun h7 => h7 heqh)]
  · have ha : Ext v (allocW (drewW v1) hole) := hd.alloc _
    obtain ⟨q1, q2, q3⟩ := rd ha
    refine ⟨q3, q2, q1, (where_ok (TF.tl.ext ha) tc s.v.wide s.v.high x few).mono fun e w1 ⟨he, hw1⟩ => ⟨_, _, _, _, he, by omega, by omega, ?_⟩⟩
    have hWv : Ext v (drewW w1) := (ha.ext hw1).drew
    have SW : SvM (drewW w1) sb B (fitX s x.toNat) := hp.ext hWv
    obtain ⟨cs2, hc2, hrd2⟩ := SW.rd
    obtain ⟨y, ky, GA⟩ := hc2.grid x.toNat hx6
    rw [gridX (Nat.lt_irrefl _) hx6] at GA
    obtain ⟨⟨gp, gc, rfl, gC, gk, gcap⟩, gfew⟩ := GA
    have ky' := hrd2 ky
    rw [← ho] at ky'
    refine ⟨_, _, _, _, _, _, _, _, _, _, _, rfl, ky', ?_⟩
    have eqs := fun g' => @fitX_yes s x.toNat hx6 hhas' g'
    rw [← hx1] at eqs
    have store : ∀ {w : World} {g' : Gr} {p' : Option Addr} {c' : Nat}, Ext (drewW w1) w → fitG s.v.cols s.v.wide s.v.high x.toNat (gridOf s.v x.toNat) = g' → Cells w p' g'.cells → (0 < g'.cells.length → ∀ k, At p' k → ¬ B k) → g'.cells.length ≤ c' → g'.cells.length ≤ 1000 →
        Wr w sb (0 + 0 + 1 + x.toNat * 9) 9 ∧ inK .i64 (x + 1) ∧ (SvM (putCells w sb (0 + 0 + 1 + x.toNat * 9) (grV g' p' g'.cells.length c')) sb B (fitX s (x + 1).toNat) ∧ 0 ≤ x + 1 ∧ x + 1 ≤ 6 ∧ Upd (· = sb) u (putCells w sb (0 + 0 + 1 + x.toNat * 9) (grV g' p' g'.cells.length c'))) ∧ (6 - (x + 1)).toNat < (6 - x).toNat := fun {w g' p' c'} hw hg' hC hk hc hf => by
      obtain ⟨k1, k2⟩ := (SW.ext hw).setGrid lenX hx6 (g := g') ⟨⟨p', c', rfl, hC, hk, hc⟩, hf⟩ ho
      rw [eqs g' hg'] at k2
      exact ⟨k1, by simp only [inK]; omega, ⟨k2, by omega, by omega, ((hv.trans (hWv.any (S := (· = sb))) fun _ _ h => h).trans (hw.any (S := (· = sb))) fun _ _ h => h).put (fun _ => rfl) _ _⟩, by omega⟩
    have hal : Ext (drewW w1) (allocW (drewW w1) hole) := (Upd.refl _).alloc _
    have ff := hgr x.toNat hx6
    refine ⟨fun hz => ?_, fun hz => ⟨fun hne => ?_, fun heqw => ⟨fun hne => ?_, fun heqh => ?_⟩⟩⟩
    · refine (gnew_ok _ _).mono fun e w2 ⟨⟨nb, he, hco, hnb⟩, hw2⟩ => ⟨_, _, _, _, _, _, _, _, _, _, _, he, by omega, by omega, rfl, ?_⟩
      have hd2 : Ext w2 (drewW w2) := (Upd.refl _).drew
      refine store ((hal.ext hw2).ext hd2) ?_ (hco.ext hd2).cells (fun _ k hk => SW.new (by have := at_some hk; simp only at this; have := hal.size; omega)) (Nat.le_refl _) (by have := few_cells (new_ok' (max 1 (whereT s.v.cols s.v.wide s.v.high x).wide) (max 1 (whereT s.v.cols s.v.wide s.v.high x).high)); omega)
      unfold fitG
      rw [if_neg (by rw [hhas']; simp), hxc]
      exact if_pos hz
    · have gg : GoodG (gridOf s.v x.toNat) := ff.resolve_right fun h0 => hz (by rw [h0])
      refine (gresize_ok (gC.ext hal) gcap (by omega) _ _).mono fun e w2 ⟨⟨p2, c2, he, hC2, hf2, hk2⟩, hw2⟩ => ⟨_, _, _, _, _, _, _, _, _, _, _, _, he, by omega, by omega, rfl, ?_⟩
      have h0 := resize_zero gg (max 1 (whereT s.v.cols s.v.wide s.v.high x).wide) (max 1 (whereT s.v.cols s.v.wide s.v.high x).high)
      have hd2 : Ext w2 (drewW w2) := (Upd.refl _).drew
      refine store ((hal.ext hw2).ext hd2) ?_ (hC2.ext hd2) (fun _ k hk => SW.new (by have := (hk2 h0).2 k hk; have := hal.size; omega)) (hk2 h0).1 (by have := hf2 h0; omega)
      unfold fitG
      rw [if_neg (by rw [hhas']; simp), hxc]
      simp only
      rw [if_neg hz, if_pos (.inl hne)]
    · have gg : GoodG (gridOf s.v x.toNat) := ff.resolve_right fun h0 => hz (by rw [h0])
      refine (gresize_ok (gC.ext hal) gcap (by omega) _ _).mono fun e w2 ⟨⟨p2, c2, he, hC2, hf2, hk2⟩, hw2⟩ => ⟨_, _, _, _, _, _, _, _, _, _, _, _, he, by omega, by omega, rfl, ?_⟩
      have h0 := resize_zero gg (max 1 (whereT s.v.cols s.v.wide s.v.high x).wide) (max 1 (whereT s.v.cols s.v.wide s.v.high x).high)
      have hd2 : Ext w2 (drewW w2) := (Upd.refl _).drew
      refine store ((hal.ext hw2).ext hd2) ?_ (hC2.ext hd2) (fun _ k hk => SW.new (by have := (hk2 h0).2 k hk; have := hal.size; omega)) (hk2 h0).1 (by have := hf2 h0; omega)
      unfold fitG
      rw [if_neg (by rw [hhas']; simp), hxc]
      simp only
      rw [if_neg hz, if_pos (.inr hne)]
    · have hd2 : Ext (allocW (drewW w1) hole) (drewW (allocW (drewW w1) hole)) := (Upd.refl _).drew
      refine ⟨by omega, by omega, rfl, store (hal.ext hd2) ?_ (gC.ext (hal.ext hd2)) gk gcap gfew⟩
      unfold fitG
      rw [if_neg (by rw [hhas']; simp), hxc]
      simp only
      rw [if_neg hz, if_neg (fun hh => hh.elim (fun h7 => h7 heqw) fun h7 => h7 heqh)]

end Go.Proofs.YtkmmphkjmamckabDoor
