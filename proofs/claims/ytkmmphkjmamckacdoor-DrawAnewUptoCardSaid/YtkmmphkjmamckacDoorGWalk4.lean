/-
  The screen's functions, on: a command, a picture, an event.
-/
import Derived.Test.YtkmmphkjmamckacDoorGWalk3
namespace Go.Proofs.YtkmmphkjmamckacDoor
open Go
set_option linter.all false

theorem inks_last (g : Gr) {l : List Int} {i : Nat} (h : i < l.length) : (l.take (i + 1)).foldl inkG g = inkG ((l.take i).foldl inkG g) (l.getD i 0) := by
  have e : l.take (i + 1) = l.take i ++ [l.getD i 0] := by
    rw [List.take_succ, List.getElem?_eq_getElem h]
    simp [List.getD_eq_getElem?_getD, List.getElem?_eq_getElem h]
  rw [e, List.foldl_append]
  rfl

theorem rollG_more {g : Gr} (hg : GoodG g) {fr to m n : Int} (h0 : 0 ≤ to) (h1 : to ≤ g.high) (h : (0 ≤ m ∧ 0 ≤ n) ∨ (m ≤ 0 ∧ n ≤ 0)) : rollG (rollG g fr to n) fr to m = rollG g fr to (m + n) := by
  have f := row_facts hg h0 h1
  unfold rollG
  dsimp only
  rw [roll_roll (by have := hg.w1; omega) (by rw [← f.2.2.2]; omega) h]

theorem rollG_zero (g : Gr) (fr to : Int) : rollG g fr to 0 = g := by
  unfold rollG
  rw [roll_zero]

theorem gcommand_ok {u : World} {gb : Nat} {g : Gr} {b c : Nat} (h : GB u gb g b c) (hg : GoodG g) {ch : Int} {p : Option Addr} {n cc : Nat} {l : List Int} (hl : Nums u p n l) (hp : n ≠ 0 → ∀ k, At p k → ¬ UB gb b k) (hn : n ≤ 100000000) :
    Spec Tryd.prog fn_grid_command #[.pointer (some ⟨gb, 0, none⟩), .int .i64 ch, .slice p n cc] u (GDone u gb b c (commandG g ch l)) := by
  apply vc_grid_command_spec
  unfold vc_grid_command
  simp only [decide_eq_true_eq, decide_eq_false_iff_not]
  refine (number_ok (c := cc) hl (k := 0) (by decide) 1).mono fun e u1 ⟨he, hu1⟩ => ⟨_, he, ?_⟩
  have hw1 := hg.w1
  have hw2 := hg.w2
  have hh1 := hg.h1
  have hh2 := hg.h2
  have hr1 := hg.r1
  have hr2 := hg.r2
  have hc1 := hg.c1
  have hc2 := hg.c2
  have ht1 := hg.t1
  have ht2 := hg.t2
  have hb2 := hg.b2
  have X := h.ext hu1
  have hl1 := hl.ext hu1
  have hd : Ext u1 (drewW u1) := (Upd.refl u1).drew
  have hud := hu1.ext hd
  have Y := X.ext hd
  have R : Upd (UB gb b) u u1 := hu1.any
  have Rd' : Upd (UB gb b) u (drewW u1) := hud.any
  have hnum : 1 ≤ numP l 0 1 ∧ numP l 0 1 ≤ 999 := by unfold numP; omega
  have r0 := row_facts hg hr1 (by omega)
  have r1 := row_facts hg (r := g.row + 1) (by omega) (by omega)
  have e1 := succ_mul' g.row g.wide
  have hfew := few_cells hg
  have hN : ∀ k : Int, 0 ≤ k → ∀ least, numP l k.toNat least = numP l k.toNat least := fun _ _ _ => rfl
  unfold commandG
  dsimp only
  show _ ∧ _
  rw [show (0 : Int).toNat = 0 from rfl]
  generalize hN0 : numP l 0 1 = N at hnum
  refine ⟨fun hc => ?_, fun hc => ?_⟩
  · rw [if_pos hc]
    exact ⟨_, rfl, h.rdRow hu1, by simp only [inK]; omega, rfl, X.wr (by omega), rfl, X.put (g' := { g with row := max 0 (g.row - N) }) rfl rfl, UB.putS R _ _⟩
  rw [if_neg hc]
  clear hc
  refine ⟨fun hc => ?_, fun hc => ?_⟩
  · rw [if_pos hc]
    exact ⟨_, rfl, h.rdHigh hud, by simp only [inK]; omega, _, rfl, h.rdRow hud, by simp only [inK]; omega, rfl, Y.wr (by omega), rfl, Y.put (g' := { g with row := min (g.high - 1) (g.row + N) }) rfl rfl, UB.putS Rd' _ _⟩
  rw [if_neg hc]
  clear hc
  refine ⟨fun hc => ?_, fun hc => ?_⟩
  · rw [if_pos hc]
    exact ⟨_, rfl, h.rdWide hud, by simp only [inK]; omega, _, rfl, h.rdCol hud, by simp only [inK]; omega, rfl, Y.wr (by omega), rfl, Y.put (g' := { g with col := min (g.wide - 1) (g.col + N) }) rfl rfl, UB.putS Rd' _ _⟩
  rw [if_neg hc]
  clear hc
  refine ⟨fun hc => ?_, fun hc => ?_⟩
  · rw [if_pos hc]
    exact ⟨_, rfl, h.rdCol hud, _, rfl, h.rdWide hud, by simp only [inK]; omega, by simp only [inK]; omega, rfl, Y.wr (by omega), rfl, Y.put (g' := { g with col := max 0 (min g.col (g.wide - 1) - N) }) rfl rfl, UB.putS Rd' _ _⟩
  rw [if_neg hc]
  clear hc
  refine ⟨fun hc => ?_, fun hc => ?_⟩
  · rw [if_pos hc]
    refine ⟨_, rfl, h.rdHigh hud, by simp only [inK]; omega, _, rfl, h.rdWide hud, ?_⟩
    refine (number_ok (c := cc) (hl1.ext hd) (k := 1) (by decide) 1).mono fun e u2 ⟨he, hu2⟩ => ⟨_, he, h.rdWide (hud.ext hu2), h.rdHigh (hud.ext hu2), ?_⟩
    rw [show (1 : Int).toNat = 1 from rfl]
    have hm : 1 ≤ numP l 1 1 := by unfold numP; omega
    generalize numP l 1 1 = M at hm
    have Z := Y.ext hu2
    have Z1 := Z.put (g' := { g with row := min g.high N - 1 }) (o := 0 + 3) (ys := [.int .i64 (min g.high N - 1)]) rfl rfl
    exact ⟨by simp only [inK]; omega, rfl, Z.wr (by omega), rfl, Z1.wr (by omega), rfl, Z1.put (g' := { g with row := min g.high N - 1, col := min g.wide M - 1 }) rfl rfl, UB.putS (UB.putS (Rd'.ext hu2) _ _) _ _⟩
  rw [if_neg hc]
  clear hc
  refine ⟨fun hc => ?_, fun hc => ?_⟩
  · rw [if_pos hc]
    refine ⟨_, rfl, h.rdRow hud, _, rfl, h.rdWide hud, by simp only [inK]; omega, _, rfl, h.rdCol hud, _, rfl, h.rdWide hud, by simp only [inK]; omega, by simp only [inK]; omega, _, _, _, rfl, h.rdCells hud, ?_⟩
    refine (number_ok (c := cc) (hl1.ext hd) (k := 0) (by decide) 0).mono fun e u2 ⟨he, hu2⟩ => ⟨_, he, h.rdCells (hud.ext hu2), h.rdWide (hud.ext hu2), h.rdCol (hud.ext hu2), h.rdWide (hud.ext hu2), h.rdRow (hud.ext hu2), ?_⟩
    rw [show (0 : Int).toNat = 0 from rfl]
    exact (erase_ok (Y.ext hu2) hg (Int.le_refl 0) (by omega) (by omega) (Int.le_refl _)).mono fun e u3 ⟨he, Z, hu3⟩ => ⟨he, rfl, Z, UB.trans (Rd'.ext hu2) hu3⟩
  rw [if_neg hc]
  clear hc
  refine ⟨fun hc => ?_, fun hc => ?_⟩
  · rw [if_pos hc]
    refine ⟨_, rfl, h.rdRow hud, _, rfl, h.rdWide hud, by simp only [inK]; omega, _, rfl, h.rdCol hud, _, rfl, h.rdWide hud, by simp only [inK]; omega, by simp only [inK]; omega, _, rfl, h.rdRow hud, _, rfl, h.rdWide hud, by simp only [inK]; omega, _, rfl, h.rdRow hud, by simp only [inK]; omega, _, rfl, h.rdWide hud, by simp only [inK]; omega, ?_⟩
    refine (number_ok (c := cc) (hl1.ext hd) (k := 0) (by decide) 0).mono fun e u2 ⟨he, hu2⟩ => ⟨_, he, h.rdWide (hud.ext hu2), h.rdRow (hud.ext hu2), h.rdWide (hud.ext hu2), h.rdRow (hud.ext hu2), h.rdWide (hud.ext hu2), h.rdCol (hud.ext hu2), h.rdWide (hud.ext hu2), h.rdRow (hud.ext hu2), ?_⟩
    rw [show (0 : Int).toNat = 0 from rfl]
    exact (erase_ok (Y.ext hu2) hg (by omega) (by omega) (by omega) (by omega)).mono fun e u3 ⟨he, Z, hu3⟩ => ⟨he, rfl, Z, UB.trans (Rd'.ext hu2) hu3⟩
  rw [if_neg hc]
  clear hc
  refine ⟨fun h76 => ⟨fun _ => ?_, fun h => (h h76).elim⟩, fun h76 => ⟨fun h77 => ?_, fun h77 => ?_⟩⟩
  rotate_left 2
  · rw [if_neg (by omega)]
    refine ⟨fun hc => ?_, fun hc => ?_⟩
    · rw [if_pos hc]
      refine ⟨fun x u2 => GB u2 gb ((l.take x.toNat).foldl inkG g) b c ∧ Upd (UB gb b) u1 u2 ∧ 0 ≤ x ∧ x ≤ n, fun x _ => (n - x).toNat, ⟨X, Upd.refl _, by omega, by omega⟩, fun x u2 ⟨Z, hu2, h0, h1⟩ => ⟨fun hx => ?_, fun hx => ⟨rfl, ?_, UB.trans R hu2⟩⟩⟩
      · have hln := hl.2
        obtain ⟨b', o', hp', hr'⟩ := (hl1.upd hu2 (hp (by omega))).at (i := x.toNat) (by omega)
        refine ⟨b', o', hp', h0, hx, _, rfl, hr', ?_⟩
        refine (gink_ok Z).mono fun e u3 ⟨he, Z3, hu3⟩ => ⟨he, by simp only [inK]; omega, ⟨?_, UB.trans hu2 hu3, by omega, by omega⟩, by dsimp only; omega⟩
        rw [show (x + 1).toNat = x.toNat + 1 by omega, inks_last g (by omega)]
        exact Z3
      · rw [List.take_of_length_le (by have := hl.2; omega)] at Z
        exact Z
    rw [if_neg hc]
    clear hc
    refine ⟨fun hc => ?_, fun hc => ?_⟩
    · rw [if_pos hc]
      refine ⟨by simp only [inK]; omega, ?_⟩
      refine (number_ok (c := cc) hl1 (k := 1) (by decide) 0).mono fun e u2 ⟨he, hu2⟩ => ⟨_, he, ?_⟩
      rw [show (1 : Int).toNat = 1 from rfl]
      have hm : 0 ≤ numP l 1 0 ∧ numP l 1 0 ≤ 999 := by unfold numP; omega
      generalize numP l 1 0 = M at hm
      have Z := X.ext hu2
      have RZ : Upd (UB gb b) u u2 := R.ext hu2
      have hset : ∀ bot : Int, bot = (if M = 0 ∨ g.high < M then g.high else M) → (N - 1 < bot → 1 = ([.int .i64 (N - 1)] : List Value).length ∧ Wr u2 gb (0 + 7) 1 ∧ 1 = ([.int .i64 bot] : List Value).length ∧
          Wr (putCells u2 gb (0 + 7) ([.int .i64 (N - 1)])) gb (0 + 8) 1 ∧ 1 = ([.int .i64 0] : List Value).length ∧ Wr (putCells (putCells u2 gb (0 + 7) ([.int .i64 (N - 1)])) gb (0 + 8) ([.int .i64 bot])) gb (0 + 3) 1 ∧
          1 = ([.int .i64 0] : List Value).length ∧ Wr (putCells (putCells (putCells u2 gb (0 + 7) ([.int .i64 (N - 1)])) gb (0 + 8) ([.int .i64 bot])) gb (0 + 3) ([.int .i64 0])) gb (0 + 4) 1 ∧
          GDone u gb b c (regionG g (N - 1) M) (.returned (.tuple #[])) (putCells (putCells (putCells (putCells u2 gb (0 + 7) ([.int .i64 (N - 1)])) gb (0 + 8) ([.int .i64 bot])) gb (0 + 3) ([.int .i64 0])) gb (0 + 4) ([.int .i64 0]))) ∧
          (¬ N - 1 < bot → GDone u gb b c (regionG g (N - 1) M) (.returned (.tuple #[])) u2) := fun bot hbot => by
        have hreg : regionG g (N - 1) M = if N - 1 < bot then { g with top := N - 1, bottom := bot, row := 0, col := 0 } else g := by
          unfold regionG
          rw [hbot]
        rw [hreg]
        refine ⟨fun hlt => ?_, fun hlt => ?_⟩
        · rw [if_pos hlt]
          have Z1 := Z.put (g' := { g with top := N - 1 }) (o := 0 + 7) (ys := [.int .i64 (N - 1)]) rfl rfl
          have Z2 := Z1.put (g' := { g with top := N - 1, bottom := bot }) (o := 0 + 8) (ys := [.int .i64 bot]) rfl rfl
          have Z3 := Z2.put (g' := { g with top := N - 1, bottom := bot, row := 0 }) (o := 0 + 3) (ys := [.int .i64 0]) rfl rfl
          exact ⟨rfl, Z.wr (by omega), rfl, Z1.wr (by omega), rfl, Z2.wr (by omega), rfl, Z3.wr (by omega), rfl, Z3.put (g' := { g with top := N - 1, bottom := bot, row := 0, col := 0 }) rfl rfl, UB.putS (UB.putS (UB.putS (UB.putS RZ _ _) _ _) _ _) _ _⟩
        · rw [if_neg hlt]
          exact ⟨rfl, Z, RZ⟩
      refine ⟨fun x u3 => u3 = u2 ∧ (x = true ↔ M = 0 ∨ g.high < M), ⟨fun hM => ⟨rfl, by simp [hM]⟩, fun hM => ⟨_, rfl, h.rdHigh (hu1.ext hu2), rfl, by simp [hM]⟩⟩, fun x u3 ⟨hx3, hx⟩ => ?_⟩
      subst hx3
      refine ⟨fun hxt => ⟨_, rfl, h.rdHigh (hu1.ext hu2), ?_⟩, fun hxf => ?_⟩
      · exact hset g.high (by rw [if_pos (hx.1 hxt)])
      · exact hset M (by rw [if_neg (fun hh => by rw [hx.2 hh] at hxf; cases hxf)])
    · rw [if_neg hc]
      exact ⟨rfl, X, R⟩
  all_goals
    rw [if_pos (by omega)]
    refine ⟨_, rfl, h.rdRow hud, _, rfl, h.rdTop hud, fun ha => ⟨?_, ?_, Rd'⟩, fun ha => ⟨_, rfl, h.rdRow hud, _, rfl, h.rdBottom hud, fun hb => ⟨?_, ?_, Rd'⟩, fun hb => ?_⟩⟩
    · rfl
    · rw [if_pos (.inl ha)]; exact Y
    · rfl
    · rw [if_pos (.inr hb)]; exact Y
    rw [if_neg (by omega)]
    refine ⟨fun x u2 => GB u2 gb (rollG g g.row g.bottom (if ch = 76 then -x else x)) b c ∧ Upd (UB gb b) u u2 ∧ 0 ≤ x ∧ x ≤ min N 10, fun x _ => (min N 10 - x).toNat, ⟨?_, Rd', by omega, by omega⟩, fun x u2 ⟨Z, hu2, h0, h1⟩ => ⟨fun hx => ⟨fun hch => ?_, fun hch => ?_⟩, fun hx => ⟨rfl, Z.wr (by omega), rfl, ?_, UB.putS hu2 _ _⟩⟩⟩
    · have : rollG g g.row g.bottom (if ch = 76 then -0 else 0) = g := by split <;> exact rollG_zero _ _ _
      rw [this]
      exact Y
    · have hd2 : Ext u2 (drewW u2) := (Upd.refl u2).drew
      rw [if_pos hch] at Z
      have Zg := hg.roll g.row g.bottom (-x)
      refine ⟨_, rfl, Z.rdRow hd2, _, rfl, Z.rdBottom hd2, ?_⟩
      refine (down_ok (Z.ext hd2) Zg (fr := g.row) (to := g.bottom) hr1 (by omega) hb2).mono fun e u3 ⟨he, Z3, hu3⟩ => ⟨he, by simp only [inK]; omega, ⟨?_, UB.trans (hu2.ext hd2) (UB.cells hu3), by omega, by omega⟩, by dsimp only; omega⟩
      rw [if_pos hch]
      rw [rollG_more hg (by omega) hb2 (by omega), show -1 + -x = -(x + 1) by omega] at Z3
      exact Z3
    · have hd2 : Ext u2 (drewW u2) := (Upd.refl u2).drew
      rw [if_neg hch] at Z
      have Zg := hg.roll g.row g.bottom x
      refine ⟨_, rfl, Z.rdRow hd2, _, rfl, Z.rdBottom hd2, ?_⟩
      refine (up_ok (Z.ext hd2) Zg (fr := g.row) (to := g.bottom) hr1 (by omega) hb2).mono fun e u3 ⟨he, Z3, hu3⟩ => ⟨he, by simp only [inK]; omega, ⟨?_, UB.trans (hu2.ext hd2) (UB.cells hu3), by omega, by omega⟩, by dsimp only; omega⟩
      rw [if_neg hch]
      rw [rollG_more hg (by omega) hb2 (by omega), show 1 + x = x + 1 by omega] at Z3
      exact Z3
    · have hx' : x = min N 10 := by omega
      rw [hx'] at Z
      have hN' : (if ch = 76 then -min N 10 else min N 10) = (if ch = 76 then - min N 10 else min N 10) := rfl
      exact Z.put (g' := { rollG g g.row g.bottom (if ch = 76 then - min N 10 else min N 10) with col := 0 }) rfl rfl

end Go.Proofs.YtkmmphkjmamckacDoor
