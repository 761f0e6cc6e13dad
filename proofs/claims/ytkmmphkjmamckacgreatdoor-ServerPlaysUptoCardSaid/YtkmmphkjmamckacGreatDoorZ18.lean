/- Texts joined: GRef5, GSize, TIns. -/
import Derived.Test.YtkmmphkjmamckacGreatDoorZ17
import Derived.Lib.Overlaps
namespace Go.Proofs.YtkmmphkjmamckacGreatDoor
open Go
set_option linter.all false
structure Hr (u : World) (r : Gr × Int) (e : Ending) (u' : World) : Prop where
 ex : ∃ p c, e = .returned (.tuple #[GrV r.1 p r.1.cells.length c, .int .i64 r.2]) /\ Cells u' p r.1.cells
 ext : Ext u u'
structure yv (u : World) (r : Gr × Int) (e : Ending) (u' : World) : Prop where
 ex : ∃ p c, e = .returned (.tuple #[GrV r.1 p r.1.cells.length c, .int .i64 r.2]) /\ Cells u' p r.1.cells /\ (r.2 = 0 -> ∀ k, At p k -> u.heap.size <= k)
 ext : Ext u u'
theorem yv.post {u u' : World} {r : Gr × Int} {e : Ending} (h : yv u r e u') : Hr u r e u' := by
 obtain ⟨⟨p, c, h1, h2, _⟩, h3⟩ := h
 exact ⟨⟨p, c, h1, h2⟩, h3⟩
theorem E8 (g : Gr) : ba { g with col := 0 } = { ba g with col := 0 } := by
 unfold ba
 dsimp only
 by_cases h1 : g.row = g.aA - 1
 ·rw [if_pos h1, if_pos h1]; rfl
 ·rw [if_neg h1, if_neg h1]
  by_cases h2 : g.row < g.high - 1
  ·rw [if_pos h2, if_pos h2]
  ·rw [if_neg h2, if_neg h2]
theorem uC {g : Gr} (hg : ao g) : 0 < g.cells.length := by
 have a := hg.len
 have b := Int.mul_pos (show (0 : Int) < g.wide by have := hg.w1; omega) (show (0 : Int) < g.high by have := hg.h1; omega)
 omega
theorem Hg {u : World} {g : Gr} {p : Option Addr} (h : Cells u p g.cells) (c : Nat) (hl : g.cells.length <= 100000000) (e : Ev) {ep : Option Addr} {en ec : Nat} (he : bY u ep en e.ps) (hen : en <= 100000000) (hpl : e.pl.size <= 100000000) :
  Spec Tryz.prog kK #[GrV g p g.cells.length c, EvV e ep en ec] u (yv u (doG g e)) := by
 apply mX
 delta ld r5 gV kk j7 cnd iI lq
 simp only [decide_eq_true_eq, decide_eq_false_iff_not, Bool.not_eq_true', Bool.not_eq_false', true_and]
 have hu : Ext u (ab (ab (ab u hole) hole) hole) := (((Upd.refl u).alloc _).alloc _).alloc _
 refine (uO (h.ext hu) c hl).mono fun r u1 ⟨hr, hu1⟩ => ⟨_, hr, fun hb => ?_, fun hb => ?_⟩
 ·have hd : doG g e = (g, 1) := by unfold doG; rw [if_pos hb]
  rw [hd]
  exact ⟨⟨p, c, rfl, h.ext (hu.ext hu1), fun h => (by simp at h)⟩, hu.ext hu1⟩
 have hg := bH.1 hb
 have x1 := hu.ext hu1
 have hw1 := hg.w1
 have hw2 := hg.w2
 have hh1 := hg.h1
 have hh2 := hg.h2
 have hr1 := hg.r1
 have hr2 := hg.r2
 have hc1 := hg.c1
 have hc2 := hg.c2
 rw [uY hg]
 refine ⟨fun q v => v = u1 /\ (q = true ↔ e.kind < 1 \/ 5 < e.kind), ⟨fun a => ⟨rfl, by simp [a]⟩, fun a => ⟨rfl, by simp [a]⟩⟩, fun q v ⟨hv, hq⟩ => ?_⟩
 subst hv
 refine ⟨fun hqt => ?_, fun hqf => ?_⟩
 ·have hk := hq.1 hqt
  rw [if_neg (by omega), if_neg (by omega), if_neg (by omega), if_neg (by omega), if_neg (by omega)]
  exact ⟨⟨p, c, rfl, h.ext x1, fun h => (by simp at h)⟩, x1⟩
 have hk : ¬ (e.kind < 1 \/ 5 < e.kind) := fun hh => by rw [hq.2 hh] at hqf; cases hqf
 have ha : Ext v (ab v hole) := (Upd.refl _).alloc _
 refine (Cu (h.ext (x1.ext ha)) c hl).mono fun r u2 ⟨⟨p2, c2, hr, ho, hnew⟩, hu2⟩ => ⟨_, _, _, _, _, _, _, _, _, _, _, hr, ?_⟩
 obtain ⟨gb, rfl⟩ := ho.uV (uC hg)
 have hgb : u.heap.size <= gb := by have := hnew gb ⟨_, rfl, rfl⟩; have := (x1.ext ha).size; omega
 have x2 := (x1.ext ha).ext hu2
 have H : CO u2 gb c2 g.cells := ho
 have out : ∀ {v : World}, Upd (At (some ⟨gb, 0, none⟩)) u2 v -> Ext u v := fun hv => (x2.trans hv fun k hk hat => by have := ar hat; simp only at this; omega).mono fun _ _ h => h
 have fin : ∀ (g' : Gr) {p' : Option Addr} {n c' : Nat} {v : World}, n = g'.cells.length -> Cells v p' g'.cells -> Ext u v -> (∀ k, At p' k -> u.heap.size <= k) -> yv u (g', 0) (.returned (.tuple #[.agg #[.int .i64 g'.wide, .int .i64 g'.high, .slice p' n c', .int .i64 g'.row, .int .i64 g'.col, .int .i64 g'.ink, .bool g'.bold, .int .i64 g'.top, .int .i64 g'.aA], .int .i64 0])) v := fun g' p' n c' v hn hc hv hk' => by
  subst hn
  exact ⟨⟨p', c', rfl, hc, fun _ => hk'⟩, hv⟩
 have gf : ∀ k, At (some ⟨gb, 0, none⟩) k -> u.heap.size <= k := fun k hk => by have := ar hk; simp only at this; omega
 have far : ∀ {p' : Option Addr}, (∀ k, At p' k -> At (some ⟨gb, 0, none⟩) k \/ u2.heap.size <= k) -> ∀ k, At p' k -> u.heap.size <= k := fun h k hk => (h k hk).elim (gf k) fun h => by have := x2.size; omega
 refine ⟨fun k1 => ?_, fun k1 => ?_⟩
 ·rw [if_pos k1]
  refine ⟨fun q v => v = u2 /\ (q = true ↔ e.b < 32 \/ 126 < e.b), ⟨fun a => ⟨rfl, by simp [a]⟩, fun a => ⟨rfl, by simp [a]⟩⟩, fun q v ⟨hv, hq⟩ => ?_⟩
  subst hv
  refine ⟨fun hqt => ?_, fun hqf => ?_⟩
  ·rw [if_pos (hq.1 hqt)]
   exact ⟨⟨p, c, rfl, h.ext x2, fun h => (by simp at h)⟩, x2⟩
  rw [if_neg (fun hh => by rw [hq.2 hh] at hqf; cases hqf)]
  refine ⟨fun hcol => ?_, fun hcol => ?_⟩
  ·have hs : jR g e.b = { ba g with cells := (ba g).cells.set ((ba g).row * (ba g).wide + 0).toNat ⟨e.b, (ba g).ink, 0, (ba g).bold⟩, col := 0 + 1 } := by
    unfold jR
    rw [if_pos hcol]
    dsimp only
    rw [E8]
   rw [hs]
   obtain ⟨f1, f2, f3, _⟩ := mZ hg
   refine (xt ho hg).mono fun r u3 ⟨⟨p3, c3, hr, ho3, hk3⟩, hu3⟩ => ⟨_, _, _, _, _, _, _, _, _, _, _, hr, ?_⟩
   obtain ⟨b3, rfl⟩ := ho3.uV (uC f1)
   have hb3 : u.heap.size <= b3 := by
    rcases hk3 b3 ⟨_, rfl, rfl⟩ with h | h
    ·have := ar h; simp only at this; omega
    ·have := x2.size; omega
   have H3 : CO u3 b3 c3 (ba g).cells := ho3
   have g1 := f1.r1
   have g2 := f1.r2
   have g3 := f1.h2
   have gw1 := f1.w1
   have gw2 := f1.w2
   have q0 := aB f1 g1 (by omega)
   have q1 := aB f1 (r := (ba g).row + 1) (by omega) (by omega)
   rw [bQ] at q1
   exact ⟨by simp only [inK]; omega, by simp only [inK]; omega, b3, 0, rfl, by omega, by omega, rfl, H3.wr (by omega), by simp only [inK]; omega,
    fin { ba g with cells := (ba g).cells.set ((ba g).row * (ba g).wide + 0).toNat ⟨e.b, (ba g).ink, 0, (ba g).bold⟩, col := 0 + 1 } (by show _ = (List.set _ _ _).length; rw [List.length_set])
     (H3.set ⟨e.b, (ba g).ink, 0, (ba g).bold⟩ (i := ((ba g).row * (ba g).wide + 0).toNat) (by omega) (by omega)).cells ((out hu3).put (fun hlt => by omega) _ _) (far hk3)⟩
  ·have hs : jR g e.b = { g with cells := g.cells.set (g.row * g.wide + g.col).toNat ⟨e.b, g.ink, 0, g.bold⟩, col := g.col + 1 } := by
    unfold jR
    rw [if_neg hcol]
   rw [hs]
   have q0 := aB hg hr1 (by omega)
   have q1 := aB hg (r := g.row + 1) (by omega) (by omega)
   rw [bQ] at q1
   exact ⟨by simp only [inK]; omega, by simp only [inK]; omega, gb, 0, rfl, by omega, by omega, rfl, H.wr (by omega), by simp only [inK]; omega,
    fin { g with cells := g.cells.set (g.row * g.wide + g.col).toNat ⟨e.b, g.ink, 0, g.bold⟩, col := g.col + 1 } (by show _ = (List.set _ _ _).length; rw [List.length_set])
     (H.set ⟨e.b, g.ink, 0, g.bold⟩ (i := (g.row * g.wide + g.col).toNat) (by omega) (by omega)).cells (x2.put (fun hlt => by omega) _ _) gf⟩
 rw [if_neg k1]
 refine ⟨fun k2 => ?_, fun k2 => ?_⟩
 ·rw [if_pos k2]
  refine ⟨fun c13 => ?_, fun c13 => ⟨fun c10 => ?_, fun c10 => ⟨fun c9 => ⟨by simp only [inK]; omega, ?_⟩, fun c9 => ⟨fun c8 => ?_, fun c8 => ?_⟩⟩⟩⟩
  ·have hs : bZ g e.b = { g with col := 0 } := by unfold bZ; rw [if_neg (by omega), if_neg (by omega), if_neg (by omega), if_pos c13]
   rw [hs]
   exact fin { g with col := 0 } rfl H.cells x2 gf
  ·have hs : bZ g e.b = ba g := by unfold bZ; rw [if_neg (by omega), if_neg (by omega), if_pos c10]
   rw [hs]
   exact (xt ho hg).mono fun r u3 ⟨⟨p3, c3, hr, ho3, hk3⟩, hu3⟩ => ⟨_, _, _, _, _, _, _, _, _, _, _, hr, fin (ba g) rfl ⟨ho3.aH⟩ (out hu3) (far hk3)⟩
  ·have hs : bZ g e.b = { g with col := min (g.wide - 1) (g.col / 8 * 8 + 8) } := by unfold bZ; rw [if_neg (by omega), if_pos c9]
   rw [hs]
   refine ⟨fun w hi p n c' r cl ik bo t bt v => v = u2 /\ w = g.wide /\ hi = g.high /\ p = some ⟨gb, 0, none⟩ /\ n = g.cells.length /\ c2 = c' /\ r = g.row /\ ik = g.ink /\ bo = g.bold /\ t = g.top /\ bt = g.aA /\ g.col + 1 <= cl /\ cl <= g.col / 8 * 8 + 8,
    fun _ _ _ _ _ _ cl _ _ _ _ _ => (g.col / 8 * 8 + 8 - cl).toNat, ⟨rfl, rfl, rfl, rfl, rfl, rfl, rfl, rfl, rfl, rfl, rfl, by omega, by omega⟩, ?_⟩
   rintro w hi p n c' r cl ik bo t bt v ⟨hv, rfl, rfl, rfl, rfl, rfl, rfl, rfl, rfl, rfl, rfl, i0, i1⟩
   subst hv
   refine ⟨by omega, by decide, fun hne => ⟨by simp only [inK]; omega, ⟨rfl, rfl, rfl, rfl, rfl, rfl, rfl, rfl, rfl, rfl, rfl, by omega, by omega⟩, by first | omega | (dsimp only; omega)⟩, fun heq => ⟨by simp only [inK]; omega, ?_⟩⟩
   rw [show min (g.wide - 1) (g.col / 8 * 8 + 8) = min cl (g.wide - 1) by omega]
   exact fin { g with col := min cl (g.wide - 1) } rfl H.cells x2 gf
  ·have hs : bZ g e.b = { g with col := max 0 (min g.col (g.wide - 1) - 1) } := by unfold bZ; rw [if_pos c8]
   rw [hs]
   refine ⟨fun hcw => ⟨by simp only [inK]; omega, fun hp => ⟨by simp only [inK]; omega, ?_⟩, fun hp => ?_⟩, fun hcw => ⟨fun hp => ⟨by simp only [inK]; omega, ?_⟩, fun hp => ?_⟩⟩
   ·rw [show max 0 (min g.col (g.wide - 1) - 1) = g.col - 1 - 1 by omega]
    exact fin { g with col := g.col - 1 - 1 } rfl H.cells x2 gf
   ·rw [show max 0 (min g.col (g.wide - 1) - 1) = g.col - 1 by omega]
    exact fin { g with col := g.col - 1 } rfl H.cells x2 gf
   ·rw [show max 0 (min g.col (g.wide - 1) - 1) = g.col - 1 by omega]
    exact fin { g with col := g.col - 1 } rfl H.cells x2 gf
   ·rw [show max 0 (min g.col (g.wide - 1) - 1) = g.col by omega]
    exact fin g rfl H.cells x2 gf
  ·have hs : bZ g e.b = g := by unfold bZ; rw [if_neg c8, if_neg c9, if_neg c10, if_neg c13]
   rw [hs]
   exact fin g rfl H.cells x2 gf
 rw [if_neg k2]
 refine ⟨fun k3 => ?_, fun k3 => ?_⟩
 ·rw [if_pos k3]
  refine (Ih H hg (lc := ec) (he.ext x2) (fun h0 k hk => ?_) hen).mono fun r u3 ⟨⟨p3, c3, hr, ho3, hk3⟩, hu3⟩ => ⟨_, _, _, _, _, _, _, _, _, _, _, hr, fin (aP g e.b e.ps) rfl ⟨ho3.aH⟩ (out hu3) (far hk3)⟩
  have hlt : k < u.heap.size := by
   obtain ⟨a, ha, rfl⟩ := hk
   obtain ⟨b', o', hp', hr'⟩ := he.at (i := 0) (by omega)
   rw [ha] at hp'
   cases hp'
   exact uL hr'
  omega
 rw [if_neg k3]
 refine ⟨fun k4 => ?_, fun k4 => ?_⟩
 ·rw [if_pos k4]
  exact (GO H hg e.pl hpl).mono fun r u3 ⟨⟨p3, c3, hr, ho3, hk3⟩, hu3⟩ => ⟨_, _, _, _, _, _, _, _, _, _, _, hr, fin (dz g e.pl.data.toList) rfl ⟨ho3.aH⟩ (out hu3) (far hk3)⟩
 rw [if_neg k4]
 have k5 : e.kind = 5 := by omega
 rw [if_pos k5]
 exact ⟨fun _ => (rj g.wide g.high).mono fun r u3 ⟨⟨p3, c3, hr, ho3, hk3⟩, hu3⟩ => ⟨_, _, _, _, _, _, _, _, _, _, _, hr, fin (aO g.wide g.high) rfl ⟨ho3.aH⟩ (x2.ext hu3) (far fun k hk => .inr (hk3 k hk))⟩, fun hn => (hn k5).elim⟩
theorem A5 {g : Gr} (hg : ao g) {w h r c : Nat} (hc : c < w) (hr : r < h) : cg (dt g.wide.toNat w h g.high.toNat g.cells) (r * w + c) = atG g (r : Nat) (c : Nat) := by
 have w1 := hg.w1
 unfold dt
 rw [rM (by rw [Nat.mul_comm w h]; exact ph hc hr), tL hc, wv hc]
 by_cases hh : r < g.high.toNat /\ c < g.wide.toNat
 ·rw [if_pos hh, GH hg (by omega) (by omega)]
 ·rw [if_neg hh]
  unfold atG
  rw [if_neg (by omega)]
theorem B5 {u : World} {g : Gr} {p : Option Addr} (h : Cells u p g.cells) (c : Nat) (hl : g.cells.length <= 100000000) (wide high : Int) :
  Spec Tryz.prog dq #[GrV g p g.cells.length c, .int .i64 wide, .int .i64 high] u (yv u (bM g wide high)) := by
 apply kl
 delta gK zU dY nD cnd iI lq
 simp only [decide_eq_true_eq, decide_eq_false_iff_not, Bool.not_eq_true', Bool.not_eq_false', true_and]
 have hu : Ext u (ab (ab u hole) hole) := ((Upd.refl u).alloc _).alloc _
 refine (uO (h.ext hu) c hl).mono fun r u1 ⟨hr, hu1⟩ => ⟨_, hr, fun hb => ?_, fun hb => ?_⟩
 ·have hd : bM g wide high = (g, 1) := by unfold bM; rw [if_pos hb]
  rw [hd]
  exact ⟨⟨p, c, rfl, h.ext (hu.ext hu1), fun h => (by simp at h)⟩, hu.ext hu1⟩
 have hg := bH.1 hb
 have x1 := hu.ext hu1
 refine (rj wide high).mono fun e u2 ⟨⟨p2, c2, he, ho, hnew⟩, hu2⟩ => ⟨_, _, _, _, _, _, _, _, _, _, _, he, ?_⟩
 have ng := dr wide high
 have hres : bM g wide high = (⟨(aO wide high).wide, (aO wide high).high, dt g.wide.toNat (aO wide high).wide.toNat (aO wide high).high.toNat g.high.toNat g.cells, min g.row ((aO wide high).high - 1), min g.col ((aO wide high).wide - 1), g.ink, g.bold, 0, (aO wide high).high⟩, 0) := by
  unfold bM
  rw [if_neg (by rw [hb]; simp)]
  rfl
 have hrest : (aO wide high).top = 0 /\ (aO wide high).aA = (aO wide high).high := ⟨rfl, rfl⟩
 rw [hres]
 generalize aO wide high = out at ng he ho hrest
 obtain ⟨q5, q6⟩ := hrest
 have ow1 := ng.w1
 have ow2 := ng.w2
 have oh1 := ng.h1
 have oh2 := ng.h2
 have ocl := kV ng
 obtain ⟨b, rfl⟩ := ho.uV (uC ng)
 have hb0 : u.heap.size <= b := by have := hnew b ⟨_, rfl, rfl⟩; have := x1.size; omega
 have x2 := x1.ext hu2
 have ho' : CO u2 b c2 out.cells := ho
 generalize hC : dt g.wide.toNat out.wide.toNat out.high.toNat g.high.toNat g.cells = C
 have hCl : C.length = out.cells.length := by rw [<- hC, ocl]; unfold dt; rw [nB, Nat.mul_comm]
 have S0 : oI u C b c2 0 (ab u2 hole) := ⟨⟨out.cells, ho'.ext ((Upd.refl _).alloc _), hCl.symm, by omega⟩, x2.alloc _, hb0⟩
 refine ⟨fun r w => 0 <= r /\ r <= out.high /\ oI u C b c2 (r.toNat * out.wide.toNat) w, fun r _ => (out.high - r).toNat, ⟨Int.le_refl _, by omega, by simpa using S0⟩, ?_⟩
 rintro r w ⟨r0, r1, S⟩
 refine ⟨fun hr => ?_, fun hr => ?_⟩
 ·have f0 := aB ng r0 r1
  have f1 := aB ng (r := r + 1) (by omega) (by omega)
  rw [bQ] at f1
  have f2 : (r + 1).toNat * out.wide.toNat = r.toNat * out.wide.toNat + out.wide.toNat := by rw [show (r + 1).toNat = r.toNat + 1 by omega, Nat.add_mul, Nat.one_mul]
  refine ⟨fun c w => 0 <= c /\ c <= out.wide /\ oI u C b c2 (r.toNat * out.wide.toNat + c.toNat) w, fun c _ => (out.wide - c).toNat, ⟨Int.le_refl _, by omega, by simpa using S⟩, ?_⟩
  rintro k w' ⟨c0, c1, S'⟩
  refine ⟨fun hc => ?_, fun hc => ⟨by simp only [inK]; omega, ⟨by omega, by omega, ?_⟩, by first | omega | (dsimp only; omega)⟩⟩
  ·have hd : Ext w' (af w') := (Upd.refl _).drew
   refine ⟨by simp only [inK]; omega, by simp only [inK]; omega, (EL (h.ext (S'.ext.ext hd)) c r k hl).mono fun e u3 ⟨he, hu3⟩ => ⟨_, _, _, _, he, ?_⟩⟩
   have hcg := A5 hg (w := out.wide.toNat) (h := out.high.toNat) (r := r.toNat) (c := k.toNat) (by omega) (by omega)
   rw [hC, show ((r.toNat : Nat) : Int) = r by omega, show ((k.toNat : Nat) : Int) = k by omega] at hcg
   have st := (S'.ext' (hd.ext hu3)).store (o := 0 + (r * out.wide + k).toNat * 4) (k := atG g r k) (by omega) (by omega) hcg.symm
   rw [show r.toNat * out.wide.toNat + k.toNat + 1 = r.toNat * out.wide.toNat + (k + 1).toNat by omega] at st
   exact ⟨b, 0, rfl, by omega, by omega, rfl, st.1, by simp only [inK]; omega, ⟨by omega, by omega, st.2⟩, by first | omega | (dsimp only; omega)⟩
  ·rw [f2, show out.wide.toNat = k.toNat by omega]
   rw [show out.wide.toNat = k.toNat by omega] at S'
   exact S'
 ·have O := S.done (by rw [hCl, ocl, show r.toNat = out.high.toNat by omega])
  refine ⟨by simp only [inK]; omega, by simp only [inK]; omega, ?_⟩
  rw [q5, q6, <- hCl]
  exact ⟨⟨_, _, rfl, (O.cells).ext ((Upd.refl _).drew), fun _ k hk => by have := ar hk; simp only at this; omega⟩, (S.ext).drew⟩
structure wF (u : World) (p : Option Addr) (n : Nat) (cs : List Value) (e : Ending) (u' : World) : Prop where
 ex : ∃ p' c', e = .returned (.slice p' n c') /\ Own u' 1 p' n c' cs /\ ∀ k, At p' k -> At p k \/ u.heap.size <= k
 upd : Upd (At p) u u'
theorem cS (u : World) (b o k : Nat) (cs : List Value) : bj u (some ⟨b, o, none⟩) k cs = ae u b (o + k) cs := rfl
theorem G7 (p : Option Addr) (c : Nat) : (if c = 0 then p else Option.map (fun a => Addr.add a 0) p) = p := by
 split
 ·rfl
 ·cases p with
  | none => rfl
  | some a => obtain ⟨b, o, s⟩ := a; cases s <;> simp [Addr.add]
theorem ns {b k c : Nat} (h : c ≠ k) : (if c = k then some (Addr.mk b 0 none) else Option.map (fun a => Addr.add a k) (some ⟨b, 0, none⟩)) = some ⟨b, k, none⟩ := by
 rw [if_neg h]
 simp [Addr.add]
 intro hk
 exact hk.symm
theorem Own.vd {u : World} {p : Option Addr} {n c : Nat} {cs : List Value} (h : Own u 1 p n c cs) {i : Nat} (hi : i <= n) : Own u 1 p i c (cs.take i) := by
 rcases h with ⟨rfl, rfl, rfl, rfl⟩ | ⟨b, t, r, rfl, hb, hl, hc, hr⟩
 ·have : i = 0 := by omega
  subst this
  exact .inl ⟨rfl, rfl, rfl, rfl⟩
 ·refine .inr ⟨b, t, cs.drop i ++ r, rfl, ?_, by rw [List.length_take]; omega, by omega, by rw [List.length_append, List.length_drop]; omega⟩
  rw [hb, <- List.append_assoc, List.take_append_drop]
theorem Own.Fp {u : World} {b n c : Nat} {cs : List Value} (h : Own u 1 (some ⟨b, 0, none⟩) n c cs) {i : Nat} (hi : i <= n) (hl : cs.length = n) : Gets u (if c = i then some (Addr.mk b 0 none) else Option.map (fun a => Addr.add a i) (some ⟨b, 0, none⟩)) (cs.drop i) := by
 have hle := h.le
 by_cases hc : c = i
 ·rw [if_pos hc, List.drop_eq_nil_of_le (by omega)]
  exact sP _ _
 ·rw [ns hc]
  rcases h with ⟨h, _⟩ | ⟨b', t, r, hp, hb, _⟩
  ·cases h
  ·cases hp
   refine ⟨fun _ => rfl, ?_⟩
   have e : cs ++ r = cs.take i ++ cs.drop i ++ r := by rw [List.take_append_drop]
   rw [e] at hb
   have := j0 (cs.drop i) (cs.take i) r hb
   rw [List.length_take] at this
   rwa [show min i cs.length = i by omega] at this
theorem Own.one {u : World} {b n c : Nat} {cs : List Value} (h : Own u 1 (some ⟨b, 0, none⟩) n c cs) (hc : n + 1 <= c) : ∃ y, Own u 1 (some ⟨b, 0, none⟩) (n + 1) c (cs ++ [y]) := by
 rcases h with ⟨h, _⟩ | ⟨b', t, r, hp, hb, hl, _, hr⟩
 ·cases h
 ·cases hp
  cases r with
  | nil => simp at hr; omega
  | cons y r =>
   refine ⟨y, .inr ⟨b, t, r, rfl, by rw [hb]; simp, by simp; omega, hc, by simp at hr; omega⟩⟩
theorem dZ {cs : List Value} (h : okCells cs True) (i : Nat) : okCells (cs.drop i) True := by
 rw [bm] at h ⊢
 exact ⟨fun c hc => h.1 c (List.mem_of_mem_drop hc), trivial⟩
theorem Ep {cs z : List Value} {i : Nat} {x : Value} (hi : i <= cs.length) (hz : z.length = cs.length + 1 - i) :
  ((cs.take i ++ z).take i ++ [x] ++ (cs.take i ++ z).drop (i + [x].length)).take (i + 1) ++ cs.drop i ++ ((cs.take i ++ z).take i ++ [x] ++ (cs.take i ++ z).drop (i + [x].length)).drop (i + 1 + (cs.drop i).length) = cs.take i ++ [x] ++ cs.drop i := by
 have h1 : (cs.take i ++ z).take i = cs.take i := List.take_left' (by rw [List.length_take]; omega)
 have hd : ((cs.take i ++ z).drop (i + [x].length)).length = cs.length - i := by
  rw [List.length_drop, List.length_append, List.length_take]
  simp only [List.length_cons, List.length_nil]
  omega
 rw [h1]
 generalize (cs.take i ++ z).drop (i + [x].length) = d at hd
 have hl : (cs.take i ++ [x]).length = i + 1 := by simp; omega
 have h3 : (cs.take i ++ [x] ++ d).drop (i + 1 + (cs.drop i).length) = [] := List.drop_eq_nil_of_le (by rw [List.length_append, hl, hd, List.length_drop]; omega)
 rw [List.take_left' hl, h3, List.append_nil]
theorem Gu {cs : List Value} {i : Nat} {x y : Value} (hi : i <= cs.length) :
  ((cs ++ [y]).take (i + 1) ++ cs.drop i ++ (cs ++ [y]).drop (i + 1 + (cs.drop i).length)).take i ++ [x] ++ ((cs ++ [y]).take (i + 1) ++ cs.drop i ++ (cs ++ [y]).drop (i + 1 + (cs.drop i).length)).drop (i + [x].length) = cs.take i ++ [x] ++ cs.drop i := by
 have hl : ((cs ++ [y]).take (i + 1)).length = i + 1 := by simp; omega
 have h3 : (cs ++ [y]).drop (i + 1 + (cs.drop i).length) = [] := List.drop_eq_nil_of_le (by rw [List.length_append, List.length_drop]; simp only [List.length_cons, List.length_nil]; omega)
 rw [h3, List.append_nil]
 have h1 : ((cs ++ [y]).take (i + 1) ++ cs.drop i).drop (i + [x].length) = cs.drop i := List.drop_left' (by rw [hl]; rfl)
 rw [h1, List.take_append_of_le_length (by omega), List.take_take, show min i (i + 1) = i by omega, List.take_append_of_le_length hi]
theorem CX {u : World} {vb b o : Nat} {v1 : List Value} {t1 t2 : TypeId} {v2 : List Value} (h1 : u.heap[vb]? = some (.cells v1.toArray t1 (0, 0))) (h2 : u.heap[b]? = some (.cells v2.toArray t2 (0, 0))) (hne : vb ≠ b) (h0 : v2 ≠ []) (n1 c1 n2 c2 : Nat) :
  ∀ w', Le u w' -> (callFunc gE #[.slice (some ⟨vb, 0, none⟩) n1 c1, .slice (some ⟨b, o, none⟩) n2 c2]).run Tryz.prog w' = .ok (.value (.bool false)) w' := fun w' hle => by
 have g1 := (hle.block vb _ h1).resolve_left (by unfold hole; simp)
 have g2 := (hle.block b _ h2).resolve_left (by unfold hole; simp)
 rw [run_callFunc_extern (f := gE) Tryz.func94 (by kernel_rfl) (by kernel_rfl) (by kernel_rfl) (e := Extern.SlicesOverlaps.overlaps #[aL, aL] #[wJ]) (by kernel_rfl),
  Lib.run_overlaps_apart w' aL wJ aF Tryz.underlying38 1 (run_sizeOf (BI Cn (t := aF) rfl).2) ⟨vb, 0, none⟩ ⟨b, o, none⟩ n1 c1 n2 c2 hne t1 t2 v1.length v2.length (by simp [World.shape?, g1]) (by simp [World.shape?, g2]) (by
   intro e
   exact h0 (List.length_eq_zero_iff.1 e)) (by simp [World.frozen?, g1]) (by simp [World.frozen?, g1])]
 rfl
set_option maxHeartbeats 1000000 in
theorem Fj {u : World} {p : Option Addr} {n c : Nat} {cs : List Value} (h : Own u 1 p n c cs) (hcs : okCells cs True) {i : Nat} (hi : i <= n) (hn : n <= 1000) {vb vc : Nat} {x : Value} (hv : Own u 1 (some ⟨vb, 0, none⟩) 1 vc [x]) (hx : okCells [x] True) (hne : ∀ k, At p k -> k ≠ vb) :
  Spec Tryz.prog eX #[.slice p n c, .int .i64 (i : Nat), .slice (some ⟨vb, 0, none⟩) 1 vc] u (wF u p (n + 1) (cs.take i ++ [x] ++ cs.drop i)) := by
 apply je
 delta eV nu v5 cnd iI lq
 simp only [decide_eq_true_eq, decide_eq_false_iff_not, Bool.not_eq_true', Bool.not_eq_false', Int.toNat_natCast, Int.toNat_zero, Nat.sub_zero, Nat.mul_one, Nat.zero_mul, Nat.zero_add, Nat.add_zero, cS, G7]
 have hl := h.len
 rw [Nat.mul_one] at hl
 have hle := h.le
 have hu := Upd.refl (S := At p) u
 refine ⟨by omega, by omega, by omega, fun hz => by omega, fun _ => ⟨fun he => ?_, fun he => ?_⟩⟩
 ·have he : i = n := by omega
  subst he
  refine ⟨cs, [x], by omega, h.aH, rfl, hv.aH, by decide, by omega, hx, fun hc => h.wrs (by omega), fun p' cap u1 hr => ?_⟩
  obtain ⟨a1, a2, a3⟩ := h.app hr (by omega) h.aH rfl rfl
  rw [List.take_of_length_le (by omega), List.drop_eq_nil_of_le (by omega), List.append_nil]
  refine ⟨⟨p', cap, rfl, a1, fun k hk => ?_⟩, a2⟩
  rcases a3 with ⟨rfl, _⟩ | ⟨rfl, _⟩
  ·exact .inl hk
  ·right; rw [ar hk]; exact Nat.le_refl _
 have hin : i < n := by omega
 obtain ⟨b, rfl⟩ := h.uV (by omega)
 have hbne : vb ≠ b := fun e => hne b ⟨_, rfl, rfl⟩ e.symm
 refine ⟨by simp only [inK]; omega, fun hg => ?_, fun hg => ?_⟩
 ·have e1 : (((n : Nat) : Int) + ((1 : Nat) : Int) - ((i : Nat) : Int)).toNat = n + 1 - i := by omega
  rw [e1]
  refine ⟨by omega, by omega, by omega, by simp only [inK]; omega, by simp only [inK]; omega, cs.take i, by rw [List.length_take]; omega, h.vd hi |>.aH, by decide, by decide, by omega, by omega, by omega, fun p1 cap1 u1 hr => ?_⟩
  have ht := h.vd hi
  obtain ⟨a1, a2, a3⟩ := ht.app hr (by rw [List.length_take]; omega) ht.aH (by rw [dV]; simp) rfl
  have hp1 : p1 = some ⟨u.heap.size, 0, none⟩ /\ Ext u u1 := a3.resolve_left (by omega)
  obtain ⟨rfl, hx1⟩ := hp1
  have hcap := a1.le
  have hin1 : i + (n + 1 - i) = n + 1 := by omega
  rw [hin1] at a1 hcap ⊢
  have hmin : min 1 (n + 1 - i) = 1 := by omega
  have hmin2 : min (n - i) (n + 1 - (i + 1)) = n - i := by omega
  have e2 : (((i : Nat) : Int) + ((1 : Nat) : Int)).toNat = i + 1 := by omega
  simp only [hmin, hmin2, e2]
  have q1 : (if cap1 = i then some (Addr.mk u.heap.size 0 none) else Option.map (fun a => Addr.add a i) (some ⟨u.heap.size, 0, none⟩)) = some ⟨u.heap.size, i, none⟩ := ns (by omega)
  rw [q1]
  simp only [cS, Nat.add_zero]
  have hvu := hv.ext hx1
  have o1 := a1.over (o := i) (ys := [x]) (by rw [List.length_append, List.length_take, dV]; simp; omega)
  have hs1 : Ext u (ae u1 u.heap.size i [x]) := hx1.put (fun hh => by omega) _ _
  have hd1 : Ext u (af (ae u1 u.heap.size i [x])) := hs1.drew
  have hsrc := (h.ext hd1)
  have od1 : Own (af (ae u1 u.heap.size i [x])) 1 (some ⟨u.heap.size, 0, none⟩) (n + 1) cap1 _ := o1.ext ((Upd.refl _).drew)
  have q2 : Gets (af (ae u1 u.heap.size i [x])) (if c = i then some (Addr.mk b 0 none) else Option.map (fun a => Addr.add a i) (some ⟨b, 0, none⟩)) (cs.drop i) := hsrc.Fp (by omega) (by omega)
  refine ⟨by omega, by omega, by omega, [x], rfl, hvu.aH, hx, ⟨fun _ => rfl, by have := (a1.wrs (o := i) (m := 1) (by omega)).2; simpa using this⟩, by simp only [inK]; omega, by omega, by omega, by omega, by omega, by omega, by omega, cs.drop i, by rw [List.length_drop]; omega, q2, dZ hcs i, ?_, ?_⟩
  ·by_cases hce : cap1 = i + 1
   ·rw [if_pos hce]; omega
   ·rw [if_neg hce]
    refine ⟨fun _ => rfl, ?_⟩
    have := (od1.wrs (o := i + 1) (m := n - i) (by omega)).2
    simpa [Addr.add] using this
  ·have hce : cap1 ≠ i + 1 := by omega
   rw [if_neg hce]
   have o2 := od1.over (o := i + 1) (ys := cs.drop i) (by
    simp only [List.length_append, List.length_take, List.length_drop, dV, List.length_cons, List.length_nil]
    omega)
   have e3 : bj (af (ae u1 u.heap.size i [x])) (Option.map (fun a => Addr.add a (i + 1)) (some ⟨u.heap.size, 0, none⟩)) 0 (cs.drop i) = ae (af (ae u1 u.heap.size i [x])) u.heap.size (i + 1) (cs.drop i) := by simp [bj, Addr.add]
   rw [e3]
   refine ⟨⟨_, cap1, rfl, ?_, fun k hk => .inr (by rw [ar hk]; exact Nat.le_refl _)⟩, (hd1.put (fun hh => by omega) _ _).any⟩
   have el := Ep (cs := cs) (i := i) (x := x) (z := aS (n + 1 - i) [.int .i64 0]) (by omega) (by rw [dV]; simp; omega)
   rw [el] at o2
   exact o2
 ·have hc1 : n + 1 <= c := by omega
  have e0 : (((n : Nat) : Int) + ((1 : Nat) : Int)).toNat = n + 1 := by omega
  have e2 : (((i : Nat) : Int) + ((1 : Nat) : Int)).toNat = i + 1 := by omega
  simp only [e0, e2, Int.toNat_natCast]
  have hm1 : min (n + 1 - i) (n + 1 - (i + 1)) = n - i := by omega
  have hm2 : min 1 (n + 1 - i) = 1 := by omega
  simp only [hm1, hm2]
  obtain ⟨y, hg1⟩ := h.one hc1
  have q0 : (if c = i then some (Addr.mk b 0 none) else Option.map (fun a => Addr.add a i) (some ⟨b, 0, none⟩)) = some ⟨b, i, none⟩ := ns (by omega)
  have q1 : (if c = i + 1 then some (Addr.mk b 0 none) else Option.map (fun a => Addr.add a (i + 1)) (some ⟨b, 0, none⟩)) = some ⟨b, i + 1, none⟩ := ns (by omega)
  rw [q0, q1]
  simp only [cS, Nat.add_zero]
  obtain ⟨r1, t1, hb1⟩ := (hv.at ⟨_, rfl, rfl⟩).2
  obtain ⟨r2, t2, hb2⟩ := (h.at ⟨_, rfl, rfl⟩).2
  simp only at hb1 hb2
  have hd : Ext u (af u) := (Upd.refl u).drew
  have od := hg1.ext hd
  have src := (h.ext hd).Fp (i := i) (by omega) (by omega)
  rw [q0] at src
  have o1 := od.over (o := i + 1) (ys := cs.drop i) (by simp only [List.length_append, List.length_drop, List.length_cons, List.length_nil]; omega)
  have hvd := (hv.ext hd).upd (aI b (i + 1) (cs.drop i)) (fun k hk e => by rw [ar hk] at e; exact hbne e)
  have o2 := o1.over (o := i) (ys := [x]) (by simp only [List.length_append, List.length_take, List.length_drop, List.length_cons, List.length_nil]; omega)
  refine ⟨by simp only [inK]; omega, by omega, by omega, by omega, by simp only [inK]; omega, by omega, by omega, by omega, false, CX hb1 hb2 hbne (by intro e; have := congrArg List.length e; simp only [List.length_append, List.length_nil] at this; omega) _ _ _ _,
   fun _ => ⟨by simp only [inK]; omega, by omega, by omega, by omega, by omega, by omega, by omega, cs.drop i, by rw [List.length_drop]; omega, src, dZ hcs i, ⟨fun _ => rfl, by have := (od.wrs (o := i + 1) (m := n - i) (by omega)).2; simpa using this⟩, by omega, by omega, by omega, [x], rfl, hvd.aH, hx, ⟨fun _ => rfl, by have := (o1.wrs (o := i) (m := 1) (by omega)).2; simpa using this⟩, ?_⟩, fun hh => by cases hh⟩
  refine ⟨⟨_, c, rfl, ?_, fun k hk => .inl hk⟩, ((hd.any (S := At (some ⟨b, 0, none⟩))).put (fun _ => ⟨_, rfl, rfl⟩) _ _).put (fun _ => ⟨_, rfl, rfl⟩) _ _⟩
  have el := Gu (cs := cs) (i := i) (x := x) (y := y) (by omega)
  rw [el] at o2
  exact o2
theorem E3 {u : World} {b n c : Nat} {cs : List Value} (h : Own u 1 (some ⟨b, 0, none⟩) n c cs) (hcs : okCells cs True) {i : Nat} (hi : i < n) (hn : n <= 1000) :
  Spec Tryz.prog eM #[.slice (some ⟨b, 0, none⟩) n c, .int .i64 (i : Nat), .int .i64 ((i : Nat) + 1)] u (wF u (some ⟨b, 0, none⟩) (n - 1) (cs.take i ++ cs.drop (i + 1))) := by
 apply jc
 delta eQ cnd iI lq
 have e2 : (((i : Nat) : Int) + 1).toNat = i + 1 := by omega
 simp only [decide_eq_true_eq, decide_eq_false_iff_not, Bool.not_eq_true', Bool.not_eq_false', Int.toNat_natCast, Int.toNat_zero, Nat.sub_zero, Nat.mul_one, Nat.zero_mul, Nat.zero_add, Nat.add_zero, cS, G7, e2]
 have hl := h.len
 rw [Nat.mul_one] at hl
 have hle := h.le
 have hd : Ext u (af u) := (Upd.refl u).drew
 have hm : i + (n - (i + 1)) = n - 1 := by omega
 have ht := (h.ext hd).vd (i := i) (by omega)
 have src := (h.ext hd).Fp (i := i + 1) (by omega) (by omega)
 simp only [hm]
 refine ⟨by omega, by omega, by omega, by omega, fun hh => by omega, fun _ => ⟨by omega, by omega, by omega, by omega, by omega, by omega, cs.take i, cs.drop (i + 1), by rw [List.length_take]; omega, ht.aH, by rw [List.length_drop]; omega, src, by decide, by omega, dZ hcs _, fun hc => ht.wrs (by omega), fun p' cap u1 hr => ?_⟩⟩
 obtain ⟨a1, a2, a3⟩ := ht.app hr (by rw [List.length_take]; omega) ht.aH (by rw [List.length_drop]; omega) rfl
 rcases hr with ⟨hc, rfl, rfl, hu1⟩ | ⟨hc, _⟩
 rotate_left
 ·omega
 rw [hm] at a1
 have hall : Own u1 1 (some ⟨b, 0, none⟩) n cap (cs.take i ++ cs.drop (i + 1) ++ cs.drop (n - 1)) := by
  have o := (h.ext hd).over (o := i) (ys := cs.drop (i + 1)) (by rw [List.length_drop]; omega)
  have e : i + (cs.drop (i + 1)).length = n - 1 := by rw [List.length_drop]; omega
  rw [e] at o
  rw [hu1]
  simpa [bj] using o
 have hz : (aS (n - (n - 1)) [.int .i64 0]).length = 1 := by rw [dV]; simp; omega
 have hcut : (if cap = n - 1 then some (Addr.mk b 0 none) else Option.map (fun a => Addr.add a (n - 1)) (some ⟨b, 0, none⟩)) = some ⟨b, n - 1, none⟩ := ns (by omega)
 rw [hcut]
 simp only [cS, Nat.add_zero]
 have o2 := hall.over (o := n - 1) (ys := aS (n - (n - 1)) [.int .i64 0]) (by
  rw [hz]
  simp only [List.length_append, List.length_take, List.length_drop]
  omega)
 have hone : aS (n - (n - 1)) [.int .i64 0] = [.int .i64 0] := by rw [show n - (n - 1) = 1 by omega]; rfl
 refine ⟨by omega, by omega, by omega, ?_, ⟨fun _ => rfl, by have := (hall.wrs (o := n - 1) (m := n - (n - 1)) (by omega)).2; simpa using this⟩, ⟨_, cap, rfl, ?_, fun k hk => .inl hk⟩, ?_⟩
 ·rw [hone]; simp [okCells]
 ·have o3 := o2.vd (i := n - 1) (by omega)
  have el : ((cs.take i ++ cs.drop (i + 1) ++ cs.drop (n - 1)).take (n - 1) ++ aS (n - (n - 1)) [.int .i64 0] ++ (cs.take i ++ cs.drop (i + 1) ++ cs.drop (n - 1)).drop (n - 1 + (aS (n - (n - 1)) [.int .i64 0]).length)).take (n - 1) = cs.take i ++ cs.drop (i + 1) := by
   rw [List.append_assoc, List.take_append_of_le_length (by simp only [List.length_append, List.length_take, List.length_drop]; omega), List.take_take, Nat.min_self]
   exact List.take_left' (by simp only [List.length_append, List.length_take, List.length_drop]; omega)
  rw [el] at o3
  exact o3
 ·exact (((hd.any (S := At (some ⟨b, 0, none⟩))).trans a2 fun _ _ h => h)).put (fun _ => ⟨_, rfl, rfl⟩) _ _
theorem zF {u : World} {vb b o : Nat} {v1 : List Value} {t1 t2 : TypeId} {v2 : List Value} (h1 : u.heap[vb]? = some (.cells v1.toArray t1 (0, 0))) (h2 : u.heap[b]? = some (.cells v2.toArray t2 (0, 0))) (hne : vb ≠ b) (h0 : v2 ≠ []) (n1 c1 n2 c2 : Nat) :
  ∀ w', Le u w' -> (callFunc fS #[.slice (some ⟨vb, 0, none⟩) n1 c1, .slice (some ⟨b, o, none⟩) n2 c2]).run Tryz.prog w' = .ok (.value (.bool false)) w' := fun w' hle => by
 have g1 := (hle.block vb _ h1).resolve_left (by unfold hole; simp)
 have g2 := (hle.block b _ h2).resolve_left (by unfold hole; simp)
 rw [run_callFunc_extern (f := fS) Tryz.func92 (by kernel_rfl) (by kernel_rfl) (by kernel_rfl) (e := Extern.SlicesOverlaps.overlaps #[ny, ny] #[wJ]) (by kernel_rfl),
  Lib.run_overlaps_apart w' ny wJ aL Tryz.underlying28 1 (run_sizeOf (BI Cn (t := aL) rfl).2) ⟨vb, 0, none⟩ ⟨b, o, none⟩ n1 c1 n2 c2 hne t1 t2 v1.length v2.length (by simp [World.shape?, g1]) (by simp [World.shape?, g2]) (by
   intro e
   exact h0 (List.length_eq_zero_iff.1 e)) (by simp [World.frozen?, g1]) (by simp [World.frozen?, g1])]
 rfl
set_option maxHeartbeats 1000000 in
theorem Dk {u : World} {p : Option Addr} {n c : Nat} {cs : List Value} (h : Own u 1 p n c cs) (hcs : okCells cs True) {i : Nat} (hi : i <= n) (hn : n <= 1000) {vb vc : Nat} {x : Value} (hv : Own u 1 (some ⟨vb, 0, none⟩) 1 vc [x]) (hx : okCells [x] True) (hne : ∀ k, At p k -> k ≠ vb) :
  Spec Tryz.prog ew #[.slice p n c, .int .i64 (i : Nat), .slice (some ⟨vb, 0, none⟩) 1 vc] u (wF u p (n + 1) (cs.take i ++ [x] ++ cs.drop i)) := by
 apply iN
 delta eG nv wH cnd iI lq
 simp only [decide_eq_true_eq, decide_eq_false_iff_not, Bool.not_eq_true', Bool.not_eq_false', Int.toNat_natCast, Int.toNat_zero, Nat.sub_zero, Nat.mul_one, Nat.zero_mul, Nat.zero_add, Nat.add_zero, cS, G7]
 have hl := h.len
 rw [Nat.mul_one] at hl
 have hle := h.le
 have hu := Upd.refl (S := At p) u
 refine ⟨by omega, by omega, by omega, fun hz => by omega, fun _ => ⟨fun he => ?_, fun he => ?_⟩⟩
 ·have he : i = n := by omega
  subst he
  refine ⟨cs, [x], by omega, h.aH, rfl, hv.aH, by decide, by omega, hx, fun hc => h.wrs (by omega), fun p' cap u1 hr => ?_⟩
  obtain ⟨a1, a2, a3⟩ := h.app hr (by omega) h.aH rfl rfl
  rw [List.take_of_length_le (by omega), List.drop_eq_nil_of_le (by omega), List.append_nil]
  refine ⟨⟨p', cap, rfl, a1, fun k hk => ?_⟩, a2⟩
  rcases a3 with ⟨rfl, _⟩ | ⟨rfl, _⟩
  ·exact .inl hk
  ·right; rw [ar hk]; exact Nat.le_refl _
 have hin : i < n := by omega
 obtain ⟨b, rfl⟩ := h.uV (by omega)
 have hbne : vb ≠ b := fun e => hne b ⟨_, rfl, rfl⟩ e.symm
 refine ⟨by simp only [inK]; omega, fun hg => ?_, fun hg => ?_⟩
 ·have e1 : (((n : Nat) : Int) + ((1 : Nat) : Int) - ((i : Nat) : Int)).toNat = n + 1 - i := by omega
  rw [e1]
  refine ⟨by omega, by omega, by omega, by simp only [inK]; omega, by simp only [inK]; omega, cs.take i, by rw [List.length_take]; omega, h.vd hi |>.aH, by decide, by decide, by omega, by omega, by omega, fun p1 cap1 u1 hr => ?_⟩
  have ht := h.vd hi
  obtain ⟨a1, a2, a3⟩ := ht.app hr (by rw [List.length_take]; omega) ht.aH (by rw [dV]; simp) rfl
  have hp1 : p1 = some ⟨u.heap.size, 0, none⟩ /\ Ext u u1 := a3.resolve_left (by omega)
  obtain ⟨rfl, hx1⟩ := hp1
  have hcap := a1.le
  have hin1 : i + (n + 1 - i) = n + 1 := by omega
  rw [hin1] at a1 hcap ⊢
  have hmin : min 1 (n + 1 - i) = 1 := by omega
  have hmin2 : min (n - i) (n + 1 - (i + 1)) = n - i := by omega
  have e2 : (((i : Nat) : Int) + ((1 : Nat) : Int)).toNat = i + 1 := by omega
  simp only [hmin, hmin2, e2]
  have q1 : (if cap1 = i then some (Addr.mk u.heap.size 0 none) else Option.map (fun a => Addr.add a i) (some ⟨u.heap.size, 0, none⟩)) = some ⟨u.heap.size, i, none⟩ := ns (by omega)
  rw [q1]
  simp only [cS, Nat.add_zero]
  have hvu := hv.ext hx1
  have o1 := a1.over (o := i) (ys := [x]) (by rw [List.length_append, List.length_take, dV]; simp; omega)
  have hs1 : Ext u (ae u1 u.heap.size i [x]) := hx1.put (fun hh => by omega) _ _
  have hd1 : Ext u (af (ae u1 u.heap.size i [x])) := hs1.drew
  have hsrc := (h.ext hd1)
  have od1 : Own (af (ae u1 u.heap.size i [x])) 1 (some ⟨u.heap.size, 0, none⟩) (n + 1) cap1 _ := o1.ext ((Upd.refl _).drew)
  have q2 : Gets (af (ae u1 u.heap.size i [x])) (if c = i then some (Addr.mk b 0 none) else Option.map (fun a => Addr.add a i) (some ⟨b, 0, none⟩)) (cs.drop i) := hsrc.Fp (by omega) (by omega)
  refine ⟨by omega, by omega, by omega, [x], rfl, hvu.aH, hx, ⟨fun _ => rfl, by have := (a1.wrs (o := i) (m := 1) (by omega)).2; simpa using this⟩, by simp only [inK]; omega, by omega, by omega, by omega, by omega, by omega, by omega, cs.drop i, by rw [List.length_drop]; omega, q2, dZ hcs i, ?_, ?_⟩
  ·by_cases hce : cap1 = i + 1
   ·rw [if_pos hce]; omega
   ·rw [if_neg hce]
    refine ⟨fun _ => rfl, ?_⟩
    have := (od1.wrs (o := i + 1) (m := n - i) (by omega)).2
    simpa [Addr.add] using this
  ·have hce : cap1 ≠ i + 1 := by omega
   rw [if_neg hce]
   have o2 := od1.over (o := i + 1) (ys := cs.drop i) (by
    simp only [List.length_append, List.length_take, List.length_drop, dV, List.length_cons, List.length_nil]
    omega)
   have e3 : bj (af (ae u1 u.heap.size i [x])) (Option.map (fun a => Addr.add a (i + 1)) (some ⟨u.heap.size, 0, none⟩)) 0 (cs.drop i) = ae (af (ae u1 u.heap.size i [x])) u.heap.size (i + 1) (cs.drop i) := by simp [bj, Addr.add]
   rw [e3]
   refine ⟨⟨_, cap1, rfl, ?_, fun k hk => .inr (by rw [ar hk]; exact Nat.le_refl _)⟩, (hd1.put (fun hh => by omega) _ _).any⟩
   have el := Ep (cs := cs) (i := i) (x := x) (z := aS (n + 1 - i) [.slice none 0 0]) (by omega) (by rw [dV]; simp; omega)
   rw [el] at o2
   exact o2
 ·have hc1 : n + 1 <= c := by omega
  have e0 : (((n : Nat) : Int) + ((1 : Nat) : Int)).toNat = n + 1 := by omega
  have e2 : (((i : Nat) : Int) + ((1 : Nat) : Int)).toNat = i + 1 := by omega
  simp only [e0, e2, Int.toNat_natCast]
  have hm1 : min (n + 1 - i) (n + 1 - (i + 1)) = n - i := by omega
  have hm2 : min 1 (n + 1 - i) = 1 := by omega
  simp only [hm1, hm2]
  obtain ⟨y, hg1⟩ := h.one hc1
  have q0 : (if c = i then some (Addr.mk b 0 none) else Option.map (fun a => Addr.add a i) (some ⟨b, 0, none⟩)) = some ⟨b, i, none⟩ := ns (by omega)
  have q1 : (if c = i + 1 then some (Addr.mk b 0 none) else Option.map (fun a => Addr.add a (i + 1)) (some ⟨b, 0, none⟩)) = some ⟨b, i + 1, none⟩ := ns (by omega)
  rw [q0, q1]
  simp only [cS, Nat.add_zero]
  obtain ⟨r1, t1, hb1⟩ := (hv.at ⟨_, rfl, rfl⟩).2
  obtain ⟨r2, t2, hb2⟩ := (h.at ⟨_, rfl, rfl⟩).2
  simp only at hb1 hb2
  have hd : Ext u (af u) := (Upd.refl u).drew
  have od := hg1.ext hd
  have src := (h.ext hd).Fp (i := i) (by omega) (by omega)
  rw [q0] at src
  have o1 := od.over (o := i + 1) (ys := cs.drop i) (by simp only [List.length_append, List.length_drop, List.length_cons, List.length_nil]; omega)
  have hvd := (hv.ext hd).upd (aI b (i + 1) (cs.drop i)) (fun k hk e => by rw [ar hk] at e; exact hbne e)
  have o2 := o1.over (o := i) (ys := [x]) (by simp only [List.length_append, List.length_take, List.length_drop, List.length_cons, List.length_nil]; omega)
  refine ⟨by simp only [inK]; omega, by omega, by omega, by omega, by simp only [inK]; omega, by omega, by omega, by omega, false, zF hb1 hb2 hbne (by intro e; have := congrArg List.length e; simp only [List.length_append, List.length_nil] at this; omega) _ _ _ _,
   fun _ => ⟨by simp only [inK]; omega, by omega, by omega, by omega, by omega, by omega, by omega, cs.drop i, by rw [List.length_drop]; omega, src, dZ hcs i, ⟨fun _ => rfl, by have := (od.wrs (o := i + 1) (m := n - i) (by omega)).2; simpa using this⟩, by omega, by omega, by omega, [x], rfl, hvd.aH, hx, ⟨fun _ => rfl, by have := (o1.wrs (o := i) (m := 1) (by omega)).2; simpa using this⟩, ?_⟩, fun hh => by cases hh⟩
  refine ⟨⟨_, c, rfl, ?_, fun k hk => .inl hk⟩, ((hd.any (S := At (some ⟨b, 0, none⟩))).put (fun _ => ⟨_, rfl, rfl⟩) _ _).put (fun _ => ⟨_, rfl, rfl⟩) _ _⟩
  have el := Gu (cs := cs) (i := i) (x := x) (y := y) (by omega)
  rw [el] at o2
  exact o2
theorem DW {u : World} {b n c : Nat} {cs : List Value} (h : Own u 1 (some ⟨b, 0, none⟩) n c cs) (hcs : okCells cs True) {i : Nat} (hi : i < n) (hn : n <= 1000) :
  Spec Tryz.prog eH #[.slice (some ⟨b, 0, none⟩) n c, .int .i64 (i : Nat), .int .i64 ((i : Nat) + 1)] u (wF u (some ⟨b, 0, none⟩) (n - 1) (cs.take i ++ cs.drop (i + 1))) := by
 apply iV
 delta ez cnd iI lq
 have e2 : (((i : Nat) : Int) + 1).toNat = i + 1 := by omega
 simp only [decide_eq_true_eq, decide_eq_false_iff_not, Bool.not_eq_true', Bool.not_eq_false', Int.toNat_natCast, Int.toNat_zero, Nat.sub_zero, Nat.mul_one, Nat.zero_mul, Nat.zero_add, Nat.add_zero, cS, G7, e2]
 have hl := h.len
 rw [Nat.mul_one] at hl
 have hle := h.le
 have hd : Ext u (af u) := (Upd.refl u).drew
 have hm : i + (n - (i + 1)) = n - 1 := by omega
 have ht := (h.ext hd).vd (i := i) (by omega)
 have src := (h.ext hd).Fp (i := i + 1) (by omega) (by omega)
 simp only [hm]
 refine ⟨by omega, by omega, by omega, by omega, fun hh => by omega, fun _ => ⟨by omega, by omega, by omega, by omega, by omega, by omega, cs.take i, cs.drop (i + 1), by rw [List.length_take]; omega, ht.aH, by rw [List.length_drop]; omega, src, by decide, by omega, dZ hcs _, fun hc => ht.wrs (by omega), fun p' cap u1 hr => ?_⟩⟩
 obtain ⟨a1, a2, a3⟩ := ht.app hr (by rw [List.length_take]; omega) ht.aH (by rw [List.length_drop]; omega) rfl
 rcases hr with ⟨hc, rfl, rfl, hu1⟩ | ⟨hc, _⟩
 rotate_left
 ·omega
 rw [hm] at a1
 have hall : Own u1 1 (some ⟨b, 0, none⟩) n cap (cs.take i ++ cs.drop (i + 1) ++ cs.drop (n - 1)) := by
  have o := (h.ext hd).over (o := i) (ys := cs.drop (i + 1)) (by rw [List.length_drop]; omega)
  have e : i + (cs.drop (i + 1)).length = n - 1 := by rw [List.length_drop]; omega
  rw [e] at o
  rw [hu1]
  simpa [bj] using o
 have hz : (aS (n - (n - 1)) [.slice none 0 0]).length = 1 := by rw [dV]; simp; omega
 have hcut : (if cap = n - 1 then some (Addr.mk b 0 none) else Option.map (fun a => Addr.add a (n - 1)) (some ⟨b, 0, none⟩)) = some ⟨b, n - 1, none⟩ := ns (by omega)
 rw [hcut]
 simp only [cS, Nat.add_zero]
 have o2 := hall.over (o := n - 1) (ys := aS (n - (n - 1)) [.slice none 0 0]) (by
  rw [hz]
  simp only [List.length_append, List.length_take, List.length_drop]
  omega)
 have hone : aS (n - (n - 1)) [.slice none 0 0] = [.slice none 0 0] := by rw [show n - (n - 1) = 1 by omega]; rfl
 refine ⟨by omega, by omega, by omega, ?_, ⟨fun _ => rfl, by have := (hall.wrs (o := n - 1) (m := n - (n - 1)) (by omega)).2; simpa using this⟩, ⟨_, cap, rfl, ?_, fun k hk => .inl hk⟩, ?_⟩
 ·rw [hone]; simp [okCells]
 ·have o3 := o2.vd (i := n - 1) (by omega)
  have el : ((cs.take i ++ cs.drop (i + 1) ++ cs.drop (n - 1)).take (n - 1) ++ aS (n - (n - 1)) [.slice none 0 0] ++ (cs.take i ++ cs.drop (i + 1) ++ cs.drop (n - 1)).drop (n - 1 + (aS (n - (n - 1)) [.slice none 0 0]).length)).take (n - 1) = cs.take i ++ cs.drop (i + 1) := by
   rw [List.append_assoc, List.take_append_of_le_length (by simp only [List.length_append, List.length_take, List.length_drop]; omega), List.take_take, Nat.min_self]
   exact List.take_left' (by simp only [List.length_append, List.length_take, List.length_drop]; omega)
  rw [el] at o3
  exact o3
 ·exact (((hd.any (S := At (some ⟨b, 0, none⟩))).trans a2 fun _ _ h => h)).put (fun _ => ⟨_, rfl, rfl⟩) _ _
end Go.Proofs.YtkmmphkjmamckacGreatDoor
