/- Texts joined: SView, RView, RPlays, Laid. -/
import Derived.Test.YtkmmphkjmamckacGreatDoorZ14
import Derived.Test.YtkmmphkjmamckacGreatDoorZ23
import Derived.Test.YtkmmphkjmamckacGreatDoorZ10
import Derived.Test.YtkmmphkjmamckacGreatDoorChecked
import Derived.Deep.DeepHandedRow
namespace Go.Proofs.YtkmmphkjmamckacGreatDoor
open Go
set_option linter.all false
theorem w9 {α : Type} {l ys r : List α} {o : Nat} (h : putN l o ys = some r) {c : α} (hc : c ∈ r) : c ∈ ys \/ c ∈ l := by
 obtain ⟨_, _, h2⟩ := kF _ _ _ _ h
 obtain ⟨i, hi, rfl⟩ := List.getElem_of_mem hc
 have := h2 i
 rw [List.getElem?_eq_getElem hi] at this
 split at this
 ·exact .inl (List.mem_of_getElem? this.symm)
 ·exact .inr (List.mem_of_getElem? this.symm)
theorem uT {cs : List Value} {P : Prop} (h : ∀ c ∈ cs, okCells [c] True) (hP : P) : okCells cs P := by
 rw [bm]
 refine ⟨fun c hc => ?_, hP⟩
 have := h c hc
 rw [bm] at this
 exact this.1 c List.mem_cons_self
theorem Ib {cs : List Value} (h : okCells cs True) {c : Value} (hc : c ∈ cs) : okCells [c] True := by
 rw [bm] at h ⊢
 exact ⟨fun x hx => by rw [List.mem_singleton.1 hx]; exact h.1 c hc, trivial⟩
theorem SvC.okv {u : World} {ok : Nat -> Prop} {s : Sv} {cs : List Value} (h : SvC u ok s cs) : ∀ c ∈ cs.take 58, okCells [c] True := fun c hc => by
 obtain ⟨j, hj, rfl⟩ := List.getElem_of_mem hc
 have hl := h.len
 have hj58 : j < 58 := by rw [List.length_take] at hj; omega
 rw [List.getElem_take]
 have at_ : ∀ {a n : Nat} {x : List Value}, takeN cs a n = some x -> a <= j -> j < a + n -> okCells x True -> okCells [cs[j]] True := fun {a n x} hx h1 h2 hok => by
  obtain ⟨k1, k2⟩ := cQ _ _ _ _ hx
  have := k2 (j - a) (by omega)
  rw [show a + (j - a) = j by omega, List.getElem?_eq_getElem (by omega)] at this
  exact Ib hok (List.mem_of_getElem? this.symm)
 by_cases h0 : j = 0
 ·obtain ⟨p, c, k1, _⟩ := h.oY
  exact at_ k1 (by omega) (by omega) (by simp [okCells])
 by_cases h55 : j < 55
 ·obtain ⟨x, k1, ⟨p, c, rfl, _⟩, _⟩ := h.qz ((j - 1) / 9) (by omega)
  exact at_ k1 (by omega) (by omega) (by simp [okCells])
 by_cases e1 : j = 55
 ·exact at_ h.wide (by omega) (by omega) (by simp [okCells])
 by_cases e2 : j = 56
 ·exact at_ h.high (by omega) (by omega) (by simp [okCells])
 ·exact at_ h.focus (by omega) (by omega) (by simp [okCells])
structure VwF (n0 : Nat) (u : World) (cs : List Value) (v : Vw) : Prop where
 ex : ∃ n1, n0 <= n1 /\ (∃ p c, takeN cs 0 1 = some [.slice p v.aj.length c] /\ TlN n0 n1 u p c v.aj) /\
  ∀ i : Nat, i < 6 -> ∃ p c, takeN cs (1 + i * 9) 9 = some (grV (v.aG.getD i .zero) p (v.aG.getD i .zero).cells.length c) /\ Own u 4 p (v.aG.getD i .zero).cells.length c (aE (v.aG.getD i .zero).cells) /\ ∀ k, At p k -> n1 <= k
 few : dO 1048576 v.aj
 gb : ∀ i : Nat, i < 6 -> (v.aG.getD i .zero).cells.length <= 1048576 /\ inK .i64 (v.aG.getD i .zero).row /\ inK .i64 (v.aG.getD i .zero).col
 wide : takeN cs 55 1 = some [.int .i64 v.wide]
 high : takeN cs 56 1 = some [.int .i64 v.high]
 focus : takeN cs 57 1 = some [.int .i64 v.focus]
 len : cs.length = 58
 okv : ∀ c ∈ cs, okCells [c] True
theorem VwF.m {n0 : Nat} {u : World} {cs : List Value} {v : Vw} (h : VwF n0 u cs v) : VwM u cs v := by
 obtain ⟨⟨n1, _, ⟨p, c, t1, t2⟩, hg⟩, few, gb, w, hi, fo, len, _⟩ := h
 refine ⟨⟨p, c, t1, t2.tl⟩, few, fun i hi => ?_, w, hi, fo, by have := lO cs; rwa [len] at this⟩
 obtain ⟨p, c, g1, g2, _⟩ := hg i hi
 exact ⟨p, c, g1, ⟨g2.aH⟩, (gb i hi).1, (gb i hi).2.1, (gb i hi).2.2⟩
theorem VwF.upd {S : Nat -> Prop} {n0 : Nat} {u u' : World} {cs : List Value} {v : Vw} (h : VwF n0 u cs v) (hu : Upd S u u') (hS : ∀ k, S k -> k < n0) : VwF n0 u' cs v := by
 obtain ⟨⟨n1, h0, ⟨p, c, t1, t2⟩, hg⟩, few, gb, w, hi, fo, len, okv⟩ := h
 refine ⟨⟨n1, h0, ⟨p, c, t1, t2.upd hu hS⟩, fun i hi => ?_⟩, few, gb, w, hi, fo, len, okv⟩
 obtain ⟨p, c, g1, g2, g3⟩ := hg i hi
 exact ⟨p, c, g1, g2.upd hu fun k hk hs => by have := g3 k hk; have := hS k hs; omega, g3⟩
theorem VwF.ext {n0 : Nat} {u u' : World} {cs : List Value} {v : Vw} (h : VwF n0 u cs v) (hu : Ext u u') : VwF n0 u' cs v := h.upd hu fun _ h => h.elim
structure Ie (u : World) (v : Vw) (e : Ending) (u' : World) : Prop where
 ex : ∃ cs, e = .returned (.agg cs.toArray) /\ VwF u.heap.size u' cs v
 ext : Ext u u'
theorem DY {u : World} {sb : Nat} {B : Nat -> Prop} {s : Sv} (h : SvM u sb B s) (few : dO 1000 s.v.aj) (hg : ∀ p, p < 6 -> aq s.v p = .zero \/ ao (aq s.v p)) :
  Spec Tryz.prog dD #[.pointer (some ⟨sb, 0, none⟩)] u (Ie u s.v) := by
 apply kX
 delta iv Dw rk Dj cnd iI lq
 simp only [decide_eq_true_eq, decide_eq_false_iff_not, true_and]
 refine ⟨fun hn => (by cases hn), fun _ => ?_⟩
 have hu : Ext u (ab u hole) := (Upd.refl u).alloc _
 have few1 : dO 1048576 s.v.aj := ⟨by have := few.n; omega, fun c hc => by have := few.each c hc; omega⟩
 obtain ⟨cs, hc, hrd⟩ := (h.ext hu).rd
 obtain ⟨vl, v58, VM⟩ := hc.view few1 hg
 have okv := hc.okv
 obtain ⟨tp, tc, kt, TF⟩ := hc.oY
 generalize hX : cs.take 58 = X at *
 refine ⟨X, vl.symm, hrd v58, vl.symm, uT okv ⟨X, bP (by rw [vl]; rfl), rfl, ?_⟩⟩
 obtain ⟨X2, P2⟩ := cZ (cs := X) (o := 0) (ys := [.slice none 0 0]) (by rw [vl]; decide)
 have ha : Ext (ab u hole) (ab (ab u hole) hole) := (Upd.refl _).alloc _
 have rdt : Rd (ab (ab u hole) hole) sb (0 + 0 + 0) [.slice tp s.v.aj.length tc] := ha.rd (hrd kt) fun h => h
 refine ⟨X2, P2.put, tp, _, tc, rfl, rdt, ?_⟩
 have h0 : takeN X 0 1 = some [.slice tp s.v.aj.length tc] := by rw [<- hX]; exact de kt (by decide)
 have TL : Tl (ab (ab u hole) hole) tp s.v.aj := TF.tl.ext ha
 have hu0 : Ext u (ab (ab u hole) hole) := hu.ext ha
 have ctl := few.n
 obtain ⟨G0, W0, H0, F0⟩ := (⟨VM.qz, VM.wide, VM.high, VM.focus⟩ : _ /\ _ /\ _ /\ _)
 have VM0 := VM.ext ha
 refine ⟨fun x v w => (∃ p n c xs, takeN v 0 1 = some [.slice p n c] /\ dH (ab (ab u hole) hole) w p n c xs (s.v.aj.take x.toNat)) /\ (∀ {a m : Nat} {z : List Value}, 1 <= a -> takeN X a m = some z -> takeN v a m = some z) /\ v.length = 58 /\ (∀ c ∈ v, okCells [c] True) /\ Ext (ab (ab u hole) hole) w /\ 0 <= x /\ x <= s.v.aj.length, fun x _ _ => (s.v.aj.length - x).toNat,
  ⟨⟨none, 0, 0, [], P2.on h0 (by omega) (by decide) rfl, dH.nil _ _⟩, fun ha1 hz => P2.off (.inr (by simp; omega)) hz, by rw [P2.len, vl], fun c hc => ?_, Upd.refl _, Int.le_refl _, by omega⟩, ?_⟩
 ·rcases w9 P2.put hc with h7 | h7
  ·rw [List.mem_singleton.1 h7]; simp [okCells]
  ·exact okv c h7
 rintro x v w ⟨⟨p, n, c, xs, hv0, O⟩, hv1, hvl, hvo, hw, x0, x1⟩
 have hwu : Ext u w := hu0.ext hw
 have hsz := hw.size
 refine ⟨fun hx => ?_, fun hx => ?_⟩
 ·obtain ⟨b, o, q', c', hp, hr, hnum⟩ := (TL.ext hw).at (i := x.toNat) (by omega)
  have hcl := few.getD x.toNat
  have htk := bN s.v.aj [] (i := x.toNat) (by omega)
  have hd : Ext w (af w) := (Upd.refl w).drew
  have hlen := O.len
  rw [List.length_take] at hlen
  refine ⟨b, o, hp, x0, hx, _, _, _, rfl, hr, p, n, c, hv0, [], bg (s.v.aj.getD x.toNat []), rfl, rfl, by rw [bF]; omega, (hnum.ext hd).1, by decide, by omega, iY _, fun _ => trivial, fun p1 cap1 w1 hr1 => ?_⟩
  obtain ⟨o1, x1', o3⟩ := cD.none hr1 rfl (by rw [bF]; omega) rfl
  have hvw := hd.ext x1'
  rw [Nat.zero_add] at o1 ⊢
  have hszw := hvw.size
  have o4 : ∀ k, At p1 k -> k = w.heap.size := fun k hk => by
   rcases o3 with ⟨_, h3⟩ | h3
   ·rw [h3] at hk; exact (aJ hk).elim
   ·rw [h3] at hk
    have := ar hk
    have e : (af w).heap.size = w.heap.size := rfl
    simp only at this
    omega
  have push := (O.ext hvw).push (cq := cap1) (q := p1) (by omega) (by omega) o1.iG (fun k hk => ⟨(o1.at hk).1, fun hat => by
   have h2 := (O.own.at hat).1
   have := o4 k hk
   omega, by have := o4 k hk; omega, by obtain ⟨_, r, t, h⟩ := o1.at hk; exact ⟨_, t, h⟩⟩) aL aL (K := fun p' c' w' => 1 = ([.slice p' (n + 1) c'] : List Value).length /\ ∃ cs3, putN v 0 [.slice p' (n + 1) c'] = some cs3 /\ inK .i64 (x + 1) /\ ((∃ p n c xs, takeN cs3 0 1 = some [.slice p n c] /\ dH (ab (ab u hole) hole) w' p n c xs (s.v.aj.take (x + 1).toNat)) /\ (∀ {a m : Nat} {z : List Value}, 1 <= a -> takeN X a m = some z -> takeN cs3 a m = some z) /\ cs3.length = 58 /\ (∀ c ∈ cs3, okCells [c] True) /\ Ext (ab (ab u hole) hole) w' /\ 0 <= x + 1 /\ x + 1 <= s.v.aj.length) /\ ((s.v.aj.length : Int) - (x + 1)).toNat < ((s.v.aj.length : Int) - x).toNat) fun p' c' w' hO hu' => by
    obtain ⟨cs3, P3⟩ := cZ (cs := v) (o := 0) (ys := [.slice p' (n + 1) c']) (by rw [hvl]; show 0 + 1 <= 58; omega)
    refine ⟨rfl, cs3, P3.put, by simp only [inK]; omega, ⟨?_, fun ha1 hz => P3.off (.inr (by simp; omega)) (hv1 ha1 hz), by rw [P3.len, hvl], fun c hc => ?_, ((hw.ext hvw).trans hu' fun k hk hat => by have := O.new k hat; omega).mono fun _ _ h => h, by omega, by omega⟩, by omega⟩
    ·rw [show (x + 1).toNat = x.toNat + 1 by omega, htk]
     obtain ⟨ys, hO⟩ := hO
     exact ⟨p', n + 1, c', ys, P3.on hv0 (by omega) (by show 0 + 1 <= 0 + 1; omega) rfl, hO⟩
    ·rcases w9 P3.put hc with h7 | h7
     ·rw [List.mem_singleton.1 h7]; simp [okCells]
     ·exact hvo c h7
  exact push
 ·have hcl : s.v.aj.take x.toNat = s.v.aj := List.take_of_length_le (by omega)
  rw [hcl] at O
  have hn : s.v.aj.length = n := O.len
  subst hn
  refine ⟨fun y v' w' => (∃ p c, takeN v' 0 1 = some [.slice p s.v.aj.length c] /\ TlN u.heap.size w.heap.size w' p c s.v.aj) /\ (∀ i : Nat, i < 6 -> ∃ p c, takeN v' (1 + i * 9) 9 = some (grV (aq s.v i) p (aq s.v i).cells.length c) /\ Cells w' p (aq s.v i).cells /\ (i < y.toNat -> Own w' 4 p (aq s.v i).cells.length c (aE (aq s.v i).cells) /\ ∀ k, At p k -> w.heap.size <= k)) /\ (takeN v' 55 1 = some [.int .i64 s.v.wide] /\ takeN v' 56 1 = some [.int .i64 s.v.high] /\ takeN v' 57 1 = some [.int .i64 s.v.focus]) /\ v'.length = 58 /\ (∀ c ∈ v', okCells [c] True) /\ Ext w w' /\ 0 <= y /\ y <= 6, fun y _ _ => (6 - y).toNat,
   ⟨⟨p, c, hv0, O.tln hu0.size⟩, fun i hi => ?_, ⟨hv1 (by decide) W0, hv1 (by decide) H0, hv1 (by decide) F0⟩, hvl, hvo, Upd.refl _, by omega, by omega⟩, ?_⟩
  ·obtain ⟨gp, gc, g1, g2, _⟩ := VM0.qz i hi
   exact ⟨gp, gc, hv1 (by omega) g1, g2.ext hw, fun h => by omega⟩
  rintro y v' w' ⟨⟨p2, c2, t1, t2⟩, hgr, ⟨q1, q2, q3⟩, hl', ho', hw', y0, y6⟩
  refine ⟨fun hy => ⟨by omega, by omega, ?_⟩, fun hy => ?_⟩
  ·have hi6 : y.toNat < 6 := by omega
   have hws := hw'.size
   obtain ⟨gp, gc, g1, g2, _⟩ := hgr y.toNat hi6
   have gfew : (aq s.v y.toNat).cells.length <= 240 := by
    rcases hg _ hi6 with e | e
    ·rw [e]; decide
    ·exact aK e
   refine ⟨gp, _, gc, ua g1 (j := 2) (m := 1) rfl (by decide), [], aE (aq s.v y.toNat).cells, rfl, rfl, bq _, g2.aH, by decide, by omega, (fQ _ _).2 trivial, fun _ => trivial, fun p3 cap3 w3 hr3 => ?_⟩
   obtain ⟨o1, x3, o3⟩ := cD.none hr3 rfl (bq _) rfl
   rw [Nat.zero_add] at o1 ⊢
   obtain ⟨cs4, P4⟩ := cZ (cs := v') (o := 1 + y.toNat * 9 + 2) (ys := [.slice p3 (aq s.v y.toNat).cells.length cap3]) (by rw [hl']; simp; omega)
   have off : ∀ {a m : Nat} {z : List Value}, a + m <= 1 + y.toNat * 9 + 2 \/ 1 + y.toNat * 9 + 3 <= a -> takeN v' a m = some z -> takeN cs4 a m = some z := fun hd hz => P4.off (by simpa using hd) hz
   refine ⟨by omega, by omega, rfl, cs4, P4.put, by simp only [inK]; omega, ⟨⟨p2, c2, off (by omega) t1, t2.ext x3⟩, fun i hi => ?_, ⟨off (by omega) q1, off (by omega) q2, off (by omega) q3⟩, by rw [P4.len, hl'], fun c hc => ?_, hw'.ext x3, by omega, by omega⟩, by first | omega | (dsimp only; omega)⟩
   ·by_cases e : i = y.toNat
    ·subst e
     refine ⟨p3, cap3, P4.on g1 (by omega) (by simp) (by rw [show 1 + y.toNat * 9 + 2 - (1 + y.toNat * 9) = 2 by omega]; rfl), ⟨o1.aH⟩, fun _ => ⟨o1, fun k hk => ?_⟩⟩
     rcases o3 with ⟨_, h3⟩ | h3
     ·rw [h3] at hk; exact (aJ hk).elim
     ·rw [h3] at hk
      have := ar hk
      simp only at this
      omega
    ·obtain ⟨gp', gc', k1, k2, k3⟩ := hgr i hi
     exact ⟨gp', gc', off (by omega) k1, k2.ext x3, fun h => ⟨(k3 (by omega)).1.ext x3, (k3 (by omega)).2⟩⟩
   ·rcases w9 P4.put hc with h7 | h7
    ·rw [List.mem_singleton.1 h7]; simp [okCells]
    ·exact ho' c h7
  ·have hwh : takeN v' 0 58 = some v' := by have := lO v'; rwa [hl'] at this
   have hws := hwu.size
   refine ⟨hwh, hl'.symm, uT ho' ⟨v', bP (by rw [hl']; rfl), hwh, ⟨v', rfl, ⟨w.heap.size, hws, ⟨p2, c2, t1, t2⟩, fun i hi => ?_⟩, few1, fun i hi => ?_, q1, q2, q3, hl', ho'⟩, hwu.ext hw'⟩⟩
   ·obtain ⟨gp, gc, k1, k2, k3⟩ := hgr i hi
    exact ⟨gp, gc, k1, (k3 (by omega)).1, (k3 (by omega)).2⟩
   ·obtain ⟨_, _, _, _, m1, m2, m3⟩ := G0 i hi
    exact ⟨m1, m2, m3⟩
theorem Is {t : aD} (h : cF t) : dO 1000 t := ⟨by have := h.yP.n; omega, fun c hc => by have := h.yP.each c hc; omega⟩
theorem RvM.view {u : World} {sb : Nat} {B : Nat -> Prop} {s : Sv} (h : RvM u sb B s) (I : bR s) : ∃ X : List Value, 58 = X.length /\ Rd u sb 0 X /\ VwM u X s.v := by
 obtain ⟨cs, hc, hrd⟩ := h.rd
 have hl : (cs.take 58).length = 58 := by rw [List.length_take, hc.len]; rfl
 refine ⟨cs.take 58, hl.symm, hrd (eZ _ _ _ _ hl fun j hj => by rw [List.getElem?_take_of_lt hj, Nat.zero_add]), ?_⟩
 obtain ⟨p, c, k1, k2⟩ := hc.oY
 refine ⟨⟨p, c, de k1 (by decide), k2.tl⟩, ⟨by have := I.aj.yP.n; omega, fun c hc => by have := I.aj.yP.each c hc; omega⟩, fun i hi => ?_, de hc.wide (by decide), de hc.high (by decide), de hc.focus (by decide), by have := lO (cs.take 58); rwa [hl] at this⟩
 obtain ⟨x, m1, ⟨p, c, rfl, m2, m3⟩, m5⟩ := hc.qz i hi
 refine ⟨p, c, de m1 (by omega), m2, by have : (aq s.v i).cells.length <= 1000 := m5; show (aq s.v i).cells.length <= _; omega, ?_, ?_⟩
 ·show inK .i64 (aq s.v i).row
  rcases I.ki i hi with e | e
  ·rw [e]; simp only [inK]; decide
  ·have := e.r1; have := e.r2; have := e.h2; simp only [inK]; omega
 ·show inK .i64 (aq s.v i).col
  rcases I.ki i hi with e | e
  ·rw [e]; simp only [inK]; decide
  ·have := e.c1; have := e.c2; have := e.w2; simp only [inK]; omega
theorem Dl {u : World} {a b : List Value} {v : Vw} (ha : VwM u a v) (hb : VwM u b v) : Spec Tryz.prog cX #[.agg a.toArray, .agg b.toArray] u (Told u true) := by
 apply jH
 delta fX cnd iI lq
 simp only [decide_eq_true_eq, decide_eq_false_iff_not, true_and, Bool.not_eq_true', Bool.not_eq_false']
 have hu : Ext u (ab (ab u hole) hole) := ((Upd.refl u).alloc _).alloc _
 refine ⟨fun y z => Ext u z /\ 0 <= y /\ y <= 6, fun y _ => (6 - y).toNat, ⟨hu, by omega, by omega⟩, ?_⟩
 rintro y z ⟨hz, y0, y6⟩
 refine ⟨fun hy => ?_, fun hy => ?_⟩
 ·have hd : Ext u (af z) := hz.drew
  obtain ⟨ga, gca, g1, g2, g3, _⟩ := ha.qz y.toNat (by omega)
  obtain ⟨gb, gcb, k1, k2, k3, _⟩ := hb.qz y.toNat (by omega)
  refine ⟨y0, hy, _, _, _, _, _, _, _, _, _, _, _, g1, y0, hy, _, _, _, _, _, _, _, _, _, _, _, k1, ?_⟩
  refine (CP (g2.ext hd) (k2.ext hd) gca gcb (by omega)).mono fun e w1 ⟨he, hw1⟩ => ⟨_, he, fun hf => (by rw [DG.2 rfl] at hf; cases hf), fun _ => ⟨by simp only [inK]; omega, ⟨hd.ext hw1, by omega, by omega⟩, by first | omega | (dsimp only; omega)⟩⟩
 ·obtain ⟨pa, ca, a0, aT⟩ := ha.aj
  obtain ⟨pb, cb, b0, bT⟩ := hb.aj
  refine ⟨pa, _, ca, a0, pb, _, cb, b0, (zW (aT.ext hz) (bT.ext hz) ca cb ⟨by have := ha.few.n; omega, fun c hc => by have := ha.few.each c hc; omega⟩).mono fun e w1 ⟨he, hw1⟩ => ⟨_, he, fun _ => ?_, fun hn => by simp [B9] at hn⟩⟩
  refine ⟨_, ha.wide, _, hb.wide, fun _ => ⟨_, ha.high, _, hb.high, fun _ => ⟨_, ha.focus, _, hb.focus, by simp, hz.ext hw1⟩, fun hn => (hn rfl).elim⟩, fun hn => (hn rfl).elim⟩
theorem Ht (s : Sv) (a : Ac) (h : a.kind ≠ 9) : (gu s a).2.out = [] := by
 have hv : a.kind = 6 \/ a.kind = 7 -> (aM s a).2.out = [] := fun hk => by
  unfold aM
  repeat' split
  all_goals first
   | rfl
   | (exfalso; omega)
   | (dsimp only; repeat' split)
  all_goals first
   | rfl
   | (exfalso; omega)
 unfold gu
 repeat' split
 all_goals first
  | rfl
  | (unfold splitS; split <;> first | rfl | (dsimp only; split <;> rfl))
  | (unfold dF; dsimp only; split <;> rfl)
  | exact hv (by omega)
theorem HU {s : Sv} {a : Ac} (h : a.kind ≠ 9) : (doS s a).2.out = [] := by
 unfold doS
 split
 ·rfl
 ·exact Ht _ a h
theorem Gj {s : Sv} (I : bR s) {a : Ac} (h : a.kind = 9) (hc : (doS s a).2.code ≠ 0) : (doS s a).2.n = 0 /\ (doS s a).2.out = [] := by
 by_cases hf : 300 <= s.ay
 ·unfold doS; rw [if_pos hf]; exact ⟨rfl, rfl⟩
 ·rw [zk (by omega), kA (.inr (.inr h))] at hc ⊢
  rcases iU (I.ay (s.ay + 1)) a with ⟨_, _, h3, h4⟩ | ⟨h1, _⟩
  ·exact ⟨h3, h4⟩
  ·exact (hc h1).elim
theorem Fw {s : Sv} (I : bR s) {a : Ac} (h : a.kind = 9) (hc : (doS s a).2.code = 0) (hf : s.ay < 300) : 0 <= a.p /\ a.p < 3 /\ (doS s a).2.n = bL a.n (bw s a.p).1 /\ (doS s a).2.out = (bw s a.p).1.take (bL a.n (bw s a.p).1) /\ (bw (doS s a).1 a.p).1 = (bw s a.p).1.drop (bL a.n (bw s a.p).1) := by
 rw [zk (by omega), kA (.inr (.inr h))] at hc ⊢
 rcases iU (I.ay (s.ay + 1)) a with ⟨h1, _⟩ | ⟨_, h2, h3, _, _, h6⟩
 ·exact (h1 hc).elim
 ·rcases h6 with ⟨g1, _⟩ | ⟨g1, _⟩ | ⟨_, _, g3, g4, g5⟩
  ·omega
  ·omega
  ·have e : ag { s with ay := s.ay + 1 } a.p.toNat = ag s a.p.toNat := rfl
   rw [e] at g3 g4 g5
   have ht : (bw s a.p).1 = (ag s a.p.toNat).queue := by unfold bw; rw [if_neg (by rw [g3]; simp; omega)]
   rw [ht]
   refine ⟨h2, h3, by rw [g5], by rw [g5], ?_⟩
   unfold bw
   rw [g4, if_neg (by dsimp only; rw [g3]; simp; omega)]
theorem Fs {s : Sv} (I : bR s) {a : Ac} (h : a.kind = 6) (hc : (doS s a).2.code = 0) (hf : s.ay < 300) : bw (doS s a).1 a.p = ([], true, true) := by
 rw [zk (by omega), kA (.inl h)] at hc ⊢
 rcases iU (I.ay (s.ay + 1)) a with ⟨h1, _⟩ | ⟨_, h2, h3, _, _, h6⟩
 ·exact (h1 hc).elim
 ·rcases h6 with ⟨_, _, g2, _⟩ | ⟨g1, _⟩ | ⟨g1, _⟩
  ·unfold bw
   rw [g2, if_neg (by simp; omega)]
  ·omega
  ·omega
theorem Gf {s : Sv} (I : bR s) {a : Ac} {x : Int} (hx : 0 <= x /\ x < 3) (hf : s.ay < 300) (hh : (ag (doS s a).1 x.toNat).here = true) (h6 : ¬ (a.kind = 6 /\ a.p = x /\ (doS s a).2.code = 0)) (h8 : a.kind ≠ 8) (h9 : ¬ (a.kind = 9 /\ a.p = x)) : (bw (doS s a).1 x).1 = (bw s x).1 := by
 have key : ag (doS s a).1 x.toNat = ag s x.toNat -> (bw (doS s a).1 x).1 = (bw s x).1 := fun e => by unfold bw; rw [e]
 by_cases hv : a.kind = 6 \/ a.kind = 7 \/ a.kind = 9
 ·by_cases hp : a.p = x
  ·rw [zk (by omega), kA hv] at hh h6 key ⊢
   rcases iU (I.ay (s.ay + 1)) a with ⟨_, h2, _⟩ | ⟨h1, _, _, _, _, hs⟩
   ·exact key (by rw [h2])
   ·rcases hs with ⟨g1, _⟩ | ⟨_, g2, _⟩ | ⟨g1, g2, _⟩
    ·exact (h6 ⟨g1, hp, h1⟩).elim
    ·rw [<- hp, g2] at hh
     cases hh
    ·exact (h9 ⟨by omega, hp⟩).elim
  ·exact key ((Fg I hv).2 x.toNat (by omega) (by omega))
 ·refine key ?_
  rw [zk (by omega)]
  have := vA { s with ay := s.ay + 1 } a (by omega)
  show List.getD _ _ _ = _
  rw [this]
def vh (l : List Ac) : Nat -> Sv
 | 0 => yO
 | i + 1 => (doS (vh l i) (l.getD i ⟨0, 0, 0, 0, []⟩)).1
theorem zd (l : List Ac) : ∀ i : Nat, i <= 300 -> bR (vh l i) /\ (vh l i).ay = i
 | 0, _ => ⟨tf, rfl⟩
 | i + 1, h => by
  obtain ⟨h1, h2⟩ := zd l i (by omega)
  exact ⟨DP h1 _, by show (doS _ _).1.ay = _; rw [EK (by omega), h2]; omega⟩
structure PlB (u0 : World) (p : Option Addr) (l : List Ac) (sb rb : Nat) (s1 s2 : Sv) (u : World) : Prop where
 sv : SvM u sb (fun k => k = sb \/ k = rb) s1
 rv : RvM u rb (fun k => k = sb \/ k = rb) s2
 al : 0 < l.length -> A0 u p l
 up : Ext u0 u
 ne : sb ≠ rb
 sn : u0.heap.size <= sb
 rn : u0.heap.size <= rb
 bn : 0 < l.length -> ∀ k, At p k -> k < u0.heap.size
theorem PlB.ext {u0 : World} {p : Option Addr} {l : List Ac} {sb rb : Nat} {s1 s2 : Sv} {u v : World} (h : PlB u0 p l sb rb s1 s2 u) (hu : Ext u v) : PlB u0 p l sb rb s1 s2 v := ⟨h.sv.ext hu, h.rv.ext hu, fun h0 => (h.al h0).ext hu, h.up.ext hu, h.ne, h.sn, h.rn, h.bn⟩
theorem PlB.act {u0 : World} {b o : Nat} {l : List Ac} {sb rb : Nat} {s1 s2 : Sv} {u : World} (h : PlB u0 (some ⟨b, o, none⟩) l sb rb s1 s2 u) {r : Int} (h0 : 0 <= r) (hr : r < (l.length : Nat)) : Rd u b (o + r.toNat * 5) (acV (l.getD r.toNat ⟨0, 0, 0, 0, []⟩)) := by
 obtain ⟨b', o', hp, hrd⟩ := (h.al (by omega)).at (i := r.toNat) (by omega) ⟨0, 0, 0, 0, []⟩
 cases hp
 exact hrd
theorem PlB.Io {S : Nat -> Prop} {u0 : World} {p : Option Addr} {l : List Ac} {sb rb : Nat} {s1 s2 : Sv} {u u' : World} (h : PlB u0 p l sb rb s1 s2 u) (hu : Upd S u u') (hS : ∀ k, S k -> u0.heap.size <= k) : 0 < l.length -> A0 u' p l := fun h0 => ⟨(h.al h0).arr.upd hu fun k hk hs => by have := hS k hs; have := h.bn h0 k hk; omega⟩
theorem PlB.HZ {u0 : World} {p : Option Addr} {l : List Ac} {sb rb : Nat} {s1 s2 : Sv} {u : World} (h : PlB u0 p l sb rb s1 s2 u) (I : bR s1) (ha : 0 <= s1.ay) (a : Ac) (hb : a.bytes.length <= 1048576) :
  Spec Tryz.prog eK #[.pointer (some ⟨sb, 0, none⟩), .agg #[iI a.kind, iI a.p, iI a.n, iI a.m, .string (aW a.bytes)]] u fun e v => e = .returned (.agg #[iI (doS s1 a).2.code, iI (doS s1 a).2.n, .string (aW (doS s1 a).2.out)]) /\ PlB u0 p l sb rb (doS s1 a).1 s2 v :=
 (FV h.sv I ha a (by_ := aW a.bytes) (aZ _) (by have : (aW a.bytes).data.toList.length = (aW a.bytes).size := rfl; rw [aZ] at this; omega)).mono fun e v ⟨he, hm, hv⟩ => ⟨he, hm, h.rv.upd hv fun k _ hk => ⟨.inl hk, fun e => h.ne (hk.symm.trans e)⟩, h.Io hv fun k hk => by have := h.sn; omega, (h.up.trans hv fun k hk hs => by have := h.sn; omega).mono fun _ _ h => h, h.ne, h.sn, h.rn, h.bn⟩
theorem PlB.Hb {u0 : World} {p : Option Addr} {l : List Ac} {sb rb : Nat} {s1 s2 : Sv} {u : World} (h : PlB u0 p l sb rb s1 s2 u) (I : bR s2) (ha : 0 <= s2.ay /\ s2.ay <= 300) (a : Ac) (hb : a.bytes.length <= 1048576) :
  Spec Tryz.prog cT #[.pointer (some ⟨rb, 0, none⟩), .agg #[iI a.kind, iI a.p, iI a.n, iI a.m, .string (aW a.bytes)]] u fun e v => e = .returned (.agg #[iI (doS s2 a).2.code, iI (if a.kind = 9 then 0 else (doS s2 a).2.n), .string (ByteArray.mk #[])]) /\ PlB u0 p l sb rb s1 (doS s2 a).1 v :=
 (GI h.rv I ha a (by_ := aW a.bytes) (aZ _) (by have : (aW a.bytes).data.toList.length = (aW a.bytes).size := rfl; rw [aZ] at this; omega)).mono fun e v ⟨he, hm, hv⟩ => ⟨he, h.sv.upd hv fun k _ hk => ⟨.inr hk, fun e => h.ne (e.symm.trans hk)⟩, hm, h.Io hv fun k hk => by have := h.rn; omega, (h.up.trans hv fun k hk hs => by have := h.rn; omega).mono fun _ _ h => h, h.ne, h.sn, h.rn, h.bn⟩
theorem PlB.same {u0 : World} {p : Option Addr} {l : List Ac} {sb rb : Nat} {s : Sv} {u : World} (h : PlB u0 p l sb rb s s u) (I : bR s) {R0 R : World -> Prop} (hR : ∀ w, PlB u0 p l sb rb s s w -> R w) :
  ∃ i : List Value, 58 = i.length /\ Rd u rb (0 + 0) i /\ Spec Tryz.prog dD #[.pointer (some ⟨sb, 0, none⟩)] u fun e v => ∃ j : List Value, e = .returned (.agg j.toArray) /\ Rd v rb (0 + 0) i /\
   Spec Tryz.prog cX #[.agg j.toArray, .agg i.toArray] v fun e w => ∃ b : Bool, e = .returned (.bool b) /\ (b = false -> R0 w) /\ (b = true -> R w) := by
 obtain ⟨X, hX, rX, VX⟩ := h.rv.view I
 refine ⟨X, hX, rX, (DY h.sv (Is I.aj) (fun p hp => I.ki p hp)).mono fun e v ⟨⟨Y, he, V⟩, hv⟩ => ⟨Y, he, ur rX hv, (Dl V.m (VX.ext hv)).mono fun e w ⟨he, hw⟩ => ⟨_, he, fun hf => (by cases hf), fun _ => hR w (h.ext (hv.ext hw))⟩⟩⟩
theorem HL {u0 : World} {b o : Nat} {l : List Ac} {sb rb : Nat} {s : Sv} {W : World} (I : bR s) (ha : 0 <= s.ay /\ s.ay < 300) {r : Int} (h0 : 0 <= r) (hr : r < (l.length : Nat)) (hb : ∀ a ∈ l, a.bytes.length <= 1048576) {a : Ac} (hal : a = l.getD r.toNat ⟨0, 0, 0, 0, []⟩) (h : PlB u0 (some ⟨b, o, none⟩) l sb rb (doS s a).1 s W)
  {was : List Value} {J : Int -> Int -> ByteArray -> Int -> Int -> ByteArray -> World -> Prop} {x y : Int} {z : ByteArray} (hJ : ∀ X, PlB u0 (some ⟨b, o, none⟩) l sb rb (doS s a).1 (doS s a).1 X -> J x y z (doS s a).2.code (if a.kind = 9 then 0 else (doS s a).2.n) (ByteArray.mk #[]) X) :
  wK rb 0 a.kind a.p a.n a.m (aW a.bytes) W b o r b o a.kind a.p a.n a.m (aW a.bytes) was J x y z (ab W hole) := by
 have hab : a.bytes.length <= 1048576 := by rw [hal]; exact hb _ (cA (by omega))
 have rd : ∀ {V s1 s2}, PlB u0 (some ⟨b, o, none⟩) l sb rb s1 s2 V -> Rd V b (o + r.toNat * 5) [iI a.kind, iI a.p, iI a.n, iI a.m, .string (aW a.bytes)] := fun hV => by rw [hal]; exact hV.act h0 hr
 delta wK bJ lq
 have hW : Ext W (ab W hole) := (Upd.refl _).alloc _
 refine ⟨(h.Hb I (by omega) a hab).mono fun e X ⟨he, hX⟩ => ⟨_, _, _, he, ?_⟩, rd (h.ext hW), rd (h.ext hW), ((h.ext hW).Hb I (by omega) a hab).mono fun e X ⟨he, hX⟩ => ⟨_, _, _, he, rfl, hJ X hX⟩⟩
 have hX1 : Ext X (ab X hole) := (Upd.refl _).alloc _
 exact ⟨rd (hX.ext hX1), rd (hX.ext hX1), rfl, hJ _ (hX.ext hX1)⟩
theorem HJ {u0 : World} {b o : Nat} {l : List Ac} {sb rb : Nat} {s : Sv} {W : World} (I : bR s) (ha : 0 <= s.ay /\ s.ay < 300) {r : Int} (h0 : 0 <= r) (hr : r < (l.length : Nat)) (hb : ∀ a ∈ l, a.bytes.length <= 1048576) {a : Ac} (hal : a = l.getD r.toNat ⟨0, 0, 0, 0, []⟩) (h : PlB u0 (some ⟨b, o, none⟩) l sb rb s s W)
  {was : List Value} {J : Int -> Int -> ByteArray -> Int -> Int -> ByteArray -> World -> Prop} (hJ : ∀ X, PlB u0 (some ⟨b, o, none⟩) l sb rb (doS s a).1 (doS s a).1 X -> J (doS s a).2.code (doS s a).2.n (aW (doS s a).2.out) (doS s a).2.code (if a.kind = 9 then 0 else (doS s a).2.n) (ByteArray.mk #[]) X) :
  vY W b o r a.kind a.p a.n a.m (aW a.bytes) b o a.kind a.p a.n a.m (aW a.bytes) sb 0 rb 0 was J (ab W hole) := by
 have hab : a.bytes.length <= 1048576 := by rw [hal]; exact hb _ (cA (by omega))
 have rd : ∀ {V s1 s2}, PlB u0 (some ⟨b, o, none⟩) l sb rb s1 s2 V -> Rd V b (o + r.toNat * 5) [iI a.kind, iI a.p, iI a.n, iI a.m, .string (aW a.bytes)] := fun hV => by rw [hal]; exact hV.act h0 hr
 delta vY bJ lq
 have hW : Ext W (ab W hole) := (Upd.refl _).alloc _
 refine ⟨rd h, rd h, (h.HZ I ha.1 a hab).mono fun e X ⟨he, hX⟩ => ⟨_, _, _, he, rd hX, HL I ha h0 hr hb hal hX hJ⟩, rd (h.ext hW), rd (h.ext hW), ((h.ext hW).HZ I ha.1 a hab).mono fun e X ⟨he, hX⟩ => ⟨_, _, _, he, rd hX, (hX.Hb I (by omega) a hab).mono fun e X ⟨he, hX⟩ => ⟨_, _, _, he, rfl, hJ X hX⟩⟩⟩
theorem HM {u0 : World} {b o : Nat} {l : List Ac} {sb rb : Nat} {s : Sv} {W : World} (I : bR s) (ha : 0 <= s.ay /\ s.ay < 300) {r : Int} (h0 : 0 <= r) (hr : r < (l.length : Nat)) (hb : ∀ a ∈ l, a.bytes.length <= 1048576) {a : Ac} (hal : a = l.getD r.toNat ⟨0, 0, 0, 0, []⟩) (h : PlB u0 (some ⟨b, o, none⟩) l sb rb (doS s a).1 s W)
  {was : List Value} {J : Int -> Int -> ByteArray -> Int -> Int -> ByteArray -> World -> Prop} {x y : Int} {z : ByteArray} (hJ : ∀ X, PlB u0 (some ⟨b, o, none⟩) l sb rb (doS s a).1 (doS s a).1 X -> J x y z (doS s a).2.code (if a.kind = 9 then 0 else (doS s a).2.n) (ByteArray.mk #[]) X) :
  wb W b o r a.kind a.p a.n a.m (aW a.bytes) b o a.kind a.p a.n a.m (aW a.bytes) rb 0 was J x y z (ab W hole) := by
 have rd : ∀ {V s1 s2}, PlB u0 (some ⟨b, o, none⟩) l sb rb s1 s2 V -> Rd V b (o + r.toNat * 5) [iI a.kind, iI a.p, iI a.n, iI a.m, .string (aW a.bytes)] := fun hV => by rw [hal]; exact hV.act h0 hr
 delta wb bJ
 exact ⟨rd h, rd h, HL I ha h0 hr hb hal h hJ⟩
theorem PlB.fields {u0 : World} {b o : Nat} {l : List Ac} {sb rb : Nat} {s1 s2 : Sv} {u : World} (h : PlB u0 (some ⟨b, o, none⟩) l sb rb s1 s2 u) {r : Int} (h0 : 0 <= r) (hr : r < (l.length : Nat)) {a : Ac} (hal : a = l.getD r.toNat ⟨0, 0, 0, 0, []⟩) :
  Rd u b (o + r.toNat * 5 + 0) [iI a.kind] /\ Rd u b (o + r.toNat * 5 + 1) [iI a.p] /\ Rd u b (o + r.toNat * 5 + 2) [iI a.n] := by
 have := h.act h0 hr
 rw [<- hal] at this
 obtain ⟨h1, h2⟩ := fw [.int .i64 a.kind] [.int .i64 a.p, .int .i64 a.n, .int .i64 a.m, .string (aW a.bytes)] _ this
 obtain ⟨h3, h4⟩ := fw [.int .i64 a.p] [.int .i64 a.n, .int .i64 a.m, .string (aW a.bytes)] _ h2
 exact ⟨h1, h3, (fw [.int .i64 a.n] [.int .i64 a.m, .string (aW a.bytes)] _ h4).1⟩
theorem xY {u : World} {p : Option Addr} {l : List Ac} (hl : A0 u p l) (c : Nat) (hb : ∀ a ∈ l, a.bytes.length <= 1048576) : Spec Tryz.prog dN #[.slice p l.length c] u (Told u true) := by
 apply g8
 delta dU Br AQ wA jZ sH bJ bC cnd lq
 simp only [decide_eq_true_eq, decide_eq_false_iff_not, true_and, Bool.not_eq_true', Bool.not_eq_false']
 refine Fa.mono fun e u1 ⟨sb, he, hsv, hsb, hu1⟩ => ⟨sb, 0, he, EM.mono fun e u2 ⟨rb, he2, hrv, hrb, hu2⟩ => ⟨rb, 0, he2, fun hn => (by cases hn), fun _ => ?_⟩⟩
 have hd : Ext u2 (af u2) := (Upd.refl _).drew
 have h1s := hu1.size
 have h2s := hu2.size
 have P0 : PlB u p l sb rb yO yO (af u2) := by
  have l1 := hsv.lt
  have l2 := hrv.lt
  refine ⟨(hsv.more (B' := fun k => k = sb \/ k = rb) tf.aj hu2 (.inl rfl) fun k hk => ?_).ext hd, (hrv.more (B' := fun k => k = sb \/ k = rb) tf.aj (Upd.refl _ : Ext u2 u2) (.inr rfl) fun k hk => ?_).ext hd, fun _ => hl.ext ((hu1.ext hu2).ext hd), (hu1.ext hu2).ext hd, by omega, hsb, by omega, fun h0 k hk => ?_⟩
  ·omega
  ·omega
  ·obtain ⟨b', o', rfl, hrd⟩ := hl.at h0 ⟨0, 0, 0, 0, []⟩
   have := ar hk
   have := uL hrd
   simp only at *
   omega
 refine P0.same tf fun w Q0 => ?_
 refine ⟨fun r v => 0 <= r /\ r <= 150 /\ PlB u p l sb rb (vh l r.toNat) (vh l r.toNat) v, fun r _ => (150 - r).toNat, ⟨by omega, by omega, Q0⟩, ?_⟩
 rintro r v ⟨r0, r150, P⟩
 refine ⟨fun hr => ⟨fun hr150 => ?_, fun _ => ⟨rfl, P.up⟩⟩, fun _ => ⟨rfl, P.up⟩⟩
 obtain ⟨I, hac⟩ := zd l r.toNat (by omega)
 have hnx : vh l (r + 1).toNat = (doS (vh l r.toNat) (l.getD r.toNat ⟨0, 0, 0, 0, []⟩)).1 := by rw [show (r + 1).toNat = r.toNat + 1 by omega]; rfl
 obtain ⟨b, o, hp, _⟩ := (P.al (by omega)).at (i := r.toNat) (by omega) ⟨0, 0, 0, 0, []⟩
 subst hp
 generalize hs : vh l r.toNat = s at *
 have I' := DP I (l.getD r.toNat ⟨0, 0, 0, 0, []⟩)
 generalize hal : l.getD r.toNat ⟨0, 0, 0, 0, []⟩ = a at *
 have hal' := hal.symm
 have hab : a.bytes.length <= 1048576 := by rw [hal']; exact hb _ (cA (by omega))
 have haw : Ext v (ab v hole) := (Upd.refl _).alloc _
 refine ⟨fun x was w => 0 <= x /\ x <= 3 /\ was.length = 3 /\ (∀ j : Nat, j < x.toNat -> takeN was j 1 = some [.string (aW (bw s (j : Int)).1)]) /\ PlB u (some ⟨b, o, none⟩) l sb rb s s w, fun x _ _ => (3 - x).toNat, ⟨by omega, by omega, rfl, fun j hj => (by simp at hj), P.ext haw⟩, ?_⟩
 rintro x was w ⟨x0, x3, wl, hj, Q⟩
 refine ⟨fun hx => ?_, fun hx => ?_⟩
 ·refine (nR Q.sv x).mono fun e w1 ⟨he, hw1⟩ => ⟨_, _, _, he, x0, hx, rfl, ?_⟩
  obtain ⟨c1, P1⟩ := cZ (cs := was) (o := 0 + x.toNat * 1) (ys := [.string (aW (bw s x).1)]) (by rw [wl]; simp; omega)
  have own : ∀ {cs cs' : List Value} {y : Value}, HF cs (0 + x.toNat * 1) [y] cs' -> takeN cs' x.toNat 1 = some [y] := fun {cs cs' y} h => by
   obtain ⟨k1, k2, k3⟩ := kF _ _ _ _ h.put
   refine eZ _ _ _ _ rfl fun i hi => ?_
   rw [k3, if_pos (by simp; omega)]
   congr 1
   omega
  have hxx : ((x.toNat : Nat) : Int) = x := by omega
  refine ⟨c1, P1.put, by simp only [inK]; omega, ⟨by omega, by omega, by rw [P1.len, wl], fun j hjx => ?_, Q.ext hw1⟩, by first | omega | (dsimp only; omega)⟩
  rcases (by omega : j < x.toNat \/ j = x.toNat) with h7 | h7
  ·exact P1.off (by simp; omega) (hj j h7)
  ·subst h7
   rw [hxx]
   exact own P1
 have hx3 : x.toNat = 3 := by omega
 rw [hx3] at hj
 have hwas : ∀ y : Int, 0 <= y -> y < 3 -> takeN was (0 + y.toNat * 1) 1 = some [.string (aW (bw s y).1)] := fun y y0 y3 => by
  have := hj y.toNat (by omega)
  rwa [show ((y.toNat : Nat) : Int) = y by omega, show y.toNat = 0 + y.toNat * 1 by omega] at this
 have hdw : Ext w (af w) := (Upd.refl _).drew
 have Qd := Q.ext hdw
 have rd : ∀ {V s1 s2}, PlB u (some ⟨b, o, none⟩) l sb rb s1 s2 V -> Rd V b (o + r.toNat * 5) [iI a.kind, iI a.p, iI a.n, iI a.m, .string (aW a.bytes)] := fun hV => by rw [hal']; exact hV.act r0 hr
 have hal1 : ∀ X, Ext X (ab X hole) := fun X => (Upd.refl _).alloc _
 refine ⟨fun a0 a1 a2 a3 a4 a5 X => a0 = (doS s a).2.code /\ a1 = (doS s a).2.n /\ a2 = aW (doS s a).2.out /\ a3 = (doS s a).2.code /\ a4 = (if a.kind = 9 then 0 else (doS s a).2.n) /\ a5 = ByteArray.mk #[] /\ PlB u (some ⟨b, o, none⟩) l sb rb (doS s a).1 (doS s a).1 X,
  ⟨b, o, rfl, r0, hr, _, _, _, _, _, rfl, rd Qd, b, o, rfl, r0, hr, _, _, _, _, _, rfl, rd Qd, ?_, ?_, ?_⟩, ?_⟩
 ·refine (Qd.HZ I (by omega) a hab).mono fun e X ⟨he, hX⟩ => ⟨_, _, _, he, rd hX, ?_, ?_, ?_⟩
  ·refine (hX.Hb I (by omega) a hab).mono fun e Y ⟨he, hY⟩ => ⟨_, _, _, he, ?_⟩
   have h1 := hY.ext (hal1 Y)
   have h2 := h1.ext (hal1 _)
   exact ⟨⟨rd h1, rd h1, rd h2, rd h2, rfl, rfl, rfl, rfl, rfl, rfl, h2⟩, rd h1, rd h1, rd h2, rd h2, rfl, rfl, rfl, rfl, rfl, rfl, h2⟩
  ·exact HM I (by omega) r0 hr hb hal' (hX.ext (hal1 X)) fun Y hY => ⟨rfl, rfl, rfl, rfl, rfl, rfl, hY⟩
  ·exact HM I (by omega) r0 hr hb hal' (hX.ext (hal1 X)) fun Y hY => ⟨rfl, rfl, rfl, rfl, rfl, rfl, hY⟩
 ·exact HJ I (by omega) r0 hr hb hal' (Qd.ext (hal1 _)) fun Y hY => ⟨rfl, rfl, rfl, rfl, rfl, rfl, hY⟩
 ·exact HJ I (by omega) r0 hr hb hal' (Qd.ext (hal1 _)) fun Y hY => ⟨rfl, rfl, rfl, rfl, rfl, rfl, hY⟩
 rintro _ _ _ _ _ _ W ⟨rfl, rfl, rfl, rfl, rfl, rfl, T⟩
 refine ⟨fun hn => (hn rfl).elim, fun _ => ?_⟩
 have hdW : Ext W (af W) := (Upd.refl _).drew
 refine (T.ext hdW).same I' fun w2 T2 => ?_
 have fld : ∀ {V}, PlB u (some ⟨b, o, none⟩) l sb rb (doS s a).1 (doS s a).1 V -> _ := fun {V} hV => hV.fields r0 hr hal'
 obtain ⟨f1, f2, f3⟩ := fld T2
 refine ⟨fun V => PlB u (some ⟨b, o, none⟩) l sb rb (doS s a).1 (doS s a).1 V, ⟨fun d V => d = decide (a.kind = 9 /\ (doS s a).2.code = 0) /\ PlB u (some ⟨b, o, none⟩) l sb rb (doS s a).1 (doS s a).1 V, ⟨b, o, rfl, r0, hr, _, rfl, f1, fun h9 => ⟨by simp [h9], T2⟩, fun h9 => ⟨by simp [h9], T2⟩⟩, ?_⟩, ?_⟩
 ·rintro d V ⟨rfl, TV⟩
  obtain ⟨g1, g2, g3⟩ := fld TV
  simp only [decide_eq_true_eq, decide_eq_false_iff_not]
  refine ⟨fun hd9 => ?_, fun hd9 => ⟨fun hne => ?_, fun _ => TV⟩⟩
  ·obtain ⟨k9, kc⟩ := hd9
   obtain ⟨p0, p3, dn, dout, drest⟩ := Fw I k9 kc (by omega)
   have hsz : (aW (bw s a.p).1).size = (bw s a.p).1.length := bD _
   have hdr : max (0 : Int) (min a.n (((aW (bw s a.p).1).size : Nat) : Int)) = ((bL a.n (bw s a.p).1 : Nat) : Int) := by unfold bL; rw [hsz]; omega
   have hle : bL a.n (bw s a.p).1 <= (bw s a.p).1.length := by unfold bL; omega
   refine ⟨b, o, rfl, r0, hr, _, rfl, g2, p0, p3, aW (bw s a.p).1, hwas _ p0 p3, fun n V => n = max (0 : Int) (min a.n (((aW (bw s a.p).1).size : Nat) : Int)) /\ PlB u (some ⟨b, o, none⟩) l sb rb (doS s a).1 (doS s a).1 V, ⟨b, o, rfl, r0, hr, _, rfl, g3, rfl, TV⟩, ?_⟩
   rintro n V1 ⟨rfl, TV1⟩
   refine ⟨fun q V => q = aW (bw (doS s a).1 a.p).1 /\ PlB u (some ⟨b, o, none⟩) l sb rb (doS s a).1 (doS s a).1 V, ⟨b, o, rfl, r0, hr, _, rfl, (fld TV1).2.1, (nR TV1.sv a.p).mono fun e V2 ⟨he, hV2⟩ => ⟨_, _, _, he, rfl, TV1.ext hV2⟩⟩, ?_⟩
   rintro q V2 ⟨rfl, TV2⟩
   rw [hdr]
   refine ⟨fun hn => (hn dn).elim, fun _ => ⟨by omega, by omega, by omega, fun hn => (hn ?_).elim, fun _ => ⟨by omega, by omega, by omega, fun hn => (hn ?_).elim, fun _ => TV2.ext ((Upd.refl _).drew)⟩⟩⟩
   ·rw [dout, kr]
    rfl
   ·rw [drest, kr, hsz, Int.toNat_natCast, Int.toNat_natCast, aZ, aZ, List.take_of_length_le (by rw [List.length_drop]; omega)]
  ·exfalso
   by_cases k9 : a.kind = 9
   ·obtain ⟨n0, o0⟩ := Gj I k9 fun h => hd9 ⟨k9, h⟩
    rw [n0, o0, if_pos k9] at hne
    revert hne
    decide
   ·have o0 := HU (s := s) k9
    rw [o0, if_neg k9] at hne
    revert hne
    simp [aW]
 ·intro V TV
  refine ⟨fun y V => 0 <= y /\ y <= 3 /\ PlB u (some ⟨b, o, none⟩) l sb rb (doS s a).1 (doS s a).1 V, fun y _ => (3 - y).toNat, ⟨by omega, by omega, TV⟩, ?_⟩
  rintro y V1 ⟨y0, y3, TV1⟩
  refine ⟨fun hy => ?_, fun hy => ⟨by simp only [inK]; omega, ⟨by omega, by omega, by rw [hnx]; exact TV1⟩, by first | omega | (dsimp only; omega)⟩⟩
  have hy3 : y.toNat < 3 := by omega
  have htell : (bw (doS s a).1 y).2.2 = (ag (doS s a).1 y.toNat).here := by
   unfold bw
   split
   ·next h =>
    rcases h with h | h | h
    ·omega
    ·omega
    ·rw [h]
   ·next h => have : ¬ (ag (doS s a).1 y.toNat).here = false := fun e => h (.inr (.inr e)); simpa using this
  have hoff : (bw (doS s a).1 y).2.2 = false -> (bw (doS s a).1 y).1 = [] /\ (bw (doS s a).1 y).2.1 = false := fun h => by
   unfold bw
   rw [if_pos (.inr (.inr (by rw [<- htell]; exact h)))]
   exact ⟨rfl, rfl⟩
  have hfr : a.kind = 6 /\ a.p = y /\ (doS s a).2.code = 0 -> bw (doS s a).1 y = ([], true, true) := fun ⟨h1, h2, h3⟩ => by rw [<- h2]; exact Fs I h1 h3 (by omega)
  refine (nR TV1.sv y).mono fun e V2 ⟨he, hV2⟩ => ⟨_, _, _, he, ?_⟩
  have TV2 := TV1.ext hV2
  obtain ⟨g1, g2, g3⟩ := fld TV2
  refine ⟨fun d V => d = decide (a.kind = 6 /\ a.p = y /\ (doS s a).2.code = 0) /\ PlB u (some ⟨b, o, none⟩) l sb rb (doS s a).1 (doS s a).1 V, ⟨b, o, rfl, r0, hr, _, rfl, g1, fun k6 => ⟨b, o, rfl, r0, hr, _, rfl, g2, fun kp => ⟨by simp [k6, kp], TV2⟩, fun kp => ⟨by simp [kp], TV2⟩⟩, fun k6 => ⟨by simp [k6], TV2⟩⟩, ?_⟩
  rintro d V3 ⟨hd3, TV3⟩
  have hfd : d = true -> bw (doS s a).1 y = ([], true, true) := fun h => hfr (by rw [h] at hd3; exact of_decide_eq_true hd3.symm)
  refine ⟨fun V => PlB u (some ⟨b, o, none⟩) l sb rb (doS s a).1 (doS s a).1 V, ⟨fun d V => d = false /\ PlB u (some ⟨b, o, none⟩) l sb rb (doS s a).1 (doS s a).1 V, ⟨y0, hy, (ag (doS s a).1 y.toNat).here, rfl, ?_, ?_⟩, ?_⟩, ?_⟩
  ·obtain ⟨cs, hc, hrd⟩ := TV3.rv.rd
   rw [show 0 + 82 + y.toNat * 1 = 82 + y.toNat by omega]
   exact hrd (hc.ue _ hy3)
  ·have x3 : (d = true -> (¬ (aW (bw (doS s a).1 y).1).data.toList = [] -> (fun d V => d = false /\ PlB u (some ⟨b, o, none⟩) l sb rb (doS s a).1 (doS s a).1 V) true V3) /\ ((aW (bw (doS s a).1 y).1).data.toList = [] -> (fun d V => d = false /\ PlB u (some ⟨b, o, none⟩) l sb rb (doS s a).1 (doS s a).1 V) (!(bw (doS s a).1 y).2.1) V3)) /\ (d = false -> (fun d V => d = false /\ PlB u (some ⟨b, o, none⟩) l sb rb (doS s a).1 (doS s a).1 V) false V3) :=
    ⟨fun hd => ⟨fun hq => (hq (by rw [aZ, hfd hd])).elim, fun _ => ⟨by rw [hfd hd]; rfl, TV3⟩⟩, fun _ => ⟨rfl, TV3⟩⟩
   exact ⟨fun hne => (by rw [htell] at hne; simp at hne), fun _ => ⟨fun ho => ⟨fun hq => (hq (by rw [aZ, (hoff ho).1])).elim, fun _ => ⟨fun hlo => (by rw [(hoff ho).2] at hlo; cases hlo), fun _ => x3⟩⟩, fun _ => x3⟩⟩
  ·rintro d V4 ⟨rfl, TV4⟩
   exact ⟨fun h => (by cases h), fun _ => TV4⟩
  intro V4 TV4
  refine ⟨fun d V => d = false /\ PlB u (some ⟨b, o, none⟩) l sb rb (doS s a).1 (doS s a).1 V, ?_, ?_⟩
  ·refine ⟨fun hh => ⟨fun hdf => ?_, fun _ => ⟨rfl, TV4⟩⟩, fun _ => ⟨rfl, TV4⟩⟩
   have h6 : ¬ (a.kind = 6 /\ a.p = y /\ (doS s a).2.code = 0) := of_decide_eq_false (hd3.symm.trans hdf)
   have f := fld TV4
   have same : a.kind ≠ 8 -> ¬ (a.kind = 9 /\ a.p = y) -> (!decide ((aW (bw (doS s a).1 y).1).data.toList = (aW (bw s y).1).data.toList)) = false := fun h8 h9 => by
    rw [Gf I ⟨y0, hy⟩ (by omega) (by rw [<- htell]; exact hh) h6 h8 h9]
    simp
   exact ⟨b, o, rfl, r0, hr, _, rfl, f.1, fun h8 => ⟨b, o, rfl, r0, hr, _, rfl, f.1, fun h9 => ⟨b, o, rfl, r0, hr, _, rfl, f.2.1, fun hp => ⟨y0, hy, _, hwas y y0 hy, same h8 fun h => hp h.2, TV4⟩, fun _ => ⟨rfl, TV4⟩⟩, fun h9 => ⟨y0, hy, _, hwas y y0 hy, same h8 fun h => h9 h.1, TV4⟩⟩, fun _ => ⟨rfl, TV4⟩⟩
  ·rintro d V5 ⟨rfl, TV5⟩
   exact ⟨fun h => (by cases h), fun _ => ⟨by simp only [inK]; omega, ⟨by omega, by omega, TV5⟩, by first | omega | (dsimp only; omega)⟩⟩
def Ix : DataW Unit -> Value
 | .lit (.int k n) => .int k n
 | _ => .bool false
def Iu : DataW Unit -> Array Value
 | .agg l => (l.map Ix).toArray
 | _ => #[]
noncomputable def FN (l : List (String × DataW Unit)) (h : Array Obj) : Array Obj :=
 l.foldl (fun h x => match Tryz.prog.globalNamed x.1 with
  | some g => h.modify g fun
   | .cells _ t frozen => .cells (Iu x.2) t frozen
   | o => o
  | none => h) h
noncomputable def uK (os : Os) : World :=
 { World.holding Tryz.prog os ⟨#[], #[], []⟩ with heap := FN [("math/bits.deBruijn32tab", Rows.laid_math_bits_deBruijn32tab), ("math/bits.deBruijn64tab", Rows.laid_math_bits_deBruijn64tab), ("internal/strconv.uint64pow10", Rows.laid_internal_strconv_uint64pow10)] (World.holding Tryz.prog os ⟨#[], #[], []⟩).heap }
end Go.Proofs.YtkmmphkjmamckacGreatDoor
