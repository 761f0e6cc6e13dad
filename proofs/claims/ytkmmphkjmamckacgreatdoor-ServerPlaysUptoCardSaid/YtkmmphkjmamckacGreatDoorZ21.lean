/- Texts joined: SCols, TRef2, RFit, SKill, SVisit, SShow. -/
import Derived.Test.YtkmmphkjmamckacGreatDoorZ20
import Derived.Test.YtkmmphkjmamckacGreatDoorZ12
import Derived.Test.YtkmmphkjmamckacGreatDoorZ13
namespace Go.Proofs.YtkmmphkjmamckacGreatDoor
open Go
set_option linter.all false
def Wrb (u : World) (k : Nat) : Prop := ∃ cs t, u.heap[k]? = some (.cells cs t (0, 0))
theorem Wrb.upd {S : Nat -> Prop} {u u' : World} {k : Nat} (h : Wrb u k) (hu : Upd S u u') (hn : ¬ S k) : Wrb u' k := by
 obtain ⟨cs, t, h⟩ := h
 exact ⟨cs, t, by rw [hu.old k (Array.getElem?_eq_some_iff.1 h).1 hn]; exact h⟩
structure dH (u0 u : World) (p : Option Addr) (n c : Nat) (xs : List (List Value)) (ls : aD) : Prop where
 own : Own u 1 p n c xs.flatten
 rows : cH u (fun k => k < u.heap.size /\ ¬ At p k /\ u0.heap.size <= k /\ Wrb u k) xs ls
 len : ls.length = n
 new : ∀ k, At p k -> u0.heap.size <= k
theorem dH.ext {u0 u u' : World} {p : Option Addr} {n c : Nat} {xs : List (List Value)} {ls : aD} (h : dH u0 u p n c xs ls) (hu : Ext u u') : dH u0 u' p n c xs ls :=
 ⟨h.own.ext hu, h.rows.upd hu fun k hk => ⟨fun h => h, by have := hu.size; exact ⟨by omega, hk.2.1, hk.2.2.1, hk.2.2.2.upd hu fun h => h⟩⟩, h.len, h.new⟩
theorem dH.nil (u0 u : World) : dH u0 u none 0 0 [] [] := ⟨Own.nil _ _, trivial, rfl, fun k hk => (aJ hk).elim⟩
theorem dH.tl {u0 u : World} {p : Option Addr} {n c : Nat} {xs : List (List Value)} {ls : aD} (h : dH u0 u p n c xs ls) : Tl u p ls :=
 ⟨xs, ⟨h.own.aH, by rw [h.rows.len], h.rows.each⟩, h.rows.upd (Upd.refl _ : Ext u u) fun _ _ => ⟨fun h => h, trivial⟩⟩
theorem dH.push {u0 v : World} {p : Option Addr} {n c : Nat} {xs : List (List Value)} {ls : aD} (h : dH u0 v p n c xs ls) (h0 : u0.heap.size <= v.heap.size) (hn : n <= 10000000) {q : Option Addr} {cq : Nat} {l : List Int} (hq : bY v q l.length l) (hk : ∀ k, At q k -> k < v.heap.size /\ ¬ At p k /\ u0.heap.size <= k /\ Wrb v k) (t e : TypeId) {K : Option Addr -> Nat -> World -> Prop}
  (hK : ∀ p' c' w, (∃ ys, dH u0 w p' (n + 1) c' ys (ls ++ [l])) -> Upd (At p) v w -> K p' c' w) :
  ∃ old new : List Value, old.length = n * 1 /\ Gets (ab v (.cells #[.slice q l.length cq] t)) p old /\ new.length = 1 * 1 /\ Gets (ab v (.cells #[.slice q l.length cq] t)) (some (Addr.mk v.heap.size 0 none)) new /\
   0 < 24 /\ (2 * (n + 1) + 192) * 24 <= 140737488355328 /\ okCells new True /\ (n + 1 <= c -> WrS (ab v (.cells #[.slice q l.length cq] t)) p (n * 1) (1 * 1)) /\
   ∀ p' cap u2, cD (ab v (.cells #[.slice q l.length cq] t)) e 1 [.slice none 0 0] p n c 1 old new p' cap u2 -> K p' cap u2 := by
 have hv : Ext v (ab v (.cells #[.slice q l.length cq] t)) := (Upd.refl v).alloc _
 have hh := h.ext hv
 have ef : Own (ab v (.cells #[.slice q l.length cq] t)) 1 _ 1 1 [.slice q l.length cq] := Own.fresh v (cs := [.slice q l.length cq]) rfl
 refine ⟨xs.flatten, [.slice q l.length cq], hh.own.len, hh.own.aH, rfl, ef.aH, by decide, by omega, by simp [okCells], fun hc => hh.own.wrs (by omega), fun p' cap u2 hr => ?_⟩
 obtain ⟨a1, a2, a3⟩ := hh.own.app hr hh.own.len hh.own.aH rfl rfl
 have hvs := hv.size
 have has := a2.size
 have hvs2 : (ab v (.cells #[.slice q l.length cq] t)).heap.size = v.heap.size + 1 := size_alloc _ _
 have hp' : ∀ k, At p' k -> At p k \/ v.heap.size < k := fun k hk1 => by
  rcases a3 with ⟨rfl, _⟩ | ⟨rfl, _⟩
  ·exact .inl hk1
  ·rw [ar hk1]; right; show v.heap.size < (ab v _).heap.size; omega
 have hup : Upd (At p) v u2 := (hv.any (S := At p)).trans a2 fun _ _ h => h
 have hok : ∀ k, k < v.heap.size /\ ¬ At p k /\ u0.heap.size <= k /\ Wrb v k -> k < u2.heap.size /\ ¬ At p' k /\ u0.heap.size <= k /\ Wrb u2 k := fun k hk => ⟨by omega, fun h => (hp' k h).elim hk.2.1 (by omega), hk.2.2.1, hk.2.2.2.upd hup hk.2.1⟩
 refine hK p' cap u2 ⟨xs ++ [[.slice q l.length cq]], ?_, ?_, by simp [h.len], fun k hk1 => ?_⟩ hup
 ·rw [List.flatten_append]
  simpa using a1
 ·exact cH.snoc ((hq.upd hup fun k hk1 => (hk k hk1).2.1)) (fun k hk1 => hok k (hk k hk1)) (h.rows.upd hup fun k hk1 => ⟨hk1.2.1, hok k hk1⟩)
 ·rcases hp' k hk1 with h1 | h1
  ·exact h.new k h1
  ·omega
structure TlN (n0 n1 : Nat) (u : World) (p : Option Addr) (c : Nat) (t : aD) : Prop where
 ex : ∃ xs, Own u 1 p t.length c xs.flatten /\ cH u (fun k => n0 <= k /\ k < n1 /\ ¬ At p k /\ Wrb u k) xs t
 at_ : ∀ k, At p k -> n0 <= k /\ k < n1
theorem dH.tln {u0 u : World} {p : Option Addr} {n c : Nat} {xs : List (List Value)} {ls : aD} (h : dH u0 u p n c xs ls) {n0 : Nat} (h0 : n0 <= u0.heap.size) : TlN n0 u.heap.size u p c ls := by
 obtain ⟨h1, h2, rfl, h4⟩ := h
 exact ⟨⟨xs, h1, h2.upd (Upd.refl _ : Ext u u) fun k hk => ⟨fun h => h, by have := hk.2.2.1; omega, hk.1, hk.2.1, hk.2.2.2⟩⟩, fun k hk => ⟨by have := h4 k hk; omega, (h1.at hk).1⟩⟩
theorem TlN.upd {S : Nat -> Prop} {n0 n1 : Nat} {u u' : World} {p : Option Addr} {c : Nat} {t : aD} (h : TlN n0 n1 u p c t) (hu : Upd S u u') (hS : ∀ k, S k -> k < n0) : TlN n0 n1 u' p c t := by
 obtain ⟨⟨xs, h1, h2⟩, h3⟩ := h
 exact ⟨⟨xs, h1.upd hu fun k hk hs => by have := (h3 k hk).1; have := hS k hs; omega, h2.upd hu fun k hk => ⟨fun hs => by have := hk.1; have := hS k hs; omega, hk.1, hk.2.1, hk.2.2.1, hk.2.2.2.upd hu fun hs => by have := hk.1; have := hS k hs; omega⟩⟩, h3⟩
theorem TlN.ext {n0 n1 : Nat} {u u' : World} {p : Option Addr} {c : Nat} {t : aD} (h : TlN n0 n1 u p c t) (hu : Ext u u') : TlN n0 n1 u' p c t := h.upd hu fun _ h => h.elim
theorem TlN.tl {n0 n1 : Nat} {u : World} {p : Option Addr} {c : Nat} {t : aD} (h : TlN n0 n1 u p c t) : Tl u p t := by
 obtain ⟨⟨xs, h1, h2⟩, h3⟩ := h
 exact ⟨xs, ⟨h1.aH, by rw [h2.len], h2.each⟩, h2.upd (Upd.refl _ : Ext u u) fun _ _ => ⟨fun h => h, trivial⟩⟩
theorem Own.Gl {v : World} {p : Option Addr} {n c : Nat} {l : List Int} (h : Own v 1 p n c (bg l)) (hn : n <= 10000000) (x : Int) (t e : TypeId) {K : Option Addr -> Nat -> World -> Prop}
  (hK : ∀ p' c' w, Own w 1 p' (n + 1) c' (bg (l ++ [x])) -> Upd (At p) v w -> (∀ k, At p' k -> At p k \/ v.heap.size <= k) -> K p' c' w) :
  ∃ old new : List Value, old.length = n * 1 /\ Gets (ab v (.cells #[.int .i64 x] t)) p old /\ new.length = 1 * 1 /\ Gets (ab v (.cells #[.int .i64 x] t)) (some (Addr.mk v.heap.size 0 none)) new /\
   0 < 8 /\ (2 * (n + 1) + 192) * 8 <= 140737488355328 /\ okCells new True /\ (n + 1 <= c -> WrS (ab v (.cells #[.int .i64 x] t)) p (n * 1) (1 * 1)) /\
   ∀ p' cap u2, cD (ab v (.cells #[.int .i64 x] t)) e 1 [.int .i64 0] p n c 1 old new p' cap u2 -> K p' cap u2 := by
 have hv : Ext v (ab v (.cells #[.int .i64 x] t)) := (Upd.refl v).alloc _
 have hh := h.ext hv
 have ef : Own (ab v (.cells #[.int .i64 x] t)) 1 _ 1 1 [.int .i64 x] := Own.fresh v (cs := [.int .i64 x]) rfl
 refine ⟨bg l, [.int .i64 x], hh.len, hh.aH, rfl, ef.aH, by decide, by omega, by simp [okCells], fun hc => hh.wrs (by omega), fun p' cap u2 hr => ?_⟩
 obtain ⟨a1, a2, a3⟩ := hh.app hr hh.len hh.aH rfl rfl
 refine hK p' cap u2 ?_ ((hv.any (S := At p)).trans a2 fun _ _ h => h) fun k hk => ?_
 ·rw [vw]
  exact a1
 ·rcases a3 with ⟨rfl, _⟩ | ⟨rfl, _⟩
  ·exact .inl hk
  ·right; rw [ar hk]; exact hv.size
theorem fB {u : World} {q : Option Addr} {t : aD} (h : Tl u q t) (c : Nat) (p : Int) (hl : dO 1048576 t) :
  Spec Tryz.prog gv #[TlV q t c, .int .i64 p] u (Told u (br t p)) := by
 apply kh
 delta gY rZ cnd iI lq
 simp only [decide_eq_true_eq, decide_eq_false_iff_not, true_and]
 have hu : Ext u (ab u hole) := (Upd.refl u).alloc _
 refine (Ap (h.ext hu) c hl).mono fun e u1 ⟨lp, lc, he, ho, hk, hu1⟩ => ⟨_, _, _, he, ?_⟩
 have x1 := hu.ext hu1
 have hfl : t.flatten.length <= 1048576 * 1048576 := by
  have := hl.flat t.length (Nat.le_refl _)
  rw [List.take_length] at this
  exact Nat.le_trans this (Nat.mul_le_mul_right _ hl.n)
 refine ⟨fun x v => Ext u v /\ Ext u1 v /\ 0 <= x /\ x <= t.flatten.length /\ ∀ i : Nat, i < x.toNat -> t.flatten.getD i 0 ≠ p, fun x _ => (t.flatten.length - x).toNat, ⟨x1, Upd.refl _, Int.le_refl _, by omega, by omega⟩, fun x v ⟨hv, hv1, h0, h1, hi⟩ => ⟨fun hx => ?_, fun hx => ⟨?_, hv⟩⟩⟩
 ·obtain ⟨b, o, hp, hr⟩ := (ho.iG.ext hv1).at (i := x.toNat) (by omega)
  refine ⟨b, o, hp, h0, hx, _, rfl, hr, fun heq => ⟨?_, hv⟩, fun hne => ⟨by simp only [inK]; omega, ⟨hv, hv1, by omega, by omega, fun i hi' => ?_⟩, by first | omega | (dsimp only; omega)⟩⟩
  ·congr 2
   symm
   unfold br
   rw [List.contains_iff_mem, heq]
   exact cA (by omega)
  ·rcases (by omega : i < x.toNat \/ i = x.toNat) with h | rfl
   ·exact hi i h
   ·exact fun h => hne h.symm
 ·congr 2
  symm
  unfold br
  exact tA fun j hj => hi j (by omega)
structure FJ (u : World) (r : aD × Int) (e : Ending) (u' : World) : Prop where
 ex : ∃ p c, e = .returned (.tuple #[TlV p r.1 c, .int .i64 r.2]) /\ Tl u' p r.1
 ext : Ext u u'
structure rK (u : World) (r : aD × Int) (e : Ending) (u' : World) : Prop where
 ex : ∃ p c, e = .returned (.tuple #[TlV p r.1 c, .int .i64 r.2]) /\ Tl u' p r.1 /\ (r.2 = 0 -> TlF u' (fun k => u.heap.size <= k) p r.1)
 ext : Ext u u'
theorem rK.post {u u' : World} {r : aD × Int} {e : Ending} (h : rK u r e u') : FJ u r e u' := by
 obtain ⟨⟨p, c, h1, h2, _⟩, h3⟩ := h
 exact ⟨⟨p, c, h1, h2⟩, h3⟩
theorem rK.same {u u' : World} {t : aD} {q : Option Addr} {n : Int} (h : Tl u q t) (c : Nat) (hu : Ext u u') (hn : n ≠ 0) : rK u (t, n) (.returned (.tuple #[TlV q t c, .int .i64 n])) u' := ⟨⟨q, c, rfl, h.ext hu, fun h => (hn h).elim⟩, hu⟩
theorem dH.far {u0 u : World} {p : Option Addr} {n c : Nat} {xs : List (List Value)} {ls : aD} (h : dH u0 u p n c xs ls) : TlF u (fun k => u0.heap.size <= k) p ls :=
 ⟨xs, ⟨h.own.aH, by rw [h.rows.len], h.rows.each⟩, h.rows.upd (Upd.refl _ : Ext u u) fun _ hk => ⟨fun h => h, hk.2.2.1⟩, h.new⟩
theorem FJ.same {u u' : World} {t : aD} {q : Option Addr} {n : Int} (h : Tl u q t) (c : Nat) (hu : Ext u u') : FJ u (t, n) (.returned (.tuple #[TlV q t c, .int .i64 n])) u' := ⟨⟨q, c, rfl, h.ext hu⟩, hu⟩
theorem vo (p n : Int) (right : Bool) (a b : List Int) : gZ p n right (a ++ b) = gZ p n right a ++ gZ p n right b := by simp [gZ]
theorem BU (p n : Int) (right : Bool) (x : Int) : gZ p n right [x] = if x = p /\ right = false then [x, n] else [x] := by simp [gZ]
theorem Ch (p n : Int) (right : Bool) (c : List Int) (t : aD) : splitR p n right (c :: t) = if 3 < (gZ p n right c).length then none else (splitR p n right t).map fun l => (gZ p n right c) :: (if c.contains p /\ right = true then [n] :: l else l) := rfl
theorem pY {u : World} {q : Option Addr} {t : aD} (h : Tl u q t) (c : Nat) (p n : Int) (right : Bool) (hl : dO 1048576 t) :
  Spec Tryz.prog et #[TlV q t c, .int .i64 p, .int .i64 n, .bool right] u (rK u (aY t p n right)) := by
 apply iR
 delta eD bh cnd iI lq
 simp only [decide_eq_true_eq, decide_eq_false_iff_not, true_and, Bool.not_eq_true', Bool.not_eq_false']
 have hu : Ext u (ab (ab u hole) hole) := ((Upd.refl u).alloc _).alloc _
 refine (nn (h.ext hu) c hl).mono fun e u1 ⟨he, hu1⟩ => ⟨_, he, fun hb => ?_, fun hb => ?_⟩
 ·have : aY t p n right = (t, 1) := by unfold aY; rw [if_pos (.inl hb)]
  rw [this]
  exact rK.same h c (hu.ext hu1) (by decide)
 have hg := bI.1 hb
 have x1 := hu.ext hu1
 refine (zj n).mono fun e u2 ⟨he, hu2⟩ => ⟨_, he, fun hb2 => ?_, fun hb2 => ?_⟩
 ·have : aY t p n right = (t, 1) := by unfold aY; rw [if_pos (.inr hb2)]
  rw [this]
  exact rK.same h c (x1.ext hu2) (by decide)
 have x2 := x1.ext hu2
 refine (fB (h.ext x2) c p hl).mono fun e u3 ⟨he, hu3⟩ => ⟨_, he, fun hb3 => ?_, fun hb3 => ?_⟩
 ·have : aY t p n right = (t, 3) := by
   unfold aY
   rw [if_neg (by rw [hb, hb2]; simp), iS.2 hb3]
  rw [this]
  exact rK.same h c (x2.ext hu3) (by decide)
 have x3 := x2.ext hu3
 refine (fB (h.ext x3) c n hl).mono fun e u4 ⟨he, hu4⟩ => ⟨_, he, fun hb4 => ?_, fun hb4 => ?_⟩
 ·have : aY t p n right = (t, 4) := by
   obtain ⟨i, k, hf⟩ := kQ.1 hb3
   unfold aY
   rw [if_neg (by rw [hb, hb2]; simp), hf]
   dsimp only
   rw [if_pos hb4]
  rw [this]
  exact rK.same h c (x3.ext hu4) (by decide)
 have x4 := x3.ext hu4
 rw [split_eq hg hb2 hb3 hb4]
 have hfew := hg.few
 refine ⟨fun x _ _ _ op on oc v => ∃ L, (∃ xs, dH u v op on oc xs L) /\ splitR p n right t = (splitR p n right (t.drop x.toNat)).map (L ++ ·) /\ L.length <= 2 * x.toNat /\ Ext u v /\ 0 <= x /\ x <= t.length, fun x _ _ _ _ _ _ _ => (t.length - x).toNat,
  ⟨[], ⟨[], dH.nil _ _⟩, by simp, by simp, x4.alloc _, Int.le_refl _, by omega⟩, ?_⟩
 rintro x z1 z2 z3 op on oc v ⟨L, ⟨xs, O⟩, hS, hL, hv, h0, h1⟩
 refine ⟨fun hx => ?_, fun hx => ?_⟩
 ·obtain ⟨b, o, q', c', hp, hr, hnum⟩ := (h.ext hv).at (i := x.toNat) (by omega)
  have hce := hg.each _ (cA (l := t) (d := []) (i := x.toNat) (by omega))
  have hdrop : t.drop x.toNat = t.getD x.toNat [] :: t.drop (x.toNat + 1) := by
   rw [List.drop_eq_getElem_cons (by omega), List.getD_eq_getElem?_getD, List.getElem?_eq_getElem (by omega)]
   rfl
  rw [hdrop, Ch] at hS
  generalize t.getD x.toNat [] = cl at hr hnum hce hS
  have hOl := O.len
  refine ⟨b, o, hp, h0, hx, _, _, _, rfl, hr, ?_⟩
  refine ⟨fun cp cn cc here y w => Own w 1 cp cn cc (bg (gZ p n right (cl.take y.toNat))) /\ (∀ k, At cp k -> v.heap.size <= k) /\ here = (cl.take y.toNat).contains p /\ Ext v w /\ 0 <= y /\ y <= cl.length, fun _ _ _ _ y _ => (cl.length - y).toNat,
   ⟨by simpa [gZ, bg] using Own.nil v 1, fun k hk => (aJ hk).elim, by simp, Upd.refl _, Int.le_refl _, by omega⟩, ?_⟩
  rintro cp cn cc here y w ⟨co, ck, rfl, hw, y0, y1⟩
  have hcn := co.Dn
  have hcb : (gZ p n right (cl.take y.toNat)).length <= 2 * y.toNat := by
   have : ∀ l : List Int, (gZ p n right l).length <= 2 * l.length := fun l => by
    induction l with
    | nil => simp [gZ]
    | cons a l ih =>
     rw [show a :: l = [a] ++ l from rfl, vo, BU, List.length_append, List.length_append]
     split <;> simp <;> omega
   have := this (cl.take y.toNat)
   rw [List.length_take] at this
   omega
  refine ⟨fun hy => ?_, fun hy => ?_⟩
  ·obtain ⟨b1, o1, hp1, hr1⟩ := (hnum.ext hw).at (i := y.toNat) (by omega)
   have htk := bN cl 0 (i := y.toNat) (by omega)
   have hy1 : (y + 1).toNat = y.toNat + 1 := by omega
   generalize cl.getD y.toNat 0 = z at hr1 htk
   have hcol : gZ p n right (cl.take (y + 1).toNat) = gZ p n right (cl.take y.toNat) ++ if z = p /\ right = false then [z, n] else [z] := by rw [hy1, htk, vo, BU]
   have hcon : (cl.take (y + 1).toNat).contains p = ((cl.take y.toNat).contains p || decide (z = p)) := by
    rw [hy1, htk, Bool.eq_iff_iff]
    simp only [List.contains_iff_mem, List.mem_append, List.mem_cons, List.not_mem_nil, or_false, Bool.or_eq_true, decide_eq_true_eq]
    exact ⟨fun h => h.imp id fun h => h.symm, fun h => h.imp id fun h => h.symm⟩
   refine ⟨b1, o1, hp1, y0, hy, _, rfl, hr1, co.Gl (by omega) z aF aF fun p1 c1 w1 ho1 hu1 hk1 => ?_⟩
   have hw1 : Ext v w1 := (hw.trans hu1 fun k hk hat => by have := ck k hat; omega).mono fun _ _ h => h
   have hws := hw.size
   have ck1 : ∀ k, At p1 k -> v.heap.size <= k := fun k hk => by
    rcases hk1 k hk with h2 | h2
    ·exact ck k h2
    ·omega
   have fin : ∀ {cp' : Option Addr} {cn' cc' : Nat} {w' : World} {hr : Bool}, Own w' 1 cp' cn' cc' (bg (gZ p n right (cl.take (y + 1).toNat))) -> (∀ k, At cp' k -> v.heap.size <= k) -> hr = (cl.take (y + 1).toNat).contains p -> Ext v w' ->
     inK .i64 (y + 1) /\ (Own w' 1 cp' cn' cc' (bg (gZ p n right (cl.take (y + 1).toNat))) /\ (∀ k, At cp' k -> v.heap.size <= k) /\ hr = (cl.take (y + 1).toNat).contains p /\ Ext v w' /\ 0 <= y + 1 /\ y + 1 <= cl.length) /\ ((cl.length : Int) - (y + 1)).toNat < ((cl.length : Int) - y).toNat := fun a b c d => ⟨by simp only [inK]; omega, ⟨a, b, c, d, by omega, by omega⟩, by omega⟩
   refine ⟨fun hz => ⟨fun hr0 => ?_, fun hr0 => ?_⟩, fun hz => ?_⟩
   ·refine ho1.Gl (by omega) n aF aF fun p2 c2 w2 ho2 hu2 hk2 => ?_
    have hw1s := hw1.size
    refine fin ?_ (fun k hk => ?_) (by rw [hcon, decide_eq_true hz, Bool.or_true]) ((hw1.trans hu2 fun k hk hat => by have := ck1 k hat; omega).mono fun _ _ h => h)
    ·rw [hcol, if_pos ⟨hz, hr0⟩, show ∀ l : List Int, l ++ [z, n] = l ++ [z] ++ [n] by intro l; simp]
     exact ho2
    ·rcases hk2 k hk with h2 | h2
     ·exact ck1 k h2
     ·omega
   ·refine fin ?_ ck1 (by rw [hcon, decide_eq_true hz, Bool.or_true]) hw1
    rw [hcol, if_neg (by rw [hr0]; simp)]
    exact ho1
   ·refine fin ?_ ck1 (by rw [hcon, decide_eq_false hz, Bool.or_false]) hw1
    rw [hcol, if_neg (fun hh => hz hh.1)]
    exact ho1
  ·have hty : cl.take y.toNat = cl := List.take_of_length_le (by omega)
   rw [hty] at co hcb hcn ⊢
   have hvw := hv.ext hw
   refine ⟨fun h3 => ?_, fun h3 => ?_⟩
   ·rw [if_pos (by omega)] at hS
    rw [hS]
    exact rK.same h c hvw (by decide)
   rw [if_neg (by omega)] at hS
   subst hcn
   have hvs := hv.size
   have hws := hw.size
   refine (O.ext hw).push (q := cp) (cq := cc) (by omega) (by omega) co.iG (fun k hk => ⟨(co.at hk).1, fun hat => by have := (O.own.at hat).1; have := ck k hk; omega, by have := ck k hk; have := hv.size; omega, by obtain ⟨_, r, t, h⟩ := co.at hk; exact ⟨_, t, h⟩⟩) aL aL fun p3 c3 w3 ⟨ys, O3⟩ hu3 => ?_
   have hx1 : (x + 1).toNat = x.toNat + 1 := by omega
   have hw3 : Ext u w3 := (hvw.trans hu3 fun k hk hat => by have := O.new k hat; omega).mono fun _ _ h => h
   have fin : ∀ {op' : Option Addr} {on' oc' : Nat} {w' : World} (L' : aD), (∃ xs, dH u w' op' on' oc' xs L') -> splitR p n right t = (splitR p n right (t.drop (x.toNat + 1))).map (L' ++ ·) -> L'.length <= 2 * (x + 1).toNat -> Ext u w' ->
     inK .i64 (x + 1) /\ (∃ L, (∃ xs, dH u w' op' on' oc' xs L) /\ splitR p n right t = (splitR p n right (t.drop (x + 1).toNat)).map (L ++ ·) /\ L.length <= 2 * (x + 1).toNat /\ Ext u w' /\ 0 <= x + 1 /\ x + 1 <= t.length) /\ ((t.length : Int) - (x + 1)).toNat < ((t.length : Int) - x).toNat := fun L' a b c d => ⟨by simp only [inK]; omega, ⟨L', a, by rw [hx1]; exact b, c, d, by omega, by omega⟩, by omega⟩
   have hL1 : (L ++ [gZ p n right cl]).length = L.length + 1 := by simp
   have plain : ¬ (cl.contains p = true /\ right = true) -> inK .i64 (x + 1) /\ (∃ L, (∃ xs, dH u w3 p3 (on + 1) c3 xs L) /\ splitR p n right t = (splitR p n right (t.drop (x + 1).toNat)).map (L ++ ·) /\ L.length <= 2 * (x + 1).toNat /\ Ext u w3 /\ 0 <= x + 1 /\ x + 1 <= t.length) /\ ((t.length : Int) - (x + 1)).toNat < ((t.length : Int) - x).toNat := fun hn => by
    refine fin (L ++ [gZ p n right cl]) ⟨ys, O3⟩ ?_ (by omega) hw3
    rw [hS, Option.map_map]
    congr 1
    funext l
    simp only [Function.comp, if_neg hn]
    simp
   refine ⟨fun hh => ⟨fun hr1 => ?_, fun hr1 => plain (fun hc => by rw [hc.2] at hr1; cases hr1)⟩, fun hh => plain (fun hc => by rw [hc.1] at hh; cases hh)⟩
   have ha : Ext w3 (ab w3 (.cells #[.int .i64 n] aF)) := (Upd.refl _).alloc _
   have ef : Own (ab w3 (.cells #[.int .i64 n] aF)) 1 (some ⟨w3.heap.size, 0, none⟩) 1 1 (bg [n]) := Own.fresh w3 (cs := bg [n]) (n := 1) (es := 1) rfl
   have nf := ef.iG
   have h3s := hw3.size
   have hal : (ab w3 (.cells #[.int .i64 n] aF)).heap.size = w3.heap.size + 1 := size_alloc _ _
   refine (O3.ext ha).push (q := some ⟨w3.heap.size, 0, none⟩) (cq := 1) (l := [n]) (by omega) (by omega) nf (fun k hk => by
    have := ar hk
    simp only at this
    refine ⟨by omega, fun hat => ?_, by omega, by obtain ⟨_, r, t, h⟩ := ef.at hk; exact ⟨_, t, h⟩⟩
    have := (O3.own.at hat).1
    omega) aL aL fun p4 c4 w4 ⟨zs, O4⟩ hu4 => ?_
   refine fin (L ++ [gZ p n right cl] ++ [[n]]) ⟨zs, O4⟩ ?_ (by simp; omega) (((hw3.ext ha).trans hu4 fun k hk hat => by have := O3.new k hat; omega).mono fun _ _ h => h)
   rw [hS, Option.map_map]
   congr 1
   funext l
   simp only [Function.comp, if_pos (And.intro hh hr1)]
   simp
 ·rw [List.drop_eq_nil_of_le (by omega)] at hS
  rw [hS]
  show rK u (L ++ [], 0) _ _
  rw [List.append_nil, <- O.len]
  exact ⟨⟨op, oc, rfl, O.tl, fun _ => O.far⟩, hv⟩
theorem D4 (c : List Int) (t : aD) (p : Int) : eI (c :: t) p = if (c.filter (· ≠ p)).isEmpty = true then eI t p else c.filter (· ≠ p) :: eI t p := by
 unfold eI
 rw [List.map_cons, List.filter_cons]
 cases h : (c.filter (· ≠ p)).isEmpty <;> simp [h]
theorem tI {u : World} {q : Option Addr} {t : aD} (h : Tl u q t) (c : Nat) (p : Int) (hl : dO 1048576 t) :
  Spec Tryz.prog gj #[TlV q t c, .int .i64 p] u (rK u (bk t p)) := by
 apply jI
 delta gi cB ea cnd iI lq
 simp only [decide_eq_true_eq, decide_eq_false_iff_not, true_and, Bool.not_eq_true', Bool.not_eq_false']
 have hu : Ext u (ab (ab u hole) hole) := ((Upd.refl u).alloc _).alloc _
 refine (nn (h.ext hu) c hl).mono fun e u1 ⟨he, hu1⟩ => ⟨_, he, fun hb => ?_, fun hb => ?_⟩
 ·have : bk t p = (t, 1) := by unfold bk; rw [if_pos hb]
  rw [this]
  exact rK.same h c (hu.ext hu1) (by decide)
 have hg := bI.1 hb
 have x1 := hu.ext hu1
 refine (fB (h.ext x1) c p hl).mono fun e u2 ⟨he, hu2⟩ => ⟨_, he, fun hb3 => ?_, fun hb3 => ?_⟩
 ·have : bk t p = (t, 3) := by
   unfold bk
   rw [if_neg (by rw [hb]; simp), iS.2 hb3]
  rw [this]
  exact rK.same h c (x1.ext hu2) (by decide)
 have x2 := x1.ext hu2
 refine (Ap (h.ext x2) c hl).mono fun e u3 ⟨lp, lc, he, _, _, hu3⟩ => ⟨_, _, _, he, ?_⟩
 have x3 := x2.ext hu3
 have hone : t.flatten.length = 1 ↔ t.length = 1 /\ (t.getD 0 []).length = 1 := by
  constructor
  ·intro h1
   have h2 := pD fun c hc => (hg.each c hc).1
   have h3 : t.length ≠ 0 := fun e => hg.some (List.length_eq_zero_iff.1 e)
   have h4 : t.length = 1 := by omega
   match t, h4 with
   | [a], _ => simpa using h1
  ·rintro ⟨h1, h2⟩
   match t, h1 with
   | [a], _ => simpa using h2
 refine ⟨fun h1 => ?_, fun h1 => ?_⟩
 ·have : bk t p = (t, 5) := by
   obtain ⟨i, k, hf⟩ := kQ.1 hb3
   unfold bk
   rw [if_neg (by rw [hb]; simp), hf]
   dsimp only
   rw [if_pos (hone.1 (by omega))]
  rw [this]
  exact rK.same h c x3 (by decide)
 rw [EJ hg hb3 fun hh => h1 (by have := hone.2 hh; omega)]
 have hfew := hg.few
 refine ⟨fun x op on oc v => ∃ L, (∃ xs, dH u v op on oc xs L) /\ eI t p = L ++ eI (t.drop x.toNat) p /\ L.length <= x.toNat /\ Ext u v /\ 0 <= x /\ x <= t.length, fun x _ _ _ _ => (t.length - x).toNat,
  ⟨[], ⟨[], dH.nil _ _⟩, by simp, by simp, x3.alloc _, Int.le_refl _, by omega⟩, ?_⟩
 rintro x op on oc v ⟨L, ⟨xs, O⟩, hS, hL, hv, h0, h1⟩
 refine ⟨fun hx => ?_, fun hx => ?_⟩
 ·obtain ⟨b, o, q', c', hp, hr, hnum⟩ := (h.ext hv).at (i := x.toNat) (by omega)
  have hce := hg.each _ (cA (l := t) (d := []) (i := x.toNat) (by omega))
  have hdrop : t.drop x.toNat = t.getD x.toNat [] :: t.drop (x.toNat + 1) := by
   rw [List.drop_eq_getElem_cons (by omega), List.getD_eq_getElem?_getD, List.getElem?_eq_getElem (by omega)]
   rfl
  rw [hdrop, D4] at hS
  generalize t.getD x.toNat [] = cl at hr hnum hce hS
  have hOl := O.len
  refine ⟨b, o, hp, h0, hx, _, _, _, rfl, hr, ?_⟩
  refine ⟨fun cp cn cc y w => Own w 1 cp cn cc (bg ((cl.take y.toNat).filter (· ≠ p))) /\ (∀ k, At cp k -> v.heap.size <= k) /\ Ext v w /\ 0 <= y /\ y <= cl.length, fun _ _ _ y _ => (cl.length - y).toNat,
   ⟨by simpa [bg] using Own.nil v 1, fun k hk => (aJ hk).elim, Upd.refl _, Int.le_refl _, by omega⟩, ?_⟩
  rintro cp cn cc y w ⟨co, ck, hw, y0, y1⟩
  have hcn := co.Dn
  have hcb : ((cl.take y.toNat).filter (· ≠ p)).length <= y.toNat := Nat.le_trans (List.length_filter_le _ _) (by rw [List.length_take]; omega)
  have hws := hw.size
  refine ⟨fun hy => ?_, fun hy => ?_⟩
  ·obtain ⟨b1, o1, hp1, hr1⟩ := (hnum.ext hw).at (i := y.toNat) (by omega)
   have htk := bN cl 0 (i := y.toNat) (by omega)
   have hy1 : (y + 1).toNat = y.toNat + 1 := by omega
   generalize cl.getD y.toNat 0 = z at hr1 htk
   have hfil : (cl.take (y + 1).toNat).filter (· ≠ p) = (cl.take y.toNat).filter (· ≠ p) ++ if z = p then [] else [z] := by
    rw [hy1, htk, List.filter_append]
    congr 1
    by_cases hz : z = p <;> simp [hz]
   refine ⟨b1, o1, hp1, y0, hy, _, rfl, hr1, fun hz => ?_, fun hz => ?_⟩
   ·refine co.Gl (by omega) z aF aF fun p1 c1 w1 ho1 hu1 hk1 => ⟨by simp only [inK]; omega, ⟨?_, fun k hk => ?_, (hw.trans hu1 fun k hk hat => by have := ck k hat; omega).mono fun _ _ h => h, by omega, by omega⟩, by first | omega | (dsimp only; omega)⟩
    ·rw [hfil, if_neg hz]
     exact ho1
    ·rcases hk1 k hk with h2 | h2
     ·exact ck k h2
     ·omega
   ·refine ⟨by simp only [inK]; omega, ⟨?_, ck, hw, by omega, by omega⟩, by first | omega | (dsimp only; omega)⟩
    rw [hfil, if_pos hz, List.append_nil]
    exact co
  ·have hty : cl.take y.toNat = cl := List.take_of_length_le (by omega)
   rw [hty] at co hcb hcn
   have hvw := hv.ext hw
   have hvs := hv.size
   have hx1 : (x + 1).toNat = x.toNat + 1 := by omega
   have hemp : (cl.filter (· ≠ p)).isEmpty = true ↔ cn = 0 := by
    rw [List.isEmpty_iff, <- List.length_eq_zero_iff, hcn]
   refine ⟨fun h3 => ?_, fun h3 => ?_⟩
   ·rw [if_neg (by rw [hemp]; omega)] at hS
    subst hcn
    refine (O.ext hw).push (q := cp) (cq := cc) (by omega) (by omega) co.iG (fun k hk => ⟨(co.at hk).1, fun hat => by have := (O.own.at hat).1; have := ck k hk; omega, by have := ck k hk; have := hv.size; omega, by obtain ⟨_, r, t, h⟩ := co.at hk; exact ⟨_, t, h⟩⟩) aL aL fun p3 c3 w3 hO3 hu3 => ?_
    refine ⟨by simp only [inK]; omega, ⟨_, hO3, by rw [hx1, hS]; simp, by simp; omega, (hvw.trans hu3 fun k hk hat => by have := O.new k hat; omega).mono fun _ _ h => h, by omega, by omega⟩, by first | omega | (dsimp only; omega)⟩
   ·rw [if_pos (by rw [hemp]; omega)] at hS
    exact ⟨by simp only [inK]; omega, ⟨L, ⟨xs, O.ext hw⟩, by rw [hx1]; exact hS, by omega, hvw, by omega, by omega⟩, by first | omega | (dsimp only; omega)⟩
 ·rw [List.drop_eq_nil_of_le (by omega)] at hS
  have : eI t p = L := by rw [hS]; simp [eI]
  rw [this, <- O.len]
  exact ⟨⟨op, oc, rfl, O.tl, fun _ => O.far⟩, hv⟩
set_option maxHeartbeats 2000000 in
theorem Bq {u : World} {sb : Nat} {B : Nat -> Prop} {s : Sv} (h : RvM u sb B s) (few : dO 1048576 s.v.aj) (hgl : s.v.aG.length = 6) (hpl : s.az.length = 6) (hgr : ∀ i, i < 6 -> ao (aq s.v i) \/ aq s.v i = .zero) :
  Spec Tryz.prog cO #[.pointer (some ⟨sb, 0, none⟩)] u fun e u' => e = .returned (.tuple #[]) /\ RvM u' sb B (kN s) /\ Upd (· = sb) u u' := by
 apply iO
 delta eA A9 Bk tb cnd iI lq
 simp only [decide_eq_true_eq, decide_eq_false_iff_not, true_and, Bool.not_eq_true', Bool.not_eq_false']
 refine ⟨fun x v => RvM v sb B (eJ s x.toNat) /\ 0 <= x /\ x <= 6 /\ Upd (· = sb) u v, fun x _ => (6 - x).toNat, ⟨by rw [show (0 : Int).toNat = 0 from rfl, yZ hgl hpl]; exact h, by omega, by omega, Upd.refl _⟩, ?_⟩
 rintro x v ⟨hp, h0, h6, hv⟩
 refine ⟨fun hx => ?_, fun hx => ?_⟩
 rotate_left 1
 ·have : x.toNat = 6 := by omega
  rw [this, CS] at hp
  exact ⟨hp, hv⟩
 have hx6 : x.toNat < 6 := by omega
 have hx1 : (x + 1).toNat = x.toNat + 1 := by omega
 have ho : 0 + 0 + 1 + x.toNat * 9 = 1 + x.toNat * 9 := by omega
 obtain ⟨cs, hc, hrd⟩ := hp.rd
 obtain ⟨tp, tc, kt, TF⟩ := hc.oY
 have TF : TlF v (fun k => ¬ B k) tp s.v.aj := TF
 have kt : takeN cs 0 1 = some [.slice tp s.v.aj.length tc] := kt
 have hxc : ((x.toNat : Nat) : Int) = x := by omega
 have hlt := hp.lt
 refine ⟨tp, _, tc, rfl, hrd kt, (fB TF.tl tc x few).mono fun e v1 ⟨he, hv1⟩ => ⟨_, he, fun hno => ?_, fun hhas => ?_⟩⟩
 ·have hd : Ext v (af v1) := hv1.drew
  have hno' : br s.v.aj (x.toNat : Nat) = false := by rw [hxc]; exact hno
  obtain ⟨k1, k2⟩ := (hp.ext hd).lS FK hx6 (g := .zero) (x := [.int .i64 0, .int .i64 0, .slice none 0 0, .int .i64 0, .int .i64 0, .int .i64 0, .bool false, .int .i64 0, .int .i64 0]) ⟨⟨none, 0, rfl, Cells.nil _, fun _ k hk => (aJ hk).elim⟩, by decide⟩ ho
  obtain ⟨m1, m2⟩ := k2.mS HN hx6 (r := .zero) (x := [.int .i64 0, .slice none 0 0, .string (ByteArray.mk #[]), .bool false]) ⟨⟨none, 0, 0, rfl, ⟨rfl, rfl⟩, fun _ k hk => (aJ hk).elim⟩⟩ (o := 0 + 58 + x.toNat * 4) (by omega)
  refine ⟨by omega, by omega, rfl, k1, by omega, by omega, rfl, m1, by simp only [inK]; omega, ⟨?_, by omega, by omega, ((hv.ext hd).put (fun _ => rfl) _ _).put (fun _ => rfl) _ _⟩, by first | omega | (dsimp only; omega)⟩
  rw [hx1, <- Ec hx6 hno']
  exact m2
 have hhas' : br s.v.aj (x.toNat : Nat) = true := by rw [hxc]; exact hhas
 have hd : Ext v (af v1) := hv1.drew
 have rd : ∀ {w : World}, Ext v w -> Rd w sb (0 + 0 + 0) [.slice tp s.v.aj.length tc] /\ Rd w sb (0 + 0 + 55) [.int .i64 s.v.wide] /\ Rd w sb (0 + 0 + 56) [.int .i64 s.v.high] := fun hw => ⟨hw.rd (hrd kt) fun h => h, hw.rd (hrd hc.wide) fun h => h, hw.rd (hrd hc.high) fun h => h⟩
 obtain ⟨r1, r2, r3⟩ := rd hd
 have hm : ∀ a : Int, max a 1 = max 1 a := fun a => Int.max_comm _ _
 obtain ⟨y, ky, GA⟩ := hc.qz x.toNat hx6
 rw [Eu (Nat.lt_irrefl _) hx6] at GA
 obtain ⟨⟨gp, gc, rfl, gC, gk⟩, gfew⟩ := GA
 have ky' := hrd ky
 rw [<- ho] at ky'
 have eqs := fun g' => @xj s x.toNat hx6 hhas' g'
 rw [<- hx1] at eqs
 have ff := hgr x.toNat hx6
 have store : ∀ {w : World} {g' : Gr} {p' : Option Addr} {c' : Nat}, Ext v w -> g9 s.v.aj s.v.wide s.v.high x.toNat (aq s.v x.toNat) = g' -> Cells w p' g'.cells -> (∀ k, At p' k -> v.heap.size <= k) -> g'.cells.length <= 1000 ->
   Wr w sb (0 + 0 + 1 + x.toNat * 9) 9 /\ inK .i64 (x + 1) /\ (RvM (ae w sb (0 + 0 + 1 + x.toNat * 9) (grV g' p' g'.cells.length c')) sb B (eJ s (x + 1).toNat) /\ 0 <= x + 1 /\ x + 1 <= 6 /\ Upd (· = sb) u (ae w sb (0 + 0 + 1 + x.toNat * 9) (grV g' p' g'.cells.length c'))) /\ (6 - (x + 1)).toNat < (6 - x).toNat := fun {w g' p' c'} hw hg' hC hk hf => by
  obtain ⟨k1, k2⟩ := (hp.ext hw).lS FK hx6 (g := g') ⟨⟨p', c', rfl, hC, fun _ k hk1 => hp.new (hk k hk1)⟩, hf⟩ ho
  rw [eqs g' hg'] at k2
  exact ⟨k1, by simp only [inK]; omega, ⟨k2, by omega, by omega, (hv.trans (hw.any (S := (· = sb))) fun _ _ h => h).put (fun _ => rfl) _ _⟩, by omega⟩
 have leave : ∀ {w : World}, Ext v w -> g9 s.v.aj s.v.wide s.v.high x.toNat (aq s.v x.toNat) = aq s.v x.toNat -> inK .i64 (x + 1) /\ (RvM w sb B (eJ s (x + 1).toNat) /\ 0 <= x + 1 /\ x + 1 <= 6 /\ Upd (· = sb) u w) /\ (6 - (x + 1)).toNat < (6 - x).toNat := fun {w} hw hg' => by
  refine ⟨by simp only [inK]; omega, ⟨?_, by omega, by omega, hv.trans (hw.any (S := (· = sb))) fun _ _ h => h⟩, by omega⟩
  rw [<- eqs _ hg']
  have e : (eJ s x.toNat).v.aG.set x.toNat (aq s.v x.toNat) = (eJ s x.toNat).v.aG := by
   have hg := Eu (s := s) (Nat.lt_irrefl x.toNat) hx6
   refine List.ext_getElem (by simp) fun j h1 h2 => ?_
   rw [List.getElem_set]
   split
   ·next e => subst e; rw [<- hg]; show List.getD _ _ _ = _; simp [List.getD_eq_getElem?_getD, h2]
   ·rfl
  rw [e]
  exact hp.ext hw
 have zero : ∀ {W : World}, Ext v W -> (aq s.v x.toNat).wide = 0 -> Spec Tryz.prog dp #[.int .i64 (max 1 (whereT s.v.aj s.v.wide s.v.high x).wide), .int .i64 (max 1 (whereT s.v.aj s.v.wide s.v.high x).high)] W fun e w2 => ∃ (a b : Int) (p : Option Addr) (n c : Nat) (d f i : Int) (j : Bool) (k l : Int), e = .returned (.agg #[.int .i64 a, .int .i64 b, .slice p n c, .int .i64 d, .int .i64 f, .int .i64 i, .bool j, .int .i64 k, .int .i64 l]) /\
   0 <= x /\ x < ((6 : Nat) : Int) /\ 9 = szN 9 /\ Wr w2 sb (0 + 0 + 1 + x.toNat * 9) 9 /\ inK .i64 (x + 1) /\ (RvM (ae w2 sb (0 + 0 + 1 + x.toNat * 9) [.int .i64 a, .int .i64 b, .slice p n c, .int .i64 d, .int .i64 f, .int .i64 i, .bool j, .int .i64 k, .int .i64 l]) sb B (eJ s (x + 1).toNat) /\ 0 <= x + 1 /\ x + 1 <= 6 /\ Upd (· = sb) u (ae w2 sb (0 + 0 + 1 + x.toNat * 9) [.int .i64 a, .int .i64 b, .slice p n c, .int .i64 d, .int .i64 f, .int .i64 i, .bool j, .int .i64 k, .int .i64 l])) /\ (6 - (x + 1)).toNat < (6 - x).toNat := fun {W} hW hz => by
  have hWs := hW.size
  refine (rj _ _).mono fun e w2 ⟨⟨p2, c2, he, ho2, hk2⟩, hw2⟩ => ⟨_, _, _, _, _, _, _, _, _, _, _, he, by omega, by omega, rfl, ?_⟩
  refine store (hW.ext hw2) ?_ ⟨ho2.aH⟩ (fun k hk => by have := hk2 k hk; omega) (by have := aK (dr (max 1 (whereT s.v.aj s.v.wide s.v.high x).wide) (max 1 (whereT s.v.aj s.v.wide s.v.high x).high)); omega)
  unfold g9
  rw [if_neg (by rw [hhas']; simp), hxc]
  exact if_pos hz
 have other : ∀ {W : World}, Ext v W -> ¬ (aq s.v x.toNat).wide = 0 -> (¬ (aq s.v x.toNat).wide = max 1 (whereT s.v.aj s.v.wide s.v.high x).wide \/ ¬ (aq s.v x.toNat).high = max 1 (whereT s.v.aj s.v.wide s.v.high x).high) -> Spec Tryz.prog dq #[GrV (aq s.v x.toNat) gp (aq s.v x.toNat).cells.length gc, .int .i64 (max 1 (whereT s.v.aj s.v.wide s.v.high x).wide), .int .i64 (max 1 (whereT s.v.aj s.v.wide s.v.high x).high)] W fun e w2 => ∃ (a b : Int) (p : Option Addr) (n c : Nat) (d f i : Int) (j : Bool) (k l r : Int), e = .returned (.tuple #[.agg #[.int .i64 a, .int .i64 b, .slice p n c, .int .i64 d, .int .i64 f, .int .i64 i, .bool j, .int .i64 k, .int .i64 l], .int .i64 r]) /\
   0 <= x /\ x < ((6 : Nat) : Int) /\ 9 = szN 9 /\ Wr w2 sb (0 + 0 + 1 + x.toNat * 9) 9 /\ inK .i64 (x + 1) /\ (RvM (ae w2 sb (0 + 0 + 1 + x.toNat * 9) [.int .i64 a, .int .i64 b, .slice p n c, .int .i64 d, .int .i64 f, .int .i64 i, .bool j, .int .i64 k, .int .i64 l]) sb B (eJ s (x + 1).toNat) /\ 0 <= x + 1 /\ x + 1 <= 6 /\ Upd (· = sb) u (ae w2 sb (0 + 0 + 1 + x.toNat * 9) [.int .i64 a, .int .i64 b, .slice p n c, .int .i64 d, .int .i64 f, .int .i64 i, .bool j, .int .i64 k, .int .i64 l])) /\ (6 - (x + 1)).toNat < (6 - x).toNat := fun {W} hW hz hne => by
  have hWs := hW.size
  have gg : ao (aq s.v x.toNat) := ff.resolve_right fun h0 => hz (by rw [h0])
  have h0 := jr gg (max 1 (whereT s.v.aj s.v.wide s.v.high x).wide) (max 1 (whereT s.v.aj s.v.wide s.v.high x).high)
  have hres := wT gg (max 1 (whereT s.v.aj s.v.wide s.v.high x).wide) (max 1 (whereT s.v.aj s.v.wide s.v.high x).high)
  refine (B5 (gC.ext hW) gc (by omega) _ _).mono fun e w2 ⟨⟨p2, c2, he, hC2, hk2⟩, hw2⟩ => ⟨_, _, _, _, _, _, _, _, _, _, _, _, he, by omega, by omega, rfl, ?_⟩
  refine store (hW.ext hw2) ?_ hC2 (fun k hk => by have := hk2 h0 k hk; omega) (by have := aK hres.2.1; omega)
  unfold g9
  rw [if_neg (by rw [hhas']; simp), hxc]
  simp only
  rw [if_neg hz, if_pos hne]
 simp only [hm]
 refine ⟨tp, _, tc, rfl, r1, _, rfl, r2, _, rfl, r3, ⟨?_, ?_⟩⟩
 ·refine (xE (TF.tl.ext hd) tc s.v.wide s.v.high x few).mono fun e w1 ⟨he, hw1⟩ => ?_
  have hWv1 : Ext v (ab w1 hole) := (hd.ext hw1).alloc _
  obtain ⟨q1, q2, q3⟩ := rd hWv1
  have hWv : Ext v (af (ab w1 hole)) := hWv1.drew
  have xa : Ext v (af (ab (af (ab w1 hole)) hole)) := (hWv.alloc _).drew
  exact ⟨_, _, _, _, he, q3, q2, q1, by omega, by omega, _, _, _, _, _, _, _, _, _, _, _, rfl, hWv.rd ky' fun h => h, fun hz => zero xa hz, fun hz => ⟨fun hne => other xa hz (.inl hne), fun heqw => ⟨fun hne => other xa hz (.inr hne), fun heqh => leave (hWv.alloc _) (by
   unfold g9
   rw [if_neg (by rw [hhas']; simp), hxc]
   simp only
   rw [if_neg hz, if_neg (fun hh => hh.elim (fun h7 => h7 heqw) fun h7 => h7 heqh)])⟩⟩⟩
 ·have ha : Ext v (ab (af v1) hole) := hd.alloc _
  obtain ⟨q1, q2, q3⟩ := rd ha
  refine ⟨q3, q2, q1, (xE (TF.tl.ext ha) tc s.v.wide s.v.high x few).mono fun e w1 ⟨he, hw1⟩ => ?_⟩
  have hWv : Ext v (af w1) := (ha.ext hw1).drew
  have xa : Ext v (af (ab (af w1) hole)) := (hWv.alloc _).drew
  exact ⟨_, _, _, _, he, by omega, by omega, _, _, _, _, _, _, _, _, _, _, _, rfl, hWv.rd ky' fun h => h, fun hz => zero xa hz, fun hz => ⟨fun hne => other xa hz (.inl hne), fun heqw => ⟨fun hne => other xa hz (.inr hne), fun heqh => leave (hWv.alloc _) (by
   unfold g9
   rw [if_neg (by rw [hhas']; simp), hxc]
   simp only
   rw [if_neg hz, if_neg (fun hh => hh.elim (fun h7 => h7 heqw) fun h7 => h7 heqh)])⟩⟩⟩
theorem bR.gz {s : Sv} (h : bR s) (i : Nat) (hi : i < 6) : ao (aq s.v i) \/ aq s.v i = .zero := (h.ki i hi).symm
theorem qt {t : aD} (h : cF t) : dO 10000000 t := ⟨by have := h.yP.n; omega, fun c hc => by have := h.yP.each c hc; omega⟩
theorem Dy {u : World} {sb : Nat} {B : Nat -> Prop} {s : Sv} (h : SvM u sb B s) (I : bR s) (p : Int) :
  Spec Tryz.prog iz #[.pointer (some ⟨sb, 0, none⟩), .int .i64 p] u fun e u' => e = .returned (.int .i64 (dF s p).2.code) /\ SvM u' sb B (dF s p).1 /\ Upd (· = sb) u u' := by
 apply kO
 delta ij Be cnd iI lq
 simp only [decide_eq_true_eq, decide_eq_false_iff_not, true_and, Bool.not_eq_true', Bool.not_eq_false']
 obtain ⟨cs, hc, hrd⟩ := h.rd
 obtain ⟨tp, tc, kt, TF⟩ := hc.oY
 have few := qt I.aj
 refine ⟨tp, _, tc, rfl, hrd kt, (Gt TF.tl tc p few).mono fun e u1 ⟨⟨p1, c1, he, hT1, hF1⟩, hu1⟩ => ⟨_, _, _, _, he, fun hne => ?_, fun hz => ?_⟩⟩
 ·have ha : Ext u (ab u1 hole) := hu1.alloc _
  have : dF s p = (s, .no (bk s.v.aj p).2) := by unfold dF; exact if_pos hne
  rw [this]
  exact ⟨rfl, h.ext ha, ha.any⟩
 ·have ha1 : Ext u1 (ab u1 hole) := (Upd.refl _).alloc _
  have ha : Ext u (ab u1 hole) := hu1.ext ha1
  have hlt := h.lt
  have TF2 : TlF (ab u1 hole) (fun k => ¬ B k) p1 (bk s.v.aj p).1 := ((hF1 hz).upd (S := fun _ => False) ha1 fun _ _ h => h).mono fun k hk => h.new (by omega)
  obtain ⟨kg, kn, ko, kf⟩ := uq hz
  obtain ⟨m1, m2⟩ := (h.ext ha).mP c1 TF2 (o := 0 + 0 + 0) rfl
  have up2 : Upd (· = sb) u (ae (ab u1 hole) sb (0 + 0 + 0) [.slice p1 (bk s.v.aj p).1.length c1]) := (ha.any (S := (· = sb))).put (fun _ => rfl) _ _
  obtain ⟨cs2, hc2, hrd2⟩ := m2.rd
  have TF3 := TF2.upd (aI (u := ab u1 hole) sb (0 + 0 + 0) [.slice p1 (bk s.v.aj p).1.length c1]) fun k hk e => hk (e ▸ h.own)
  have hks : dF s p = (kN { s with v := { s.v with aj := (bk s.v.aj p).1, focus := if s.v.focus = p then ((bk s.v.aj p).1.getD 0 []).getD 0 0 else s.v.focus } }, .no 0) := by unfold dF; exact if_neg (by rw [hz]; simp)
  rw [hks]
  have kfew := qt kg
  have kne : 0 < (bk s.v.aj p).1.length := List.length_pos_iff.2 kg.some
  refine ⟨rfl, m1, _, rfl, hrd2 hc2.focus, fun hfp => ?_, fun hfp => ?_⟩
  ·obtain ⟨b, o, q, c, hp1, hr1, hn1⟩ := TF3.tl.at (i := 0) kne
   have kc := (kg.each _ (cA (d := []) kne)).1
   obtain ⟨b1, o1, hq1, hr2⟩ := hn1.at (i := 0) kc
   obtain ⟨n1, n2⟩ := m2.g6 (((bk s.v.aj p).1.getD 0 []).getD 0 0) (o := 0 + 0 + 57) (by omega)
   refine ⟨b, o, hp1, by decide, by omega, _, _, _, rfl, hr1, b1, o1, hq1, by decide, by omega, _, rfl, hr2, rfl, n1, ?_⟩
   refine (qg n2 kfew I.gl I.pl I.gz).mono fun e u3 ⟨he, hm, hu3⟩ => ⟨he, rfl, ?_, ((up2.put (fun _ => rfl) _ _).trans hu3 fun _ _ h => h)⟩
   rw [if_pos hfp]
   exact hm
  ·refine (qg m2 kfew I.gl I.pl I.gz).mono fun e u3 ⟨he, hm, hu3⟩ => ⟨he, rfl, ?_, up2.trans hu3 fun _ _ h => h⟩
   rw [if_neg hfp]
   exact hm
structure vK (u : World) (sb : Nat) (B : Nat -> Prop) (r : Sv × Rp) (e : Ending) (u' : World) : Prop where
 e : e = .returned (.agg #[.int .i64 r.2.code, .int .i64 r.2.n, .string (aW r.2.out)])
 mem : SvM u' sb B r.1
 upd : Upd (· = sb) u u'
theorem mc {t : aD} : ∀ (l : List Nat), (∀ i ∈ l, br t (i : Nat) = true) -> (l.find? fun n : Nat => !br t n) = none
 | [], _ => rfl
 | a :: l, h => by
  rw [List.find?_cons, h a List.mem_cons_self]
  show (l.find? fun n : Nat => !br t n) = none
  exact mc l fun i hi => h i (List.mem_cons_of_mem _ hi)
theorem Ek {t : aD} {x : Nat} (hx : x < 6) (h : ∀ i, i < x -> br t (i : Nat) = true) (hn : br t (x : Nat) = false) : eT t = some x := by
 unfold eT
 have e : [0, 1, 2, 3, 4, 5] = List.range 6 := rfl
 have key : ∀ (a m : Nat), (∀ i, i < a -> br t (i : Nat) = true) -> br t (a : Nat) = false -> a < m -> ((List.range m).find? fun n : Nat => !br t n) = some a := fun a m h1 h2 h3 => by
  rw [List.find?_range_eq_some]
  refine ⟨by rw [h2]; rfl, by simpa using h3, fun j hj => by rw [h1 j hj]; rfl⟩
 rw [e]
 exact key x 6 h hn hx
theorem BN {u : World} {sb : Nat} {B : Nat -> Prop} {s : Sv} (h : SvM u sb B s) (I : bR s) (a : Ac) (by_ : ByteArray) :
  Spec Tryz.prog gI #[.pointer (some ⟨sb, 0, none⟩), .agg #[.int .i64 a.kind, .int .i64 a.p, .int .i64 a.n, .int .i64 a.m, .string by_]] u (vK u sb B (splitS s a)) := by
 apply jX
 delta gA zG sG cnd iI lq
 simp only [decide_eq_true_eq, decide_eq_false_iff_not, true_and, Bool.not_eq_true', Bool.not_eq_false']
 have hu : Ext u (ab (ab u hole) hole) := ((Upd.refl u).alloc _).alloc _
 have few := qt I.aj
 refine ⟨fun x _ _ _ v => Ext u v /\ 0 <= x /\ x <= 6 /\ ∀ i : Nat, i < x.toNat -> br s.v.aj (i : Nat) = true, fun x _ _ _ _ => (6 - x).toNat, ⟨hu, by omega, by omega, by omega⟩, ?_⟩
 rintro x _ _ _ v ⟨hv, h0, h6, hi⟩
 have hm := h.ext hv
 obtain ⟨cs, hc, hrd⟩ := hm.rd
 obtain ⟨tp, tc, kt, TF⟩ := hc.oY
 have hxc : ((x.toNat : Nat) : Int) = x := by omega
 refine ⟨fun hx => ⟨tp, _, tc, rfl, hrd kt, (ya TF.tl tc x few).mono fun e v1 ⟨he, hv1⟩ => ⟨_, he, fun hh => ⟨by simp only [inK]; omega, ⟨hv.ext hv1, by omega, by omega, fun i hi2 => ?_⟩, by first | omega | (dsimp only; omega)⟩, fun hh => ?_⟩⟩, fun hx => ?_⟩
 ·rcases (by omega : i < x.toNat \/ i = x.toNat) with h7 | rfl
  ·exact hi i h7
  ·rw [hxc]; exact hh
 ·have hfree : eT s.v.aj = some x.toNat := Ek (by omega) hi (by rw [hxc]; exact hh)
  have hsp : splitS s a = if (aY s.v.aj a.p x.toNat (decide (a.n = 1))).2 ≠ 0 then (s, .no (aY s.v.aj a.p x.toNat (decide (a.n = 1))).2) else (kN { s with v := { s.v with aj := (aY s.v.aj a.p x.toNat (decide (a.n = 1))).1, focus := (x.toNat : Nat) } }, ⟨0, (x.toNat : Nat), []⟩) := by unfold splitS; rw [hfree]
  rw [hxc] at hsp
  have hd : Ext v (af v1) := hv1.drew
  have rd1 : ∀ {w : World}, Ext v w -> Rd w sb (0 + 0 + 0) [.slice tp s.v.aj.length tc] := fun hw => hw.rd (hrd kt) fun h => h
  have ze : aW [] = ByteArray.mk #[] := rfl
  refine ⟨tp, _, tc, rfl, rd1 hd, ⟨?_, ?_⟩⟩
  ·refine (zh (TF.tl.ext hd) tc a.p x (decide (a.n = 1)) few).mono fun e w1 ⟨⟨p1, c1, he, hT1, hF1⟩, hw1⟩ => ⟨_, _, _, _, he, rd1 ((hd.ext hw1).alloc _), fun hne => ?_, fun hz => ?_⟩
   ·have ha := (hd.ext hw1).alloc hole
    rw [hsp, if_pos hne]
    exact ⟨rfl, hm.ext ha, (hv.ext ha).any⟩
   ·have ha1 : Ext w1 (ab w1 hole) := (Upd.refl _).alloc _
    have ha : Ext v (ab w1 hole) := (hd.ext hw1).ext ha1
    rw [hsp, if_neg (by rw [hz]; simp)]
    have hlt := hm.lt
    have TF2 := ((hF1 hz).upd (S := fun _ => False) ha1 fun _ _ h => h).mono (ok' := fun k => ¬ B k) fun k hk => hm.new (by have := hd.size; omega)
    have kfew := qt (nK hz).1
    obtain ⟨m1, m2⟩ := (hm.ext ha).mP c1 TF2 (o := 0 + 0 + 0) rfl
    obtain ⟨n1, n2⟩ := m2.g6 x (o := 0 + 0 + 57) (by omega)
    have up := (((hv.ext ha).any (S := (· = sb))).put (b := sb) (fun _ => rfl) (0 + 0 + 0) [.slice p1 (aY s.v.aj a.p x (decide (a.n = 1))).1.length c1]).put (b := sb) (fun _ => rfl) (0 + 0 + 57) [.int .i64 x]
    exact ⟨rfl, m1, rfl, n1, (qg n2 kfew I.gl I.pl I.gz).mono fun e w3 ⟨he, hm3, hw3⟩ => ⟨he, rfl, hm3, up.trans hw3 fun _ _ h => h⟩⟩
  ·have hal : Ext v (ab (af v1) hole) := hd.alloc _
   refine ⟨rd1 hal, (zh (TF.tl.ext hal) tc a.p x (decide (a.n = 1)) few).mono fun e w1 ⟨⟨p1, c1, he, hT1, hF1⟩, hw1⟩ => ⟨_, _, _, _, he, fun hne => ?_, fun hz => ?_⟩⟩
   ·have ha := hal.ext hw1
    rw [hsp, if_pos hne]
    exact ⟨rfl, hm.ext ha, (hv.ext ha).any⟩
   ·have ha : Ext v w1 := hal.ext hw1
    rw [hsp, if_neg (by rw [hz]; simp)]
    have hlt := hm.lt
    have TF2 := (hF1 hz).mono (ok' := fun k => ¬ B k) fun k hk => hm.new (by have := hal.size; omega)
    have kfew := qt (nK hz).1
    obtain ⟨m1, m2⟩ := (hm.ext ha).mP c1 TF2 (o := 0 + 0 + 0) rfl
    obtain ⟨n1, n2⟩ := m2.g6 x (o := 0 + 0 + 57) (by omega)
    have up := (((hv.ext ha).any (S := (· = sb))).put (b := sb) (fun _ => rfl) (0 + 0 + 0) [.slice p1 (aY s.v.aj a.p x (decide (a.n = 1))).1.length c1]).put (b := sb) (fun _ => rfl) (0 + 0 + 57) [.int .i64 x]
    exact ⟨rfl, m1, rfl, n1, (qg n2 kfew I.gl I.pl I.gz).mono fun e w3 ⟨he, hm3, hw3⟩ => ⟨he, rfl, hm3, up.trans hw3 fun _ _ h => h⟩⟩
 ·have hfree : eT s.v.aj = none := by
   unfold eT
   exact mc [0, 1, 2, 3, 4, 5] fun i hi3 => hi i (by simp at hi3; omega)
  have hsp : splitS s a = (s, .no 5) := by unfold splitS; rw [hfree]
  rw [hsp]
  exact ⟨rfl, hm, hv.any⟩
theorem AJ (s : Bs) : (aW s).size = s.length := by simp [aW, ByteArray.size]
theorem kr (q : Bs) (i j : Nat) : (aW q).extract i j = aW ((q.drop i).take (j - i)) := by
 apply ql
 rw [ByteArray.data_extract, Array.toList_extract, aZ]
theorem SvC.ct {u : World} {ok : Nat -> Prop} {s : Sv} {cs : List Value} (h : SvC u ok s cs) {i : Nat} (hi : i < 3) : ∃ y, Gp u ok (ag s i) y /\ takeN y 0 1 = some [.bool (ag s i).here] /\ takeN y 10 1 = some [.string (aW (ag s i).queue)] /\ takeN y 11 1 = some [.bool (ag s i).lost] /\
  takeN y 1 1 = some [.int .i64 (ag s i).shown.wide] /\ takeN y 2 1 = some [.int .i64 (ag s i).shown.high] /\ (∀ {j m z}, takeN y j m = some z -> j + m <= 12 -> takeN cs (82 + i * 12 + j) m = some z) := by
 obtain ⟨y, k1, k2⟩ := h.ue i hi
 obtain ⟨⟨p, d, rfl, k3, k4⟩, k5⟩ := k2
 exact ⟨_, ⟨⟨p, d, rfl, k3, k4⟩, k5⟩, rfl, rfl, rfl, rfl, rfl, fun hz hjm => ua k1 hz hjm⟩
theorem CD {u : World} {sb : Nat} {B : Nat -> Prop} {s : Sv} (h : SvM u sb B s) (I : bR s) (a : Ac) (ha : a.kind = 6 \/ a.kind = 7 \/ a.kind = 9) (by_ : ByteArray) :
  Spec Tryz.prog du #[.pointer (some ⟨sb, 0, none⟩), .agg #[.int .i64 a.kind, .int .i64 a.p, .int .i64 a.n, .int .i64 a.m, .string by_]] u (vK u sb B (aM s a)) := by
 apply j8
 delta gx Aj AB wc sa cnd iI lq
 simp only [decide_eq_true_eq, decide_eq_false_iff_not, true_and, Bool.not_eq_true', Bool.not_eq_false']
 have hu : Ext u (ab (ab u hole) hole) := ((Upd.refl u).alloc _).alloc _
 have hd : Ext u (af (ab (ab u hole) hole)) := hu.drew
 have hd2 : Ext u (af (af (ab (ab u hole) hole))) := hd.drew
 have no : ∀ {v : World} {n : Int}, Ext u v -> aM s a = (s, .no n) -> vK u sb B (aM s a) (.returned (.agg #[.int .i64 n, .int .i64 0, .string (ByteArray.mk #[])])) v := fun hv he => by
  rw [he]
  exact ⟨rfl, h.ext hv, hv.any⟩
 refine ⟨fun h1 => no hu (by unfold aM; rw [if_pos (.inl h1)]), fun h1 => ⟨fun h2 => no hu (by unfold aM; rw [if_pos (.inr h2)]), fun h2 => ⟨by omega, by omega, ?_⟩⟩⟩
 have hi : a.p.toNat < 3 := by omega
 obtain ⟨cs, hc, hrd⟩ := h.rd
 obtain ⟨y, Y, y0, y10, y11, _, _, ysub⟩ := hc.ct hi
 have hcl : s.ak.length = 3 := I.cl
 have rd : ∀ {w : World} {j m o : Nat} {z : List Value}, Ext u w -> takeN y j m = some z -> j + m <= 12 -> o = 82 + a.p.toNat * 12 + j -> Rd w sb o z := fun hw hz hjm ho => by
  rw [ho]
  exact hw.rd (hrd (ysub hz hjm)) fun h => h
 have hv : aM s a = if a.kind = 6 then
   if (ag s a.p.toNat).here = true then (s, .no 4)
   else if a.n < 1 \/ 24 < a.n \/ a.m < 1 \/ 10 < a.m then (s, .no 1)
   else ({ s with ak := s.ak.set a.p.toNat ⟨true, aO a.n a.m, [], true⟩ }, .no 0)
  else if (ag s a.p.toNat).here = false then (s, .no 3)
  else if a.kind = 7 then ({ s with ak := s.ak.set a.p.toNat .zero }, .no 0)
  else ({ s with ak := s.ak.set a.p.toNat { ag s a.p.toNat with queue := (ag s a.p.toNat).queue.drop (bL a.n (ag s a.p.toNat).queue) } }, ⟨0, bL a.n (ag s a.p.toNat).queue, (ag s a.p.toNat).queue.take (bL a.n (ag s a.p.toNat).queue)⟩) := by
  unfold aM
  rw [if_neg (by omega)]
 refine ⟨fun k6 => ⟨_, rfl, rd hd y0 (by decide) (by omega), fun hh => no hd (by rw [hv, if_pos k6, if_pos hh]), fun hh => ⟨fun _ => ?_, fun hn => (hn k6).elim⟩⟩, fun k6 => ⟨fun k => (k6 k).elim, fun _ => ⟨_, rfl, rd hd y0 (by decide) (by omega), fun hh => no hd (by rw [hv, if_neg k6, if_pos hh]), fun hh => ⟨fun k7 => ?_, fun k7 => ?_⟩⟩⟩⟩
 ·refine ⟨fun b1 => no hd (by rw [hv, if_pos k6, if_neg (by rw [hh]; simp), if_pos (.inl b1)]), fun b1 => ⟨fun b2 => no hd (by rw [hv, if_pos k6, if_neg (by rw [hh]; simp), if_pos (.inr (.inl b2))]), fun b2 => ⟨fun b3 => no hd (by rw [hv, if_pos k6, if_neg (by rw [hh]; simp), if_pos (.inr (.inr (.inl b3)))]), fun b3 => ⟨fun b4 => no hd (by rw [hv, if_pos k6, if_neg (by rw [hh]; simp), if_pos (.inr (.inr (.inr b4)))]), fun b4 => ?_⟩⟩⟩⟩
  refine (lP a.n a.m).mono fun e w ⟨⟨nb, he, hco, hnb⟩, hw⟩ => ⟨_, _, _, _, _, _, _, _, _, _, _, he, rfl, ?_⟩
  have hx := hd.ext hw
  have hlt := h.lt
  have hnl := aK (dr a.n a.m)
  have hds := hd.size
  obtain ⟨m1, m2⟩ := (h.ext hx).iJ hcl hi (r := ⟨true, aO a.n a.m, [], true⟩) (a := 0) (m := 12) (ys := [.bool true] ++ grV (aO a.n a.m) (some ⟨nb, 0, none⟩) (aO a.n a.m).cells.length (aO a.n a.m).cells.length ++ [.string (aW []), .bool true]) rfl (by decide) (fun x hx' => by
   obtain ⟨⟨p, d, rfl, _, _⟩, _⟩ := hx'
   exact ⟨_, bP rfl, ⟨⟨_, _, rfl, hco.cells, fun _ k hk => h.new (by have := ar hk; simp only at this; omega)⟩, by show (aO a.n a.m).cells.length <= 1000; omega⟩⟩) (o := 0 + 82 + a.p.toNat * 12) (by omega)
  refine ⟨m1, ?_⟩
  rw [hv, if_pos k6, if_neg (by rw [hh]; simp), if_neg (by omega)]
  exact ⟨rfl, m2, (hx.any (S := (· = sb))).put (fun _ => rfl) _ _⟩
 ·obtain ⟨m1, m2⟩ := (h.ext hd).iJ hcl hi (r := .zero) (a := 0) (m := 12) (ys := [.bool false, .int .i64 0, .int .i64 0, .slice none 0 0, .int .i64 0, .int .i64 0, .int .i64 0, .bool false, .int .i64 0, .int .i64 0, .string (ByteArray.mk #[]), .bool false]) rfl (by decide) (fun x hx' => by
   obtain ⟨⟨p, d, rfl, _, _⟩, _⟩ := hx'
   exact ⟨_, bP rfl, ⟨⟨none, 0, rfl, Cells.nil _, fun _ k hk => (aJ hk).elim⟩, by decide⟩⟩) (o := 0 + 82 + a.p.toNat * 12) (by omega)
  refine ⟨rfl, m1, ?_⟩
  rw [hv, if_neg k6, if_neg (by rw [hh]; simp), if_pos k7]
  exact ⟨rfl, m2, (hd.any (S := (· = sb))).put (fun _ => rfl) _ _⟩
 ·have hq := AJ (ag s a.p.toNat).queue
  have hdr : ((bL a.n (ag s a.p.toNat).queue : Nat) : Int) = max 0 (min a.n ((aW (ag s a.p.toNat).queue).size : Nat)) := by unfold bL; rw [hq]; omega
  have hdr2 : (max 0 (min a.n (((aW (ag s a.p.toNat).queue).size : Nat) : Int))).toNat = bL a.n (ag s a.p.toNat).queue := by omega
  have hdl : bL a.n (ag s a.p.toNat).queue <= (ag s a.p.toNat).queue.length := by unfold bL; omega
  obtain ⟨m1, m2⟩ := (h.ext hd2).iJ hcl hi (r := { ag s a.p.toNat with queue := (ag s a.p.toNat).queue.drop (bL a.n (ag s a.p.toNat).queue) }) (a := 10) (m := 1) (ys := [.string (aW ((ag s a.p.toNat).queue.drop (bL a.n (ag s a.p.toNat).queue)))]) rfl (by decide) (fun x hx' => by
   obtain ⟨⟨p, d, rfl, c1, c2⟩, c3⟩ := hx'
   exact ⟨_, rfl, ⟨⟨p, d, rfl, c1, c2⟩, c3⟩⟩) (o := 0 + 82 + a.p.toNat * 12 + 10) (by omega)
  refine ⟨_, rfl, rd hd2 y10 (by decide) (by omega), _, rfl, rd hd2 y10 (by decide) (by omega), by omega, by omega, by omega, _, rfl, rd hd2 y10 (by decide) (by omega), by omega, by omega, by omega, rfl, ?_⟩
  have e1 : (aW (ag s a.p.toNat).queue).extract (max 0 (min a.n (((aW (ag s a.p.toNat).queue).size : Nat) : Int))).toNat (((aW (ag s a.p.toNat).queue).size : Nat) : Int).toNat = aW ((ag s a.p.toNat).queue.drop (bL a.n (ag s a.p.toNat).queue)) := by
   rw [hdr2, kr, Int.toNat_natCast, hq]
   congr 1
   exact List.take_of_length_le (by rw [List.length_drop]; omega)
  have e2 : (aW (ag s a.p.toNat).queue).extract (0 : Int).toNat (max 0 (min a.n (((aW (ag s a.p.toNat).queue).size : Nat) : Int))).toNat = aW ((ag s a.p.toNat).queue.take (bL a.n (ag s a.p.toNat).queue)) := by
   rw [hdr2, kr]
   rfl
  rw [e1, e2, <- hdr]
  refine ⟨m1, ?_⟩
  rw [hv, if_neg k6, if_neg (by rw [hh]; simp), if_neg k7]
  exact ⟨rfl, m2, (hd2.any (S := (· = sb))).put (fun _ => rfl) _ _⟩
theorem de {α : Type} {cs x : List α} {a n m : Nat} (h : takeN cs a n = some x) (hm : a + n <= m) : takeN (cs.take m) a n = some x := by
 obtain ⟨k1, k2⟩ := cQ _ _ _ _ h
 refine eZ _ _ _ _ k1 fun j hj => ?_
 rw [List.getElem?_take_of_lt (by omega)]
 exact k2 j hj
theorem lO {α : Type} (x : List α) : takeN x 0 x.length = some x := eZ _ _ _ _ rfl fun j hj => by simp
theorem SvC.view {u : World} {ok : Nat -> Prop} {s : Sv} {cs : List Value} (h : SvC u ok s cs) (few : dO 1048576 s.v.aj) (hg : ∀ p, p < 6 -> aq s.v p = .zero \/ ao (aq s.v p)) :
  (cs.take 58).length = 58 /\ takeN cs 0 58 = some (cs.take 58) /\ VwM u (cs.take 58) s.v := by
 have hl : (cs.take 58).length = 58 := by rw [List.length_take, h.len]; rfl
 refine ⟨hl, eZ _ _ _ _ hl fun j hj => by rw [List.getElem?_take_of_lt hj, Nat.zero_add], ?_⟩
 obtain ⟨p, c, k1, k2⟩ := h.oY
 refine ⟨⟨p, c, de k1 (by decide), k2.tl⟩, few, fun i hi => ?_, de h.wide (by decide), de h.high (by decide), de h.focus (by decide), by have := lO (cs.take 58); rwa [hl] at this⟩
 obtain ⟨x, m1, ⟨p, c, rfl, m2, m3, m4⟩, m5⟩ := h.qz i hi
 refine ⟨p, c, de m1 (by omega), m2, by have : (aq s.v i).cells.length <= 1000 := m5; show (aq s.v i).cells.length <= _; omega, ?_, ?_⟩
 ·show inK .i64 (aq s.v i).row
  rcases hg i hi with e | e
  ·rw [e]; simp only [inK]; decide
  ·have := e.r1; have := e.r2; have := e.h2; simp only [inK]; omega
 ·show inK .i64 (aq s.v i).col
  rcases hg i hi with e | e
  ·rw [e]; simp only [inK]; decide
  ·have := e.c1; have := e.c2; have := e.w2; simp only [inK]; omega
theorem FT (a b : Bs) : aW a ++ aW b = aW (a ++ b) := by
 apply ql
 simp [ByteArray.data_append, aZ]
structure Gq (u : World) (sb : Nat) (B : Nat -> Prop) (s : Sv) (i : Nat) (e : Ending) (u' : World) : Prop where
 e : e = .returned (.tuple #[])
 mem : SvM u' sb B { s with ak := s.ak.set i (dg s.v (ag s i)) }
 upd : Upd (· = sb) u u'
theorem jx {u W : World} {sb i co : Nat} {B : Nat -> Prop} {s : Sv} (h : SvM u sb B s) (hW : Ext u W) (hcl : s.ak.length = 3) (hi : i < 3) (hco : co = 82 + i * 12) (hq : (ag s i).queue.length <= 4000)
  {g : Gr} {gp : Option Addr} {gc : Nat} {l : Bs} {b : ByteArray} (hb : b.data.toList = l) (hll : l.length <= 10000) (hC : Cells W gp g.cells) (hk : ∀ k, At gp k -> ¬ B k) (hgl : g.cells.length <= 1000)
  (hs : dg s.v (ag s i) = if 4000 - ((ag s i).queue.length : Int) < (l.length : Int) then { ag s i with lost := true } else ⟨(ag s i).here, g, (ag s i).queue ++ l, false⟩) :
  (¬ (0 : Int) = 0 -> Gq u sb B s i (.returned (.tuple #[])) W) /\ ((0 : Int) = 0 -> ∃ x81 : ByteArray, 1 = ([.string x81] : List Value).length /\ Rd W sb (co + 10) [.string x81] /\ inK .i64 (4000 - ((x81.size : Nat) : Int)) /\
   ((4000 - ((x81.size : Nat) : Int) < ((b.size : Nat) : Int) -> 1 = ([.bool true] : List Value).length /\ Wr W sb (co + 11) 1 /\ Gq u sb B s i (.returned (.tuple #[])) (ae W sb (co + 11) [.bool true])) /\
    (¬ 4000 - ((x81.size : Nat) : Int) < ((b.size : Nat) : Int) -> ∃ x60 : ByteArray, 1 = ([.string x60] : List Value).length /\ Rd W sb (co + 10) [.string x60] /\ ((x60.size + b.size : Nat) : Int) <= 9223372036854775807 /\ 1 = ([.string (x60 ++ b)] : List Value).length /\
    Wr W sb (co + 10) 1 /\ 9 = (grV g gp g.cells.length gc).length /\ Wr (ae W sb (co + 10) [.string (x60 ++ b)]) sb (co + 1) 9 /\ 1 = ([.bool false] : List Value).length /\
    Wr (ae (ae W sb (co + 10) [.string (x60 ++ b)]) sb (co + 1) (grV g gp g.cells.length gc)) sb (co + 11) 1 /\
    Gq u sb B s i (.returned (.tuple #[])) (ae (ae (ae W sb (co + 10) [.string (x60 ++ b)]) sb (co + 1) (grV g gp g.cells.length gc)) sb (co + 11) [.bool false])))) := by
 subst hco
 have S := h.ext hW
 obtain ⟨cs, hc, hrd⟩ := S.rd
 obtain ⟨y, Y, y0, y10, y11, _, _, ysub⟩ := hc.ct hi
 have hbs : b = aW l := ql hb
 subst hbs
 have r10 := hrd (ysub y10 (by decide))
 have z1 := AJ (ag s i).queue
 have z2 := AJ l
 refine ⟨fun hn => (hn rfl).elim, fun _ => ⟨_, rfl, r10, by rw [z1]; simp only [inK]; omega, fun hbig => ⟨rfl, ?_⟩, fun hbig => ⟨_, rfl, r10, by rw [z1, z2]; omega, rfl, ?_⟩⟩⟩
 ·rw [z1, z2] at hbig
  obtain ⟨m1, m2⟩ := S.iJ hcl hi (r := { ag s i with lost := true }) (a := 11) (m := 1) (ys := [.bool true]) rfl (by decide) (fun x hx' => by
   obtain ⟨⟨p, d, rfl, c1, c2⟩, c3⟩ := hx'
   exact ⟨_, rfl, ⟨⟨p, d, rfl, c1, c2⟩, c3⟩⟩) (o := 82 + i * 12 + 11) rfl
  refine ⟨m1, rfl, ?_, (hW.any (S := (· = sb))).put (fun _ => rfl) _ _⟩
  rw [hs, if_pos hbig]
  exact m2
 ·rw [z1, z2] at hbig
  rw [FT]
  obtain ⟨m1, m2⟩ := S.iJ hcl hi (r := { ag s i with queue := (ag s i).queue ++ l }) (a := 10) (m := 1) (ys := [.string (aW ((ag s i).queue ++ l))]) rfl (by decide) (fun x hx' => by
   obtain ⟨⟨p, d, rfl, c1, c2⟩, c3⟩ := hx'
   exact ⟨_, rfl, ⟨⟨p, d, rfl, c1, c2⟩, c3⟩⟩) (o := 82 + i * 12 + 10) rfl
  have hC2 : Cells (ae W sb (82 + i * 12 + 10) [.string (aW ((ag s i).queue ++ l))]) gp g.cells := hC.upd (aI sb _ _) fun k hk1 e => hk k hk1 (e ▸ h.own)
  have cl1 : ag { s with ak := s.ak.set i { ag s i with queue := (ag s i).queue ++ l } } i = { ag s i with queue := (ag s i).queue ++ l } := by rw [rE (by omega), if_pos rfl]
  obtain ⟨n1, n2⟩ := m2.iJ (by show (s.ak.set _ _).length = 3; rw [List.length_set]; exact hcl) hi (r := { ag s i with queue := (ag s i).queue ++ l, shown := g }) (a := 1) (m := 9) (ys := grV g gp g.cells.length gc) rfl (by decide) (fun x hx' => by
   rw [cl1] at hx'
   obtain ⟨⟨p, d, rfl, c1, c2⟩, c3⟩ := hx'
   exact ⟨_, rfl, ⟨⟨gp, gc, rfl, hC2, fun _ => hk⟩, hgl⟩⟩) (o := 82 + i * 12 + 1) rfl
  have cl2 : ag { s with ak := (s.ak.set i { ag s i with queue := (ag s i).queue ++ l }).set i { ag s i with queue := (ag s i).queue ++ l, shown := g } } i = { ag s i with queue := (ag s i).queue ++ l, shown := g } := by
   show ((s.ak.set i _).set i _).getD i .zero = _
   simp [List.getD_eq_getElem?_getD, hcl, hi]
  obtain ⟨q1, q2⟩ := n2.iJ (by show ((s.ak.set _ _).set _ _).length = 3; rw [List.length_set, List.length_set]; exact hcl) hi (r := ⟨(ag s i).here, g, (ag s i).queue ++ l, false⟩) (a := 11) (m := 1) (ys := [.bool false]) rfl (by decide) (fun x hx' => by
   rw [cl2] at hx'
   obtain ⟨⟨p, d, rfl, c1, c2⟩, c3⟩ := hx'
   exact ⟨_, rfl, ⟨⟨p, d, rfl, c1, c2⟩, c3⟩⟩) (o := 82 + i * 12 + 11) rfl
  refine ⟨m1, rfl, n1, rfl, q1, rfl, ?_, (((hW.any (S := (· = sb))).put (fun _ => rfl) _ _).put (fun _ => rfl) _ _).put (fun _ => rfl) _ _⟩
  rw [hs, if_neg hbig]
  simpa only [List.set_set] using q2
end Go.Proofs.YtkmmphkjmamckacGreatDoor
