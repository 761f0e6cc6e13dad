/- Texts joined: PWalk4, RDo. -/
import Derived.Test.YtkmmphkjmamckacGreatDoorZ22
namespace Go.Proofs.YtkmmphkjmamckacGreatDoor
open Go
set_option linter.all false
theorem iT {P Q : Prop} [Decidable Q] (h : P) : decide Q = true ↔ P /\ Q := by simp [h]
theorem iF {P Q : Prop} (h : ¬ P) : false = true ↔ P /\ Q := by simp [h]
theorem iT2 {P Q R : Prop} [Decidable R] (h : P) (h2 : Q) : decide R = true ↔ P /\ Q /\ R := by simp [h, h2]
theorem iF2 {P Q R : Prop} (h2 : ¬ Q) : false = true ↔ P /\ Q /\ R := by simp [h2]
def Ia (u : World) (bp bl bs : Nat) (s : ByteArray) (evs : List Ev) (ln : Nat) (r : Pr × Ev) (u' : World) : Prop :=
 ∃ q n c lp' ln' lc' evs' xs', RI u bp bl bs s u'.heap.size r.1 q n c lp' ln' lc' evs' xs' u' /\ evs' = evs ++ (if r.2.kind = 0 then [] else [r.2]) /\ ln' <= ln + 1
section
variable {u : World} {bp bl bs N : Nat} {s : ByteArray} {pr : Pr} {pp : Option Addr} {pn pc : Nat} {lp : Option Addr} {ln lc : Nat} {evs : List Ev} {xs : List (List Value)} {u1 : World}
theorem RI.jP (h : RI u bp bl bs s u1.heap.size pr pp pn pc lp ln lc evs xs u1) {r : Pr × Ev} (hr : r = (pr, .none)) : Ia u bp bl bs s evs ln r u1 := by
 subst hr
 exact ⟨_, _, _, _, _, _, _, _, h, by simp [Ev.none], by omega⟩
theorem RI.CZ {lp' : Option Addr} {lc' : Nat} {ev : Ev} {xs' : List (List Value)} (h : RI u bp bl bs s u1.heap.size pr pp pn pc lp' (ln + 1) lc' (evs ++ [ev]) xs' u1) {r : Pr × Ev} (hr : r = (pr, ev)) (hk : ev.kind ≠ 0) : Ia u bp bl bs s evs ln r u1 := by
 subst hr
 exact ⟨_, _, _, _, _, _, _, _, h, by simp [hk], by omega⟩
theorem np (h : RI u bp bl bs s u1.heap.size pr pp pn pc lp ln lc evs xs u1) (ev : Ev) (he : ev.ps = []) (hln : ln <= 4194304) :
  Spec Tryz.prog cC #[EvV ev none 0 0, .pointer (some ⟨bl, 0, none⟩)] u1 fun e u2 => e = .returned (.tuple #[]) /\ ∃ lp' lc', RI u bp bl bs s u2.heap.size pr pp pn pc lp' (ln + 1) lc' (evs ++ [ev]) (xs ++ [sV ev none 0 0]) u2 :=
 Ej h ev none 0 0 ⟨by rw [he]; rfl, by rw [he]; rfl⟩ (fun _ h => (aJ h).elim) hln
theorem Cb {l : List Int} {k : Nat} (hk : k < l.length) (v : Int) : bg (l.set k v) = bg (l.take k) ++ [.int .i64 v] ++ bg (l.drop (k + 1)) := by
 rw [List.set_eq_take_append_cons_drop, if_pos hk]
 simp [bg]
theorem DO {l : List Int} {k : Nat} (hk : k < l.length) : bg l = bg (l.take k) ++ [.int .i64 (l.getD k 0)] ++ bg (l.drop (k + 1)) := by
 have := Cb hk (l.getD k 0)
 rw [<- this]
 congr 1
 rw [List.getD_eq_getElem?_getD, List.getElem?_eq_getElem hk]
 simp
theorem Own.Aa {u : World} {b n c : Nat} {l : List Int} (h : Own u 1 (some ⟨b, 0, none⟩) n c (bg l)) {k : Nat} (hk : k < l.length) (v : Int) : Own (ae u b (0 + k * 1) [.int .i64 v]) 1 (some ⟨b, 0, none⟩) n c (bg (l.set k v)) /\ Wr u b (0 + k * 1) 1 := by
 have hw := h.wrs (o := k * 1) (m := 1) (by have := h.le; have := h.Dn; omega)
 rw [DO hk] at h
 rw [Cb hk]
 exact ⟨h.put (ys := [.int .i64 v]) (o := 0 + k * 1) rfl (by rw [bF, List.length_take]; omega), hw.2⟩
theorem Own.base {u : World} {p : Option Addr} {es n c : Nat} {cs : List Value} (h : Own u es p n c cs) (hn : 0 < n) : ∃ b, p = some ⟨b, 0, none⟩ := by
 rcases h with ⟨_, h, _⟩ | ⟨b, _, _, h, _⟩
 ·omega
 ·exact ⟨b, h⟩
theorem RI.Aa {b : Nat} (h : RI u bp bl bs s N pr (some ⟨b, 0, none⟩) pn pc lp ln lc evs xs u1) {k : Nat} (hk : k < pr.ps.length) (v : Int) :
  Wr u1 b (0 + k * 1) 1 /\ RI u bp bl bs s (ae u1 b (0 + k * 1) [.int .i64 v]).heap.size { pr with ps := pr.ps.set k v } (some ⟨b, 0, none⟩) pn pc lp ln lc evs xs (ae u1 b (0 + k * 1) [.int .i64 v]) := by
 have hs := h.own.Aa hk v
 have hU : Upd (· = b) u1 (ae u1 b (0 + k * 1) [.int .i64 v]) := Upd.put (S := (· = b)) (Upd.refl u1) (b := b) (fun _ => rfl) _ _
 have hb : At (some (Addr.mk b 0 none)) b := ⟨_, rfl, rfl⟩
 obtain ⟨t, hp⟩ := h.hp
 refine ⟨hs.2, h.Ip (pr' := { pr with ps := pr.ps.set k v }) hs.1 (fun _ h => .inl h) hU (fun k hk => .inr (by subst hk; exact hb)) ⟨t, ?_⟩⟩
 rw [hU.old bp (by have := h.hi; have := h.bound; omega) fun e => (h.inP b hb).2.2.1 e.symm]
 exact hp
theorem Ew {b : Nat} : ∀ (l : List UInt8) (o i : Nat) (c : UInt8), Rd u b o (l.map fun b => Value.int .u8 b.toNat) -> l[i]? = some c -> Rd u b (o + i * 1) [.int .u8 ((c.toNat : Nat) : Int)]
 | [], _, _, _, _, h => by simp at h
 | x :: l, o, 0, c, hr, h => by
  simp only [List.getElem?_cons_zero, Option.some.injEq] at h
  subst h
  exact ⟨hr.1, trivial⟩
 | x :: l, o, i + 1, c, hr, h => by
  have := Ew l (o + 1) i c hr.2 (by simpa using h)
  rwa [show o + (i + 1) * 1 = o + 1 + i * 1 by omega]
end
set_option maxHeartbeats 4000000 in
theorem rf (pr0 : Pr) (pp0 : Option Addr) (pn0 pc0 : Nat) (s : ByteArray) {u : World} (h : bY u pp0 pn0 pr0.ps) (hs : s.size <= 4194304) (hpn : pn0 <= 100000000) :
  Spec Tryz.prog fq #[PrV pr0 pp0 pn0 pc0, .string s] u fun e u' => (bB pr0 /\ tw u (feedP pr0 s.data.toList) e u') \/ (¬ bB pr0 /\ e = .returned (.tuple #[PrV pr0 pp0 pn0 pc0, .slice none 0 0, .int .i64 1]) /\ Ext u u') := by
 apply jd
 delta fg wz dE vW AF Bn rS sY aU cnd iI lq
 simp only [decide_eq_true_eq, decide_eq_false_iff_not, true_and]
 have hu0 : Ext u (ab (ab u (.cells (bG pr0 pp0 pn0 pc0).toArray cU)) hole) := ((Upd.refl u).alloc _).alloc _
 have hb0 : (ab (ab u (.cells (bG pr0 pp0 pn0 pc0).toArray cU)) hole).heap[u.heap.size]? = some (.cells (bG pr0 pp0 pn0 pc0).toArray cU) := by
  rw [heap_alloc, if_neg (by rw [size_alloc]; omega), heap_alloc, if_pos rfl]
 have hr0 : Rd (ab (ab u (.cells (bG pr0 pp0 pn0 pc0).toArray cU)) hole) u.heap.size 0 (bG pr0 pp0 pn0 pc0) := j0 (t := cU) (f := (0, 0)) (bG pr0 pp0 pn0 pc0) [] [] (by rw [hb0]; simp)
 have hs0 : u.heap.size < (ab (ab u (.cells (bG pr0 pp0 pn0 pc0).toArray cU)) hole).heap.size := by simp only [size_alloc]; omega
 refine ⟨_, _, _, _, _, _, rfl, hr0, ?_⟩
 refine (yF pr0 pp0 pn0 pc0 (h.ext hu0) hpn).mono fun e u1 ⟨g, he, hg, hu1⟩ => ⟨g, he, fun hn => ⟨_, _, _, _, _, _, rfl, hu1.rd hr0 fun h => h, .inr ⟨?_, rfl, hu0.ext hu1⟩⟩, fun hn => ⟨_, _, _, _, _, _, rfl, hu1.rd hr0 fun h => h, ?_⟩⟩
 ·intro h
  rw [hg.2 h] at hn
  cases hn
 have hgood : bB pr0 := hg.1 (by simpa using hn)
 have hu2 := hu0.ext hu1
 have hs1 := hu1.size
 refine (yG pr0 pp0 pn0 pc0 (h.ext hu2) hpn).mono fun e u2 ⟨q, c, he, ho, hu3, hq⟩ => ⟨_, _, _, _, _, _, he, rfl, ?_⟩
 have hs2 := hu3.size
 have hb2 : u2.heap[u.heap.size]? = some (.cells (bG pr0 pp0 pn0 pc0).toArray cU) := by
  rw [hu3.old _ (by omega) fun h => h, hu1.old _ (by omega) fun h => h, hb0]
 have hput : putN (bG pr0 pp0 pn0 pc0) 0 (bG pr0 q pn0 c) = some (bG pr0 q pn0 c) := rfl
 refine ⟨pt hb2 hput, fun cap hcap => ?_⟩
 have hb3 := kB _ 0 _ _ u2 hb2 hput
 have hU3 : Upd (· = u.heap.size) u2 (ae u2 u.heap.size 0 (bG pr0 q pn0 c)) := Upd.put (S := (· = u.heap.size)) (Upd.refl u2) (b := u.heap.size) (fun _ => rfl) _ _
 have ho3 := ho.upd hU3 fun k hk e => by have := hq k hk; omega
 have hs3 : (ae u2 u.heap.size 0 (bG pr0 q pn0 c)).heap.size = u2.heap.size := fb _ _ _
 have hxt3 : Ext u (ae u2 u.heap.size 0 (bG pr0 q pn0 c)) := ((hu2.ext hu3).trans hU3 fun k hk e => by omega).mono fun _ _ h => h
 generalize hv1 : ae u2 u.heap.size 0 (bG pr0 q pn0 c) = v1 at *
 have hRI : RI u u.heap.size v1.heap.size (v1.heap.size + 1) s (ab (af (ab v1 (.cells #[.slice none 0 0] 65))) (.cells (aV s ++ aS (cap - s.size) [.int .u8 0]).toArray 5 (cap, cap + 1))).heap.size pr0 q pn0 c none 0 0 [] [] (ab (af (ab v1 (.cells #[.slice none 0 0] 65))) (.cells (aV s ++ aS (cap - s.size) [.int .u8 0]).toArray 5 (cap, cap + 1))) := by
  have hx : Ext v1 (ab (af (ab v1 (.cells #[.slice none 0 0] 65))) (.cells (aV s ++ aS (cap - s.size) [.int .u8 0]).toArray 5 (cap, cap + 1))) := (((Upd.refl v1).alloc _).drew).alloc _
  have hsz : (ab (af (ab v1 (.cells #[.slice none 0 0] 65))) (.cells (aV s ++ aS (cap - s.size) [.int .u8 0]).toArray 5 (cap, cap + 1))).heap.size = v1.heap.size + 2 := by rw [size_alloc, size_drew, size_alloc]
  refine ⟨⟨_, by rw [hx.old _ (by omega) fun h => h]; exact hb3⟩, ⟨65, ?_⟩, ?_, ho3.ext hx, Own.nil _ _, trivial, hxt3.ext hx, fun k hk => ?_, fun _ h => (aJ h).elim, fun _ _ h => aJ h, by omega, by omega, by omega, Nat.le_refl _⟩
  ·rw [heap_alloc, if_neg (by rw [size_drew, size_alloc]; omega), heap_drew, heap_alloc, if_pos rfl]
  ·refine j0 (t := 5) (f := (cap, cap + 1)) (aV s) [] (aS (cap - s.size) [.int .u8 0]) ?_
   rw [heap_alloc, if_pos (by rw [size_drew, size_alloc])]
   simp
  ·have := hq k hk
   have := (ho3.at hk).1
   exact ⟨by omega, by omega, by omega, by omega, by omega⟩
 have hbs : (ab v1 (.cells #[.slice none 0 0] 65)).heap.size = v1.heap.size + 1 := size_alloc _ _
 rw [hbs]
 generalize v1.heap.size = bl at *
 refine ⟨fun x u1 => ∃ pr pp pn pc lp ln lc evs xs, bB pr /\ 0 <= x /\ x <= (s.size : Nat) /\ ((ln : Nat) : Int) <= x /\ feedP pr0 s.data.toList = ((feedP pr (s.data.toList.drop x.toNat)).1, evs ++ (feedP pr (s.data.toList.drop x.toNat)).2) /\ RI u u.heap.size bl (bl + 1) s u1.heap.size pr pp pn pc lp ln lc evs xs u1, fun x _ => ((s.size : Nat) - x).toNat, ⟨pr0, q, pn0, c, none, 0, 0, [], [], hgood, by omega, by omega, by omega, by simp, hRI⟩, ?_⟩
 clear hRI hbs hv1 hb3 hU3 ho3 hs3 hxt3 hb2 hput hs2 ho hq hu3 hb0 hr0 hs0 hu1 hu2 hs1
 intro x u12 ⟨pr, pp, pn, pc, lp, ln, lc, evs, xs, hG, h0, hxs, hlx, hf, hI⟩
 refine ⟨fun hx => ?_, fun hx => ?_⟩
 ·have hin : x.toNat < s.data.toList.length := by rw [mr]; omega
  have hbb : s.data.toList[x.toNat]? = some (s.data.toList[x.toNat]) := List.getElem?_eq_getElem hin
  generalize s.data.toList[x.toNat] = by_ at hbb
  have hrb := Ew s.data.toList 0 x.toNat by_ hI.bytes hbb
  have hb255 : by_.toNat < 256 := by_.toNat_lt
  have hdrop := drop_cons hbb
  generalize hbdef : ((by_.toNat : Nat) : Int) = b at *
  refine ⟨Ia u u.heap.size bl (bl + 1) s evs ln (bA pr b), ⟨bl + 1, 0, rfl, h0, hx, b, rfl, hrb, by simp only [inK]; omega, ?_⟩, fun u' hd => ?_⟩
  ·
   have bd : ∀ {c : Bool} {Q : Prop}, (c = true ↔ Q) -> ∀ {x y : World}, x = y -> x = y /\ (c = true ↔ Q) := fun h _ _ e => ⟨e, h⟩
   have hrd := hI.rdP
   have hln : ln <= 4194304 := by omega
   have hgl := hG.len
   have hgp := hG.pay
   have hIb := hI.bound
   have hlen0 := hI.own.Dn
   have hpn4 : ((pn : Nat) : Int) < 4 ↔ pr.ps.length < 4 := by omega
   have hsz48 : ((pr.pl.size : Nat) : Int) < 48 ↔ pr.pl.size < 48 := by omega
   have hb0' : 0 <= b := by omega
   have hb1' : b <= 255 := by omega
   have hsz1 : ((pr.pl.size + 1 : Nat) : Int) <= 9223372036854775807 := by omega
   refine ⟨fun c u' => u' = u12 /\ (c = true ↔ (32 <= b /\ b <= 126)), ⟨fun h1 => ⟨rfl, by simp only [decide_eq_true_eq]; omega⟩, fun h1 => ⟨rfl, by simp only [Bool.false_eq_true, false_iff]; omega⟩⟩, ?_⟩
   rintro plain u13 ⟨hu13, hplain⟩
   subst hu13
   refine ⟨fun c u' => u' = u13 /\ (c = true ↔ (b = 27 /\ pr.at_ = 3)), ⟨fun h1 => ⟨_, rfl, ⟨hrd.1, trivial⟩, rfl, iT h1⟩, fun h1 => ⟨rfl, iF h1⟩⟩, ?_⟩
   rintro t1 u14 ⟨hu14, ht1⟩
   subst hu14
   refine ⟨fun ht => ?_, fun ht => ?_⟩
   ·have hc := ht1.1 ht
    have hR : bA pr b = ({ pr with at_ := 4 }, .none) := by unfold bA; rw [if_pos hc]
    have := hI.store (pr' := { pr with at_ := 4 }) (q := pp) (n := pn) (c := pc) hI.own (fun _ h => .inl h) (o := 0 + 0) (ys := [.int .i64 4]) rfl
    exact ⟨rfl, this.1, this.2.jP hR⟩
   have n1 : ¬ (b = 27 /\ pr.at_ = 3) := fun h => by rw [ht1.2 h] at ht; cases ht
   refine ⟨fun c u' => u' = u14 /\ (c = true ↔ (b = 27 /\ pr.at_ = 4)), ⟨fun h1 => ⟨_, rfl, ⟨hrd.1, trivial⟩, rfl, iT h1⟩, fun h1 => ⟨rfl, iF h1⟩⟩, ?_⟩
   rintro t2 u15 ⟨hu15, ht2⟩
   subst hu15
   refine ⟨fun ht => ?_, fun ht => ?_⟩
   ·have hc := ht2.1 ht
    have hR : bA pr b = (.zero, .none) := by unfold bA; rw [if_neg n1, if_pos hc]
    exact (fN hI).mono fun e u' ⟨he, h⟩ => ⟨he, h.jP hR⟩
   have n2 : ¬ (b = 27 /\ pr.at_ = 4) := fun h => by rw [ht2.2 h] at ht; cases ht
   refine ⟨fun hc => ?_, fun n3 => ?_⟩
   ·have hR : bA pr b = ({ Pr.zero with at_ := 1 }, .none) := by unfold bA; rw [if_neg n1, if_neg n2, if_pos hc]
    have := hI.store (pr' := { Pr.zero with at_ := 1 }) (q := none) (n := 0) (c := 0) (Own.nil _ _) (fun _ h => (aJ h).elim) (o := 0) (ys := bG { Pr.zero with at_ := 1 } none 0 0) rfl
    exact ⟨rfl, this.1, this.2.jP hR⟩
   refine ⟨fun c u' => u' = u15 /\ (c = true ↔ (pr.at_ = 0 /\ (32 <= b /\ b <= 126))), ⟨_, rfl, ⟨hrd.1, trivial⟩, fun h1 => ⟨rfl, ⟨fun h => ⟨h1, hplain.1 h⟩, fun h => hplain.2 h.2⟩⟩, fun h1 => ⟨rfl, iF h1⟩⟩, ?_⟩
   rintro t4 u17 ⟨hu17, ht4⟩
   subst hu17
   refine ⟨fun ht => ?_, fun ht => ?_⟩
   ·have hc := ht4.1 ht
    have hR : bA pr b = (pr, ⟨1, b, [], au⟩) := by unfold bA; rw [if_neg n1, if_neg n2, if_neg n3, if_pos hc]
    exact (np hI ⟨1, b, [], au⟩ rfl hln).mono fun e u' ⟨he, _, _, h⟩ => ⟨he, h.CZ hR (by simp)⟩
   have n4 : ¬ (pr.at_ = 0 /\ (32 <= b /\ b <= 126)) := fun h => by rw [ht4.2 h] at ht; cases ht
   refine ⟨_, rfl, ⟨hrd.1, trivial⟩, fun c5 => ?_, fun n5 => ?_⟩
   ·refine ⟨fun c u' => u' = u17 /\ (c = true ↔ (b = 8 \/ b = 9 \/ b = 10 \/ b = 13)), ⟨fun h1 => ⟨rfl, ⟨fun _ => .inl h1, fun _ => rfl⟩⟩, fun h1 => ⟨fun h2 => ⟨rfl, ⟨fun _ => .inr (.inl h2), fun _ => rfl⟩⟩, fun h2 => ⟨fun h3 => ⟨rfl, ⟨fun _ => .inr (.inr (.inl h3)), fun _ => rfl⟩⟩, fun h3 => ⟨rfl, by rw [decide_eq_true_eq]; exact ⟨fun h => .inr (.inr (.inr h)), fun h => ((h.resolve_left h1).resolve_left h2).resolve_left h3⟩⟩⟩⟩⟩, ?_⟩
    rintro t5 u19 ⟨hu19, ht5⟩
    subst hu19
    refine ⟨fun ht => ?_, fun ht => ?_⟩
    ·have hc := ht5.1 ht
     have hR : bA pr b = (pr, ⟨2, b, [], au⟩) := by unfold bA; rw [if_neg n1, if_neg n2, if_neg n3, if_neg n4, if_pos c5, if_pos hc]
     exact (np hI ⟨2, b, [], au⟩ rfl hln).mono fun e u' ⟨he, _, _, h⟩ => ⟨he, h.CZ hR (by simp)⟩
    ·have hn : ¬ (b = 8 \/ b = 9 \/ b = 10 \/ b = 13) := fun h => by rw [ht5.2 h] at ht; cases ht
     have hR : bA pr b = (pr, .none) := by unfold bA; rw [if_neg n1, if_neg n2, if_neg n3, if_neg n4, if_pos c5, if_neg hn]
     exact hI.jP hR
   refine ⟨fun c u' => u' = u17 /\ (c = true ↔ (pr.at_ = 1 /\ b = 91)), ⟨_, rfl, ⟨hrd.1, trivial⟩, fun h1 => ⟨rfl, iT h1⟩, fun h1 => ⟨rfl, iF h1⟩⟩, ?_⟩
   rintro t6 u18 ⟨hu18, ht6⟩
   subst hu18
   refine ⟨fun ht => ?_, fun ht => ?_⟩
   ·have hc := ht6.1 ht
    have hR : bA pr b = ({ Pr.zero with at_ := 2, ps := [0] }, .none) := by unfold bA; rw [if_neg n1, if_neg n2, if_neg n3, if_neg n4, if_neg n5, if_pos hc]
    have hv : Ext u18 (ab u18 (.cells #[.int .i64 0] aF)) := (Upd.refl u18).alloc _
    have ef : Own (ab u18 (.cells #[.int .i64 0] aF)) 1 _ 1 1 (bg [0]) := Own.fresh u18 (cs := [.int .i64 0]) rfl
    have := (hI.go hv).store (pr' := { Pr.zero with at_ := 2, ps := [0] }) ef (fun k h => .inr (by rw [ar h]; exact Nat.le_refl _)) (o := 0) (ys := bG { Pr.zero with at_ := 2, ps := [0] } (some ⟨u18.heap.size, 0, none⟩) 1 1) rfl
    exact ⟨rfl, this.1, this.2.jP hR⟩
   have n6 : ¬ (pr.at_ = 1 /\ b = 91) := fun h => by rw [ht6.2 h] at ht; cases ht
   refine ⟨fun c u' => u' = u18 /\ (c = true ↔ (pr.at_ = 1 /\ b = 80)), ⟨_, rfl, ⟨hrd.1, trivial⟩, fun h1 => ⟨rfl, iT h1⟩, fun h1 => ⟨rfl, iF h1⟩⟩, ?_⟩
   rintro t7 u20 ⟨hu20, ht7⟩
   subst hu20
   refine ⟨fun ht => ?_, fun ht => ?_⟩
   ·have hc := ht7.1 ht
    have hR : bA pr b = ({ Pr.zero with at_ := 3 }, .none) := by unfold bA; rw [if_neg n1, if_neg n2, if_neg n3, if_neg n4, if_neg n5, if_neg n6, if_pos hc]
    have := hI.store (pr' := { Pr.zero with at_ := 3 }) (q := none) (n := 0) (c := 0) (Own.nil _ _) (fun _ h => (aJ h).elim) (o := 0) (ys := bG { Pr.zero with at_ := 3 } none 0 0) rfl
    exact ⟨rfl, this.1, this.2.jP hR⟩
   have n7 : ¬ (pr.at_ = 1 /\ b = 80) := fun h => by rw [ht7.2 h] at ht; cases ht
   refine ⟨_, rfl, ⟨hrd.1, trivial⟩, fun c8 => ⟨fun hc => ?_, fun hc => ?_⟩, fun n8 => ?_⟩
   ·have hR : bA pr b = (.zero, ⟨5, 0, [], au⟩) := by unfold bA; rw [if_neg n1, if_neg n2, if_neg n3, if_neg n4, if_neg n5, if_neg n6, if_neg n7, if_pos c8, if_pos hc]
    exact (np hI ⟨5, 0, [], au⟩ rfl hln).mono fun e u' ⟨he, _, _, h⟩ => ⟨he, (fN h).mono fun e u' ⟨he, h⟩ => ⟨he, h.CZ hR (by simp)⟩⟩
   ·have hR : bA pr b = (.zero, .none) := by unfold bA; rw [if_neg n1, if_neg n2, if_neg n3, if_neg n4, if_neg n5, if_neg n6, if_neg n7, if_pos c8, if_neg hc]
    exact (fN hI).mono fun e u' ⟨he, h⟩ => ⟨he, h.jP hR⟩
   refine ⟨fun c u' => u' = u20 /\ (c = true ↔ (pr.at_ = 2 /\ 48 <= b /\ b <= 57)), ⟨_, rfl, ⟨hrd.1, trivial⟩, fun h1 => ⟨fun h2 => ⟨rfl, iT2 h1 h2⟩, fun h2 => ⟨rfl, iF2 h2⟩⟩, fun h1 => ⟨rfl, iF h1⟩⟩, ?_⟩
   rintro t9 u21 ⟨hu21, ht9⟩
   subst hu21
   refine ⟨fun ht => ?_, fun ht => ?_⟩
   ·have hc := ht9.1 ht
    have hR : bA pr b = ({ pr with ps := cW pr.ps b }, .none) := by unfold bA; rw [if_neg n1, if_neg n2, if_neg n3, if_neg n4, if_neg n5, if_neg n6, if_neg n7, if_neg n8, if_pos hc]
    clear n1 n2 n3 n4 n5 n6 n7 n8 hplain ht1 ht2 ht4 ht6 ht7 ht9
    have hpos := hG.cmd.1 hc.1
    have hl := hI.own.Dn
    obtain ⟨b1, rfl⟩ := hI.own.base (by omega)
    have hk : (((pn : Nat) : Int) - 1).toNat = pr.ps.length - 1 := by omega
    have hx0 := hG.iG _ (CH 0 (show pr.ps.length - 1 < pr.ps.length by omega))
    obtain ⟨hx1, hx2⟩ := hx0
    have hv : Ext u21 (af u21) := (Upd.refl u21).drew
    have hI1 := hI.go hv
    obtain ⟨b', o', e', hr1⟩ := hI1.own.iG.at (i := (((pn : Nat) : Int) - 1).toNat) (by omega)
    cases e'
    have hI2 := hI1.Aa (k := (((pn : Nat) : Int) - 1).toNat) (by omega) (10 * pr.ps.getD (((pn : Nat) : Int) - 1).toNat 0 + b - 48)
    obtain ⟨hw2, hI2⟩ := hI2
    have hrd2 := hI2.rdP
    obtain ⟨b', o', e', hr2⟩ := hI2.own.iG.at (i := (((pn : Nat) : Int) - 1).toNat) (by omega)
    cases e'
    have hget : (pr.ps.set (((pn : Nat) : Int) - 1).toNat (10 * pr.ps.getD (((pn : Nat) : Int) - 1).toNat 0 + b - 48)).getD (((pn : Nat) : Int) - 1).toNat 0 = 10 * pr.ps.getD (((pn : Nat) : Int) - 1).toNat 0 + b - 48 := by
     rw [List.getD_eq_getElem?_getD, List.getElem?_set_self (by omega)]
     rfl
    rw [hget] at hr2
    refine ⟨_, _, _, rfl, ⟨hrd.2.1, trivial⟩, by simp only [inK]; omega, _, _, _, rfl, ⟨hI1.rdP.2.1, trivial⟩, _, _, _, rfl, ⟨hI1.rdP.2.1, trivial⟩, _, _, rfl, by omega, by omega, _, rfl, hr1, by simp only [inK, hk]; omega, by simp only [inK, hk]; omega, by simp only [inK, hk]; omega, _, _, rfl, by omega, by omega, rfl, hw2, _, _, _, rfl, ⟨hrd2.2.1, trivial⟩, _, _, rfl, by omega, by omega, _, rfl, hr2, fun h999 => ?_, fun h999 => ?_⟩
    ·have hI3 := hI2.Aa (k := (((pn : Nat) : Int) - 1).toNat) (by simp only [List.length_set]; omega) 999
     refine ⟨_, _, _, rfl, ⟨hrd2.2.1, trivial⟩, _, _, rfl, by omega, by omega, rfl, hI3.1, hI3.2.jP ?_⟩
     rw [hR]
     simp only [List.set_set, cW]
     rw [hk] at h999 ⊢
     rw [Int.min_eq_right (by omega)]
    ·refine hI2.jP ?_
     rw [hR]
     simp only [cW]
     rw [hk] at h999 ⊢
     rw [Int.min_eq_left (by omega)]
   have n9 : ¬ (pr.at_ = 2 /\ 48 <= b /\ b <= 57) := fun h => by rw [ht9.2 h] at ht; cases ht
   have hlen := hI.own.Dn
   refine ⟨fun c u' => u' = u21 /\ (c = true ↔ (pr.at_ = 2 /\ b = 59 /\ pr.ps.length < 4)), ⟨_, rfl, ⟨hrd.1, trivial⟩, fun h1 => ⟨fun h2 => ⟨_, _, _, rfl, ⟨hrd.2.1, trivial⟩, rfl, by rw [decide_eq_true_eq, hpn4]; exact ⟨fun h => ⟨h1, h2, h⟩, fun h => h.2.2⟩⟩, fun h2 => ⟨rfl, iF2 h2⟩⟩, fun h1 => ⟨rfl, iF h1⟩⟩, ?_⟩
   rintro t10 u22 ⟨hu22, ht10⟩
   subst hu22
   refine ⟨fun ht => ?_, fun ht => ?_⟩
   ·have hc := ht10.1 ht
    have hR : bA pr b = ({ pr with ps := pr.ps ++ [0] }, .none) := by unfold bA; rw [if_neg n1, if_neg n2, if_neg n3, if_neg n4, if_neg n5, if_neg n6, if_neg n7, if_neg n8, if_neg n9, if_pos hc]
    clear n1 n2 n3 n4 n5 n6 n7 n8 n9 hplain ht1 ht2 ht4 ht6 ht7 ht9 ht10
    have hgets := hI.own.aH
    refine ⟨_, _, _, rfl, ⟨hrd.2.1, trivial⟩, [], bg pr.ps, rfl, rfl, by rw [bF]; omega, hgets, by decide, by omega, iY _, fun _ => trivial, fun p cap1 u30 hr => ?_⟩
    obtain ⟨a1, a2, a3⟩ := cD.none hr rfl (by rw [bF]; omega) rfl
    have hv2 : Ext u22 (ab u30 (.cells #[.int .i64 0] aF)) := a2.alloc _
    have a1' := a1.ext ((Upd.refl u30).alloc (.cells #[.int .i64 0] aF))
    have ef : Own (ab u30 (.cells #[.int .i64 0] aF)) 1 _ 1 1 [.int .i64 0] := Own.fresh u30 (cs := [.int .i64 0]) rfl
    refine ⟨bg pr.ps, bg [0], a1'.len, a1'.aH, rfl, ef.aH, by decide, by omega, iY _, fun hc => a1'.wrs (by omega), fun p1 cap2 u31 hr1 => ?_⟩
    obtain ⟨c1, c2, c3⟩ := a1'.app hr1 a1'.len a1'.aH rfl rfl
    have hpN : ∀ k, At p k -> u22.heap.size <= k := fun k hk => by
     rcases a3 with ⟨_, h⟩ | h
     ·rw [h] at hk; exact (aJ hk).elim
     ·rw [h] at hk; rw [ar hk]; exact Nat.le_refl _
    have hv3 : Ext u22 u31 := (hv2.trans c2 fun k hk h => by have := hpN k h; omega).mono fun _ _ h => h
    have hI3 := hI.go hv3
    have ho3 : Own u31 1 p1 (0 + pn + 1) cap2 (bg (pr.ps ++ [0])) := by
     unfold bg at c1 ⊢
     rw [List.map_append]
     exact c1
    have := hI3.store (pr' := { pr with ps := pr.ps ++ [0] }) (q := p1) (n := 0 + pn + 1) (c := cap2) ho3 (fun k hk => .inr (by
     rcases c3 with ⟨h, _⟩ | ⟨h, _⟩
     ·rw [h] at hk; exact hpN k hk
     ·rw [h] at hk; rw [ar hk]; exact hv2.size)) (o := 0 + 1) (ys := [.slice p1 (0 + pn + 1) cap2]) rfl
    exact ⟨rfl, this.1, this.2.jP hR⟩
   have n10 : ¬ (pr.at_ = 2 /\ b = 59 /\ pr.ps.length < 4) := fun h => by rw [ht10.2 h] at ht; cases ht
   refine ⟨_, rfl, ⟨hrd.1, trivial⟩, fun c11 => ?_, fun n11 => ?_⟩
   ·refine ⟨fun c u' => u' = u22 /\ (c = true ↔ (64 <= b /\ b <= 126)), ⟨fun h1 => ⟨rfl, iT h1⟩, fun h1 => ⟨rfl, iF h1⟩⟩, ?_⟩
    rintro t11 u23 ⟨hu23, ht11⟩
    subst hu23
    refine ⟨fun ht => ?_, fun ht => ?_⟩
    ·have hc := ht11.1 ht
     have hR : bA pr b = (.zero, ⟨3, b, pr.ps, au⟩) := by unfold bA; rw [if_neg n1, if_neg n2, if_neg n3, if_neg n4, if_neg n5, if_neg n6, if_neg n7, if_neg n8, if_neg n9, if_neg n10, if_pos c11, if_pos hc]
     clear n1 n2 n3 n4 n5 n6 n7 n8 n9 n10 hplain ht1 ht2 ht4 ht6 ht7 ht9 ht10 ht11
     have hgets := hI.own.aH
     refine ⟨_, _, _, rfl, ⟨hrd.2.1, trivial⟩, [], bg pr.ps, rfl, rfl, by rw [bF]; omega, hgets, by decide, by omega, iY _, fun _ => trivial, fun p cap1 u30 hr => ?_⟩
     obtain ⟨a1, a2, a3⟩ := cD.none hr rfl (by rw [bF]; omega) rfl
     have hI3 := hI.go a2
     refine (Ej hI3 ⟨3, b, pr.ps, au⟩ p (0 + pn) cap1 a1.iG (fun k hk => ?_) hln).mono fun e u' ⟨he, _, _, h⟩ => ⟨he, (fN h).mono fun e u' ⟨he, h⟩ => ⟨he, h.CZ hR (by simp)⟩⟩
     have hkk := (a1.at hk).1
     have hkN : u23.heap.size <= k := by
      rcases a3 with ⟨_, h⟩ | h
      ·rw [h] at hk; exact (aJ hk).elim
      ·rw [h] at hk; rw [ar hk]; exact Nat.le_refl _
     have := hI.hi
     have := hI.ext.size
     exact ⟨hkk, ⟨by omega, by omega⟩, fun h => by have := hI.inL k h; omega, fun h => by have := hI.inP k h; omega, by omega⟩
    ·have hn : ¬ (64 <= b /\ b <= 126) := fun h => by rw [ht11.2 h] at ht; cases ht
     have hR : bA pr b = (.zero, .none) := by unfold bA; rw [if_neg n1, if_neg n2, if_neg n3, if_neg n4, if_neg n5, if_neg n6, if_neg n7, if_neg n8, if_neg n9, if_neg n10, if_pos c11, if_neg hn]
     exact (fN hI).mono fun e u' ⟨he, h⟩ => ⟨he, h.jP hR⟩
   refine ⟨fun c u' => u' = u22 /\ (c = true ↔ (pr.at_ = 3 /\ b = 24)), ⟨_, rfl, ⟨hrd.1, trivial⟩, fun h1 => ⟨rfl, iT h1⟩, fun h1 => ⟨rfl, iF h1⟩⟩, ?_⟩
   rintro t12 u25 ⟨hu25, ht12⟩
   subst hu25
   refine ⟨fun ht => ?_, fun ht => ?_⟩
   ·have hc := ht12.1 ht
    have hR : bA pr b = (.zero, .none) := by unfold bA; rw [if_neg n1, if_neg n2, if_neg n3, if_neg n4, if_neg n5, if_neg n6, if_neg n7, if_neg n8, if_neg n9, if_neg n10, if_neg n11, if_pos hc]
    exact (fN hI).mono fun e u' ⟨he, h⟩ => ⟨he, h.jP hR⟩
   have n12 : ¬ (pr.at_ = 3 /\ b = 24) := fun h => by rw [ht12.2 h] at ht; cases ht
   refine ⟨_, rfl, ⟨hrd.1, trivial⟩, fun c13 => ?_, fun n13 => ?_⟩
   ·have hpl' : plain = false -> ¬ (32 <= b /\ b <= 126) := fun h h2 => by rw [hplain.2 h2] at h; cases h
    refine ⟨fun c u' => u' = u25 /\ (c = true ↔ ((32 <= b /\ b <= 126) /\ pr.pl.size < 48)), ⟨fun h1 => ⟨_, rfl, ⟨hrd.2.2.1, trivial⟩, rfl, by rw [decide_eq_true_eq, hsz48]; exact ⟨fun h => ⟨hplain.1 h1, h⟩, fun h => h.2⟩⟩, fun h1 => ⟨rfl, iF (hpl' h1)⟩⟩, ?_⟩
    rintro t13 u27 ⟨hu27, ht13⟩
    subst hu27
    refine ⟨fun ht => ?_, fun ht => ⟨fun hp => ?_, fun hp => ?_⟩⟩
    ·have hc := ht13.1 ht
     have hR : bA pr b = ({ pr with pl := pr.pl ++ iq b }, .none) := by unfold bA; rw [if_neg n1, if_neg n2, if_neg n3, if_neg n4, if_neg n5, if_neg n6, if_neg n7, if_neg n8, if_neg n9, if_neg n10, if_neg n11, if_neg n12, if_pos c13, if_pos hc]
     have hv : Ext u27 (ab u27 (.cells #[.int .u8 b] 5)) := (Upd.refl u27).alloc _
     have ef : Own (ab u27 (.cells #[.int .u8 b] 5)) 1 _ 1 1 [.int .u8 b] := Own.fresh u27 (cs := [.int .u8 b]) rfl
     have := (hI.go hv).store (pr' := { pr with pl := pr.pl ++ iq b }) (q := pp) (n := pn) (c := pc) (hI.go hv).own (fun _ h => .inl h) (o := 0 + 2) (ys := [.string (pr.pl ++ iq b)]) rfl
     exact ⟨_, rfl, ⟨hrd.2.2.1, trivial⟩, iq b, rfl, by rw [tg hb0' hb1']; exact ef.aH, by rw [rC]; exact hsz1, rfl, this.1, this.2.jP hR⟩
    ·have hn : ¬ ((32 <= b /\ b <= 126) /\ pr.pl.size < 48) := fun h => by rw [ht13.2 h] at ht; cases ht
     have hR : bA pr b = ({ pr with fA := true }, .none) := by unfold bA; rw [if_neg n1, if_neg n2, if_neg n3, if_neg n4, if_neg n5, if_neg n6, if_neg n7, if_neg n8, if_neg n9, if_neg n10, if_neg n11, if_neg n12, if_pos c13, if_neg hn, if_pos (hplain.1 hp)]
     have := hI.store (pr' := { pr with fA := true }) (q := pp) (n := pn) (c := pc) hI.own (fun _ h => .inl h) (o := 0 + 3) (ys := [.bool true]) rfl
     exact ⟨rfl, this.1, this.2.jP hR⟩
    ·have hn : ¬ ((32 <= b /\ b <= 126) /\ pr.pl.size < 48) := fun h => by rw [ht13.2 h] at ht; cases ht
     have hR : bA pr b = (pr, .none) := by unfold bA; rw [if_neg n1, if_neg n2, if_neg n3, if_neg n4, if_neg n5, if_neg n6, if_neg n7, if_neg n8, if_neg n9, if_neg n10, if_neg n11, if_neg n12, if_pos c13, if_neg hn, if_neg (hpl' hp)]
     exact hI.jP hR
   refine ⟨_, rfl, ⟨hrd.1, trivial⟩, fun c14 => ?_, fun n14 => ?_⟩
   ·refine ⟨fun c u' => u' = u25 /\ (c = true ↔ (b = 92 /\ pr.fA = false)), ⟨fun h1 => ⟨_, rfl, ⟨hrd.2.2.2.1, trivial⟩, rfl, by simp [h1]⟩, fun h1 => ⟨rfl, by simp [h1]⟩⟩, ?_⟩
    rintro t14 u28 ⟨hu28, ht14⟩
    subst hu28
    refine ⟨fun ht => ?_, fun ht => ?_⟩
    ·have hc := ht14.1 ht
     have hR : bA pr b = (.zero, ⟨4, 0, [], pr.pl⟩) := by unfold bA; rw [if_neg n1, if_neg n2, if_neg n3, if_neg n4, if_neg n5, if_neg n6, if_neg n7, if_neg n8, if_neg n9, if_neg n10, if_neg n11, if_neg n12, if_neg n13, if_pos c14, if_pos hc]
     exact ⟨_, rfl, ⟨hrd.2.2.1, trivial⟩, (np hI ⟨4, 0, [], pr.pl⟩ rfl hln).mono fun e u' ⟨he, _, _, h⟩ => ⟨he, (fN h).mono fun e u' ⟨he, h⟩ => ⟨he, h.CZ hR (by simp)⟩⟩⟩
    ·have hn : ¬ (b = 92 /\ pr.fA = false) := fun h => by rw [ht14.2 h] at ht; cases ht
     have hR : bA pr b = (.zero, .none) := by unfold bA; rw [if_neg n1, if_neg n2, if_neg n3, if_neg n4, if_neg n5, if_neg n6, if_neg n7, if_neg n8, if_neg n9, if_neg n10, if_neg n11, if_neg n12, if_neg n13, if_pos c14, if_neg hn]
     exact (fN hI).mono fun e u' ⟨he, h⟩ => ⟨he, h.jP hR⟩
   ·clear n1 n2 n3 n4 n6 n7 n9 n10 n12 hplain ht1 ht2 ht4 ht6 ht7 ht9 ht10 ht12
    have := hG.lo
    have := hG.hi
    omega
  ·obtain ⟨q', n', c', lp', ln', lc', evs', xs', hR, hev, hln'⟩ := hd
   rw [<- Gi hG] at hR hev
   refine ⟨by simp only [inK]; omega, ⟨_, q', n', c', lp', ln', lc', evs', xs', kC hG, by omega, by omega, by omega, ?_, hR⟩, by first | omega | (dsimp only; omega)⟩
   rw [hf, hdrop, show (x + 1).toNat = x.toNat + 1 by omega, hev]
   simp only [feedP, hbdef, List.append_assoc]
 ·have hv : Ext u12 (af u12) := (Upd.refl u12).drew
  have hI2 := hI.go hv
  refine ⟨_, _, _, _, _, _, rfl, hI2.rdP, _, _, _, rfl, hI2.rdL, .inl ⟨hgood, ?_⟩⟩
  have hd : s.data.toList.drop x.toNat = [] := by
   apply List.drop_eq_nil_of_le
   rw [mr]
   omega
  rw [hf, hd]
  simp only [feedP, List.append_nil]
  refine ⟨pp, pn, pc, lp, ln, lc, rfl, hI2.own.iG, ⟨xs, ⟨hI2.list.aH, by rw [hI2.told.len, hI2.len], hI2.told.each⟩, hI2.told.upd (Upd.refl _) (S := fun _ => False) fun _ hk => ⟨fun h => h, hk.2.2.2.2⟩⟩, ⟨fun k hk => (hI2.inP k hk).1, fun k hk => (hI2.inL k hk).1⟩, hI2.ext⟩
theorem ur {u v : World} {b o : Nat} {cs : List Value} (h : Rd u b o cs) (hu : Ext u v) : Rd v b o cs := hu.rd h fun h => h
structure zZ (u : World) (sb : Nat) (B : Nat -> Prop) (a : Ac) (r : Sv × Rp) (e : Ending) (u' : World) : Prop where
 e : e = .returned (.agg #[.int .i64 r.2.code, .int .i64 (if a.kind = 9 then 0 else r.2.n), .string (ByteArray.mk #[])])
 mem : RvM u' sb B r.1
 upd : Upd (· = sb) u u'
theorem oM {u v : World} {sb : Nat} {B : Nat -> Prop} {a : Ac} {r : Sv × Rp} (n : Int) (hm : RvM v sb B r.1) (hu : Upd (· = sb) u v) (hc : r.2.code = n) (hn : r.2.n = 0 \/ a.kind = 9) :
  Spec Tryz.prog cE #[.int .i64 n] v fun e c => lK e (zZ u sb B a r) c :=
 (Hh n).mono fun e v' ⟨he, hv⟩ => ⟨_, _, _, he, by have h0 : (if a.kind = 9 then (0 : Int) else r.2.n) = 0 := by { split; rfl; next h9 => exact hn.resolve_right h9 }; rw [hc, h0]; rfl, hm.ext hv, hu.ext hv⟩
theorem GP {t : aD} (h : cF t) : dO 1048576 t := ⟨by have := h.yP.n; omega, fun c hc => by have := h.yP.each c hc; omega⟩
theorem z8 {u v : World} {sb : Nat} {B : Nat -> Prop} {s : Sv} {a : Ac} (h : RvM v sb B s) (few : dO 1048576 s.v.aj) (hgl : s.v.aG.length = 6) (hpl : s.az.length = 6) (hgr : ∀ i, i < 6 -> ao (aq s.v i) \/ aq s.v i = .zero) (hu : Upd (· = sb) u v) :
  sy sb 0 v (zZ u sb B a (kN s, .no 0)) := by
 delta sy fv
 exact (Bq h few hgl hpl hgr).mono fun e w ⟨he, hm, hw⟩ => ⟨he, oM 0 hm (hu.trans hw fun _ _ h => h) rfl (.inl rfl)⟩
theorem za {u b : World} {sb : Nat} {B : Nat -> Prop} {s : Sv} (h : RvM b sb B s) (I : bR s) (hu : Upd (· = sb) u b) (a : Ac) {d : Option Addr} {f : Nat} (hT : (bk s.v.aj a.p).2 = 0 -> TlF b (fun k => ¬ B k) d (bk s.v.aj a.p).1) :
  wk (bk s.v.aj a.p).2 b (zZ u sb B a (dF s a.p)) sb 0 (af (ae b sb (0 + 0 + 0) [.slice d (bk s.v.aj a.p).1.length f])) d (bk s.v.aj a.p).1.length f := by
 delta wk wI cnd iI
 simp only [decide_eq_true_eq, decide_eq_false_iff_not, Bool.not_eq_true', Bool.not_eq_false', true_and]
 refine ⟨fun hz => ?_, fun hz => ?_⟩
 ·have hks : dF s a.p = (s, .no (bk s.v.aj a.p).2) := by unfold dF; exact if_pos hz
  rw [hks]
  exact oM _ h hu rfl (.inl rfl)
 obtain ⟨kg, kp0, kq, kf⟩ := uq hz
 have TF := hT hz
 obtain ⟨m1, m2⟩ := h.mP f TF (o := 0 + 0 + 0) rfl
 have hx : Ext (ae b sb (0 + 0 + 0) [.slice d (bk s.v.aj a.p).1.length f]) (af (ae b sb (0 + 0 + 0) [.slice d (bk s.v.aj a.p).1.length f])) := (Upd.refl _).drew
 have M := m2.ext hx
 have up2 : Upd (· = sb) u (af (ae b sb (0 + 0 + 0) [.slice d (bk s.v.aj a.p).1.length f])) := (hu.put (fun _ => rfl) _ _).drew
 have up1 : Upd (· = sb) b (af (ae b sb (0 + 0 + 0) [.slice d (bk s.v.aj a.p).1.length f])) := (aI _ _ _).drew
 generalize af (ae b sb (0 + 0 + 0) [.slice d (bk s.v.aj a.p).1.length f]) = w at M up2 up1 ⊢
 obtain ⟨cs, hc, hrd⟩ := M.rd
 have TW : TlF w (fun k => ¬ B k) d (bk s.v.aj a.p).1 := TF.upd up1 fun k hk e => hk (e ▸ h.own)
 have hks : dF s a.p = (kN { s with v := { s.v with aj := (bk s.v.aj a.p).1, focus := if s.v.focus = a.p then ((bk s.v.aj a.p).1.getD 0 []).getD 0 0 else s.v.focus } }, .no 0) := by unfold dF; exact if_neg (by rw [hz]; simp)
 rw [hks]
 have kfew := GP kg
 have kne : 0 < (bk s.v.aj a.p).1.length := List.length_pos_iff.2 kg.some
 have hfoc : br (bk s.v.aj a.p).1 s.v.focus = false ↔ s.v.focus = a.p := by
  constructor
  ·intro hno
   apply Classical.byContradiction
   intro hne
   rw [kq _ hne, I.focus] at hno
   cases hno
  ·intro e
   rw [e, kp0]
 refine ⟨rfl, m1, _, rfl, hrd hc.focus, (fB TW.tl f s.v.focus kfew).mono fun e w1 ⟨he, hw1⟩ => ⟨_, he, fun hno => ?_, fun hhas => ?_⟩⟩
 ·have M1 := M.ext hw1
  refine (Ap (TW.tl.ext hw1) f kfew).mono fun e w2 ⟨lp, lc, he2, ho, hk, hw2⟩ => ⟨_, _, _, he2, ?_⟩
  have hfl : 0 < (bk s.v.aj a.p).1.flatten.length := by
   match hq : (bk s.v.aj a.p).1, kne, kg with
   | c :: l, _, kg => have := (kg.each c List.mem_cons_self).1; simp only [List.flatten_cons, List.length_append]; omega
  have hfirst : (bk s.v.aj a.p).1.flatten.getD 0 0 = ((bk s.v.aj a.p).1.getD 0 []).getD 0 0 := by
   match hq : (bk s.v.aj a.p).1, kne, kg with
   | (x :: c) :: l, _, kg => rfl
   | [] :: l, _, kg => have := (kg.each [] List.mem_cons_self).1; simp at this
  obtain ⟨b1, o1, hp1, hr1⟩ := ho.iG.at (i := 0) hfl
  rw [hfirst] at hr1
  obtain ⟨n1, n2⟩ := (M1.ext hw2).g6 (((bk s.v.aj a.p).1.getD 0 []).getD 0 0) (o := 0 + 0 + 57) (by omega)
  refine ⟨b1, o1, hp1, by decide, by omega, _, rfl, hr1, rfl, n1, ?_⟩
  rw [if_pos (hfoc.1 hno)]
  exact z8 n2 kfew I.gl I.pl I.gz (((up2.ext hw1).ext hw2).put (fun _ => rfl) _ _)
 ·rw [if_neg fun e => by rw [hfoc.2 e] at hhas; cases hhas]
  exact z8 (M.ext hw1) kfew I.gl I.pl I.gz (up2.ext hw1)
theorem yq {u b : World} {sb : Nat} {B : Nat -> Prop} {s : Sv} (h : RvM b sb B s) (I : bR s) (hu : Upd (· = sb) u b) (a : Ac) {n : Int} {d : Option Addr} {f : Nat} {hs : Sv × Rp}
  (hsp : hs = if (aY s.v.aj a.p n (decide (a.n = 1))).2 ≠ 0 then (s, .no (aY s.v.aj a.p n (decide (a.n = 1))).2) else (kN { s with v := { s.v with aj := (aY s.v.aj a.p n (decide (a.n = 1))).1, focus := n } }, ⟨0, n, []⟩)) (hk : a.kind = 1)
  (hT : (aY s.v.aj a.p n (decide (a.n = 1))).2 = 0 -> TlF b (fun k => ¬ B k) d (aY s.v.aj a.p n (decide (a.n = 1))).1) :
  wo (aY s.v.aj a.p n (decide (a.n = 1))).2 b (zZ u sb B a hs) sb 0 (ae b sb (0 + 0 + 0) [.slice d (aY s.v.aj a.p n (decide (a.n = 1))).1.length f]) (ae (ae b sb (0 + 0 + 0) [.slice d (aY s.v.aj a.p n (decide (a.n = 1))).1.length f]) sb (0 + 0 + 57) [iI n]) n := by
 delta wo wI cnd iI
 simp only [decide_eq_true_eq, decide_eq_false_iff_not, Bool.not_eq_true', Bool.not_eq_false', true_and]
 refine ⟨fun hz => ?_, fun hz => ?_⟩
 ·rw [if_pos hz] at hsp
  rw [hsp]
  exact oM _ h hu rfl (.inl rfl)
 rw [if_neg (by rw [hz]; simp)] at hsp
 rw [hsp]
 obtain ⟨m1, m2⟩ := h.mP f (hT hz) (o := 0 + 0 + 0) rfl
 obtain ⟨n1, n2⟩ := m2.g6 n (o := 0 + 0 + 57) (by omega)
 refine ⟨rfl, m1, rfl, n1, (Bq n2 (GP (nK hz).1) I.gl I.pl I.gz).mono fun e w ⟨he, hm, hw⟩ => ⟨he, ?_, hm, ((hu.put (fun _ => rfl) _ _).put (fun _ => rfl) _ _).trans hw fun _ _ h => h⟩⟩
 simp [hk]
theorem Gz {α : Type} {l : List α} {i : Nat} {d : α} : l.set i (l.getD i d) = l := by
 refine List.ext_getElem (by simp) fun j h1 h2 => ?_
 rw [List.getElem_set]
 split
 ·next e => subst e; simp [List.getD_eq_getElem?_getD, h2]
 ·rfl
theorem zm {u W : World} {sb : Nat} {B : Nat -> Prop} {s : Sv} (a : Ac) (by_ : ByteArray) (h : RvM W sb B s) (I : bR s) (hu : Upd (· = sb) u W) (h6 : 0 <= a.p /\ a.p < 6) (hg0 : ao (aq s.v a.p.toNat)) (hgp : bB (an s a.p.toNat)) (hbl : a.bytes.length <= 1048576) {q : Option Addr} {n c : Nat} (hq : bY W q n (feedP (an s a.p.toNat) a.bytes).1.ps) (hqk : ∀ k, At q k -> ¬ B k)
  {lp : Option Addr} (hev : EvL W (fun k => ¬ B k) lp (feedP (an s a.p.toNat) a.bytes).2.length (feedP (an s a.p.toNat) a.bytes).2) (hlk : ∀ k, At lp k -> ¬ B k) :
  wG a.p W sb 0 a.kind a.n a.m by_ (feedP (an s a.p.toNat) a.bytes).1.at_ q n c (feedP (an s a.p.toNat) a.bytes).1.pl (feedP (an s a.p.toNat) a.bytes).1.fA
   (ae W sb (0 + 58 + a.p.toNat * 4) [iI (feedP (an s a.p.toNat) a.bytes).1.at_, .slice q n c, .string (feedP (an s a.p.toNat) a.bytes).1.pl, .bool (feedP (an s a.p.toNat) a.bytes).1.fA]) (feedP (an s a.p.toNat) a.bytes).2.length lp (zZ u sb B a (fy s a.p.toNat a.bytes, .no 0)) := by
 delta wG dx dk sQ cnd iI
 simp only [decide_eq_true_eq, decide_eq_false_iff_not, true_and]
 have hi6 : a.p.toNat < 6 := by omega
 obtain ⟨m1, m2⟩ := h.mS I.pl hi6 (r := (feedP (an s a.p.toNat) a.bytes).1) (x := [.int .i64 (feedP (an s a.p.toNat) a.bytes).1.at_, .slice q n c, .string (feedP (an s a.p.toNat) a.bytes).1.pl, .bool (feedP (an s a.p.toNat) a.bytes).1.fA]) ⟨⟨q, n, c, rfl, hq, fun _ k hk => hqk k hk⟩⟩ (o := 0 + 58 + a.p.toNat * 4) (by omega)
 have hB := h.own
 have hev1 := hev.HW (aI (u := W) sb (0 + 58 + a.p.toNat * 4) [.int .i64 (feedP (an s a.p.toNat) a.bytes).1.at_, .slice q n c, .string (feedP (an s a.p.toNat) a.bytes).1.pl, .bool (feedP (an s a.p.toNat) a.bytes).1.fA]) (fun k hk e => hk (e ▸ hB)) (fun k hk e => hlk k hk (e ▸ hB))
 have up1 : Upd (· = sb) u (ae W sb (0 + 58 + a.p.toNat * 4) [.int .i64 (feedP (an s a.p.toNat) a.bytes).1.at_, .slice q n c, .string (feedP (an s a.p.toNat) a.bytes).1.pl, .bool (feedP (an s a.p.toNat) a.bytes).1.fA]) := hu.put (fun _ => rfl) _ _
 have told := uB a.bytes (an s a.p.toNat)
 have hfew := tz a.bytes _ hgp
 have hpay := rW a.bytes _ hgp
 have hfl := sL a.bytes (an s a.p.toNat)
 have hout : fy s a.p.toNat a.bytes = { s with az := s.az.set a.p.toNat (feedP (an s a.p.toNat) a.bytes).1, v := { s.v with aG := s.v.aG.set a.p.toNat (allG (aq s.v a.p.toNat) (feedP (an s a.p.toNat) a.bytes).2).1 } } := rfl
 generalize (feedP (an s a.p.toNat) a.bytes).2 = es at hev1 told hfew hpay hfl hout ⊢
 generalize (feedP (an s a.p.toNat) a.bytes).1 = pr at m1 m2 hev1 up1 hout ⊢
 refine ⟨by omega, by omega, rfl, m1, fun x v => ∃ g, RvM v sb B { s with az := s.az.set a.p.toNat pr, v := { s.v with aG := s.v.aG.set a.p.toNat g } } /\ ao g /\ allG g (es.drop x.toNat) = allG (aq s.v a.p.toNat) es /\ EvL v (fun k => ¬ B k) lp es.length es /\ 0 <= x /\ x <= es.length /\ Upd (· = sb) u v, fun x _ => (es.length - x).toNat, ⟨aq s.v a.p.toNat, ?_, hg0, rfl, hev1, by omega, by omega, up1⟩, ?_⟩
 ·rw [Gz]; exact m2
 rintro x v ⟨g, hm, hg, hall, hel, x0, xl, hup⟩
 refine ⟨fun hx => ?_, fun hx => ?_⟩
 ·obtain ⟨b, o, q1, n1, c1, hp1, hr1, hn1⟩ := hel.at (i := x.toNat) (by omega)
  refine ⟨b, o, hp1, x0, hx, _, _, _, _, _, _, rfl, hr1, by omega, by omega, ?_⟩
  have xd : Ext v (af (ab v hole)) := ((Upd.refl v).alloc _).drew
  obtain ⟨cs, hc, hrd⟩ := (hm.ext xd).rd
  obtain ⟨y, ky, ⟨gp, gc, rfl, gC, gk⟩, gfew⟩ := hc.qz a.p.toNat hi6
  have hgg : aq ({ s with az := s.az.set a.p.toNat pr, v := { s.v with aG := s.v.aG.set a.p.toNat g } } : Sv).v a.p.toNat = g := by
   show (s.v.aG.set a.p.toNat g).getD a.p.toNat .zero = g
   simp [List.getD_eq_getElem?_getD, I.gl, hi6]
  rw [hgg] at ky gC gfew
  have hmem : es.getD x.toNat .none ∈ es := cA (by omega)
  have hd0 := En hg (told _ hmem)
  have hdo := DK hg (es.getD x.toNat .none)
  refine ⟨_, _, _, _, _, _, _, _, _, _, _, rfl, by rw [show 0 + 0 + 1 + a.p.toNat * 9 = 1 + a.p.toNat * 9 by omega]; exact hrd ky, ?_⟩
  refine (Hg (g := g) gC gc (by omega) (es.getD x.toNat .none) (hn1.ext xd) (by have := hn1.2; have := hfew _ hmem; omega) (by have := hpay _ hmem; omega)).mono fun e w ⟨⟨p2, c2, he, hC2, hk2⟩, hw⟩ => ?_
  have xw := xd.ext hw
  have hsz := xd.size
  obtain ⟨n1, n2⟩ := (hm.ext xw).lS (by simp [I.gl]) hi6 (g := (doG g (es.getD x.toNat .none)).1) (x := grV (doG g (es.getD x.toNat .none)).1 p2 (doG g (es.getD x.toNat .none)).1.cells.length c2) ⟨⟨p2, c2, rfl, hC2, fun _ k hk => hm.new (by have := hk2 hd0 k hk; omega)⟩, by have := aK hdo.1; omega⟩ (o := 0 + 0 + 1 + a.p.toNat * 9) (by omega)
  refine ⟨_, _, _, _, _, _, _, _, _, _, _, _, he, by omega, by omega, rfl, n1, by simp only [inK]; omega, ⟨(doG g (es.getD x.toNat .none)).1, ?_, hdo.1, ?_, ?_, by omega, by omega, (hup.ext xw).put (fun _ => rfl) _ _⟩, by first | omega | (dsimp only; omega)⟩
  ·have : (s.v.aG.set a.p.toNat g).set a.p.toNat (doG g (es.getD x.toNat .none)).1 = s.v.aG.set a.p.toNat (doG g (es.getD x.toNat .none)).1 := List.set_set ..
   rw [<- this]
   exact n2
  ·rw [<- hall]
   have hdr : es.drop x.toNat = es.getD x.toNat .none :: es.drop (x + 1).toNat := by
    rw [show (x + 1).toNat = x.toNat + 1 by omega, List.drop_eq_getElem_cons (by omega : x.toNat < es.length)]
    simp [List.getD_eq_getElem?_getD, show x.toNat < es.length by omega]
   rw [hdr]
   conv => rhs; unfold allG
   rw [if_pos hd0]
  ·exact (hel.ext xw).HW (aI _ _ _) (fun k hk e => hk (e ▸ hB)) fun k hk e => hlk k hk (e ▸ hB)
 ·have hxl : x.toNat = es.length := by omega
  rw [hxl, List.drop_length] at hall
  have hgl : (allG (aq s.v a.p.toNat) es).1 = g := by rw [<- hall]; rfl
  rw [hout, hgl]
  delta fv
  exact oM 0 hm hup rfl (.inl rfl)
theorem zg {s : Sv} {a : Ac} (h : a.p < 0 \/ 3 <= a.p) : aM s a = (s, .no 3) := by unfold aM; exact if_pos h
theorem FA {u A C : World} {sb : Nat} {B : Nat -> Prop} {s : Sv} (I : bR s) {a : Ac} (h3 : 0 <= a.p /\ a.p < 3) (hk : a.kind = 6 \/ a.kind = 7 \/ a.kind = 9) (h : RvM A sb B s) (hu : Upd (· = sb) u A) (h6 : a.kind = 6 -> (ag s a.p.toNat).here = false /\ ¬ (a.n < 1 \/ 24 < a.n \/ a.m < 1 \/ 10 < a.m)) (hC : C = af A) :
  wq a.kind a.p A sb 0 (zZ u sb B a (aM s a)) C (ae C sb (0 + 82 + a.p.toNat * 1) [.bool (decide (a.kind = 6))]) := by
 subst hC
 have hi3 : a.p.toNat < 3 := by omega
 have hv : aM s a = if a.kind = 6 then ({ s with ak := s.ak.set a.p.toNat ⟨true, aO a.n a.m, [], true⟩ }, .no 0)
   else if (ag s a.p.toNat).here = false then (s, .no 3)
   else if a.kind = 7 then ({ s with ak := s.ak.set a.p.toNat .zero }, .no 0)
   else ({ s with ak := s.ak.set a.p.toNat { ag s a.p.toNat with queue := (ag s a.p.toNat).queue.drop (bL a.n (ag s a.p.toNat).queue) } }, ⟨0, bL a.n (ag s a.p.toNat).queue, (ag s a.p.toNat).queue.take (bL a.n (ag s a.p.toNat).queue)⟩) := by
  unfold aM
  rw [if_neg (by omega)]
  dsimp only
  by_cases k6 : a.kind = 6
  ·rw [if_pos k6, if_pos k6, if_neg (by rw [(h6 k6).1]; simp), if_neg (h6 k6).2]
  ·rw [if_neg k6, if_neg k6]
 have hx : Ext A (af A) := (Upd.refl A).drew
 have set : ∀ (r : Ct), r.here = decide (a.kind = 6) -> a.kind ≠ 9 -> (aM s a).1 = { s with ak := s.ak.set a.p.toNat r } -> (aM s a).2 = .no 0 -> tJ a.kind a.p (af A) sb 0 (ae (af A) sb (0 + 82 + a.p.toNat * 1) [.bool (decide (a.kind = 6))]) (zZ u sb B a (aM s a)) A := fun r hr h9 h1 h2 => by
  delta tJ cnd fv
  simp only [decide_eq_true_eq, decide_eq_false_iff_not, Bool.not_eq_true', Bool.not_eq_false', true_and]
  obtain ⟨n1, n2⟩ := (h.ext hx).Hq I.cl hi3 (r := r) (o := 0 + 82 + a.p.toNat * 1) (by omega)
  rw [hr] at n2
  exact ⟨fun _ => ⟨h3.1, h3.2, rfl, n1, oM 0 (by rw [h1]; exact n2) ((hu.ext hx).put (fun _ => rfl) _ _) (by rw [h2]) (.inl (by rw [h2]))⟩, fun h => (h9 h).elim⟩
 delta wq cnd v9 pZ
 simp only [decide_eq_true_eq, decide_eq_false_iff_not, Bool.not_eq_true', Bool.not_eq_false', true_and]
 refine ⟨fun k6 => ⟨h3.1, h3.2, (ag s a.p.toNat).here, rfl, ?_, fun hno => ?_, fun hhere => ?_⟩, fun k6 => ?_⟩
 ·obtain ⟨cs, hc, hrd⟩ := h.rd
  rw [show 0 + 82 + a.p.toNat * 1 = 82 + a.p.toNat by omega]
  exact hrd (hc.ue _ hi3)
 ·have : aM s a = (s, .no 3) := by rw [hv, if_neg k6, if_pos hno]
  rw [this]
  exact oM 3 h hu rfl (.inl rfl)
 ·by_cases k7 : a.kind = 7
  ·have : aM s a = ({ s with ak := s.ak.set a.p.toNat .zero }, .no 0) := by rw [hv, if_neg k6, if_neg (by rw [hhere]; simp), if_pos k7]
   exact set .zero (by simp [k6]) (by omega) (by rw [this]) (by rw [this])
  ·have k9 : a.kind = 9 := by omega
   delta tJ cnd fv
   simp only [decide_eq_true_eq, decide_eq_false_iff_not, Bool.not_eq_true', Bool.not_eq_false', true_and]
   refine ⟨fun h => (h k9).elim, fun _ => ?_⟩
   have hv9 := hv
   rw [if_neg k6, if_neg (by rw [hhere]; simp), if_neg k7] at hv9
   rw [hv9]
   refine oM 0 (h.ak fun i hi => ?_) hu rfl (.inr k9)
   rw [mE _ _ (by rw [I.cl]; exact hi3)]
   split
   ·next e => rw [e]
   ·rfl
 ·have : aM s a = ({ s with ak := s.ak.set a.p.toNat ⟨true, aO a.n a.m, [], true⟩ }, .no 0) := by rw [hv, if_pos k6]
  exact set ⟨true, aO a.n a.m, [], true⟩ (by simp [k6]) (by omega) (by rw [this]) (by rw [this])
theorem GI {u : World} {sb : Nat} {B : Nat -> Prop} {s : Sv} (h : RvM u sb B s) (I : bR s) (hacts : 0 <= s.ay /\ s.ay <= 300) (a : Ac) {by_ : ByteArray} (hby : by_.data.toList = a.bytes) (hbs : by_.size <= 1048576) :
  Spec Tryz.prog cT #[.pointer (some ⟨sb, 0, none⟩), .agg #[.int .i64 a.kind, .int .i64 a.p, .int .i64 a.n, .int .i64 a.m, .string by_]] u (zZ u sb B a (doS s a)) := by
 apply jw
 delta eO AP dx dk cnd
 simp only [decide_eq_true_eq, decide_eq_false_iff_not, true_and]
 have hu : Ext u (ab (ab u hole) hole) := ((Upd.refl u).alloc _).alloc _
 have M0 := h.ext hu
 obtain ⟨cs, hc, hrd⟩ := M0.rd
 have ra : Rd (ab (ab u hole) hole) sb (0 + 85) [.int .i64 s.ay] := by rw [Nat.zero_add]; exact hrd hc.ay
 obtain ⟨w1, M1⟩ := M0.AO (s.ay + 1) (o := 0 + 85) (by omega)
 have up1 : Upd (· = sb) u (ae (ab (ab u hole) hole) sb (0 + 85) [iI (s.ay + 1)]) := (hu.any (S := (· = sb))).put (fun _ => rfl) _ _
 refine ⟨_, rfl, ra, fun hfull => ?_, fun hfull => ⟨_, rfl, ra, by simp only [inK]; omega, rfl, w1, ?_⟩⟩
 ·have : doS s a = (s, .no 5) := by unfold doS; rw [if_pos (by omega)]
  rw [this]
  exact oM 5 M0 hu.any rfl (.inl rfl)
 change RvM (ae (ab (ab u hole) hole) sb (0 + 85) [iI (s.ay + 1)]) sb B _ at M1
 generalize ae (ab (ab u hole) hole) sb (0 + 85) [iI (s.ay + 1)] = U0 at M1 up1 ⊢
 have hdo : doS s a = gu { s with ay := s.ay + 1 } a := by unfold doS; rw [if_neg (by omega)]
 rw [hdo]
 have I1 : bR { s with ay := s.ay + 1 } := I.ay _
 clear hdo w1 ra hrd hc cs M0
 generalize ({ s with ay := s.ay + 1 } : Sv) = s at M1 I1 ⊢
 clear I h hfull hacts
 have hact : gu s a = if a.kind = 1 then splitS s a
  else if a.kind = 2 then dF s a.p
  else if a.kind = 3 \/ a.kind = 4 then
   if br s.v.aj a.p = false then (s, .no 3)
   else if a.kind = 4 then ({ s with v := { s.v with focus := a.p } }, .no 0)
   else (fy s a.p.toNat a.bytes, .no 0)
  else if a.kind = 5 then
   if a.n < 1 \/ 24 < a.n \/ a.m < 1 \/ 10 < a.m then (s, .no 1)
   else (kN { s with v := { s.v with wide := a.n, high := a.m } }, .no 0)
  else if a.kind = 8 then (va s, .no 0)
  else if a.kind = 6 \/ a.kind = 7 \/ a.kind = 9 then aM s a
  else (s, .no 2) := rfl
 have few := GP I1.aj
 have hd0 : Ext U0 (af U0) := (Upd.refl U0).drew
 have tl : ∀ {w : World}, RvM w sb B s -> ∃ p c, Rd w sb (0 + 0 + 0) [.slice p s.v.aj.length c] /\ TlF w (fun k => ¬ B k) p s.v.aj := fun {w} hw => by
  obtain ⟨cs, hc, hrd⟩ := hw.rd
  obtain ⟨p, c, h1, h2⟩ := hc.oY
  exact ⟨p, c, hrd h1, h2⟩
 have hsz := hd0.size
 refine ⟨fun k1 => ?_, fun k1 => ⟨fun k2 => ?_, fun k2 => ?_⟩⟩
 ·have ha : gu s a = splitS s a := by rw [hact, if_pos k1]
  rw [ha]
  refine ⟨fun x v => Ext U0 v /\ 0 <= x /\ x <= 6 /\ ∀ i : Nat, i < x.toNat -> br s.v.aj (i : Nat) = true, fun x _ => (6 - x).toNat, ⟨Upd.refl _, by omega, by omega, by omega⟩, ?_⟩
  rintro x v ⟨hv, h0, h6, hi⟩
  have hm := M1.ext hv
  obtain ⟨tp, tc, kt, TF⟩ := tl hm
  have hxc : ((x.toNat : Nat) : Int) = x := by omega
  refine ⟨tp, _, tc, rfl, kt, (fB TF.tl tc x few).mono fun e v1 ⟨he, hv1⟩ => ⟨_, he, fun hh => ?_, fun hh => ⟨fun h6x => ?_, fun h6x => ?_⟩⟩⟩
  ·have hx6 : x < 6 := (rV I1.aj hh).2
   refine ⟨by simp only [inK]; omega, ⟨hv.ext hv1, by omega, by omega, fun i hi2 => ?_⟩, by first | omega | (dsimp only; omega)⟩
   rcases (by omega : i < x.toNat \/ i = x.toNat) with h7 | rfl
   ·exact hi i h7
   ·rw [hxc]; exact hh
  ·have hfree : eT s.v.aj = none := by
    unfold eT
    exact mc [0, 1, 2, 3, 4, 5] fun i hi3 => hi i (by simp at hi3; omega)
   have hsp : splitS s a = (s, .no 5) := by unfold splitS; rw [hfree]
   rw [hsp]
   exact oM 5 (hm.ext hv1) (up1.ext (hv.ext hv1)) rfl (.inl rfl)
  ·have hfree : eT s.v.aj = some x.toNat := Ek (by omega) hi (by rw [hxc]; exact hh)
   have hsp : splitS s a = if (aY s.v.aj a.p x.toNat (decide (a.n = 1))).2 ≠ 0 then (s, .no (aY s.v.aj a.p x.toNat (decide (a.n = 1))).2) else (kN { s with v := { s.v with aj := (aY s.v.aj a.p x.toNat (decide (a.n = 1))).1, focus := (x.toNat : Nat) } }, ⟨0, (x.toNat : Nat), []⟩) := by unfold splitS; rw [hfree]
   rw [hxc] at hsp
   have hd : Ext v (af v1) := hv1.drew
   have rd1 : ∀ {w : World}, Ext v w -> Rd w sb (0 + 0 + 0) [.slice tp s.v.aj.length tc] := fun hw => ur kt hw
   refine ⟨tp, _, tc, rfl, rd1 hd, ⟨?_, ?_⟩⟩
   ·refine (pY (TF.tl.ext hd) tc a.p x (decide (a.n = 1)) few).mono fun e w1 ⟨⟨p1, c1, he, hT1, hF1⟩, hw1⟩ => ⟨_, _, _, _, he, rd1 ((hd.ext hw1).alloc _), ?_⟩
    have ha : Ext v (ab w1 hole) := (hd.ext hw1).alloc _
    exact yq (hm.ext ha) I1 (up1.ext (hv.ext ha)) a hsp k1 fun hz => ((hF1 hz).upd (S := fun _ => False) ((Upd.refl _).alloc _) fun _ _ h => h).mono fun k hk => hm.new (by have := hd.size; omega)
   ·have hal : Ext v (ab (af v1) hole) := hd.alloc _
    refine ⟨rd1 hal, (pY (TF.tl.ext hal) tc a.p x (decide (a.n = 1)) few).mono fun e w1 ⟨⟨p1, c1, he, hT1, hF1⟩, hw1⟩ => ⟨_, _, _, _, he, ?_⟩⟩
    exact yq (hm.ext (hal.ext hw1)) I1 (up1.ext (hv.ext (hal.ext hw1))) a hsp k1 fun hz => (hF1 hz).mono fun k hk => hm.new (by have := hal.size; omega)
 ·have ha : gu s a = dF s a.p := by rw [hact, if_neg k1, if_pos k2]
  rw [ha]
  have Md := M1.ext hd0
  obtain ⟨tp, tc, kt, TF⟩ := tl Md
  have hal : Ext (af U0) (ab (af U0) hole) := (Upd.refl _).alloc _
  refine ⟨tp, _, tc, rfl, kt, ⟨?_, ?_⟩⟩
  ·refine (tI TF.tl tc a.p few).mono fun e w1 ⟨⟨p1, c1, he, hT1, hF1⟩, hw1⟩ => ⟨_, _, _, _, he, ur kt (hw1.alloc _), ?_⟩
   have ha : Ext (af U0) (ab w1 hole) := hw1.alloc _
   exact za (Md.ext ha) I1 (up1.ext (hd0.ext ha)) a fun hz => ((hF1 hz).upd (S := fun _ => False) ((Upd.refl _).alloc _) fun _ _ h => h).mono fun k hk => Md.new hk
  ·refine ⟨ur kt hal, (tI (TF.tl.ext hal) tc a.p few).mono fun e w1 ⟨⟨p1, c1, he, hT1, hF1⟩, hw1⟩ => ⟨_, _, _, _, he, ?_⟩⟩
   exact za (Md.ext (hal.ext hw1)) I1 (up1.ext (hd0.ext (hal.ext hw1))) a fun hz => (hF1 hz).mono fun k hk => Md.new (by have := hal.size; omega)
 refine ⟨fun d e => e = U0 /\ d = decide (a.kind = 3 \/ a.kind = 4), ⟨fun k3 => ⟨rfl, by simp [k3]⟩, fun k3 => ⟨rfl, by simp [k3]⟩⟩, ?_⟩
 rintro d e ⟨rfl, rfl⟩
 simp only [decide_eq_true_eq, decide_eq_false_iff_not]
 refine ⟨fun k34 => ?_, fun k34 => ⟨fun k5 => ?_, fun k5 => ?_⟩⟩
 ·rw [if_neg k1, if_neg k2, if_pos k34] at hact
  have Md := M1.ext hd0
  obtain ⟨tp, tc, kt, TF⟩ := tl Md
  delta v9 pZ fv
  simp only [Bool.not_eq_true', Bool.not_eq_false']
  refine ⟨tp, _, tc, rfl, kt, (fB TF.tl tc a.p few).mono fun f w1 ⟨he, hw1⟩ => ⟨_, he, fun hno => ?_, fun hhas => ?_⟩⟩
  ·rw [if_pos hno] at hact
   rw [hact]
   exact oM 3 (Md.ext hw1) (up1.ext (hd0.ext hw1)) rfl (.inl rfl)
  rw [if_neg (by rw [hhas]; simp)] at hact
  have h6 := rV I1.aj hhas
  have hi6 : a.p.toNat < 6 := by omega
  have hpn : ((a.p.toNat : Nat) : Int) = a.p := by omega
  have M2 := Md.ext hw1
  have up2 := up1.ext (hd0.ext hw1)
  refine ⟨fun k4 => ?_, fun k4 => ?_⟩
  ·rw [if_pos k4] at hact
   rw [hact]
   obtain ⟨n1, n2⟩ := M2.g6 a.p (o := 0 + 0 + 57) (by omega)
   exact ⟨rfl, n1, oM 0 n2 (up2.put (fun _ => rfl) _ _) rfl (.inl rfl)⟩
  rw [if_neg k4] at hact
  rw [hact]
  have M3 := M2.ext ((Upd.refl (S := fun _ => False) w1).drew)
  have up3 : Upd (· = sb) u (af w1) := up2.drew
  obtain ⟨cs2, hc2, hrd2⟩ := M3.rd
  obtain ⟨x2, kx, ⟨pp, pn, pc, rfl, hps, hpk⟩⟩ := hc2.parser a.p.toNat hi6
  have kx' := hrd2 kx
  rw [show 58 + a.p.toNat * 4 = 0 + 58 + a.p.toNat * 4 by omega] at kx'
  have hgp := (I1.az a.p.toNat hi6).1
  have hbl : a.bytes.length <= 1048576 := by rw [<- hby]; have : by_.data.toList.length = by_.size := rfl; omega
  have hg0 := ((I1.aG a.p.toNat hi6).on (by rw [hpn]; exact hhas)).1
  have hpl : pn <= 100000000 := by have := hps.2; have := hgp.len; omega
  refine ⟨h6.1, h6.2, _, _, _, _, _, _, rfl, kx', ⟨?_, ?_⟩⟩
  ·refine (rf (an s a.p.toNat) pp pn pc by_ hps (by omega) hpl).mono fun f w2 hf => ?_
   rcases hf with ⟨_, q, n, c, lp, ln, lc, he, hq, hev, ⟨hqk, hlk⟩, hw2⟩ | ⟨hbad, _⟩
   case inr => exact (hbad hgp).elim
   rw [hby] at he hq hev
   have hln := hev.len
   subst hln
   have hx : Ext w2 (af (ab w2 hole)) := ((Upd.refl _).alloc _).drew
   have new : ∀ k, (af w1).heap.size <= k -> ¬ B k := fun k hk => M3.new hk
   refine ⟨_, _, _, _, _, _, _, _, _, _, he, ur kx' (hw2.alloc _), ?_⟩
   exact zm a by_ (M3.ext (hw2.ext hx)) I1 (up3.ext (hw2.ext hx)) h6 hg0 hgp hbl (hq.ext hx) (fun k hk => new k (hqk k hk)) ((hev.upd (Upd.refl _ : Ext w2 w2) (fun _ _ h => h) fun k hk => ⟨fun h => h, new k hk⟩).ext hx) fun k hk => new k (hlk k hk)
  ·have hal : Ext (af w1) (ab (af w1) hole) := (Upd.refl _).alloc _
   refine ⟨ur kx' hal, (rf (an s a.p.toNat) pp pn pc by_ (hps.ext hal) (by omega) hpl).mono fun f w2 hf => ?_⟩
   rcases hf with ⟨_, q, n, c, lp, ln, lc, he, hq, hev, ⟨hqk, hlk⟩, hw2⟩ | ⟨hbad, _⟩
   case inr => exact (hbad hgp).elim
   rw [hby] at he hq hev
   have hln := hev.len
   subst hln
   have hx : Ext w2 (af w2) := (Upd.refl _).drew
   have hals := hal.size
   have new : ∀ k, (ab (af w1) hole).heap.size <= k -> ¬ B k := fun k hk => M3.new (by omega)
   refine ⟨_, _, _, _, _, _, _, _, _, _, he, ?_⟩
   exact zm a by_ (M3.ext ((hal.ext hw2).ext hx)) I1 (up3.ext ((hal.ext hw2).ext hx)) h6 hg0 hgp hbl (hq.ext hx) (fun k hk => new k (hqk k hk)) ((hev.upd (Upd.refl _ : Ext w2 w2) (fun _ _ h => h) fun k hk => ⟨fun h => h, new k hk⟩).ext hx) fun k hk => new k (hlk k hk)
 ·rw [if_neg k1, if_neg k2, if_neg k34, if_pos k5] at hact
  delta vX
  simp only [Bool.not_eq_true', Bool.not_eq_false']
  refine (BL a.kind a.p a.n a.m by_).mono fun f w1 ⟨he, hw1⟩ => ⟨_, he, fun hno => ?_, fun hyes => ?_⟩
  ·rw [if_pos (by have := of_decide_eq_false hno; omega)] at hact
   rw [hact]
   exact oM 1 (M1.ext hw1) (up1.ext hw1) rfl (.inl rfl)
  ·rw [if_neg (by have := of_decide_eq_true hyes; omega)] at hact
   rw [hact]
   have hx : Ext e (af w1) := hw1.drew
   obtain ⟨m1, m2⟩ := (M1.ext hx).z6 a.n (o := 0 + 0 + 55) (by omega)
   obtain ⟨n1, n2⟩ := m2.Bl a.m (o := 0 + 0 + 56) (by omega)
   exact ⟨rfl, m1, rfl, n1, z8 n2 few I1.gl I1.pl I1.gz (((up1.ext hx).put (fun _ => rfl) _ _).put (fun _ => rfl) _ _)⟩
 rw [if_neg k1, if_neg k2, if_neg k34, if_neg k5] at hact
 refine ⟨fun g w => w = e /\ g = decide (a.kind = 6 \/ a.kind = 7 \/ a.kind = 9), ⟨fun k6 => ⟨rfl, by simp [k6]⟩, fun k6 => ⟨fun k7 => ⟨rfl, by simp [k7]⟩, fun k7 => ⟨rfl, by simp [k6, k7]⟩⟩⟩, ?_⟩
 rintro g w ⟨rfl, rfl⟩
 delta pZ fv
 simp only [decide_eq_true_eq, decide_eq_false_iff_not]
 refine ⟨fun kv => ?_, fun kv => ⟨fun k8 => ?_, fun k8 => ?_⟩⟩
 ·have ha : gu s a = aM s a := by rw [hact, if_neg (by omega), if_pos kv]
  rw [ha]
  refine ⟨fun hp => ?_, fun hp => ⟨fun hp2 => ?_, fun hp2 => ?_⟩⟩
  ·rw [zg (.inl hp)]
   exact oM 3 M1 up1 rfl (.inl rfl)
  ·rw [zg (.inr (by omega))]
   exact oM 3 M1 up1 rfl (.inl rfl)
  have h3 : 0 <= a.p /\ a.p < 3 := by omega
  have hi3 : a.p.toNat < 3 := by omega
  have Md := M1.ext hd0
  have upd := up1.ext hd0
  have hd1 : Ext (af w) (af (af w)) := (Upd.refl _).drew
  have x0 : (a.kind = 6 -> (ag s a.p.toNat).here = false) -> wE a.kind a.p a.n a.m by_ (af w) (zZ u sb B a (aM s a)) sb 0 (af (af w)) (af (af (af w))) (ae (af (af (af w))) sb (0 + 82 + a.p.toNat * 1) [.bool (decide (a.kind = 6))]) := fun hnh => by
   delta wE vX cnd
   simp only [decide_eq_true_eq, decide_eq_false_iff_not, Bool.not_eq_true', Bool.not_eq_false']
   refine ⟨fun k6 => (BL a.kind a.p a.n a.m by_).mono fun f w1 ⟨he, hw1⟩ => ⟨_, he, fun hno => ?_, fun hyes => ?_⟩, fun k6 => ?_⟩
   ·have hbad := of_decide_eq_false hno
    have : aM s a = (s, .no 1) := by unfold aM; rw [if_neg (by omega)]; dsimp only; rw [if_pos k6, if_neg (by rw [hnh k6]; simp), if_pos (by omega)]
    rw [this]
    exact oM 1 (Md.ext hw1) (upd.ext hw1) rfl (.inl rfl)
   ·have hx : Ext (af w) (af w1) := hw1.drew
    have hgood := of_decide_eq_true hyes
    exact FA I1 h3 kv (Md.ext hx) (upd.ext hx) (fun _ => ⟨hnh k6, by omega⟩) rfl
   ·exact FA I1 h3 kv (Md.ext hd1) (upd.ext hd1) (fun h => (k6 h).elim) rfl
  refine ⟨fun k6 => ⟨h3.1, h3.2, (ag s a.p.toNat).here, rfl, ?_, fun hh => ?_, fun hh => x0 fun _ => hh⟩, fun k6 => x0 fun h => (k6 h).elim⟩
  ·obtain ⟨cs, hc, hrd⟩ := Md.rd
   rw [show 0 + 82 + a.p.toNat * 1 = 82 + a.p.toNat by omega]
   exact hrd (hc.ue _ hi3)
  ·have : aM s a = (s, .no 4) := by unfold aM; rw [if_neg (by omega)]; dsimp only; rw [if_pos k6, if_pos hh]
   rw [this]
   exact oM 4 Md upd rfl (.inl rfl)
 ·rw [if_pos k8] at hact
  rw [hact]
  refine oM 0 (M1.ak fun i hi => ?_) up1 rfl (.inl rfl)
  rw [getD_map (dg s.v) .zero .zero (by rw [I1.cl]; exact hi)]
  exact (yz I1.ki (I1.ak i hi)).here
 ·rw [if_neg k8, if_neg kv] at hact
  rw [hact]
  exact oM 2 M1 up1 rfl (.inl rfl)
end Go.Proofs.YtkmmphkjmamckacGreatDoor
