/- Texts joined: TWalk. -/
import Derived.Test.YtkmmphkjmamckacGreatDoorZ02
import Derived.Test.YtkmmphkjmamckacGreatDoorZ04
namespace Go.Proofs.YtkmmphkjmamckacGreatDoor
open Go
set_option linter.all false
theorem ED (p : Int) {u : World} : Spec Tryz.prog qN #[.int .i64 p] u (Told u (cy p)) := by
 apply rA
 delta qL cnd iI lq
 simp only [decide_eq_true_eq, decide_eq_false_iff_not]
 refine ⟨fun h => ⟨?_, Upd.refl u⟩, fun h => ⟨?_, Upd.refl u⟩⟩
 ·congr 2
  unfold cy
  exact decide_eq_decide.2 (by omega)
 ·congr 2
  symm
  unfold cy
  exact decide_eq_false (by omega)
theorem FO {u : World} {p : Option Addr} {l : List Int} (h : bY u p l.length l) (c : Nat) (v : Int) (hl : l.length <= 100000000) :
  Spec Tryz.prog fU #[.slice p l.length c, .int .i64 v] u fun e u' => e = .returned (.int .i64 (if l.contains v = true then (l.idxOf v : Nat) else -1)) /\ Ext u u' := by
 apply jM
 delta fW cnd iI lq
 simp only [decide_eq_true_eq, decide_eq_false_iff_not]
 refine ⟨fun x u1 => Ext u u1 /\ 0 <= x /\ x <= l.length /\ ∀ i : Nat, i < x.toNat -> l.getD i 0 ≠ v, fun x _ => (l.length - x).toNat, ⟨Upd.refl u, by omega, by omega, by omega⟩, fun x u1 ⟨hu, h0, h1, hi⟩ => ⟨fun hx => ?_, fun hx => ?_⟩⟩
 ·obtain ⟨b, o, hp, hr⟩ := (h.ext hu).at (i := x.toNat) (by omega)
  refine ⟨b, o, hp, h0, hx, _, rfl, hr, fun heq => ⟨?_, hu⟩, fun hne => ⟨by simp only [inK]; omega, ⟨hu, by omega, by omega, fun i hi' => ?_⟩, by first | omega | (dsimp only; omega)⟩⟩
  ·have f := ub (l := l) (i := x.toNat) (v := v) (by omega) heq.symm hi
   rw [if_pos f.1, f.2, show ((x.toNat : Nat) : Int) = x by omega]
  ·rcases (by omega : i < x.toNat \/ i = x.toNat) with h | rfl
   ·exact hi i h
   ·exact fun h => hne h.symm
 ·refine ⟨?_, hu⟩
  rw [if_neg]
  rw [tA fun j hj => hi j (by omega)]
  simp
def vC (t : aD) (p : Int) : Value := match findT t p with
 | none => .tuple #[.int .i64 0, .int .i64 0, .bool false]
 | some (i, k) => .tuple #[.int .i64 (i : Nat), .int .i64 (k : Nat), .bool true]
theorem wB {u : World} {q : Option Addr} {t : aD} (h : Tl u q t) (c : Nat) (p : Int) (hl : dO 10000000 t) :
  Spec Tryz.prog qG #[TlV q t c, .int .i64 p] u fun e u' => e = .returned (vC t p) /\ Ext u u' := by
 apply rB
 delta qK sw cnd iI lq
 simp only [decide_eq_true_eq, decide_eq_false_iff_not, true_and]
 have hu : Ext u (ab u hole) := (Upd.refl u).alloc _
 have hn := hl.n
 refine ⟨fun x u1 => Ext u u1 /\ 0 <= x /\ x <= t.length /\ ∀ i : Nat, i < x.toNat -> (t.getD i []).contains p = false, fun x _ => (t.length - x).toNat, ⟨hu, by omega, by omega, by omega⟩, fun x u1 ⟨hu1, h0, h1, hi⟩ => ⟨fun hx => ?_, fun hx => ?_⟩⟩
 ·obtain ⟨b, o, q', c', hp, hr, hnum⟩ := (h.ext hu1).at (i := x.toNat) (by omega)
  refine ⟨b, o, hp, h0, hx, _, _, _, rfl, hr, (FO hnum c' p (by have := hl.getD x.toNat; omega)).mono fun e u2 ⟨he, hu2⟩ => ⟨_, he, fun hge => ⟨?_, hu1.ext hu2⟩, fun hlt => ⟨by simp only [inK]; omega, ⟨hu1.ext hu2, by omega, by omega, fun i hi' => ?_⟩, by first | omega | (dsimp only; omega)⟩⟩⟩
  ·have hc : (t.getD x.toNat []).contains p = true := by
    apply Classical.byContradiction
    intro hn
    rw [if_neg hn] at hge
    omega
   unfold vC
   rw [zO (by omega) hc hi, if_pos hc]
   dsimp only
   rw [show ((x.toNat : Nat) : Int) = x by omega]
  ·rcases (by omega : i < x.toNat \/ i = x.toNat) with h | rfl
   ·exact hi i h
   ·cases hc : (t.getD x.toNat []).contains p with
    | false => rfl
    | true =>
     rw [if_pos hc] at hlt
     omega
 ·refine ⟨?_, hu1⟩
  unfold vC
  rw [GF fun j hj => hi j (by omega)]
def zi (S : List Int) : List Value := [.bool (S.contains 0), .bool (S.contains 1), .bool (S.contains 2), .bool (S.contains 3), .bool (S.contains 4), .bool (S.contains 5)]
theorem EY (S : List Int) {q : Int} (h : cy q = true) : takeN (zi S) (0 + q.toNat * 1) 1 = some [.bool (S.contains q)] := by
 simp only [cy, decide_eq_true_eq] at h
 rcases (by omega : q = 0 \/ q = 1 \/ q = 2 \/ q = 3 \/ q = 4 \/ q = 5) with rfl | rfl | rfl | rfl | rfl | rfl <;> rfl
theorem Gw (S : List Int) {q : Int} (h : cy q = true) : putN (zi S) (0 + q.toNat * 1) [.bool true] = some (zi (S ++ [q])) := by
 simp only [cy, decide_eq_true_eq] at h
 rcases (by omega : q = 0 \/ q = 1 \/ q = 2 \/ q = 3 \/ q = 4 \/ q = 5) with rfl | rfl | rfl | rfl | rfl | rfl <;> simp [zi, putN]
theorem C8 {t : aD} {i : Nat} (h : i < t.length) : t.flatten = (t.take i).flatten ++ (t.getD i [] ++ (t.drop (i + 1)).flatten) := by
 conv => lhs; rw [<- List.take_append_drop i t, List.drop_eq_getElem_cons h]
 rw [List.flatten_append, List.flatten_cons, List.getD_eq_getElem?_getD, List.getElem?_eq_getElem h]
 rfl
theorem Ah {c : List Int} {j : Nat} (h : j < c.length) : c = c.take j ++ c.getD j 0 :: c.drop (j + 1) := by
 conv => lhs; rw [<- List.take_append_drop j c, List.drop_eq_getElem_cons h]
 rw [List.getD_eq_getElem?_getD, List.getElem?_eq_getElem h]
 rfl
theorem xG {u : World} {q : Option Addr} {t : aD} (h : Tl u q t) (c : Nat) (hl : dO 10000000 t) :
  Spec Tryz.prog qW #[TlV q t c] u (Told u (mV t)) := by
 apply rO
 delta qQ kj cnd iI lq
 simp only [decide_eq_true_eq, decide_eq_false_iff_not, Bool.not_eq_true', Bool.not_eq_false', true_and]
 have hu : Ext u (ab (ab u hole) hole) := ((Upd.refl u).alloc _).alloc _
 have hn := hl.n
 have no : ∀ {v : World}, Ext u v -> ¬ cF t -> Told u (mV t) (.returned (.bool false)) v := fun hv hn => ⟨by
  congr 2
  symm
  rw [<- Bool.not_eq_true, bI]
  exact hn, hv⟩
 refine ⟨fun x s u1 => Ext u u1 /\ 0 <= x /\ x <= t.length /\ s = zi ((t.take x.toNat).flatten) /\ (∀ c ∈ t.take x.toNat, 1 <= c.length /\ c.length <= 3) /\ (∀ p ∈ (t.take x.toNat).flatten, cy p = true) /\ (t.take x.toNat).flatten.Nodup, fun x _ _ => (t.length - x).toNat,
  ⟨hu, by omega, by omega, rfl, by simp, by simp, by simp⟩, ?_⟩
 rintro x s u1 ⟨hu1, h0, h1, rfl, i1, i2, i3⟩
 refine ⟨fun hx => ?_, fun hx => ?_⟩
 ·obtain ⟨b, o, q', c', hp, hr, hnum⟩ := (h.ext hu1).at (i := x.toNat) (by omega)
  have hcm : t.getD x.toNat [] ∈ t := cA (by omega)
  have hcl := hl.getD x.toNat
  have hfl := C8 (t := t) (i := x.toNat) (by omega)
  have htk := bN t [] (i := x.toNat) (by omega)
  generalize t.getD x.toNat [] = cl at hr hnum hcm hcl hfl htk
  refine ⟨b, o, hp, h0, hx, _, _, _, rfl, hr, fun he => no hu1 fun hg => by have := (hg.each cl hcm).1; omega, fun he => ⟨fun hb => no hu1 fun hg => by have := (hg.each cl hcm).2; omega, fun hb => ?_⟩⟩
  refine ⟨fun y s u2 => Ext u u2 /\ Ext u1 u2 /\ 0 <= y /\ y <= cl.length /\ s = zi ((t.take x.toNat).flatten ++ cl.take y.toNat) /\ (∀ p ∈ (t.take x.toNat).flatten ++ cl.take y.toNat, cy p = true) /\ ((t.take x.toNat).flatten ++ cl.take y.toNat).Nodup, fun y _ _ => (cl.length - y).toNat,
   ⟨hu1, Upd.refl _, by omega, by omega, by simp, by simpa using i2, by simpa using i3⟩, ?_⟩
  rintro y s u2 ⟨hu2, hu12, y0, y1, rfl, j2, j3⟩
  refine ⟨fun hy => ?_, fun hy => ?_⟩
  ·obtain ⟨b1, o1, hp1, hr1⟩ := (hnum.ext hu12).at (i := y.toNat) (by omega)
   have hpre := Ah (c := cl) (j := y.toNat) (by omega)
   have htk2 := bN cl 0 (i := y.toNat) (by omega)
   rw [hpre, List.append_assoc, <- List.append_assoc] at hfl
   have hpm : cl.getD y.toNat 0 ∈ t.flatten := by rw [hfl]; simp
   generalize cl.getD y.toNat 0 = v at hr1 hpre htk2 hfl hpm
   refine ⟨b1, o1, hp1, y0, hy, _, rfl, hr1, (ED v).mono fun e u3 ⟨he, hu3⟩ => ⟨_, he, fun hb => no (hu2.ext hu3) fun hg => (by rw [hg.E6 _ hpm] at hb; cases hb), fun hv => ?_⟩⟩
   have hv' := hv
   simp only [cy, decide_eq_true_eq] at hv'
   refine ⟨by omega, by omega, _, EY _ hv, fun hb => no (hu2.ext hu3) fun hg => ?_, fun hb => ⟨by omega, by omega, rfl, _, Gw _ hv, by simp only [inK]; omega, ⟨hu2.ext hu3, hu12.ext hu3, by omega, by omega, ?_, ?_, ?_⟩, by first | omega | (dsimp only; omega)⟩⟩
   ·have := hg.nodup
    rw [hfl, List.nodup_append] at this
    rw [List.contains_iff_mem] at hb
    exact this.2.2 _ hb _ (by simp) rfl
   all_goals rw [show (y + 1).toNat = y.toNat + 1 by omega, htk2, <- List.append_assoc]
   ·intro p hp
    rcases List.mem_append.1 hp with hp | hp
    ·exact j2 p hp
    ·simp only [List.mem_cons, List.not_mem_nil, or_false] at hp
     rw [hp]; exact hv
   ·rw [List.nodup_append]
    refine ⟨j3, by simp, fun a ha b' hb' hab => ?_⟩
    simp only [List.mem_cons, List.not_mem_nil, or_false] at hb'
    subst hb' hab
    rw [<- Bool.not_eq_true, List.contains_iff_mem] at hb
    exact hb ha
  ·have hty : cl.take y.toNat = cl := List.take_of_length_le (by omega)
   rw [hty] at j2 j3 ⊢
   have hfl2 : (t.take (x.toNat + 1)).flatten = (t.take x.toNat).flatten ++ cl := by rw [htk, List.flatten_append]; simp
   refine ⟨by simp only [inK]; omega, ⟨hu2, by omega, by omega, ?_, ?_, ?_, ?_⟩, by first | omega | (dsimp only; omega)⟩
   all_goals rw [show (x + 1).toNat = x.toNat + 1 by omega]
   ·rw [hfl2]
   ·rw [htk]
    intro d hd
    rcases List.mem_append.1 hd with hd | hd
    ·exact i1 d hd
    ·simp only [List.mem_cons, List.not_mem_nil, or_false] at hd
     subst hd
     omega
   ·rw [hfl2]; exact j2
   ·rw [hfl2]; exact j3
 ·rw [List.take_of_length_le (by omega)] at i1 i2 i3
  refine ⟨?_, hu1⟩
  congr 2
  rw [Bool.eq_iff_iff, decide_eq_true_eq, bI]
  exact ⟨fun hp => ⟨i1, i2, i3, fun e => by subst e; simp at hp⟩, fun hg => by
   have := hg.some
   have : t.length ≠ 0 := fun e => this (List.length_eq_zero_iff.1 e)
   omega⟩
abbrev ShV (s : Int × Int) : Value := .tuple #[.int .i64 s.1, .int .i64 s.2]
theorem uS {length n k : Int} (h : 1 <= n /\ n <= 6 /\ 0 <= k /\ k < n /\ 2 * n - 1 <= length /\ length <= 24) : 0 <= (length - (n - 1)) / n /\ (length - (n - 1)) / n <= 24 /\ 0 <= (length - (n - 1)) % n /\ (length - (n - 1)) % n < n /\ 0 <= k * ((length - (n - 1)) / n + 1) /\ k * ((length - (n - 1)) / n + 1) <= 150 := by
 have a : 0 <= (length - (n - 1)) / n := Int.ediv_nonneg (by omega) (by omega)
 have b : (length - (n - 1)) / n <= 24 := Int.le_trans (Int.ediv_le_self _ (by omega)) (by omega)
 have c : 0 <= k * ((length - (n - 1)) / n + 1) := Int.mul_nonneg (by omega) (by omega)
 have d : k * ((length - (n - 1)) / n + 1) <= 6 * ((length - (n - 1)) / n + 1) := Int.mul_le_mul_of_nonneg_right (by omega) (by omega)
 exact ⟨a, b, Int.emod_nonneg _ (by omega), Int.emod_lt_of_pos _ (by omega), c, by omega⟩
theorem yb (length n k : Int) {u : World} : Spec Tryz.prog pe #[.int .i64 length, .int .i64 n, .int .i64 k] u fun e u' => e = .returned (ShV (aw length n k)) /\ Ext u u' := by
 apply qB
 delta pR cnd iI lq
 simp only [decide_eq_true_eq, decide_eq_false_iff_not]
 have hd : Ext u (af u) := (Upd.refl u).drew
 have no : ¬ (1 <= n /\ n <= 6 /\ 0 <= k /\ k < n /\ 2 * n - 1 <= length /\ length <= 24) -> Ending.returned (.tuple #[.int .i64 0, .int .i64 0]) = .returned (ShV (aw length n k)) /\ Ext u u := fun hn => by
  rw [pX hn]
  exact ⟨rfl, Upd.refl u⟩
 refine ⟨fun _ => no (by omega), fun a1 => ⟨fun _ => no (by omega), fun a2 => ⟨fun _ => no (by omega), fun a3 => ⟨fun _ => no (by omega), fun a4 => ⟨fun _ => no (by omega), fun a5 => ⟨fun _ => no (by omega), fun a6 => ⟨by simp only [inK]; omega, by simp only [inK]; omega, fun _ => no (by omega), fun a7 => ?_⟩⟩⟩⟩⟩⟩⟩
 have s := uS (length := length) (n := n) (k := k) (by omega)
 have e : aw length n k = (k * ((length - (n - 1)) / n + 1) + min k ((length - (n - 1)) % n), (length - (n - 1)) / n + if k < (length - (n - 1)) % n then 1 else 0) := by
  unfold aw
  rw [if_neg (by omega), if_neg (by omega)]
 rw [e]
 generalize (length - (n - 1)) / n = D at s ⊢
 generalize (length - (n - 1)) % n = M at s ⊢
 generalize k * (D + 1) = T at s ⊢
 refine ⟨by omega, by omega, by simp only [inK]; omega, by omega, by omega, by simp only [inK]; omega, by simp only [inK]; omega, by simp only [inK]; omega, fun hk => ⟨by simp only [inK]; omega, ?_, hd⟩, fun hk => ⟨?_, hd⟩⟩
 ·rw [if_pos hk]
 ·rw [if_neg hk, Int.add_zero]
theorem js {u : World} {q : Option Addr} {t : aD} (h : Tl u q t) (c : Nat) (wide high p : Int) (hl : dO 10000000 t) :
  Spec Tryz.prog pk #[TlV q t c, .int .i64 wide, .int .i64 high, .int .i64 p] u fun e u' => e = .returned (RcV (whereT t wide high p)) /\ Ext u u' := by
 apply qx
 delta pC cnd iI lq
 simp only [decide_eq_true_eq, decide_eq_false_iff_not, Bool.not_eq_true', Bool.not_eq_false', true_and]
 have hu : Ext u (ab (ab u hole) hole) := ((Upd.refl u).alloc _).alloc _
 refine (wB (h.ext hu) c p hl).mono fun e u1 ⟨he, hu1⟩ => ?_
 have x1 := hu.ext hu1
 have zero : ∀ {v : World}, Ext u v -> whereT t wide high p = .zero -> Ending.returned (.agg #[.int .i64 0, .int .i64 0, .int .i64 0, .int .i64 0]) = .returned (RcV (whereT t wide high p)) /\ Ext u v := fun hv hz => by rw [hz]; exact ⟨rfl, hv⟩
 cases hf : findT t p with
 | none =>
  unfold vC at he
  rw [hf] at he
  have hz : whereT t wide high p = .zero := by unfold whereT; rw [hf]
  exact ⟨_, _, _, he, fun _ => zero x1 hz, fun hn => (by cases hn)⟩
 | some x =>
  obtain ⟨i, k⟩ := x
  unfold vC at he
  rw [hf] at he
  refine ⟨_, _, _, he, fun hn => (by cases hn), fun _ => (xG (h.ext x1) c hl).mono fun e u2 ⟨he, hu2⟩ => ⟨_, he, fun hb => zero (x1.ext hu2) ?_, fun hg => ?_⟩⟩
  ·unfold whereT
   rw [hf]
   dsimp only
   rw [if_pos hb]
  ·have hw : whereT t wide high p = if (aw wide t.length i).2 = 0 \/ (aw high (t.getD i []).length k).2 = 0 then .zero else ⟨(aw high (t.getD i []).length k).1, (aw wide t.length i).1, (aw high (t.getD i []).length k).2, (aw wide t.length i).2⟩ := by
    unfold whereT
    rw [hf]
    dsimp only
    rw [if_neg (by rw [hg]; simp)]
   have x2 := x1.ext hu2
   obtain ⟨hi, _, _⟩ := db hf
   refine (yb wide t.length i).mono fun e u3 ⟨he, hu3⟩ => ⟨_, _, he, ?_⟩
   have x3 := x2.ext hu3
   obtain ⟨b, o, q', c', hp, hr, hnum⟩ := (h.ext x3).at (i := i) hi
   refine ⟨b, o, hp, by omega, by omega, _, _, _, rfl, hr, (yb high (t.getD i []).length k).mono fun e u4 ⟨he, hu4⟩ => ⟨_, _, he, fun z1 => zero (x3.ext hu4) ?_, fun z1 => ⟨fun z2 => zero (x3.ext hu4) ?_, fun z2 => ⟨?_, x3.ext hu4⟩⟩⟩⟩
   ·rw [hw, if_pos (.inl z1)]
   ·rw [hw, if_pos (.inr z2)]
   ·rw [hw, if_neg (by omega)]
theorem dO.flat {B : Nat} {t : aD} (h : dO B t) : ∀ i : Nat, i <= t.length -> (t.take i).flatten.length <= i * B
 | 0, _ => by simp
 | i + 1, hi => by
  have ih := dO.flat h i (by omega)
  have := h.getD i
  rw [bN t [] (by omega), List.flatten_append, List.length_append, Nat.add_mul, Nat.one_mul]
  simp only [List.flatten_cons, List.flatten_nil, List.append_nil]
  omega
end Go.Proofs.YtkmmphkjmamckacGreatDoor
