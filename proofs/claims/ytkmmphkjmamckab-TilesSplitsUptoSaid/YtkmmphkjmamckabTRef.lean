/-
  The document's own panes: laid out, shares, places.
-/
import Derived.Test.YtkmmphkjmamckabTWalk
import Derived.Test.YtkmmphkjmamckabVRefT
namespace Go.Proofs.Ytkmmphkjmamckab
open Go
set_option linter.all false

theorem isPane_ok (p : Int) {u : World} : Spec Try.prog fn_fenestraref_isPane #[.int .i64 p] u (Told u (isPane p)) := by
  apply vc_fenestraref_isPane_spec
  unfold vc_fenestraref_isPane
  simp only [decide_eq_true_eq, decide_eq_false_iff_not]
  refine ⟨fun h => ⟨?_, Upd.refl u⟩, fun h => ⟨?_, Upd.refl u⟩⟩
  · congr 2
    unfold isPane
    exact decide_eq_decide.2 (by omega)
  · congr 2
    symm
    unfold isPane
    exact decide_eq_false (by omega)

theorem FewT.flat {B : Nat} {t : Cols} (h : FewT B t) : ∀ i : Nat, i ≤ t.length → (t.take i).flatten.length ≤ i * B
  | 0, _ => by simp
  | i + 1, hi => by
    have ih := FewT.flat h i (by omega)
    have := h.getD i
    rw [take_succ_getD t [] (by omega), List.flatten_append, List.length_append, Nat.add_mul, Nat.one_mul]
    simp only [List.flatten_cons, List.flatten_nil, List.append_nil]
    omega

theorem numV_append (l m : List Int) : numV (l ++ m) = numV l ++ numV m := by simp [numV]

theorem all_ok {u : World} {q : Option Addr} {t : Cols} (h : Tl u q t) (c : Nat) (hl : FewT 1048576 t) :
    Spec Try.prog fn_fenestraref_all #[TlV q t c] u fun e u' => ∃ p c', e = .returned (.slice p t.flatten.length c') ∧ Own u' 1 p t.flatten.length c' (numV t.flatten) ∧ (∀ k, At p k → u.heap.size ≤ k) ∧ Ext u u' := by
  apply vc_fenestraref_all_spec
  unfold vc_fenestraref_all
  simp only [decide_eq_true_eq, decide_eq_false_iff_not, true_and]
  have hu : Ext u (allocW u hole) := (Upd.refl u).alloc _
  have hn := hl.n
  refine ⟨fun p n cap x u1 => Ext u u1 ∧ 0 ≤ x ∧ x ≤ t.length ∧ n = ((t.take x.toNat).flatten).length ∧ Own u1 1 p n cap (numV ((t.take x.toNat).flatten)) ∧ (∀ k, At p k → u.heap.size ≤ k), fun _ _ _ x _ => (t.length - x).toNat,
    ⟨hu, Int.le_refl _, by omega, rfl, Own.nil _ _, fun k hk => (at_none hk).elim⟩, ?_⟩
  rintro p n cap x u1 ⟨hu1, h0, h1, rfl, ho, hk⟩
  refine ⟨fun hx => ?_, fun hx => ?_⟩
  · obtain ⟨b, o, q', c', hp, hr, hnum⟩ := (h.ext hu1).at (i := x.toNat) (by omega)
    have hb := hl.flat x.toNat (by omega)
    have hb2 := hl.getD x.toNat
    have hm : x.toNat * 1048576 ≤ 1048576 * 1048576 := Nat.mul_le_mul_right _ (by omega)
    refine ⟨b, o, hp, h0, hx, _, _, _, rfl, hr, numV ((t.take x.toNat).flatten), numV (t.getD x.toNat []), by rw [numV_len]; omega, ho.gets, by rw [numV_len]; omega, hnum.1, by decide, by omega, numV_ok _, fun hcc => ho.wrs (by omega), fun p' cap' u2 hr2 => ?_⟩
    obtain ⟨a1, a2, a3⟩ := ho.app hr2 (by rw [numV_len]; omega) ho.gets (by rw [numV_len]; omega) rfl
    have hfl : (t.take (x + 1).toNat).flatten = (t.take x.toNat).flatten ++ t.getD x.toNat [] := by
      rw [show (x + 1).toNat = x.toNat + 1 by omega, take_succ_getD t [] (by omega), List.flatten_append]
      simp
    refine ⟨by simp only [inK]; omega, ⟨(hu1.trans a2 fun k hk' hat => by have := hk k hat; omega).mono fun _ _ h => h, by omega, by omega, ?_, ?_, fun k hk' => ?_⟩, by first | omega | (dsimp only; omega)⟩
    · rw [hfl, List.length_append]
    · rw [hfl, numV_append]
      exact a1
    · rcases a3 with ⟨rfl, _⟩ | ⟨rfl, _⟩
      · exact hk k hk'
      · rw [at_some hk']; exact hu1.size
  · rw [List.take_of_length_le (by omega)] at ho ⊢
    exact ⟨p, cap, rfl, ho, hk, hu1⟩

theorem goodTiles_ok {u : World} {q : Option Addr} {t : Cols} (h : Tl u q t) (c : Nat) (hl : FewT 1048576 t) :
    Spec Try.prog fn_fenestraref_GoodTiles #[TlV q t c] u (Told u (goodT t)) := by
  apply vc_fenestraref_GoodTiles_spec
  unfold vc_fenestraref_GoodTiles
  simp only [decide_eq_true_eq, decide_eq_false_iff_not, Bool.not_eq_true', Bool.not_eq_false', true_and]
  have hu : Ext u (allocW u hole) := (Upd.refl u).alloc _
  have hn := hl.n
  have no : ∀ {v : World}, Ext u v → ¬ GoodT t → Told u (goodT t) (.returned (.bool false)) v := fun hv hn => ⟨by
    congr 2
    symm
    rw [← Bool.not_eq_true, goodT_iff]
    exact hn, hv⟩
  refine ⟨fun x u1 => Ext u u1 ∧ 0 ≤ x ∧ x ≤ t.length ∧ ∀ i : Nat, i < x.toNat → 1 ≤ (t.getD i []).length ∧ (t.getD i []).length ≤ 3, fun x _ => (t.length - x).toNat, ⟨hu, by omega, by omega, by omega⟩, fun x u1 ⟨hu1, h0, h1, hi⟩ => ⟨fun hx => ?_, fun hx => ?_⟩⟩
  · obtain ⟨b, o, q', c', hp, hr, hnum⟩ := (h.ext hu1).at (i := x.toNat) (by omega)
    have hcm : t.getD x.toNat [] ∈ t := getD_mem (by omega)
    refine ⟨b, o, hp, h0, hx, _, _, _, rfl, hr, fun hb => no hu1 fun hg => by have := (hg.each _ hcm).1; omega, fun hb => ⟨fun hb => no hu1 fun hg => by have := (hg.each _ hcm).2; omega, fun hb2 => ⟨by simp only [inK]; omega, ⟨hu1, by omega, by omega, fun i hi' => ?_⟩, by first | omega | (dsimp only; omega)⟩⟩⟩
    rcases (by omega : i < x.toNat ∨ i = x.toNat) with h | rfl
    · exact hi i h
    · omega
  · have heach : ∀ c ∈ t, 1 ≤ c.length ∧ c.length ≤ 3 := fun c hc => by
      obtain ⟨i, hi', rfl⟩ := List.getElem_of_mem hc
      have := hi i (by omega)
      rwa [List.getD_eq_getElem?_getD, List.getElem?_eq_getElem hi'] at this
    refine (all_ok (h.ext hu1) c hl).mono fun e u2 ⟨lp, lc, he, ho, hk, hu2⟩ => ⟨_, _, _, he, ?_⟩
    have x2 := hu1.ext hu2
    have hfl : t.flatten.length ≤ 1048576 * 1048576 := by
      have := hl.flat t.length (Nat.le_refl _)
      rw [List.take_length] at this
      exact Nat.le_trans this (Nat.mul_le_mul_right _ hn)
    refine ⟨fun x v => Ext u v ∧ Ext u2 v ∧ 0 ≤ x ∧ x ≤ t.flatten.length ∧ (∀ p ∈ t.flatten.take x.toNat, isPane p = true) ∧ (t.flatten.take x.toNat).Nodup, fun x _ => (t.flatten.length - x).toNat, ⟨x2, Upd.refl _, by omega, by omega, by simp, by simp⟩, fun x v ⟨hv, hv2, y0, y1, j1, j2⟩ => ⟨fun hx => ?_, fun hx => ?_⟩⟩
    · obtain ⟨bb, rfl⟩ := ho.some' (by omega)
      have hN := ho.nums
      obtain ⟨b1, o1, hp1, hr1⟩ := (hN.ext hv2).at (i := x.toNat) (by omega)
      have hpre := col_pre (c := t.flatten) (j := x.toNat) (by omega)
      have htk := take_succ_getD t.flatten 0 (i := x.toNat) (by omega)
      have hpm : t.flatten.getD x.toNat 0 ∈ t.flatten := getD_mem (by omega)
      generalize t.flatten.getD x.toNat 0 = w at hr1 hpre htk hpm
      have hle := ho.le
      refine ⟨b1, o1, hp1, y0, hx, _, rfl, hr1, (isPane_ok w).mono fun e u3 ⟨he, hu3⟩ => ⟨_, he, fun hb => no (hv.ext hu3) fun hg => (by rw [hg.pane _ hpm] at hb; cases hb), fun hw => ⟨Int.le_refl _, y0, by omega, ?_⟩⟩⟩
      have hcut : (if lc = (0 : Int).toNat then some (Addr.mk bb 0 none) else Option.map (fun a => Addr.add a ((0 : Int).toNat * 1)) (some (Addr.mk bb 0 none))) = some ⟨bb, 0, none⟩ := by
        split
        · rfl
        · rfl
      refine ⟨fun y v2 => Ext u v2 ∧ Ext u2 v2 ∧ 0 ≤ y ∧ y ≤ x ∧ ∀ i : Nat, i < y.toNat → t.flatten.getD i 0 ≠ w, fun y _ => (x - y).toNat, ⟨hv.ext hu3, hv2.ext hu3, Int.le_refl _, y0, by omega⟩, fun y v2 ⟨hv3, hv4, z0, z1, k1⟩ => ⟨fun hy => ?_, fun hy => ⟨by simp only [inK]; omega, ⟨hv3, hv4, by omega, by omega, ?_, ?_⟩, by first | omega | (dsimp only; omega)⟩⟩⟩
      · obtain ⟨b2, o2, hp2, hr2⟩ := (hN.ext hv4).at (i := y.toNat) (by omega)
        rw [hcut]
        refine ⟨b2, o2, hp2, z0, hy, _, rfl, hr2, fun heq => no hv3 fun hg => ?_, fun hne => ⟨by simp only [inK]; omega, ⟨hv3, hv4, by omega, by omega, fun i hi' => ?_⟩, by first | omega | (dsimp only; omega)⟩⟩
        · have := hg.nodup
          rw [hpre, List.nodup_append] at this
          refine this.2.2 w ?_ w (by simp) rfl
          rw [heq]
          have : (t.flatten.take x.toNat).getD y.toNat 0 = t.flatten.getD y.toNat 0 := by
            rw [List.getD_eq_getElem?_getD, List.getElem?_take_of_lt (by omega), ← List.getD_eq_getElem?_getD]
          rw [← this]
          exact getD_mem (by rw [List.length_take]; omega)
        · rcases (by omega : i < y.toNat ∨ i = y.toNat) with h | rfl
          · exact k1 i h
          · exact fun h => hne h.symm
      all_goals rw [show (x + 1).toNat = x.toNat + 1 by omega, htk]
      · intro p hp
        rcases List.mem_append.1 hp with hp | hp
        · exact j1 p hp
        · simp only [List.mem_cons, List.not_mem_nil, or_false] at hp
          rw [hp]; exact hw
      · rw [List.nodup_append]
        refine ⟨j2, by simp, fun a ha b' hb' hab => ?_⟩
        simp only [List.mem_cons, List.not_mem_nil, or_false] at hb'
        subst hb' hab
        obtain ⟨i, hi', hie⟩ := List.getElem_of_mem ha
        rw [List.length_take] at hi'
        refine k1 i (by omega) ?_
        rw [List.getElem_take] at hie
        rw [List.getD_eq_getElem?_getD, List.getElem?_eq_getElem (by omega), ← hie]
        rfl
    · have hx' : t.flatten.take x.toNat = t.flatten := List.take_of_length_le (by omega)
      rw [hx'] at j1 j2
      refine ⟨?_, hv⟩
      congr 2
      rw [Bool.eq_iff_iff, decide_eq_true_eq, goodT_iff]
      exact ⟨fun hp => ⟨heach, j1, j2, fun e => by subst e; simp at hp⟩, fun hg => by
        have := cols_len fun c hc => (hg.each c hc).1
        have h2 := hg.some
        have : t.length ≠ 0 := fun e => h2 (List.length_eq_zero_iff.1 e)
        omega⟩

theorem shareOf_ok (length n k : Int) {u : World} : Spec Try.prog fn_fenestraref_ShareOf #[.int .i64 length, .int .i64 n, .int .i64 k] u fun e u' => e = .returned (ShV (shareT length n k)) ∧ Ext u u' := by
  apply vc_fenestraref_ShareOf_spec
  unfold vc_fenestraref_ShareOf
  simp only [decide_eq_true_eq, decide_eq_false_iff_not]
  have no : ¬ (1 ≤ n ∧ n ≤ 6 ∧ 0 ≤ k ∧ k < n ∧ 2 * n - 1 ≤ length ∧ length ≤ 24) → Ending.returned (.tuple #[.int .i64 0, .int .i64 0]) = .returned (ShV (shareT length n k)) ∧ Ext u u := fun hn => by
    rw [share_no hn]
    exact ⟨rfl, Upd.refl u⟩
  refine ⟨fun _ => no (by omega), fun a1 => ⟨fun _ => no (by omega), fun a2 => ⟨fun _ => no (by omega), fun a3 => ⟨fun _ => no (by omega), fun a4 => ⟨by simp only [inK]; omega, by simp only [inK]; omega, fun _ => no (by omega), fun a5 => ⟨fun _ => no (by omega), fun a6 => ⟨by simp only [inK]; omega, by simp only [inK]; omega, ?_⟩⟩⟩⟩⟩⟩⟩
  have s := share_small (length := length) (n := n) (k := k) (by omega)
  have e : shareT length n k = (k * ((length - (n - 1)) / n + 1) + min k ((length - (n - 1)) % n), (length - (n - 1)) / n + if k < (length - (n - 1)) % n then 1 else 0) := by
    unfold shareT
    rw [if_neg (by omega), if_neg (by omega)]
  rw [e, show length - n + 1 = length - (n - 1) by omega]
  have hL : 0 ≤ length - (n - 1) ∧ length - (n - 1) ≤ 24 := by omega
  generalize length - (n - 1) = L at s hL ⊢
  generalize L / n = D at s ⊢
  generalize L % n = M at s ⊢
  refine ⟨fun a i v => Ext u v ∧ 0 ≤ i ∧ i ≤ k ∧ a = i * (D + 1) + min i M ∧ 0 ≤ a ∧ a ≤ i * 30, fun _ i _ => (k - i).toNat, ⟨Upd.refl u, Int.le_refl _, by omega, by rw [Int.zero_mul]; omega, Int.le_refl _, by omega⟩, ?_⟩
  rintro a i v ⟨hv, i0, i1, ha, b0, b1⟩
  have e2 : (i + 1) * (D + 1) = i * (D + 1) + (D + 1) := by rw [Int.add_mul, Int.one_mul]
  refine ⟨by omega, by omega, by simp only [inK]; omega, by omega, by omega, fun hM => ⟨by simp only [inK]; omega, fun hk => ?_, fun hk => ⟨by simp only [inK]; omega, by simp only [inK]; omega, by simp only [inK]; omega, ⟨hv, by omega, by omega, by rw [e2]; omega, by omega, by omega⟩, by first | omega | (dsimp only; omega)⟩⟩, fun hM => ⟨fun hk => ?_, fun hk => ⟨by simp only [inK]; omega, by simp only [inK]; omega, by simp only [inK]; omega, ⟨hv, by omega, by omega, by rw [e2]; omega, by omega, by omega⟩, by first | omega | (dsimp only; omega)⟩⟩⟩
  · subst hk
    rw [if_pos hM, ← ha]
    exact ⟨rfl, hv⟩
  · subst hk
    rw [if_neg hM, ← ha, Int.add_zero]
    exact ⟨rfl, hv⟩

theorem find_unique {t : Cols} (hg : GoodT t) {p : Int} {i k : Nat} (hi : i < t.length) (hk : k < (t.getD i []).length) (hp : (t.getD i []).getD k 0 = p) : findT t p = some (i, k) := by
  have hfl := flat_pre hi
  have hpre := col_pre hk
  rw [hp] at hpre
  have hn := hg.nodup
  rw [hfl, hpre, List.nodup_append] at hn
  have h1 : ∀ j : Nat, j < k → (t.getD i []).getD j 0 ≠ p := fun j hj e => by
    have h2 := hn.2.1
    rw [List.append_assoc, List.nodup_append] at h2
    refine h2.2.2 p ?_ p (by simp) rfl
    rw [← e]
    have : ((t.getD i []).take k).getD j 0 = (t.getD i []).getD j 0 := by
      rw [List.getD_eq_getElem?_getD, List.getElem?_take_of_lt (by omega), ← List.getD_eq_getElem?_getD]
    rw [← this]
    exact getD_mem (by rw [List.length_take]; omega)
  have f := idx_first hk hp h1
  rw [find_at hi f.1 fun j hj => ?_, f.2]
  rw [← Bool.not_eq_true, List.contains_iff_mem]
  intro hm
  refine hn.2.2 p ?_ p (by simp) rfl
  rw [List.mem_flatten]
  refine ⟨t.getD j [], ?_, hm⟩
  have : (t.take i).getD j [] = t.getD j [] := by
    rw [List.getD_eq_getElem?_getD, List.getElem?_take_of_lt (by omega), ← List.getD_eq_getElem?_getD]
  rw [← this]
  exact getD_mem (by rw [List.length_take]; omega)

theorem where_of {t : Cols} (hg : GoodT t) {wide high p : Int} {i k : Nat} (hf : findT t p = some (i, k)) : whereT t wide high p = if (shareT wide t.length i).2 = 0 ∨ (shareT high (t.getD i []).length k).2 = 0 then .zero else ⟨(shareT high (t.getD i []).length k).1, (shareT wide t.length i).1, (shareT high (t.getD i []).length k).2, (shareT wide t.length i).2⟩ := by
  unfold whereT
  rw [hf]
  dsimp only
  rw [if_neg (by rw [goodT_iff.2 hg]; simp)]

theorem placeOf_ok {u : World} {q : Option Addr} {t : Cols} (h : Tl u q t) (c : Nat) (wide high p : Int) (hl : FewT 1048576 t) :
    Spec Try.prog fn_fenestraref_PlaceOf #[TlV q t c, .int .i64 wide, .int .i64 high, .int .i64 p] u fun e u' => e = .returned (RcV (whereT t wide high p)) ∧ Ext u u' := by
  apply vc_fenestraref_PlaceOf_spec
  unfold vc_fenestraref_PlaceOf
  simp only [decide_eq_true_eq, decide_eq_false_iff_not, Bool.not_eq_true', Bool.not_eq_false', true_and]
  have hu : Ext u (allocW (allocW u hole) hole) := ((Upd.refl u).alloc _).alloc _
  refine (goodTiles_ok (h.ext hu) c hl).mono fun e u1 ⟨he, hu1⟩ => ⟨_, he, fun hb => ?_, fun hb => ?_⟩
  · have hz : whereT t wide high p = .zero := by
      unfold whereT
      split
      · rfl
      · rw [if_pos hb]
    rw [hz]
    exact ⟨rfl, hu.ext hu1⟩
  have hg := goodT_iff.1 hb
  have x1 := hu.ext hu1
  have hn := hl.n
  refine ⟨fun x a b c d v => Ext u v ∧ 0 ≤ x ∧ x ≤ t.length ∧ ∀ i k : Nat, i < x.toNat → findT t p = some (i, k) → (shareT wide t.length i).2 = 0 ∨ (shareT high (t.getD i []).length k).2 = 0, fun x _ _ _ _ _ => (t.length - x).toNat, ⟨x1, Int.le_refl _, by omega, by omega⟩, ?_⟩
  rintro x a1 a2 a3 a4 v ⟨hv, h0, h1, hi⟩
  refine ⟨fun hx => ?_, fun hx => ⟨?_, hv⟩⟩
  · obtain ⟨b, o, q', c', hp, hr, hnum⟩ := (h.ext hv).at (i := x.toNat) (by omega)
    have hcl := hl.getD x.toNat
    refine ⟨b, o, hp, h0, hx, _, _, _, rfl, hr, ?_⟩
    refine ⟨fun y a b c d w => Ext u w ∧ Ext v w ∧ 0 ≤ y ∧ y ≤ (t.getD x.toNat []).length ∧ ∀ k : Nat, k < y.toNat → findT t p = some (x.toNat, k) → (shareT wide t.length x.toNat).2 = 0 ∨ (shareT high (t.getD x.toNat []).length k).2 = 0, fun y _ _ _ _ _ => ((t.getD x.toNat []).length - y).toNat, ⟨hv, Upd.refl _, Int.le_refl _, by omega, by omega⟩, ?_⟩
    rintro y b1 b2 b3 b4 w ⟨hw, hvw, y0, y1, hk⟩
    refine ⟨fun hy => ?_, fun hy => ⟨by simp only [inK]; omega, ⟨hw, by omega, by omega, fun i k hi' hf => ?_⟩, by first | omega | (dsimp only; omega)⟩⟩
    · obtain ⟨b5, o5, hp5, hr5⟩ := (hnum.ext hvw).at (i := y.toNat) (by omega)
      refine ⟨b5, o5, hp5, y0, hy, _, rfl, hr5, fun hne => ⟨by simp only [inK]; omega, ⟨hw, hvw, by omega, by omega, fun k hk' hf => ?_⟩, by first | omega | (dsimp only; omega)⟩, fun heq => ?_⟩
      · rcases (by omega : k < y.toNat ∨ k = y.toNat) with h | rfl
        · exact hk k h hf
        · exact (hne (find_some hf).2.2).elim
      · have hf := find_unique hg (by omega) (by omega) heq
        refine (shareOf_ok wide t.length x).mono fun e u3 ⟨he, hu3⟩ => ⟨_, _, he, (shareOf_ok high (t.getD x.toNat []).length y).mono fun e u4 ⟨he, hu4⟩ => ⟨_, _, he, ?_⟩⟩
        have ex : x = ((x.toNat : Nat) : Int) := by omega
        have ey : y = ((y.toNat : Nat) : Int) := by omega
        have xw := (hw.ext hu3).ext hu4
        have xv := (hvw.ext hu3).ext hu4
        have s1 := (share_nonneg wide t.length x).2
        have s2 := (share_nonneg high (t.getD x.toNat []).length y).2
        have next : (shareT wide t.length x).2 = 0 ∨ (shareT high (t.getD x.toNat []).length y).2 = 0 → inK .i64 (y + 1) ∧ (Ext u u4 ∧ Ext v u4 ∧ 0 ≤ y + 1 ∧ y + 1 ≤ (t.getD x.toNat []).length ∧ ∀ k : Nat, k < (y + 1).toNat → findT t p = some (x.toNat, k) → (shareT wide t.length x.toNat).2 = 0 ∨ (shareT high (t.getD x.toNat []).length k).2 = 0) ∧ (((t.getD x.toNat []).length : Int) - (y + 1)).toNat < (((t.getD x.toNat []).length : Int) - y).toNat := fun hz => by
          refine ⟨by simp only [inK]; omega, ⟨xw, xv, by omega, by omega, fun k hk' hf' => ?_⟩, by omega⟩
          rw [hf] at hf'
          cases hf'
          rw [← ex, ← ey]
          exact hz
        refine ⟨fun p1 => ⟨fun p2 => ⟨?_, xw⟩, fun p2 => next (.inr (by omega))⟩, fun p1 => next (.inl (by omega))⟩
        rw [where_of hg hf, ← ex, ← ey, if_neg (by omega)]
    · rcases (by omega : i < x.toNat ∨ i = x.toNat) with h | rfl
      · exact hi i k h hf
      · exact hk k (by have := (find_some hf).2.1; omega) hf
  · cases hf : findT t p with
    | none =>
      unfold whereT
      rw [hf]
    | some z =>
      obtain ⟨i, k⟩ := z
      have hlt := (find_some hf).1
      rw [where_of hg hf, if_pos (hi i k (by omega) hf)]

end Go.Proofs.Ytkmmphkjmamckab
