/-
  What the statements of panes' places, apart and shared, answer: true.
-/
import Derived.Test.YtkmmphkjmamckabTKill
import Derived.Test.YtkmmphkjmamckabVKeepT
import Derived.Test.YtkmmphkjmamckabVKeepG
namespace Go.Proofs.Ytkmmphkjmamckab
open Go
set_option linter.all false

theorem pickT_ok (k : Int) {n : Int} (hn : 0 < n) (hn2 : n ≤ 1000) {u : World} : Spec Try.prog fn_fenestrakeep_pick #[.int .i64 k, .int .i64 n] u fun e u' => ∃ x : Int, e = .returned (.int .i64 x) ∧ 0 ≤ x ∧ x < n ∧ Ext u u' := by
  apply vc_fenestrakeep_pick_spec
  unfold vc_fenestrakeep_pick
  simp only [decide_eq_true_eq, decide_eq_false_iff_not]
  have h1 : k.tmod n < n := Int.tmod_lt_of_pos k hn
  have h2 : -n < k.tmod n := by
    have := Int.tmod_lt_of_pos (-k) hn
    rw [Int.neg_tmod] at this
    omega
  refine ⟨by omega, fun h => ⟨_, rfl, ?_, ?_, Upd.refl u⟩, fun h => ⟨_, rfl, by omega, h1, Upd.refl u⟩⟩
  · rw [show IntKind.wrap .i64 (k.tmod n + n) = k.tmod n + n by simp [IntKind.wrap, IntKind.signed, IntKind.bits, IntKind.min, IntKind.max]; omega]
    omega
  · rw [show IntKind.wrap .i64 (k.tmod n + n) = k.tmod n + n by simp [IntKind.wrap, IntKind.signed, IntKind.bits, IntKind.min, IntKind.max]; omega]
    omega

theorem laysK_ok {u : World} : Spec Try.prog fn_fenestrakeep_lays #[] u (Told u true) := by
  apply vc_fenestrakeep_lays_spec
  unfold vc_fenestrakeep_lays
  have e1 : Ext u (allocW u (.cells #[.int .i64 0] ty_int)) := (Upd.refl u).alloc _
  have e2 : Ext (allocW u (.cells #[.int .i64 0] ty_int)) (allocW (allocW u (.cells #[.int .i64 0] ty_int)) (.cells #[.slice (some (Addr.mk u.heap.size 0 none)) 1 1] ty_sl_int)) := (Upd.refl _).alloc _
  have n1 : Nums (allocW u (.cells #[.int .i64 0] ty_int)) (some ⟨u.heap.size, 0, none⟩) 1 [0] := (Own.fresh u (cs := numV [0]) (n := 1) (es := 1) rfl).nums
  have o2 : Own (allocW (allocW u (.cells #[.int .i64 0] ty_int)) (.cells #[.slice (some (Addr.mk u.heap.size 0 none)) 1 1] ty_sl_int)) 1 (some ⟨(allocW u (.cells #[.int .i64 0] ty_int)).heap.size, 0, none⟩) 1 1 [.slice (some (Addr.mk u.heap.size 0 none)) 1 1] := Own.fresh (allocW u (.cells #[.int .i64 0] ty_int)) (cs := [.slice (some (Addr.mk u.heap.size 0 none)) 1 1]) (n := 1) (es := 1) rfl
  have t2 : Tl (allocW (allocW u (.cells #[.int .i64 0] ty_int)) (.cells #[.slice (some (Addr.mk u.heap.size 0 none)) 1 1] ty_sl_int)) (some ⟨(allocW u (.cells #[.int .i64 0] ty_int)).heap.size, 0, none⟩) [[0]] :=
    ⟨[[.slice (some (Addr.mk u.heap.size 0 none)) 1 1]], ⟨by simpa using o2.gets, rfl, by simp⟩, ⟨_, _, rfl, n1.ext e2, fun _ _ => trivial⟩, trivial⟩
  have hs := tsplit_ok t2 1 0 3 true ⟨by decide, by simp⟩
  rw [show splitT [[0]] 0 3 true = ([[0], [3]], 0) from by decide] at hs
  have few : FewT 10000000 [[0], [3]] := ⟨by decide, by simp⟩
  refine hs.mono fun e u1 ⟨⟨p, c, he, ht⟩, hu1⟩ => ⟨_, _, _, _, he, fun _ => ?_, fun hn => (by simp at hn)⟩
  have e3 : Ext u1 (allocW u1 hole) := (Upd.refl u1).alloc _
  refine (has_ok (ht.ext e3) c 3 few).mono fun e u2 ⟨he, hu2⟩ => ⟨_, he, fun _ => ?_, fun hn => (by rw [show hasT [[0], [3]] 3 = true from by decide] at hn; cases hn)⟩
  refine (where_ok (ht.ext (e3.ext hu2)) c 9 2 3 few).mono fun e u3 ⟨he, hu3⟩ => ⟨_, _, _, _, he, ?_⟩
  rw [show whereT [[0], [3]] 9 2 3 = ⟨0, 5, 2, 4⟩ from by decide]
  exact ⟨rfl, ((((e1.ext e2).ext hu1).ext e3).ext hu2).ext hu3⟩

instance (r : Rc) (row col : Int) : Decidable (inR r row col) := by unfold inR; infer_instance

def inB (r : Rc) (row col : Int) : Bool := decide (inR r row col)

theorem in_ok {u : World} (r : Rc) (row col : Int) (h1 : inK .i64 (r.row + r.high)) (h2 : inK .i64 (r.col + r.wide)) :
    Spec Try.prog fn_fenestrakeep_in #[RcV r, .int .i64 row, .int .i64 col] u (Told u (inB r row col)) := by
  apply vc_fenestrakeep_in_spec
  unfold vc_fenestrakeep_in
  simp only [decide_eq_true_eq, decide_eq_false_iff_not]
  have hu : Ext u (allocW u hole) := (Upd.refl u).alloc _
  have no : ¬ inR r row col → Told u (inB r row col) (.returned (.bool false)) (allocW u hole) := fun hn => ⟨by unfold inB; rw [decide_eq_false hn], hu⟩
  refine ⟨fun a => ⟨h1, fun b => ⟨fun c => ⟨h2, ?_, hu⟩, fun c => no fun hh => c hh.2.2.1⟩, fun b => no fun hh => b hh.2.1⟩, fun a => no fun hh => a hh.1⟩
  unfold inB
  congr 2
  exact decide_eq_decide.2 ⟨fun d => ⟨a, b, c, d⟩, fun hh => hh.2.2.2⟩

theorem tilesApart_ok {u : World} {q : Option Addr} {t : Cols} (h : Tl u q t) (c : Nat) (hl : FewT 1048576 t) (wide high row col : Int) :
    Spec Try.prog fn_fenestrakeep_TilesApart #[TlV q t c, .int .i64 wide, .int .i64 high, .int .i64 row, .int .i64 col] u (Told u true) := by
  apply vc_fenestrakeep_TilesApart_spec
  unfold vc_fenestrakeep_TilesApart
  simp only [decide_eq_true_eq, decide_eq_false_iff_not, true_and, Bool.not_eq_true', Bool.not_eq_false']
  have hu : Ext u (allocW u hole) := (Upd.refl u).alloc _
  have few : FewT 10000000 t := ⟨by have := hl.n; omega, fun c hc => by have := hl.each c hc; omega⟩
  refine (pickT_ok wide (by decide) (by decide)).mono fun e u1 ⟨w, he, w0, w1, hu1⟩ => ⟨_, he, by simp only [inK]; omega, ?_⟩
  refine (pickT_ok high (by decide) (by decide)).mono fun e u2 ⟨g, he, g0, g1, hu2⟩ => ⟨_, he, by simp only [inK]; omega, ?_⟩
  refine (pickT_ok row (by omega) (by omega)).mono fun e u3 ⟨ro, he, ro0, ro1, hu3⟩ => ⟨_, he, ?_⟩
  refine (pickT_ok col (by omega) (by omega)).mono fun e u4 ⟨co, he, co0, co1, hu4⟩ => ⟨_, he, ?_⟩
  have x4 := (((hu.ext hu1).ext hu2).ext hu3).ext hu4
  refine ⟨fun n x v => Ext u v ∧ 0 ≤ x ∧ x ≤ 6 ∧ ((n = 0 ∧ ∀ p, 0 ≤ p → p < x → ¬ inR (whereT t (1 + w) (1 + g) p) ro co) ∨ (n = 1 ∧ ∃ p, p < x ∧ inR (whereT t (1 + w) (1 + g) p) ro co)), fun _ x _ => (6 - x).toNat, ⟨x4, by omega, by omega, .inl ⟨rfl, fun p a b => by omega⟩⟩, ?_⟩
  rintro n x v ⟨hv, h0, h6, hc⟩
  refine ⟨fun hx => ?_, fun hx => ⟨fun _ => ?_, fun hn => by omega⟩⟩
  · refine (where_ok (h.ext hv) c (1 + w) (1 + g) x few).mono fun e v1 ⟨he, hv1⟩ => ⟨_, _, _, _, he, ?_⟩
    obtain ⟨a1, a2, a3, a4, a5, a6, a7, a8⟩ := where_in t (1 + w) (1 + g) x
    have hw : Ext v1 (allocW v1 hole) := (Upd.refl v1).alloc _
    have y1 := (hv.ext hv1).ext hw
    have hin : ∀ v2, Ext u v2 → Spec Try.prog fn_fenestrakeep_in #[RcV (whereT t (1 + w) (1 + g) x), .int .i64 ro, .int .i64 co] v2 fun e v3 => ∃ b : Bool, e = .returned (.bool b) ∧
        (b = true → inK .i64 (n + 1) ∧ inK .i64 (x + 1) ∧ (Ext u v3 ∧ 0 ≤ x + 1 ∧ x + 1 ≤ 6 ∧ ((n + 1 = 0 ∧ ∀ p, 0 ≤ p → p < x + 1 → ¬ inR (whereT t (1 + w) (1 + g) p) ro co) ∨ (n + 1 = 1 ∧ ∃ p, p < x + 1 ∧ inR (whereT t (1 + w) (1 + g) p) ro co))) ∧ (6 - (x + 1)).toNat < (6 - x).toNat) ∧
        (b = false → inK .i64 (x + 1) ∧ (Ext u v3 ∧ 0 ≤ x + 1 ∧ x + 1 ≤ 6 ∧ ((n = 0 ∧ ∀ p, 0 ≤ p → p < x + 1 → ¬ inR (whereT t (1 + w) (1 + g) p) ro co) ∨ (n = 1 ∧ ∃ p, p < x + 1 ∧ inR (whereT t (1 + w) (1 + g) p) ro co))) ∧ (6 - (x + 1)).toNat < (6 - x).toNat) := fun v2 hv2 => by
      refine (in_ok _ ro co (by simp only [inK]; omega) (by simp only [inK]; omega)).mono fun e v3 ⟨he, hv3⟩ => ⟨_, he, fun hb => ?_, fun hb => ?_⟩
      · have hb := of_decide_eq_true hb
        have hn : n = 0 := by
          rcases hc with ⟨h7, _⟩ | ⟨_, p, h7, h8⟩
          · exact h7
          · have := where_apart h8 hb
            omega
        exact ⟨by simp only [inK]; omega, by simp only [inK]; omega, ⟨hv2.ext hv3, by omega, by omega, .inr ⟨by omega, x, by omega, hb⟩⟩, by omega⟩
      · have hb := of_decide_eq_false hb
        refine ⟨by simp only [inK]; omega, ⟨hv2.ext hv3, by omega, by omega, ?_⟩, by omega⟩
        rcases hc with ⟨h7, h8⟩ | ⟨h7, p, h8, h9⟩
        · refine .inl ⟨h7, fun p p0 p1 => ?_⟩
          rcases Int.lt_or_le p x with hp | hp
          · exact h8 p p0 hp
          · rw [show p = x by omega]; exact hb
        · exact .inr ⟨h7, p, by omega, h9⟩
    refine ⟨fun hn => by omega, fun _ => ⟨fun hn => by omega, fun _ => ⟨by simp only [inK]; omega, fun hn => by omega, fun _ => ⟨by simp only [inK]; omega, fun hn => by omega, fun _ => ⟨fun hn => ?_, fun _ => ⟨fun hp => ?_, fun _ => ?_⟩⟩⟩⟩⟩⟩
    · have e : decide (0 < (whereT t (1 + w) (1 + g) x).high) = decide (0 < (whereT t (1 + w) (1 + g) x).wide) := decide_eq_decide.2 a7
      rw [e] at hn
      simp at hn
    · refine (has_ok (h.ext y1) c x few).mono fun e v2 ⟨he, hv2⟩ => ⟨_, he, fun hn => (by rw [a8 hp] at hn; cases hn), fun _ => ?_⟩
      exact hin v2 (y1.ext hv2)
    · exact hin _ y1
  · exact laysK_ok.mono fun e v1 ⟨he, hv1⟩ => ⟨_, he, rfl, hv.ext hv1⟩

theorem tilesShares_ok {u : World} (length n : Int) :
    Spec Try.prog fn_fenestrakeep_TilesShares #[.int .i64 length, .int .i64 n] u (Told u true) := by
  apply vc_fenestrakeep_TilesShares_spec
  unfold vc_fenestrakeep_TilesShares
  simp only [decide_eq_true_eq, decide_eq_false_iff_not, true_and, Bool.not_eq_true', Bool.not_eq_false']
  refine (pickT_ok length (by decide) (by decide)).mono fun e u1 ⟨le, he, l0, l1, hu1⟩ => ⟨_, he, ?_⟩
  refine (pickT_ok n (by decide) (by decide)).mono fun e u2 ⟨m, he, m0, m1, hu2⟩ => ⟨_, he, by simp only [inK]; omega, ?_⟩
  have x2 := hu1.ext hu2
  clear he hu1 hu2
  obtain ⟨N, hN⟩ : ∃ N : Int, N = 1 + m := ⟨_, rfl⟩
  rw [← hN]
  obtain ⟨E, hE⟩ : ∃ E : Int, E = (le - (N - 1)) / N := ⟨_, rfl⟩
  obtain ⟨M, hM⟩ : ∃ M : Int, M = (le - (N - 1)) % N := ⟨_, rfl⟩
  have hEM : le - (N - 1) = N * E + M := by rw [hE, hM]; exact (Int.mul_ediv_add_emod _ _).symm
  refine ⟨fun sum at_ least most k v => Ext u v ∧ 0 ≤ k ∧ k ≤ N ∧ (2 * N - 1 ≤ le → at_ = k * (E + 1) + min k M ∧ sum = k * (E + 1) - k + min k M ∧ E ≤ least ∧ most ≤ E + 1 ∧ 0 ≤ most ∧ least ≤ 24), fun _ _ _ _ k _ => (N - k).toNat, ⟨x2, by omega, by omega, fun h => ?_⟩, ?_⟩
  · have := share_small (length := le) (n := N) (k := 0) (by omega)
    rw [← hE, ← hM] at this
    refine ⟨by omega, by omega, by omega, by omega, by omega, by omega⟩
  rintro sum at_ least most k v ⟨hv, k0, k1, hI⟩
  refine ⟨fun hk => ?_, fun hk => ⟨by simp only [inK]; omega, by simp only [inK]; omega, fun hs => ?_, fun hs => ?_⟩⟩
  · refine (share_ok le N k).mono fun e v1 ⟨he, hv1⟩ => ⟨_, _, he, by simp only [inK]; omega, by simp only [inK]; omega, fun hs => ?_, fun hs => ?_⟩
    · rw [share_no (by omega)]
      refine ⟨fun hn => (by simp at hn), fun _ => ⟨fun hn => (by simp at hn), fun _ => ⟨by simp only [inK]; omega, ⟨hv.ext hv1, by omega, by omega, fun h => by omega⟩, by first | omega | (dsimp only; omega)⟩⟩⟩
    · obtain ⟨i1, i2, i3, i4, i5, i6⟩ := hI (by omega)
      obtain ⟨e', m', he1, hm0, hmn, hl, h1, h2, hs'⟩ := share_eq (length := le) (n := N) (k := k) (by omega)
      have hsm := share_small (length := le) (n := N) (k := k) (by omega)
      rw [← hE, ← hM] at hsm
      rw [← hE] at h1
      rw [← hM] at h2
      rw [h1] at he1
      rw [h2] at hm0 hmn
      rw [h1, h2] at hs'
      rw [hs']
      have hx : (k + 1) * (E + 1) = k * (E + 1) + (E + 1) := by rw [Int.add_mul, Int.one_mul]
      generalize hP : k * (E + 1) = P at *
      dsimp only
      have hif : (if k < M then (1 : Int) else 0) = min (k + 1) M - min k M := by split <;> omega
      rw [hif]
      refine ⟨fun hn => (by omega), fun _ => ⟨fun hn => by omega, fun _ => ⟨by simp only [inK]; omega, by simp only [inK]; omega, by simp only [inK]; omega, by simp only [inK]; omega, ⟨hv.ext hv1, by omega, by omega, fun _ => ?_⟩, by first | omega | (dsimp only; omega)⟩⟩⟩
      rw [hx]
      refine ⟨by omega, by omega, by omega, by omega, by omega, by omega⟩
  · exact laysK_ok.mono fun e v1 ⟨he, hv1⟩ => ⟨_, he, rfl, hv.ext hv1⟩
  · obtain ⟨i1, i2, i3, i4, i5, i6⟩ := hI (by omega)
    have hkn : k = N := by omega
    subst hkn
    have hsm := share_small (length := le) (n := k) (k := k - 1) (by omega)
    rw [← hE, ← hM] at hsm
    have hx : k * (E + 1) = k * E + k := by rw [Int.mul_add, Int.mul_one]
    rw [hx] at i1 i2
    generalize k * E = P at *
    refine ⟨by simp only [inK]; omega, by simp only [inK]; omega, fun _ => ⟨by simp only [inK]; omega, fun _ => laysK_ok.mono fun e v1 ⟨he, hv1⟩ => ⟨_, he, rfl, hv.ext hv1⟩, fun hn => by omega⟩, fun hn => by omega⟩

end Go.Proofs.Ytkmmphkjmamckab
