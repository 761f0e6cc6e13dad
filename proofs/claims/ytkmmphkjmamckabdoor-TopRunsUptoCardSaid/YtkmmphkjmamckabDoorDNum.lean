/-
  Small numbers as bytes: what Go's library answers.
-/
import Derived.Test.YtkmmphkjmamckabDoorZB
import Derived.Test.YtkmmphkjmamckabDoorZP
import Derived.Test.YtkmmphkjmamckabDoorZVa
namespace Go.Proofs.YtkmmphkjmamckabDoor
open Go
set_option linter.all false

def bstr (s : Bs) : ByteArray := ByteArray.mk s.toArray

theorem bstr_of {a : ByteArray} {s : Bs} (h : a.data.toList = s) : a = bstr s := by
  subst h
  cases a
  simp [bstr]

theorem bstr_list (s : Bs) : (bstr s).data.toList = s := by simp [bstr]

theorem small_ok {i : Int} (h0 : 0 ≤ i) (h1 : i < 100) {u : World} : Spec Tryd.prog fn_internal_strconv_small #[.int .i64 i] u fun e u' => e = .returned (.string (bstr (dig i))) ∧ Ext u u' := by
  apply vc_internal_strconv_small_spec
  unfold vc_internal_strconv_small
  obtain ⟨n, rfl⟩ : ∃ n : Nat, i = n := ⟨i.toNat, by omega⟩
  simp only [decide_eq_true_eq, decide_eq_false_iff_not]
  have hn : n < 100 := by omega
  refine ⟨fun hl => ⟨by simp only [inK]; omega, by omega, by omega, ?_, ?_, Upd.refl _⟩, fun hl => ⟨by simp only [inK]; omega, by simp only [inK]; omega, by simp only [inK]; omega, by omega, by omega, ?_, ?_, Upd.refl _⟩⟩
  · show (n : Int) + 1 ≤ 36
    omega
  · congr 2
    apply bstr_of
    have hl' : n < 10 := by omega
    clear h0 h1 hl hn
    revert n
    decide +kernel
  · show (n : Int) * 2 + 2 ≤ 200
    omega
  · congr 2
    apply bstr_of
    have hl' : ¬ n < 10 := by omega
    clear h0 h1 hl
    revert n
    decide +kernel

noncomputable def cx_formatInt : Ctx := ⟨Tryd.prog, tab, [5], [], [], fns, [], []⟩

set_option maxRecDepth 100000 in
set_option maxHeartbeats 2000000 in
theorem formatInt_w {i : Int} (h0 : 0 ≤ i) (h1 : i < 100) {u : World} {R : Ending → World → Prop} (hR : ∀ u1, Ext u u1 → R (.returned (.string (bstr (dig i)))) u1) : wFunc cx_formatInt Tryd.f85 [.int .i64 i, .int .i64 10] u R := by
  conv => whnf
  refine ⟨fun _ => ?_, fun hn => by simp at hn⟩
  conv => whnf
  refine ⟨fun _ => ?_, fun hn => by simp at hn; omega⟩
  conv => whnf
  refine ⟨fun _ => ?_, fun hn => by simp at hn; omega⟩
  refine (small_ok h0 h1).mono fun e u1 ⟨he, hu1⟩ => ?_
  conv => whnf
  refine ⟨_, he, ?_⟩
  exact hR u1 hu1

theorem formatInt_ok {i : Int} (h0 : 0 ≤ i) (h1 : i < 100) {u : World} : Spec Tryd.prog fn_internal_strconv_FormatInt #[.int .i64 i, .int .i64 10] u fun e u' => e = .returned (.string (bstr (dig i))) ∧ Ext u u' :=
  func_spec (C := cx_formatInt) (fn := Tryd.f85) (args := [.int .i64 i, .int .i64 10]) (ctxOk _ _ _ _ _) Tryd.func85 rfl (formatInt_w h0 h1 fun _ h => ⟨rfl, h⟩)

theorem itoa_ok {i : Int} (h0 : 0 ≤ i) (h1 : i < 100) {u : World} : Spec Tryd.prog fn_strconv_Itoa #[.int .i64 i] u fun e u' => e = .returned (.string (bstr (dig i))) ∧ Ext u u' := by
  apply vc_strconv_Itoa_spec
  unfold vc_strconv_Itoa
  refine Spec.mono (R := fun e u' => e = .returned (.string (bstr (dig i))) ∧ Ext u u') ?_ fun e u1 ⟨he, hu1⟩ => ⟨_, he, rfl, hu1⟩
  apply vc_internal_strconv_Itoa_spec
  unfold vc_internal_strconv_Itoa
  exact (formatInt_ok h0 h1).mono fun e u1 ⟨he, hu1⟩ => ⟨_, he, rfl, hu1⟩

end Go.Proofs.YtkmmphkjmamckabDoor
