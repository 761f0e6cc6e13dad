import Derived.Test.YtkmmphkjmamckacDoorCtx
namespace Go.Proofs.YtkmmphkjmamckacDoor
open Go
set_option linter.all false

/-- slices.Clone[[]int,int] -/
noncomputable def cx_slices_Clone_int_int : Ctx := ⟨Tryd.prog, tab, [], [], [], fns, [], []⟩
def vc_slices_Clone_int_int (s_p : Option Addr) (s_n s_c : Nat) (u : World) (R : Ending → World → Prop) : Prop :=
    (((Option.isNone s_p) = true → R (.returned (.slice none 0 0)) u) ∧
      ((Option.isNone s_p) = false → ∃ old new : List Value, old.length = 0 * 1 ∧
      Gets (allocW u (.cells #[] 3)) (some (Addr.mk u.heap.size 0 none)) old ∧
      new.length = s_n * 1 ∧ Gets (allocW u (.cells #[] 3)) s_p new ∧
      0 < 8 ∧ (2 * (0 + s_n) + 192) * 8 ≤ 140737488355328 ∧ okCells new True ∧
      (0 + s_n ≤ 0 → WrS (allocW u (.cells #[] 3)) (some (Addr.mk u.heap.size 0 none)) (0 * 1) (s_n * 1)) ∧
      ∀ p cap u1, AppR (allocW u (.cells #[] 3)) 3 1 [.int .i64 0] (some (Addr.mk u.heap.size 0 none)) 0 0 s_n old new p cap u1 →
  R (.returned (.slice p (0 + s_n) cap)) u1))
set_option maxRecDepth 100000 in
theorem vc_slices_Clone_int_int_eq (s_p : Option Addr) (s_n s_c : Nat) (u : World) (R : Ending → World → Prop) : wFunc cx_slices_Clone_int_int Tryd.f68 [.slice s_p s_n s_c] u R = vc_slices_Clone_int_int s_p s_n s_c u R := by kernel_rfl
theorem vc_slices_Clone_int_int_spec (s_p : Option Addr) (s_n s_c : Nat) {u : World} {R : Ending → World → Prop} (h : vc_slices_Clone_int_int s_p s_n s_c u R) : Spec Tryd.prog fn_slices_Clone_int_int #[.slice s_p s_n s_c] u R := func_spec (C := cx_slices_Clone_int_int) (fn := Tryd.f68) (args := [.slice s_p s_n s_c]) (ctxOk _ _ _ _ _) Tryd.func68 (vc_slices_Clone_int_int_eq s_p s_n s_c u R) h

end Go.Proofs.YtkmmphkjmamckacDoor
