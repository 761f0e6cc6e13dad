import Derived.Test.YtkmmphkjmamckacDoorCtx
namespace Go.Proofs.YtkmmphkjmamckacDoor
open Go
set_option linter.all false

/-- strconv.Itoa -/
noncomputable def cx_strconv_Itoa : Ctx := ⟨Tryd.prog, tab, [], [], [], fns, [], []⟩
def vc_strconv_Itoa (i : Int) (u : World) (R : Ending → World → Prop) : Prop :=
    Spec Tryd.prog 80 #[.int .i64 i] u (fun e u1 => ∃ (x4 : ByteArray), e = .returned (.string x4) ∧
  R (.returned (.string x4)) u1)
set_option maxRecDepth 100000 in
theorem vc_strconv_Itoa_eq (i : Int) (u : World) (R : Ending → World → Prop) : wFunc cx_strconv_Itoa Tryd.f65 [.int .i64 i] u R = vc_strconv_Itoa i u R := by kernel_rfl
theorem vc_strconv_Itoa_spec (i : Int) {u : World} {R : Ending → World → Prop} (h : vc_strconv_Itoa i u R) : Spec Tryd.prog fn_strconv_Itoa #[.int .i64 i] u R := func_spec (C := cx_strconv_Itoa) (fn := Tryd.f65) (args := [.int .i64 i]) (ctxOk _ _ _ _ _) Tryd.func65 (vc_strconv_Itoa_eq i u R) h

/-- internal/strconv.Itoa -/
noncomputable def cx_internal_strconv_Itoa : Ctx := ⟨Tryd.prog, tab, [], [], [], fns, [], []⟩
def vc_internal_strconv_Itoa (i : Int) (u : World) (R : Ending → World → Prop) : Prop :=
    Spec Tryd.prog 93 #[.int .i64 i, .int .i64 10] u (fun e u1 => ∃ (x4 : ByteArray), e = .returned (.string x4) ∧
  R (.returned (.string x4)) u1)
set_option maxRecDepth 100000 in
theorem vc_internal_strconv_Itoa_eq (i : Int) (u : World) (R : Ending → World → Prop) : wFunc cx_internal_strconv_Itoa Tryd.f80 [.int .i64 i] u R = vc_internal_strconv_Itoa i u R := by kernel_rfl
theorem vc_internal_strconv_Itoa_spec (i : Int) {u : World} {R : Ending → World → Prop} (h : vc_internal_strconv_Itoa i u R) : Spec Tryd.prog fn_internal_strconv_Itoa #[.int .i64 i] u R := func_spec (C := cx_internal_strconv_Itoa) (fn := Tryd.f80) (args := [.int .i64 i]) (ctxOk _ _ _ _ _) Tryd.func80 (vc_internal_strconv_Itoa_eq i u R) h

/-- internal/strconv.small -/
noncomputable def cx_internal_strconv_small : Ctx := ⟨Tryd.prog, tab, [], [], [], fns, [], []⟩
def vc_internal_strconv_small (i : Int) (u : World) (R : Ending → World → Prop) : Prop :=
      (((decide (i < 10)) = true → inK .i64 (i + 1) ∧ 0 ≤ i ∧ i ≤ (i + 1) ∧
      (i + 1) ≤ (((ByteArray.mk #[48, 49, 50, 51, 52, 53, 54, 55, 56, 57, 97, 98, 99, 100, 101, 102, 103, 104, 105, 106, 107, 108, 109, 110, 111, 112, 113, 114, 115, 116, 117, 118, 119, 120, 121, 122]).size : Nat) : Int) ∧
    R (.returned (.string ((ByteArray.mk #[48, 49, 50, 51, 52, 53, 54, 55, 56, 57, 97, 98, 99, 100, 101, 102, 103, 104, 105, 106, 107, 108, 109, 110, 111, 112, 113, 114, 115, 116, 117, 118, 119, 120, 121, 122]).extract i.toNat (i + 1).toNat))) u) ∧
      ((decide (i < 10)) = false → inK .i64 (i * 2) ∧ inK .i64 (i * 2) ∧
      inK .i64 ((i * 2) + 2) ∧ 0 ≤ (i * 2) ∧ (i * 2) ≤ ((i * 2) + 2) ∧
      ((i * 2) + 2) ≤ (((ByteArray.mk #[48, 48, 48, 49, 48, 50, 48, 51, 48, 52, 48, 53, 48, 54, 48, 55, 48, 56, 48, 57, 49, 48, 49, 49, 49, 50, 49, 51, 49, 52, 49, 53, 49, 54, 49, 55, 49, 56, 49, 57, 50, 48, 50, 49, 50, 50, 50, 51, 50, 52, 50, 53, 50, 54, 50, 55, 50, 56, 50, 57, 51, 48, 51, 49, 51, 50, 51, 51, 51, 52, 51, 53, 51, 54, 51, 55, 51, 56, 51, 57, 52, 48, 52, 49, 52, 50, 52, 51, 52, 52, 52, 53, 52, 54, 52, 55, 52, 56, 52, 57, 53, 48, 53, 49, 53, 50, 53, 51, 53, 52, 53, 53, 53, 54, 53, 55, 53, 56, 53, 57, 54, 48, 54, 49, 54, 50, 54, 51, 54, 52, 54, 53, 54, 54, 54, 55, 54, 56, 54, 57, 55, 48, 55, 49, 55, 50, 55, 51, 55, 52, 55, 53, 55, 54, 55, 55, 55, 56, 55, 57, 56, 48, 56, 49, 56, 50, 56, 51, 56, 52, 56, 53, 56, 54, 56, 55, 56, 56, 56, 57, 57, 48, 57, 49, 57, 50, 57, 51, 57, 52, 57, 53, 57, 54, 57, 55, 57, 56, 57, 57]).size : Nat) : Int) ∧
  R (.returned (.string ((ByteArray.mk #[48, 48, 48, 49, 48, 50, 48, 51, 48, 52, 48, 53, 48, 54, 48, 55, 48, 56, 48, 57, 49, 48, 49, 49, 49, 50, 49, 51, 49, 52, 49, 53, 49, 54, 49, 55, 49, 56, 49, 57, 50, 48, 50, 49, 50, 50, 50, 51, 50, 52, 50, 53, 50, 54, 50, 55, 50, 56, 50, 57, 51, 48, 51, 49, 51, 50, 51, 51, 51, 52, 51, 53, 51, 54, 51, 55, 51, 56, 51, 57, 52, 48, 52, 49, 52, 50, 52, 51, 52, 52, 52, 53, 52, 54, 52, 55, 52, 56, 52, 57, 53, 48, 53, 49, 53, 50, 53, 51, 53, 52, 53, 53, 53, 54, 53, 55, 53, 56, 53, 57, 54, 48, 54, 49, 54, 50, 54, 51, 54, 52, 54, 53, 54, 54, 54, 55, 54, 56, 54, 57, 55, 48, 55, 49, 55, 50, 55, 51, 55, 52, 55, 53, 55, 54, 55, 55, 55, 56, 55, 57, 56, 48, 56, 49, 56, 50, 56, 51, 56, 52, 56, 53, 56, 54, 56, 55, 56, 56, 56, 57, 57, 48, 57, 49, 57, 50, 57, 51, 57, 52, 57, 53, 57, 54, 57, 55, 57, 56, 57, 57]).extract (i * 2).toNat ((i * 2) + 2).toNat))) u))
set_option maxRecDepth 100000 in
theorem vc_internal_strconv_small_eq (i : Int) (u : World) (R : Ending → World → Prop) : wFunc cx_internal_strconv_small Tryd.f104 [.int .i64 i] u R = vc_internal_strconv_small i u R := by kernel_rfl
theorem vc_internal_strconv_small_spec (i : Int) {u : World} {R : Ending → World → Prop} (h : vc_internal_strconv_small i u R) : Spec Tryd.prog fn_internal_strconv_small #[.int .i64 i] u R := func_spec (C := cx_internal_strconv_small) (fn := Tryd.f104) (args := [.int .i64 i]) (ctxOk _ _ _ _ _) Tryd.func104 (vc_internal_strconv_small_eq i u R) h

end Go.Proofs.YtkmmphkjmamckacDoor
