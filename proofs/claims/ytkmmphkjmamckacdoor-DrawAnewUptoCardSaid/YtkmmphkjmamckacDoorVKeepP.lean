import Derived.Test.YtkmmphkjmamckacDoorCtx
namespace Go.Proofs.YtkmmphkjmamckacDoor
open Go
set_option linter.all false

/-- fenestra/fenestrakeep.sameNumbers -/
noncomputable def cx_fenestrakeep_sameNumbers : Ctx := ⟨Tryd.prog, tab, [], [], [], fns, [(4, ⟨[.keep, .keep, .keep, .keep, .junk, .junk, .keep, .keep, .keep, .keep, .keep, .keep, .keep, .cell (.int .i64), .junk, .junk, .junk, .junk, .junk, .junk, .junk, .junk, .junk, .junk, .junk, .junk], []⟩)], []⟩
def vc_fenestrakeep_sameNumbers (a_p : Option Addr) (a_n a_c : Nat) (b_p : Option Addr) (b_n b_c : Nat) (u : World) (R : Ending → World → Prop) : Prop :=
      (((!decide (((a_n : Nat) : Int) = ((b_n : Nat) : Int))) = true →
      R (.returned (.bool false)) u) ∧ ((!decide (((a_n : Nat) : Int) = ((b_n : Nat) : Int))) = false →
      ∃ (I_ : Int → World → Prop) (M_ : Int → World → Nat), (I_ 0 u) ∧
          ∀ (x13 : Int), ∀ u1 : World, I_ x13 u1 → (((decide (x13 < ((a_n : Nat) : Int))) = true →
          ∃ b o, a_p = some ⟨b, o, none⟩ ∧ 0 ≤ x13 ∧ x13 < ((a_n : Nat) : Int) ∧
          ∃ (x19 : Int), 1 = ([.int .i64 x19] : List Value).length ∧ Rd (drewW u1) b (o + x13.toNat * 1) ([.int .i64 x19]) ∧
          ∃ b1 o1, b_p = some ⟨b1, o1, none⟩ ∧ 0 ≤ x13 ∧ x13 < ((b_n : Nat) : Int) ∧
          ∃ (x23 : Int), 1 = ([.int .i64 x23] : List Value).length ∧ Rd (drewW u1) b1 (o1 + x13.toNat * 1) ([.int .i64 x23]) ∧
            (((!decide (x19 = x23)) = true → R (.returned (.bool false)) (drewW u1)) ∧
              ((!decide (x19 = x23)) = false → inK .i64 (x13 + 1) ∧ I_ (x13 + 1) (drewW u1) ∧
          M_ (x13 + 1) (drewW u1) < M_ x13 u1))) ∧ ((decide (x13 < ((a_n : Nat) : Int))) = false →
  R (.returned (.bool true)) u1))))
set_option maxRecDepth 100000 in
theorem vc_fenestrakeep_sameNumbers_eq (a_p : Option Addr) (a_n a_c : Nat) (b_p : Option Addr) (b_n b_c : Nat) (u : World) (R : Ending → World → Prop) : wFunc cx_fenestrakeep_sameNumbers Tryd.f71 [.slice a_p a_n a_c, .slice b_p b_n b_c] u R = vc_fenestrakeep_sameNumbers a_p a_n a_c b_p b_n b_c u R := by kernel_rfl
theorem vc_fenestrakeep_sameNumbers_spec (a_p : Option Addr) (a_n a_c : Nat) (b_p : Option Addr) (b_n b_c : Nat) {u : World} {R : Ending → World → Prop} (h : vc_fenestrakeep_sameNumbers a_p a_n a_c b_p b_n b_c u R) : Spec Tryd.prog fn_fenestrakeep_sameNumbers #[.slice a_p a_n a_c, .slice b_p b_n b_c] u R := func_spec (C := cx_fenestrakeep_sameNumbers) (fn := Tryd.f71) (args := [.slice a_p a_n a_c, .slice b_p b_n b_c]) (ctxOk _ _ _ _ _) Tryd.func71 (vc_fenestrakeep_sameNumbers_eq a_p a_n a_c b_p b_n b_c u R) h

/-- fenestra/fenestrakeep.sameParser -/
noncomputable def cx_fenestrakeep_sameParser : Ctx := ⟨Tryd.prog, tab, [], [], [], fns, [], []⟩
def vc_fenestrakeep_sameParser (a_At : Int) (a_Params_p : Option Addr) (a_Params_n a_Params_c : Nat) (a_Payload : ByteArray) (a_Long : Bool) (b_At : Int) (b_Params_p : Option Addr) (b_Params_n b_Params_c : Nat) (b_Payload : ByteArray) (b_Long : Bool) (u : World) (R : Ending → World → Prop) : Prop :=
        (((decide (a_At = b_At)) = true → Spec Tryd.prog 71 #[.slice a_Params_p a_Params_n a_Params_c, .slice b_Params_p b_Params_n b_Params_c] (allocW (allocW u hole) hole) (fun e u1 => ∃ (x15 : Bool), e = .returned (.bool x15) ∧
                ((x15 = true → (((decide (a_Payload.data.toList = b_Payload.data.toList)) = true →
                R (.returned (.bool (a_Long == b_Long))) u1) ∧ ((decide (a_Payload.data.toList = b_Payload.data.toList)) = false →
    R (.returned (.bool false)) u1))) ∧ (x15 = false → R (.returned (.bool false)) u1)))) ∧
  ((decide (a_At = b_At)) = false → R (.returned (.bool false)) (allocW (allocW u hole) hole)))
set_option maxRecDepth 100000 in
theorem vc_fenestrakeep_sameParser_eq (a_At : Int) (a_Params_p : Option Addr) (a_Params_n a_Params_c : Nat) (a_Payload : ByteArray) (a_Long : Bool) (b_At : Int) (b_Params_p : Option Addr) (b_Params_n b_Params_c : Nat) (b_Payload : ByteArray) (b_Long : Bool) (u : World) (R : Ending → World → Prop) : wFunc cx_fenestrakeep_sameParser Tryd.f47 [.agg #[.int .i64 a_At, .slice a_Params_p a_Params_n a_Params_c, .string a_Payload, .bool a_Long], .agg #[.int .i64 b_At, .slice b_Params_p b_Params_n b_Params_c, .string b_Payload, .bool b_Long]] u R = vc_fenestrakeep_sameParser a_At a_Params_p a_Params_n a_Params_c a_Payload a_Long b_At b_Params_p b_Params_n b_Params_c b_Payload b_Long u R := by kernel_rfl
theorem vc_fenestrakeep_sameParser_spec (a_At : Int) (a_Params_p : Option Addr) (a_Params_n a_Params_c : Nat) (a_Payload : ByteArray) (a_Long : Bool) (b_At : Int) (b_Params_p : Option Addr) (b_Params_n b_Params_c : Nat) (b_Payload : ByteArray) (b_Long : Bool) {u : World} {R : Ending → World → Prop} (h : vc_fenestrakeep_sameParser a_At a_Params_p a_Params_n a_Params_c a_Payload a_Long b_At b_Params_p b_Params_n b_Params_c b_Payload b_Long u R) : Spec Tryd.prog fn_fenestrakeep_sameParser #[.agg #[.int .i64 a_At, .slice a_Params_p a_Params_n a_Params_c, .string a_Payload, .bool a_Long], .agg #[.int .i64 b_At, .slice b_Params_p b_Params_n b_Params_c, .string b_Payload, .bool b_Long]] u R := func_spec (C := cx_fenestrakeep_sameParser) (fn := Tryd.f47) (args := [.agg #[.int .i64 a_At, .slice a_Params_p a_Params_n a_Params_c, .string a_Payload, .bool a_Long], .agg #[.int .i64 b_At, .slice b_Params_p b_Params_n b_Params_c, .string b_Payload, .bool b_Long]]) (ctxOk _ _ _ _ _) Tryd.func47 (vc_fenestrakeep_sameParser_eq a_At a_Params_p a_Params_n a_Params_c a_Payload a_Long b_At b_Params_p b_Params_n b_Params_c b_Payload b_Long u R) h

end Go.Proofs.YtkmmphkjmamckacDoor
