import Derived.Test.YtkmmphkjmamckacDoorCtx
namespace Go.Proofs.YtkmmphkjmamckacDoor
open Go
set_option linter.all false

/-- fenestra/fenestraref.SameNumbers -/
noncomputable def cx_fenestraref_SameNumbers : Ctx := ⟨Tryd.prog, tab, [], [], [], fns, [(4, ⟨[.keep, .keep, .keep, .keep, .junk, .junk, .keep, .keep, .keep, .keep, .keep, .keep, .keep, .cell (.int .i64), .junk, .junk, .junk, .junk, .junk, .junk, .junk, .junk, .junk, .junk, .junk, .junk], []⟩)], []⟩
def vc_fenestraref_SameNumbers (a_p : Option Addr) (a_n a_c : Nat) (b_p : Option Addr) (b_n b_c : Nat) (u : World) (R : Ending → World → Prop) : Prop :=
      (((!decide (((a_n : Nat) : Int) = ((b_n : Nat) : Int))) = true →
      R (.returned (.bool false)) u) ∧ ((!decide (((a_n : Nat) : Int) = ((b_n : Nat) : Int))) = false →
      ∃ (I_ : Int → World → Prop) (M_ : Int → World → Nat), (I_ 0 u) ∧
          ∀ (x13 : Int), ∀ u1 : World, I_ x13 u1 → (((decide (x13 < ((a_n : Nat) : Int))) = true →
          ∃ b o, a_p = some ⟨b, o, none⟩ ∧ 0 ≤ x13 ∧ x13 < ((a_n : Nat) : Int) ∧
          ∃ (x19 : Int), 1 = ([.int .i64 x19] : List Value).length ∧ Rd (drewW u1) b (o + x13.toNat * 1) ([.int .i64 x19]) ∧
          ∃ b1 o1, b_p = some ⟨b1, o1, none⟩ ∧ 0 ≤ x13 ∧ x13 < ((b_n : Nat) : Int) ∧
          ∃ (x23 : Int), 1 = ([.int .i64 x23] : List Value).length ∧ Rd (drewW u1) b1 (o1 + x13.toNat * 1) ([.int .i64 x23]) ∧
            (((!decide (x19 = x23)) = true → R (.returned (.bool false)) (drewW u1)) ∧
              ((!decide (x19 = x23)) = false → inK .i64 (x13 + 1) ∧ I_ (x13 + 1) (drewW u1) ∧
          M_ (x13 + 1) (drewW u1) < M_ x13 u1))) ∧ ((decide (x13 < ((a_n : Nat) : Int))) = false →
  R (.returned (.bool true)) u1))))
set_option maxRecDepth 100000 in
theorem vc_fenestraref_SameNumbers_eq (a_p : Option Addr) (a_n a_c : Nat) (b_p : Option Addr) (b_n b_c : Nat) (u : World) (R : Ending → World → Prop) : wFunc cx_fenestraref_SameNumbers Tryd.f77 [.slice a_p a_n a_c, .slice b_p b_n b_c] u R = vc_fenestraref_SameNumbers a_p a_n a_c b_p b_n b_c u R := by kernel_rfl
theorem vc_fenestraref_SameNumbers_spec (a_p : Option Addr) (a_n a_c : Nat) (b_p : Option Addr) (b_n b_c : Nat) {u : World} {R : Ending → World → Prop} (h : vc_fenestraref_SameNumbers a_p a_n a_c b_p b_n b_c u R) : Spec Tryd.prog fn_fenestraref_SameNumbers #[.slice a_p a_n a_c, .slice b_p b_n b_c] u R := func_spec (C := cx_fenestraref_SameNumbers) (fn := Tryd.f77) (args := [.slice a_p a_n a_c, .slice b_p b_n b_c]) (ctxOk _ _ _ _ _) Tryd.func77 (vc_fenestraref_SameNumbers_eq a_p a_n a_c b_p b_n b_c u R) h

end Go.Proofs.YtkmmphkjmamckacDoor
