import Derived.Test.YtkmmphkjmamckacCtx
namespace Go.Proofs.Ytkmmphkjmamckac
open Go
set_option linter.all false

/-- fenestra/fenestrakeep.sameNumbers -/
noncomputable def cx_fenestrakeep_sameNumbers : Ctx := ⟨Try.prog, tab, [], [], [], fns, [(4, ⟨[.keep, .keep, .keep, .keep, .junk, .junk, .keep, .keep, .keep, .keep, .keep, .keep, .keep, .cell (.int .i64), .junk, .junk, .junk, .junk, .junk, .junk, .junk, .junk, .junk, .junk, .junk, .junk], []⟩)], []⟩
def vc_fenestrakeep_sameNumbers (a_p : Option Addr) (a_n a_c : Nat) (b_p : Option Addr) (b_n b_c : Nat) (u : World) (R : Ending → World → Prop) : Prop :=
      (((!decide (((a_n : Nat) : Int) = ((b_n : Nat) : Int))) = true →
      R (.returned (.bool false)) u) ∧ ((!decide (((a_n : Nat) : Int) = ((b_n : Nat) : Int))) = false →
      ∃ (I_ : Int → World → Prop) (M_ : Int → World → Nat), (I_ 0 u) ∧
          ∀ (x13 : Int), ∀ u1 : World, I_ x13 u1 → (((decide (x13 < ((a_n : Nat) : Int))) = true →
          ∃ b o, a_p = some ⟨b, o, none⟩ ∧ 0 ≤ x13 ∧ x13 < ((a_n : Nat) : Int) ∧
          ∃ (x19 : Int), 1 = ([.int .i64 x19] : List Value).length ∧ Rd (drewW u1) b (o + x13.toNat * 1) ([.int .i64 x19]) ∧
          ∃ b1 o1, b_p = some ⟨b1, o1, none⟩ ∧ 0 ≤ x13 ∧ x13 < ((b_n : Nat) : Int) ∧
          ∃ (x23 : Int), 1 = ([.int .i64 x23] : List Value).length ∧ Rd (drewW u1) b1 (o1 + x13.toNat * 1) ([.int .i64 x23]) ∧
            (((!decide (x19 = x23)) = true → R (.returned (.bool false)) (drewW u1)) ∧
              ((!decide (x19 = x23)) = false → inK .i64 (x13 + 1) ∧ I_ (x13 + 1) (drewW u1) ∧
          M_ (x13 + 1) (drewW u1) < M_ x13 u1))) ∧ ((decide (x13 < ((a_n : Nat) : Int))) = false →
  R (.returned (.bool true)) u1))))
set_option maxRecDepth 100000 in
theorem vc_fenestrakeep_sameNumbers_eq (a_p : Option Addr) (a_n a_c : Nat) (b_p : Option Addr) (b_n b_c : Nat) (u : World) (R : Ending → World → Prop) : wFunc cx_fenestrakeep_sameNumbers Try.f9 [.slice a_p a_n a_c, .slice b_p b_n b_c] u R = vc_fenestrakeep_sameNumbers a_p a_n a_c b_p b_n b_c u R := by kernel_rfl
theorem vc_fenestrakeep_sameNumbers_spec (a_p : Option Addr) (a_n a_c : Nat) (b_p : Option Addr) (b_n b_c : Nat) {u : World} {R : Ending → World → Prop} (h : vc_fenestrakeep_sameNumbers a_p a_n a_c b_p b_n b_c u R) : Spec Try.prog fn_fenestrakeep_sameNumbers #[.slice a_p a_n a_c, .slice b_p b_n b_c] u R := func_spec (C := cx_fenestrakeep_sameNumbers) (fn := Try.f9) (args := [.slice a_p a_n a_c, .slice b_p b_n b_c]) (ctxOk _ _ _ _ _) Try.func9 (vc_fenestrakeep_sameNumbers_eq a_p a_n a_c b_p b_n b_c u R) h

end Go.Proofs.Ytkmmphkjmamckac
