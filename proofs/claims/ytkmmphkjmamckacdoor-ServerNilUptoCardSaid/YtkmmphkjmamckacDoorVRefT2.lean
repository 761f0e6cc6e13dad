import Derived.Test.YtkmmphkjmamckacDoorCtx
namespace Go.Proofs.YtkmmphkjmamckacDoor
open Go
set_option linter.all false

/-- fenestra/fenestraref.SameTiles -/
noncomputable def cx_fenestraref_SameTiles : Ctx := ⟨Tryd.prog, tab, [], [], [], fns, [(4, ⟨[.keep, .keep, .keep, .keep, .junk, .junk, .keep, .keep, .keep, .keep, .keep, .keep, .keep, .keep, .keep, .keep, .cell (.int .i64), .junk, .junk, .junk, .junk, .junk, .junk, .junk, .junk, .junk, .junk, .junk, .junk, .junk, .junk, .junk], [.keep, .keep]⟩)], []⟩
def vc_fenestraref_SameTiles (a_Columns_p : Option Addr) (a_Columns_n a_Columns_c : Nat) (b_Columns_p : Option Addr) (b_Columns_n b_Columns_c : Nat) (u : World) (R : Ending → World → Prop) : Prop :=
      (((!decide (((a_Columns_n : Nat) : Int) = ((b_Columns_n : Nat) : Int))) = true →
      R (.returned (.bool false)) (allocW (allocW u hole) hole)) ∧ ((!decide (((a_Columns_n : Nat) : Int) = ((b_Columns_n : Nat) : Int))) = false →
        ∃ (I_ : Int → World → Prop) (M_ : Int → World → Nat), ((Loc.mk 45 false ([.slice a_Columns_p a_Columns_n a_Columns_c])) = (Loc.mk 45 false ([.slice a_Columns_p a_Columns_n a_Columns_c])) ∧
        (Loc.mk 45 false ([.slice b_Columns_p b_Columns_n b_Columns_c])) = (Loc.mk 45 false ([.slice b_Columns_p b_Columns_n b_Columns_c])) ∧
      I_ 0 (allocW (allocW u hole) hole)) ∧ ∀ (x16 : Int), (Loc.mk 45 false ([.slice a_Columns_p a_Columns_n a_Columns_c])) = (Loc.mk 45 false ([.slice a_Columns_p a_Columns_n a_Columns_c])) ∧
      (Loc.mk 45 false ([.slice b_Columns_p b_Columns_n b_Columns_c])) = (Loc.mk 45 false ([.slice b_Columns_p b_Columns_n b_Columns_c])) ∧
          ∀ u1 : World, I_ x16 u1 → (((decide (x16 < ((a_Columns_n : Nat) : Int))) = true →
          ∃ b o, a_Columns_p = some ⟨b, o, none⟩ ∧ 0 ≤ x16 ∧ x16 < ((a_Columns_n : Nat) : Int) ∧
          ∃ (x23q_p : Option Addr) (x23q_n x23q_c : Nat), 1 = ([.slice x23q_p x23q_n x23q_c] : List Value).length ∧
          Rd (drewW u1) b (o + x16.toNat * 1) ([.slice x23q_p x23q_n x23q_c]) ∧
          ∃ b1 o1, b_Columns_p = some ⟨b1, o1, none⟩ ∧ 0 ≤ x16 ∧ x16 < ((b_Columns_n : Nat) : Int) ∧
          ∃ (x28q_p : Option Addr) (x28q_n x28q_c : Nat), 1 = ([.slice x28q_p x28q_n x28q_c] : List Value).length ∧
          Rd (drewW u1) b1 (o1 + x16.toNat * 1) ([.slice x28q_p x28q_n x28q_c]) ∧
            Spec Tryd.prog 77 #[.slice x23q_p x23q_n x23q_c, .slice x28q_p x28q_n x28q_c] (drewW u1) (fun e u11 => ∃ (x29 : Bool), e = .returned (.bool x29) ∧
                (((!x29) = true → R (.returned (.bool false)) u11) ∧ ((!x29) = false →
                inK .i64 (x16 + 1) ∧ (Loc.mk 45 false ([.slice a_Columns_p a_Columns_n a_Columns_c])) = (Loc.mk 45 false ([.slice a_Columns_p a_Columns_n a_Columns_c])) ∧
                (Loc.mk 45 false ([.slice b_Columns_p b_Columns_n b_Columns_c])) = (Loc.mk 45 false ([.slice b_Columns_p b_Columns_n b_Columns_c])) ∧
                I_ (x16 + 1) u11 ∧ (Loc.mk 45 false ([.slice a_Columns_p a_Columns_n a_Columns_c])) = (Loc.mk 45 false ([.slice a_Columns_p a_Columns_n a_Columns_c])) ∧
                (Loc.mk 45 false ([.slice b_Columns_p b_Columns_n b_Columns_c])) = (Loc.mk 45 false ([.slice b_Columns_p b_Columns_n b_Columns_c])) ∧
          M_ (x16 + 1) u11 < M_ x16 u1)))) ∧ ((decide (x16 < ((a_Columns_n : Nat) : Int))) = false →
  R (.returned (.bool true)) u1))))
set_option maxRecDepth 100000 in
theorem vc_fenestraref_SameTiles_eq (a_Columns_p : Option Addr) (a_Columns_n a_Columns_c : Nat) (b_Columns_p : Option Addr) (b_Columns_n b_Columns_c : Nat) (u : World) (R : Ending → World → Prop) : wFunc cx_fenestraref_SameTiles Tryd.f55 [.agg #[.slice a_Columns_p a_Columns_n a_Columns_c], .agg #[.slice b_Columns_p b_Columns_n b_Columns_c]] u R = vc_fenestraref_SameTiles a_Columns_p a_Columns_n a_Columns_c b_Columns_p b_Columns_n b_Columns_c u R := by kernel_rfl
theorem vc_fenestraref_SameTiles_spec (a_Columns_p : Option Addr) (a_Columns_n a_Columns_c : Nat) (b_Columns_p : Option Addr) (b_Columns_n b_Columns_c : Nat) {u : World} {R : Ending → World → Prop} (h : vc_fenestraref_SameTiles a_Columns_p a_Columns_n a_Columns_c b_Columns_p b_Columns_n b_Columns_c u R) : Spec Tryd.prog fn_fenestraref_SameTiles #[.agg #[.slice a_Columns_p a_Columns_n a_Columns_c], .agg #[.slice b_Columns_p b_Columns_n b_Columns_c]] u R := func_spec (C := cx_fenestraref_SameTiles) (fn := Tryd.f55) (args := [.agg #[.slice a_Columns_p a_Columns_n a_Columns_c], .agg #[.slice b_Columns_p b_Columns_n b_Columns_c]]) (ctxOk _ _ _ _ _) Tryd.func55 (vc_fenestraref_SameTiles_eq a_Columns_p a_Columns_n a_Columns_c b_Columns_p b_Columns_n b_Columns_c u R) h

end Go.Proofs.YtkmmphkjmamckacDoor
