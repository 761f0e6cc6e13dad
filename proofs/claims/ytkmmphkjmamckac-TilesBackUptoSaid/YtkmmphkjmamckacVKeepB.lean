import Derived.Test.YtkmmphkjmamckacCtx
namespace Go.Proofs.Ytkmmphkjmamckac
open Go
set_option linter.all false

/-- fenestra/fenestrakeep.TilesBack -/
noncomputable def cx_fenestrakeep_TilesBack : Ctx := ⟨Try.prog, tab, [], [], [], fns, [(8, ⟨[.keep, .keep, .keep, .keep, .keep, .keep, .keep, .keep, .junk, .keep, .keep, .keep, .keep, .junk, .keep, .keep, .keep, .keep, .keep, .keep, .keep, .keep, .keep, .keep, .keep, .keep, .keep, .keep, .keep, .keep, .keep, .keep, .keep, .keep, .keep, .keep, .keep, .keep, .keep, .keep, .keep, .keep, .keep, .keep, .keep, .keep, .keep, .keep, .keep, .keep, .keep, .keep, .keep, .keep, .keep, .keep, .keep, .keep, .keep, .keep, .cell (.int .i64), .junk, .junk, .junk, .junk, .junk, .junk, .junk, .junk, .junk, .junk, .junk, .junk, .junk, .junk, .junk], [.keep, .keep, .keep]⟩)], []⟩
def vc_fenestrakeep_TilesBack (t_Columns_p : Option Addr) (t_Columns_n t_Columns_c : Nat) (p : Int) (n : Int) (right : Bool) (u : World) (R : Ending → World → Prop) : Prop :=
    Spec Try.prog 4 #[.agg #[.slice t_Columns_p t_Columns_n t_Columns_c], .int .i64 p, .int .i64 n, .bool right] (allocW u hole) (fun e u1 => ∃ (x190q_Columns_p : Option Addr) (x190q_Columns_n x190q_Columns_c : Nat) (x191 : Int), e = .returned (.tuple #[.agg #[.slice x190q_Columns_p x190q_Columns_n x190q_Columns_c], .int .i64 x191]) ∧
          (((!decide (x191 = 0)) = true → Spec Try.prog 5 #[] (allocW u1 hole) (fun e u11 => ∃ (x28 : Bool), e = .returned (.bool x28) ∧
        R (.returned (.bool x28)) u11)) ∧ ((!decide (x191 = 0)) = false →
          Spec Try.prog 5 #[] (allocW u1 hole) (fun e u12 => ∃ (x25 : Bool), e = .returned (.bool x25) ∧
                (((!x25) = true → Spec Try.prog 5 #[] u12 (fun e u13 => ∃ (x281 : Bool), e = .returned (.bool x281) ∧
                R (.returned (.bool x281)) u13)) ∧ ((!x25) = false → Spec Try.prog 6 #[.agg #[.slice x190q_Columns_p x190q_Columns_n x190q_Columns_c], .int .i64 n] u12 (fun e u14 => ∃ (x320q_Columns_p : Option Addr) (x320q_Columns_n x320q_Columns_c : Nat) (x321 : Int), e = .returned (.tuple #[.agg #[.slice x320q_Columns_p x320q_Columns_n x320q_Columns_c], .int .i64 x321]) ∧
                  Spec Try.prog 7 #[.agg #[.slice x190q_Columns_p x190q_Columns_n x190q_Columns_c]] (allocW u14 hole) (fun e u15 => ∃ (x36 : Bool), e = .returned (.bool x36) ∧
                      (((!x36) = true → R (.returned (.bool false)) u15) ∧ ((!x36) = false →
                        Spec Try.prog 8 #[.agg #[.slice x190q_Columns_p x190q_Columns_n x190q_Columns_c], .int .i64 n] u15 (fun e u16 => ∃ (x41 : Bool), e = .returned (.bool x41) ∧
                            (((!x41) = true → R (.returned (.bool false)) u16) ∧ ((!x41) = false →
                              (((!decide (x321 = 0)) = true → R (.returned (.bool false)) u16) ∧
                                    ((!decide (x321 = 0)) = false → (((!decide (((x320q_Columns_n : Nat) : Int) = ((t_Columns_n : Nat) : Int))) = true →
                                    R (.returned (.bool false)) u16) ∧ ((!decide (((x320q_Columns_n : Nat) : Int) = ((t_Columns_n : Nat) : Int))) = false →
                                      ∃ (I_ : Int → World → Prop) (M_ : Int → World → Nat), ((Loc.mk 24 false ([.slice t_Columns_p t_Columns_n t_Columns_c])) = (Loc.mk 24 false ([.slice t_Columns_p t_Columns_n t_Columns_c])) ∧
                                      (Loc.mk 24 false ([.slice x190q_Columns_p x190q_Columns_n x190q_Columns_c])) = (Loc.mk 24 false ([.slice x190q_Columns_p x190q_Columns_n x190q_Columns_c])) ∧
                                      (Loc.mk 24 false ([.slice x320q_Columns_p x320q_Columns_n x320q_Columns_c])) = (Loc.mk 24 false ([.slice x320q_Columns_p x320q_Columns_n x320q_Columns_c])) ∧
                                    I_ 0 u16) ∧ ∀ (x60 : Int), (Loc.mk 24 false ([.slice t_Columns_p t_Columns_n t_Columns_c])) = (Loc.mk 24 false ([.slice t_Columns_p t_Columns_n t_Columns_c])) ∧
                                    (Loc.mk 24 false ([.slice x190q_Columns_p x190q_Columns_n x190q_Columns_c])) = (Loc.mk 24 false ([.slice x190q_Columns_p x190q_Columns_n x190q_Columns_c])) ∧
                                    (Loc.mk 24 false ([.slice x320q_Columns_p x320q_Columns_n x320q_Columns_c])) = (Loc.mk 24 false ([.slice x320q_Columns_p x320q_Columns_n x320q_Columns_c])) ∧
                                        ∀ u17 : World, I_ x60 u17 → (((decide (x60 < ((x320q_Columns_n : Nat) : Int))) = true →
                                        ∃ b o, x320q_Columns_p = some ⟨b, o, none⟩ ∧ 0 ≤ x60 ∧ x60 < ((x320q_Columns_n : Nat) : Int) ∧
                                        ∃ (x67q_p : Option Addr) (x67q_n x67q_c : Nat), 1 = ([.slice x67q_p x67q_n x67q_c] : List Value).length ∧
                                        Rd (drewW u17) b (o + x60.toNat * 1) ([.slice x67q_p x67q_n x67q_c]) ∧
                                        ∃ b1 o1, t_Columns_p = some ⟨b1, o1, none⟩ ∧ 0 ≤ x60 ∧ x60 < ((t_Columns_n : Nat) : Int) ∧
                                        ∃ (x72q_p : Option Addr) (x72q_n x72q_c : Nat), 1 = ([.slice x72q_p x72q_n x72q_c] : List Value).length ∧
                                        Rd (drewW u17) b1 (o1 + x60.toNat * 1) ([.slice x72q_p x72q_n x72q_c]) ∧
                                          Spec Try.prog 9 #[.slice x67q_p x67q_n x67q_c, .slice x72q_p x72q_n x72q_c] (drewW u17) (fun e u18 => ∃ (x73 : Bool), e = .returned (.bool x73) ∧
                                              (((!x73) = true → R (.returned (.bool false)) u18) ∧ ((!x73) = false →
                                              inK .i64 (x60 + 1) ∧ (Loc.mk 24 false ([.slice t_Columns_p t_Columns_n t_Columns_c])) = (Loc.mk 24 false ([.slice t_Columns_p t_Columns_n t_Columns_c])) ∧
                                              (Loc.mk 24 false ([.slice x190q_Columns_p x190q_Columns_n x190q_Columns_c])) = (Loc.mk 24 false ([.slice x190q_Columns_p x190q_Columns_n x190q_Columns_c])) ∧
                                              (Loc.mk 24 false ([.slice x320q_Columns_p x320q_Columns_n x320q_Columns_c])) = (Loc.mk 24 false ([.slice x320q_Columns_p x320q_Columns_n x320q_Columns_c])) ∧
                                              I_ (x60 + 1) u18 ∧ (Loc.mk 24 false ([.slice t_Columns_p t_Columns_n t_Columns_c])) = (Loc.mk 24 false ([.slice t_Columns_p t_Columns_n t_Columns_c])) ∧
                                              (Loc.mk 24 false ([.slice x190q_Columns_p x190q_Columns_n x190q_Columns_c])) = (Loc.mk 24 false ([.slice x190q_Columns_p x190q_Columns_n x190q_Columns_c])) ∧
                                              (Loc.mk 24 false ([.slice x320q_Columns_p x320q_Columns_n x320q_Columns_c])) = (Loc.mk 24 false ([.slice x320q_Columns_p x320q_Columns_n x320q_Columns_c])) ∧
                                        M_ (x60 + 1) u18 < M_ x60 u17)))) ∧ ((decide (x60 < ((x320q_Columns_n : Nat) : Int))) = false →
  R (.returned (.bool true)) u17)))))))))))))))))))
set_option maxRecDepth 100000 in
theorem vc_fenestrakeep_TilesBack_eq (t_Columns_p : Option Addr) (t_Columns_n t_Columns_c : Nat) (p : Int) (n : Int) (right : Bool) (u : World) (R : Ending → World → Prop) : wFunc cx_fenestrakeep_TilesBack Try.f3 [.agg #[.slice t_Columns_p t_Columns_n t_Columns_c], .int .i64 p, .int .i64 n, .bool right] u R = vc_fenestrakeep_TilesBack t_Columns_p t_Columns_n t_Columns_c p n right u R := by kernel_rfl
theorem vc_fenestrakeep_TilesBack_spec (t_Columns_p : Option Addr) (t_Columns_n t_Columns_c : Nat) (p : Int) (n : Int) (right : Bool) {u : World} {R : Ending → World → Prop} (h : vc_fenestrakeep_TilesBack t_Columns_p t_Columns_n t_Columns_c p n right u R) : Spec Try.prog fn_fenestrakeep_TilesBack #[.agg #[.slice t_Columns_p t_Columns_n t_Columns_c], .int .i64 p, .int .i64 n, .bool right] u R := func_spec (C := cx_fenestrakeep_TilesBack) (fn := Try.f3) (args := [.agg #[.slice t_Columns_p t_Columns_n t_Columns_c], .int .i64 p, .int .i64 n, .bool right]) (ctxOk _ _ _ _ _) Try.func3 (vc_fenestrakeep_TilesBack_eq t_Columns_p t_Columns_n t_Columns_c p n right u R) h

end Go.Proofs.Ytkmmphkjmamckac
