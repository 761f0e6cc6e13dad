import Derived.Test.YtkmmphkjmamckacDoorCtx
namespace Go.Proofs.YtkmmphkjmamckacDoor
open Go
set_option linter.all false

/-- fenestra/fenestraref.SameView -/
noncomputable def cx_fenestraref_SameView : Ctx := ⟨Tryd.prog, tab, [], [], [2, 3], fns, [(2, ⟨[.keep, .keep, .keep, .keep, .junk, .junk, .cell (.int .i64), .junk, .junk, .junk, .junk, .junk, .junk, .junk, .junk, .junk, .junk, .junk, .junk, .junk, .keep, .keep, .keep, .keep, .keep, .keep, .keep, .keep, .keep, .keep, .keep, .keep, .keep, .keep, .keep, .keep, .keep, .keep, .keep, .keep, .keep, .keep, .keep, .keep, .keep, .keep], [.keep, .keep]⟩)], []⟩
def vc_fenestraref_SameView (a : List Value) (b : List Value) (u : World) (R : Ending → World → Prop) : Prop :=
    ∃ (I_ : Int → World → Prop) (M_ : Int → World → Nat), ((Loc.mk 48 true a) = (Loc.mk 48 true a) ∧
  (Loc.mk 48 true b) = (Loc.mk 48 true b) ∧ I_ 0 (allocW (allocW u hole) hole)) ∧
  ∀ (x6 : Int), (Loc.mk 48 true a) = (Loc.mk 48 true a) ∧ (Loc.mk 48 true b) = (Loc.mk 48 true b) ∧
      ∀ u1 : World, I_ x6 u1 → (((decide (x6 < 6)) = true → 0 ≤ x6 ∧
      x6 < ((6 : Nat) : Int) ∧ ∃ (x12q_Wide : Int) (x12q_High : Int) (x12q_Cells_p : Option Addr) (x12q_Cells_n x12q_Cells_c : Nat) (x12q_Row : Int) (x12q_Col : Int) (x12q_Ink : Int) (x12q_Bold : Bool) (x12q_Top : Int) (x12q_Bottom : Int), takeN a (1 + x6.toNat * 9) 9 = some [.int .i64 x12q_Wide, .int .i64 x12q_High, .slice x12q_Cells_p x12q_Cells_n x12q_Cells_c, .int .i64 x12q_Row, .int .i64 x12q_Col, .int .i64 x12q_Ink, .bool x12q_Bold, .int .i64 x12q_Top, .int .i64 x12q_Bottom] ∧
      0 ≤ x6 ∧ x6 < ((6 : Nat) : Int) ∧ ∃ (x16q_Wide : Int) (x16q_High : Int) (x16q_Cells_p : Option Addr) (x16q_Cells_n x16q_Cells_c : Nat) (x16q_Row : Int) (x16q_Col : Int) (x16q_Ink : Int) (x16q_Bold : Bool) (x16q_Top : Int) (x16q_Bottom : Int), takeN b (1 + x6.toNat * 9) 9 = some [.int .i64 x16q_Wide, .int .i64 x16q_High, .slice x16q_Cells_p x16q_Cells_n x16q_Cells_c, .int .i64 x16q_Row, .int .i64 x16q_Col, .int .i64 x16q_Ink, .bool x16q_Bold, .int .i64 x16q_Top, .int .i64 x16q_Bottom] ∧
        Spec Tryd.prog 54 #[.agg #[.int .i64 x12q_Wide, .int .i64 x12q_High, .slice x12q_Cells_p x12q_Cells_n x12q_Cells_c, .int .i64 x12q_Row, .int .i64 x12q_Col, .int .i64 x12q_Ink, .bool x12q_Bold, .int .i64 x12q_Top, .int .i64 x12q_Bottom], .agg #[.int .i64 x16q_Wide, .int .i64 x16q_High, .slice x16q_Cells_p x16q_Cells_n x16q_Cells_c, .int .i64 x16q_Row, .int .i64 x16q_Col, .int .i64 x16q_Ink, .bool x16q_Bold, .int .i64 x16q_Top, .int .i64 x16q_Bottom]] (drewW u1) (fun e u11 => ∃ (x17 : Bool), e = .returned (.bool x17) ∧
            (((!x17) = true → R (.returned (.bool false)) u11) ∧ ((!x17) = false →
            inK .i64 (x6 + 1) ∧ (Loc.mk 48 true a) = (Loc.mk 48 true a) ∧ (Loc.mk 48 true b) = (Loc.mk 48 true b) ∧
            I_ (x6 + 1) u11 ∧ (Loc.mk 48 true a) = (Loc.mk 48 true a) ∧ (Loc.mk 48 true b) = (Loc.mk 48 true b) ∧
      M_ (x6 + 1) u11 < M_ x6 u1)))) ∧ ((decide (x6 < 6)) = false → ∃ (x21q_Columns_p : Option Addr) (x21q_Columns_n x21q_Columns_c : Nat), takeN a 0 1 = some [.slice x21q_Columns_p x21q_Columns_n x21q_Columns_c] ∧
      ∃ (x23q_Columns_p : Option Addr) (x23q_Columns_n x23q_Columns_c : Nat), takeN b 0 1 = some [.slice x23q_Columns_p x23q_Columns_n x23q_Columns_c] ∧
        Spec Tryd.prog 55 #[.agg #[.slice x21q_Columns_p x21q_Columns_n x21q_Columns_c], .agg #[.slice x23q_Columns_p x23q_Columns_n x23q_Columns_c]] u1 (fun e u12 => ∃ (x24 : Bool), e = .returned (.bool x24) ∧
            ((x24 = true → ∃ (x27 : Int), takeN a 55 1 = some [.int .i64 x27] ∧
                ∃ (x29 : Int), takeN b 55 1 = some [.int .i64 x29] ∧ (((decide (x27 = x29)) = true →
                ∃ (x34 : Int), takeN a 56 1 = some [.int .i64 x34] ∧ ∃ (x36 : Int), takeN b 56 1 = some [.int .i64 x36] ∧
                    (((decide (x34 = x36)) = true → ∃ (x41 : Int), takeN a 57 1 = some [.int .i64 x41] ∧
                  ∃ (x43 : Int), takeN b 57 1 = some [.int .i64 x43] ∧ R (.returned (.bool (decide (x41 = x43)))) u12) ∧
              ((decide (x34 = x36)) = false → R (.returned (.bool false)) u12))) ∧
          ((decide (x27 = x29)) = false → R (.returned (.bool false)) u12))) ∧
  (x24 = false → R (.returned (.bool false)) u12)))))
set_option maxRecDepth 100000 in
theorem vc_fenestraref_SameView_eq (a : List Value) (b : List Value) (u : World) (R : Ending → World → Prop) : wFunc cx_fenestraref_SameView Tryd.f22 [.agg a.toArray, .agg b.toArray] u R = vc_fenestraref_SameView a b u R := by kernel_rfl
theorem vc_fenestraref_SameView_spec (a : List Value) (b : List Value) {u : World} {R : Ending → World → Prop} (h : vc_fenestraref_SameView a b u R) : Spec Tryd.prog fn_fenestraref_SameView #[.agg a.toArray, .agg b.toArray] u R := func_spec (C := cx_fenestraref_SameView) (fn := Tryd.f22) (args := [.agg a.toArray, .agg b.toArray]) (ctxOk _ _ _ _ _) Tryd.func22 (vc_fenestraref_SameView_eq a b u R) h

end Go.Proofs.YtkmmphkjmamckacDoor
