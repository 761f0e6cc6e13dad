import Derived.Test.YtkmmphkjmamckaaCtx
namespace Go.Proofs.Ytkmmphkjmamckaa
open Go
set_option linter.all false

/-- fenestra/fenestraref.SeenAt -/
noncomputable def cx_fenestraref_SeenAt : Ctx := ⟨Try.prog, tab, [], [], [3], fns, [(4, ⟨[.keep, .keep, .keep, .keep, .keep, .keep, .keep, .cell (.int .i64), .junk, .keep, .keep, .keep, .keep, .keep, .keep, .keep, .keep, .keep, .keep, .keep, .keep, .keep, .keep, .keep, .keep, .keep, .keep, .keep, .keep, .keep, .keep, .junk, .junk, .junk, .junk, .junk, .junk, .junk, .junk, .junk, .junk, .junk, .junk, .junk, .junk, .junk, .junk, .junk, .junk, .junk, .junk, .junk, .junk, .junk, .junk, .junk, .junk, .junk, .junk, .junk, .junk, .junk, .junk, .junk, .junk, .junk, .junk, .junk, .junk, .junk, .junk, .junk, .junk, .junk, .junk, .junk, .junk, .junk, .junk, .junk, .junk, .junk, .junk, .junk, .keep, .keep, .keep, .keep, .keep, .keep, .keep, .keep, .keep, .keep, .keep, .keep, .keep, .keep, .keep, .keep, .keep, .keep, .keep, .keep, .keep, .keep, .keep, .keep, .keep, .keep, .keep, .keep, .keep], [.keep, .cells [.int .i64, .int .i64, .int .i64, .bool]]⟩), (10, ⟨[.keep, .keep, .keep, .keep, .keep, .keep, .keep, .keep, .keep, .cell (.int .i64), .junk, .junk, .keep, .keep, .keep, .keep, .keep, .keep, .keep, .keep, .keep, .keep, .keep, .keep, .keep, .keep, .keep, .keep, .keep, .keep, .keep, .keep, .keep, .keep, .keep, .keep, .keep, .keep, .keep, .keep, .keep, .keep, .keep, .keep, .keep, .keep, .keep, .keep, .keep, .keep, .keep, .keep, .keep, .keep, .keep, .keep, .keep, .keep, .keep, .keep, .keep, .keep, .keep, .keep, .keep, .keep, .keep, .keep, .keep, .keep, .keep, .keep, .keep, .keep, .keep, .keep, .keep, .keep, .keep, .keep, .keep, .keep, .keep, .keep, .junk, .junk, .junk, .junk, .junk, .junk, .junk, .junk, .junk, .junk, .junk, .junk, .junk, .junk, .junk, .junk, .junk, .junk, .junk, .junk, .junk, .junk, .junk, .junk, .junk, .junk, .junk, .junk, .keep], [.keep, .cells [.int .i64, .int .i64, .int .i64, .bool]]⟩)], []⟩
def vc_fenestraref_SeenAt (v : List Value) (row : Int) (col : Int) (u : World) (R : Ending → World → Prop) : Prop :=
    (((decide (row < 0)) = true → R (.returned (.agg #[.int .i64 46, .int .i64 0, .int .i64 0, .bool false])) (allocW (allocW u hole) hole)) ∧
      ((decide (row < 0)) = false → ∃ (x17 : Int), takeN v 56 1 = some [.int .i64 x17] ∧
        (((decide (x17 ≤ row)) = true → R (.returned (.agg #[.int .i64 46, .int .i64 0, .int .i64 0, .bool false])) (allocW (allocW u hole) hole)) ∧
            ((decide (x17 ≤ row)) = false → (((decide (col < 0)) = true → R (.returned (.agg #[.int .i64 46, .int .i64 0, .int .i64 0, .bool false])) (allocW (allocW u hole) hole)) ∧
              ((decide (col < 0)) = false → ∃ (x27 : Int), takeN v 55 1 = some [.int .i64 x27] ∧
                (((decide (x27 ≤ col)) = true → R (.returned (.agg #[.int .i64 46, .int .i64 0, .int .i64 0, .bool false])) (allocW (allocW u hole) hole)) ∧
                    ((decide (x27 ≤ col)) = false → ∃ (I_ : Int → Int → Int → Int →
                    Bool → World → Prop) (M_ : Int → Int → Int → Int → Bool → World →
                  Nat), ((Loc.mk 47 true v) = (Loc.mk 47 true v) ∧ I_ 5 0 0 0 false (allocW (allocW u hole) hole)) ∧
                  ∀ (p : Int) (x6q_Ch : Int) (x6q_Ink : Int) (x6q_Pic : Int) (x6q_Bold : Bool), (Loc.mk 47 true v) = (Loc.mk 47 true v) ∧
                      ∀ u1 : World, I_ p x6q_Ch x6q_Ink x6q_Pic x6q_Bold u1 → (((decide ((0 : Int) ≤ p)) = true →
                      ∃ (x36q_Columns_p : Option Addr) (x36q_Columns_n x36q_Columns_c : Nat), takeN v 0 1 = some [.slice x36q_Columns_p x36q_Columns_n x36q_Columns_c] ∧
                      ∃ (x38 : Int), takeN v 55 1 = some [.int .i64 x38] ∧ ∃ (x40 : Int), takeN v 56 1 = some [.int .i64 x40] ∧
                        Spec Try.prog 52 #[.agg #[.slice x36q_Columns_p x36q_Columns_n x36q_Columns_c], .int .i64 x38, .int .i64 x40, .int .i64 p] u1 (fun e u11 => ∃ (x42q_Row : Int) (x42q_Col : Int) (x42q_High : Int) (x42q_Wide : Int), e = .returned (.agg #[.int .i64 x42q_Row, .int .i64 x42q_Col, .int .i64 x42q_High, .int .i64 x42q_Wide]) ∧
                            (((decide (x42q_Row ≤ row)) = true → inK .i64 (row - x42q_Row) ∧
                                    (((decide ((row - x42q_Row) < x42q_High)) = true → (((decide (x42q_Col ≤ col)) = true →
                                        inK .i64 (col - x42q_Col) ∧ (((decide ((col - x42q_Col) < x42q_Wide)) = true →
                                        0 ≤ p ∧ p < ((6 : Nat) : Int) ∧ ∃ (x74q_Wide : Int) (x74q_High : Int) (x74q_Cells_p : Option Addr) (x74q_Cells_n x74q_Cells_c : Nat) (x74q_Row : Int) (x74q_Col : Int) (x74q_Ink : Int) (x74q_Bold : Bool) (x74q_Top : Int) (x74q_Bottom : Int), takeN v (1 + p.toNat * 9) 9 = some [.int .i64 x74q_Wide, .int .i64 x74q_High, .slice x74q_Cells_p x74q_Cells_n x74q_Cells_c, .int .i64 x74q_Row, .int .i64 x74q_Col, .int .i64 x74q_Ink, .bool x74q_Bold, .int .i64 x74q_Top, .int .i64 x74q_Bottom] ∧
                                          inK .i64 (row - x42q_Row) ∧ inK .i64 (col - x42q_Col) ∧ Spec Try.prog 53 #[.agg #[.int .i64 x74q_Wide, .int .i64 x74q_High, .slice x74q_Cells_p x74q_Cells_n x74q_Cells_c, .int .i64 x74q_Row, .int .i64 x74q_Col, .int .i64 x74q_Ink, .bool x74q_Bold, .int .i64 x74q_Top, .int .i64 x74q_Bottom], .int .i64 (row - x42q_Row), .int .i64 (col - x42q_Col)] (drewW (allocW u11 hole)) (fun e u12 => ∃ (x83q_Ch : Int) (x83q_Ink : Int) (x83q_Pic : Int) (x83q_Bold : Bool), e = .returned (.agg #[.int .i64 x83q_Ch, .int .i64 x83q_Ink, .int .i64 x83q_Pic, .bool x83q_Bold]) ∧
                                      R (.returned (.agg #[.int .i64 x83q_Ch, .int .i64 x83q_Ink, .int .i64 x83q_Pic, .bool x83q_Bold])) u12)) ∧
                                        ((decide ((col - x42q_Col) < x42q_Wide)) = false → inK .i64 (p - 1) ∧
                                        (Loc.mk 47 true v) = (Loc.mk 47 true v) ∧ I_ (p - 1) x6q_Ch x6q_Ink x6q_Pic x6q_Bold (allocW u11 hole) ∧
                                  (Loc.mk 47 true v) = (Loc.mk 47 true v) ∧ M_ (p - 1) x6q_Ch x6q_Ink x6q_Pic x6q_Bold (allocW u11 hole) < M_ p x6q_Ch x6q_Ink x6q_Pic x6q_Bold u1))) ∧
                                    ((decide (x42q_Col ≤ col)) = false → inK .i64 (p - 1) ∧ (Loc.mk 47 true v) = (Loc.mk 47 true v) ∧
                                    I_ (p - 1) x6q_Ch x6q_Ink x6q_Pic x6q_Bold (allocW u11 hole) ∧
                              (Loc.mk 47 true v) = (Loc.mk 47 true v) ∧ M_ (p - 1) x6q_Ch x6q_Ink x6q_Pic x6q_Bold (allocW u11 hole) < M_ p x6q_Ch x6q_Ink x6q_Pic x6q_Bold u1))) ∧
                                ((decide ((row - x42q_Row) < x42q_High)) = false → inK .i64 (p - 1) ∧
                                (Loc.mk 47 true v) = (Loc.mk 47 true v) ∧ I_ (p - 1) x6q_Ch x6q_Ink x6q_Pic x6q_Bold (allocW u11 hole) ∧
                          (Loc.mk 47 true v) = (Loc.mk 47 true v) ∧ M_ (p - 1) x6q_Ch x6q_Ink x6q_Pic x6q_Bold (allocW u11 hole) < M_ p x6q_Ch x6q_Ink x6q_Pic x6q_Bold u1))) ∧
                            ((decide (x42q_Row ≤ row)) = false → inK .i64 (p - 1) ∧ (Loc.mk 47 true v) = (Loc.mk 47 true v) ∧
                            I_ (p - 1) x6q_Ch x6q_Ink x6q_Pic x6q_Bold (allocW u11 hole) ∧
                    (Loc.mk 47 true v) = (Loc.mk 47 true v) ∧ M_ (p - 1) x6q_Ch x6q_Ink x6q_Pic x6q_Bold (allocW u11 hole) < M_ p x6q_Ch x6q_Ink x6q_Pic x6q_Bold u1)))) ∧
                        ((decide ((0 : Int) ≤ p)) = false → ∃ (I_1 : Int → Int → Int →
                        Int → Bool → World → Prop) (M_1 : Int → Int → Int → Int → Bool →
                      World → Nat), ((Loc.mk 47 true v) = (Loc.mk 47 true v) ∧ I_1 1 x6q_Ch x6q_Ink x6q_Pic x6q_Bold u1) ∧
                      ∀ (i : Int) (x6q_Ch1 : Int) (x6q_Ink1 : Int) (x6q_Pic1 : Int) (x6q_Bold1 : Bool), (Loc.mk 47 true v) = (Loc.mk 47 true v) ∧
                      ∀ u13 : World, I_1 i x6q_Ch1 x6q_Ink1 x6q_Pic1 x6q_Bold1 u13 →
                      ∃ (x87q_p : Option Addr) (x87q_n x87q_c : Nat), takeN v 0 1 = some [.slice x87q_p x87q_n x87q_c] ∧
                          (((decide (i < ((x87q_n : Nat) : Int))) = true → ∃ (x94 : Int), takeN v 55 1 = some [.int .i64 x94] ∧
                          ∃ (x97q_p : Option Addr) (x97q_n x97q_c : Nat), takeN v 0 1 = some [.slice x97q_p x97q_n x97q_c] ∧
                            Spec Try.prog 54 #[.int .i64 x94, .int .i64 ((x97q_n : Nat) : Int), .int .i64 i] u13 (fun e u14 => ∃ (x1000 : Int) (x1001 : Int), e = .returned (.tuple #[.int .i64 x1000, .int .i64 x1001]) ∧
                                (((decide ((0 : Int) < x1001)) = true → inK .i64 (x1000 - 1) ∧
                                  (((decide (col = (x1000 - 1))) = true → R (.returned (.agg #[.int .i64 124, .int .i64 0, .int .i64 0, .bool false])) u14) ∧
                                    ((decide (col = (x1000 - 1))) = false → inK .i64 (i + 1) ∧ (Loc.mk 47 true v) = (Loc.mk 47 true v) ∧
                                    I_1 (i + 1) x6q_Ch1 x6q_Ink1 x6q_Pic1 x6q_Bold1 u14 ∧ (Loc.mk 47 true v) = (Loc.mk 47 true v) ∧
                              M_1 (i + 1) x6q_Ch1 x6q_Ink1 x6q_Pic1 x6q_Bold1 u14 < M_1 i x6q_Ch1 x6q_Ink1 x6q_Pic1 x6q_Bold1 u13))) ∧
                                ((decide ((0 : Int) < x1001)) = false → inK .i64 (i + 1) ∧ (Loc.mk 47 true v) = (Loc.mk 47 true v) ∧
                                I_1 (i + 1) x6q_Ch1 x6q_Ink1 x6q_Pic1 x6q_Bold1 u14 ∧ (Loc.mk 47 true v) = (Loc.mk 47 true v) ∧
                        M_1 (i + 1) x6q_Ch1 x6q_Ink1 x6q_Pic1 x6q_Bold1 u14 < M_1 i x6q_Ch1 x6q_Ink1 x6q_Pic1 x6q_Bold1 u13)))) ∧
  ((decide (i < ((x87q_n : Nat) : Int))) = false → R (.returned (.agg #[.int .i64 45, .int .i64 0, .int .i64 0, .bool false])) u13))))))))))))
set_option maxRecDepth 100000 in
theorem vc_fenestraref_SeenAt_eq (v : List Value) (row : Int) (col : Int) (u : World) (R : Ending → World → Prop) : wFunc cx_fenestraref_SeenAt Try.f26 [.agg v.toArray, .int .i64 row, .int .i64 col] u R = vc_fenestraref_SeenAt v row col u R := by kernel_rfl
theorem vc_fenestraref_SeenAt_spec (v : List Value) (row : Int) (col : Int) {u : World} {R : Ending → World → Prop} (h : vc_fenestraref_SeenAt v row col u R) : Spec Try.prog fn_fenestraref_SeenAt #[.agg v.toArray, .int .i64 row, .int .i64 col] u R := func_spec (C := cx_fenestraref_SeenAt) (fn := Try.f26) (args := [.agg v.toArray, .int .i64 row, .int .i64 col]) (ctxOk _ _ _ _ _) Try.func26 (vc_fenestraref_SeenAt_eq v row col u R) h

/-- fenestra/fenestraref.FootAt -/
noncomputable def cx_fenestraref_FootAt : Ctx := ⟨Try.prog, tab, [], [], [], fns, [], []⟩
def vc_fenestraref_FootAt (v : List Value) (col : Int) (u : World) (R : Ending → World → Prop) : Prop :=
  ∃ (x8q_Columns_p : Option Addr) (x8q_Columns_n x8q_Columns_c : Nat), takeN v 0 1 = some [.slice x8q_Columns_p x8q_Columns_n x8q_Columns_c] ∧
    Spec Try.prog 55 #[.agg #[.slice x8q_Columns_p x8q_Columns_n x8q_Columns_c]] (allocW (allocW u hole) hole) (fun e u1 => ∃ (x9q_p : Option Addr) (x9q_n x9q_c : Nat), e = .returned (.slice x9q_p x9q_n x9q_c) ∧
        (((decide ((0 : Int) ≤ col)) = true → 0 ≤ col ∧ 0 < (2 : Int) ∧
            (((decide ((col % 2) = 0)) = true → 0 ≤ col ∧ 0 < (2 : Int) ∧ inK .i64 col ∧
                (((decide ((col / 2) < ((x9q_n : Nat) : Int))) = true → 0 ≤ col ∧
                0 < (2 : Int) ∧ inK .i64 col ∧ ∃ b o, x9q_p = some ⟨b, o, none⟩ ∧
                0 ≤ (col / 2) ∧ (col / 2) < ((x9q_n : Nat) : Int) ∧ ∃ (x28 : Int), 1 = ([.int .i64 x28] : List Value).length ∧
                Rd u1 b (o + (col / 2).toNat * 1) ([.int .i64 x28]) ∧ inK .i64 (48 + (min (max x28 0) 9)) ∧
              ∃ (x35 : Int), takeN v 57 1 = some [.int .i64 x35] ∧ R (.returned (.agg #[.int .i64 (48 + (min (max x28 0) 9)), .int .i64 0, .int .i64 0, .bool (decide (x28 = x35))])) u1) ∧
          ((decide ((col / 2) < ((x9q_n : Nat) : Int))) = false → R (.returned (.agg #[.int .i64 32, .int .i64 0, .int .i64 0, .bool false])) u1))) ∧
      ((decide ((col % 2) = 0)) = false → R (.returned (.agg #[.int .i64 32, .int .i64 0, .int .i64 0, .bool false])) u1))) ∧
  ((decide ((0 : Int) ≤ col)) = false → R (.returned (.agg #[.int .i64 32, .int .i64 0, .int .i64 0, .bool false])) u1)))
set_option maxRecDepth 100000 in
theorem vc_fenestraref_FootAt_eq (v : List Value) (col : Int) (u : World) (R : Ending → World → Prop) : wFunc cx_fenestraref_FootAt Try.f28 [.agg v.toArray, .int .i64 col] u R = vc_fenestraref_FootAt v col u R := by kernel_rfl
theorem vc_fenestraref_FootAt_spec (v : List Value) (col : Int) {u : World} {R : Ending → World → Prop} (h : vc_fenestraref_FootAt v col u R) : Spec Try.prog fn_fenestraref_FootAt #[.agg v.toArray, .int .i64 col] u R := func_spec (C := cx_fenestraref_FootAt) (fn := Try.f28) (args := [.agg v.toArray, .int .i64 col]) (ctxOk _ _ _ _ _) Try.func28 (vc_fenestraref_FootAt_eq v col u R) h

/-- fenestra/fenestraref.ScreenOf -/
noncomputable def cx_fenestraref_ScreenOf : Ctx := ⟨Try.prog, tab, [], [], [3], fns, [(3, ⟨[.keep, .keep, .keep, .keep, .keep, .keep, .keep, .keep, .junk, .junk, .junk, .keep, .keep, .keep, .keep, .keep, .keep, .keep, .keep, .cell (.int .i64), .junk, .junk, .junk, .junk, .junk, .junk, .junk, .junk, .junk, .junk, .junk, .junk, .junk, .junk, .junk, .junk, .junk, .junk, .junk, .junk, .junk, .junk, .junk, .junk, .junk, .junk, .junk, .junk, .junk, .junk, .junk, .keep, .keep, .keep, .keep, .keep, .keep, .keep, .keep, .keep, .keep, .keep, .keep, .keep, .keep, .keep, .keep, .keep, .keep, .keep, .keep, .keep, .keep, .keep, .keep, .keep, .keep, .keep, .keep, .keep, .keep, .keep, .keep, .keep, .keep, .keep, .keep, .keep, .keep, .keep, .keep, .keep, .keep, .keep, .keep, .keep, .keep, .keep, .keep, .keep, .keep, .keep, .keep, .keep], [.keep, .keep, .keep]⟩)], []⟩
def vc_fenestraref_ScreenOf (v : List Value) (wide : Int) (high : Int) (u : World) (R : Ending → World → Prop) : Prop :=
    Spec Try.prog 58 #[.int .i64 wide, .int .i64 high] (allocW (allocW u hole) hole) (fun e u1 => ∃ (x15q_Wide : Int) (x15q_High : Int) (x15q_Cells_p : Option Addr) (x15q_Cells_n x15q_Cells_c : Nat) (x15q_Row : Int) (x15q_Col : Int) (x15q_Ink : Int) (x15q_Bold : Bool) (x15q_Top : Int) (x15q_Bottom : Int), e = .returned (.agg #[.int .i64 x15q_Wide, .int .i64 x15q_High, .slice x15q_Cells_p x15q_Cells_n x15q_Cells_c, .int .i64 x15q_Row, .int .i64 x15q_Col, .int .i64 x15q_Ink, .bool x15q_Bold, .int .i64 x15q_Top, .int .i64 x15q_Bottom]) ∧
      ∃ (I_ : Int → World → Prop) (M_ : Int → World → Nat), ((Loc.mk 47 true v) = (Loc.mk 47 true v) ∧
      (Loc.mk 44 false ([.int .i64 0, .int .i64 0, .slice none 0 0, .int .i64 0, .int .i64 0, .int .i64 0, .bool false, .int .i64 0, .int .i64 0])) = (Loc.mk 44 false ([.int .i64 0, .int .i64 0, .slice none 0 0, .int .i64 0, .int .i64 0, .int .i64 0, .bool false, .int .i64 0, .int .i64 0])) ∧
      (Loc.mk 44 false ([.int .i64 x15q_Wide, .int .i64 x15q_High, .slice x15q_Cells_p x15q_Cells_n x15q_Cells_c, .int .i64 x15q_Row, .int .i64 x15q_Col, .int .i64 x15q_Ink, .bool x15q_Bold, .int .i64 x15q_Top, .int .i64 x15q_Bottom])) = (Loc.mk 44 false ([.int .i64 x15q_Wide, .int .i64 x15q_High, .slice x15q_Cells_p x15q_Cells_n x15q_Cells_c, .int .i64 x15q_Row, .int .i64 x15q_Col, .int .i64 x15q_Ink, .bool x15q_Bold, .int .i64 x15q_Top, .int .i64 x15q_Bottom])) ∧
    I_ 0 (allocW u1 hole)) ∧ ∀ (x19 : Int), (Loc.mk 47 true v) = (Loc.mk 47 true v) ∧
    (Loc.mk 44 false ([.int .i64 0, .int .i64 0, .slice none 0 0, .int .i64 0, .int .i64 0, .int .i64 0, .bool false, .int .i64 0, .int .i64 0])) = (Loc.mk 44 false ([.int .i64 0, .int .i64 0, .slice none 0 0, .int .i64 0, .int .i64 0, .int .i64 0, .bool false, .int .i64 0, .int .i64 0])) ∧
    (Loc.mk 44 false ([.int .i64 x15q_Wide, .int .i64 x15q_High, .slice x15q_Cells_p x15q_Cells_n x15q_Cells_c, .int .i64 x15q_Row, .int .i64 x15q_Col, .int .i64 x15q_Ink, .bool x15q_Bold, .int .i64 x15q_Top, .int .i64 x15q_Bottom])) = (Loc.mk 44 false ([.int .i64 x15q_Wide, .int .i64 x15q_High, .slice x15q_Cells_p x15q_Cells_n x15q_Cells_c, .int .i64 x15q_Row, .int .i64 x15q_Col, .int .i64 x15q_Ink, .bool x15q_Bold, .int .i64 x15q_Top, .int .i64 x15q_Bottom])) ∧
        ∀ u11 : World, I_ x19 u11 → (((decide (x19 < ((x15q_Cells_n : Nat) : Int))) = true →
        0 ≤ x19 ∧ 0 < x15q_Wide ∧ inK .i64 x19 ∧ 0 ≤ x19 ∧ 0 < x15q_Wide ∧
          takeN v 0 58 = some v ∧ Spec Try.prog 26 #[.agg v.toArray, .int .i64 (x19 / x15q_Wide), .int .i64 (x19 % x15q_Wide)] (drewW (drewW u11)) (fun e u12 => ∃ (x36q_Ch : Int) (x36q_Ink : Int) (x36q_Pic : Int) (x36q_Bold : Bool), e = .returned (.agg #[.int .i64 x36q_Ch, .int .i64 x36q_Ink, .int .i64 x36q_Pic, .bool x36q_Bold]) ∧
          ∃ b o, x15q_Cells_p = some ⟨b, o, none⟩ ∧ 0 ≤ x19 ∧ x19 < ((x15q_Cells_n : Nat) : Int) ∧
          4 = ([.int .i64 x36q_Ch, .int .i64 x36q_Ink, .int .i64 x36q_Pic, .bool x36q_Bold] : List Value).length ∧
              Wr u12 b (o + x19.toNat * 4) 4 ∧ inK .i64 (x15q_High - 1) ∧ (((decide ((x19 / x15q_Wide) = (x15q_High - 1))) = true →
                takeN v 0 58 = some v ∧ Spec Try.prog 28 #[.agg v.toArray, .int .i64 (x19 % x15q_Wide)] (drewW (putCells u12 b (o + x19.toNat * 4) ([.int .i64 x36q_Ch, .int .i64 x36q_Ink, .int .i64 x36q_Pic, .bool x36q_Bold]))) (fun e u13 => ∃ (x48q_Ch : Int) (x48q_Ink : Int) (x48q_Pic : Int) (x48q_Bold : Bool), e = .returned (.agg #[.int .i64 x48q_Ch, .int .i64 x48q_Ink, .int .i64 x48q_Pic, .bool x48q_Bold]) ∧
                ∃ b1 o1, x15q_Cells_p = some ⟨b1, o1, none⟩ ∧ 0 ≤ x19 ∧ x19 < ((x15q_Cells_n : Nat) : Int) ∧
                4 = ([.int .i64 x48q_Ch, .int .i64 x48q_Ink, .int .i64 x48q_Pic, .bool x48q_Bold] : List Value).length ∧
                Wr u13 b1 (o1 + x19.toNat * 4) 4 ∧ inK .i64 (x19 + 1) ∧ (Loc.mk 47 true v) = (Loc.mk 47 true v) ∧
                (Loc.mk 44 false ([.int .i64 0, .int .i64 0, .slice none 0 0, .int .i64 0, .int .i64 0, .int .i64 0, .bool false, .int .i64 0, .int .i64 0])) = (Loc.mk 44 false ([.int .i64 0, .int .i64 0, .slice none 0 0, .int .i64 0, .int .i64 0, .int .i64 0, .bool false, .int .i64 0, .int .i64 0])) ∧
                (Loc.mk 44 false ([.int .i64 x15q_Wide, .int .i64 x15q_High, .slice x15q_Cells_p x15q_Cells_n x15q_Cells_c, .int .i64 x15q_Row, .int .i64 x15q_Col, .int .i64 x15q_Ink, .bool x15q_Bold, .int .i64 x15q_Top, .int .i64 x15q_Bottom])) = (Loc.mk 44 false ([.int .i64 x15q_Wide, .int .i64 x15q_High, .slice x15q_Cells_p x15q_Cells_n x15q_Cells_c, .int .i64 x15q_Row, .int .i64 x15q_Col, .int .i64 x15q_Ink, .bool x15q_Bold, .int .i64 x15q_Top, .int .i64 x15q_Bottom])) ∧
                I_ (x19 + 1) (putCells u13 b1 (o1 + x19.toNat * 4) ([.int .i64 x48q_Ch, .int .i64 x48q_Ink, .int .i64 x48q_Pic, .bool x48q_Bold])) ∧
                (Loc.mk 47 true v) = (Loc.mk 47 true v) ∧ (Loc.mk 44 false ([.int .i64 0, .int .i64 0, .slice none 0 0, .int .i64 0, .int .i64 0, .int .i64 0, .bool false, .int .i64 0, .int .i64 0])) = (Loc.mk 44 false ([.int .i64 0, .int .i64 0, .slice none 0 0, .int .i64 0, .int .i64 0, .int .i64 0, .bool false, .int .i64 0, .int .i64 0])) ∧
                (Loc.mk 44 false ([.int .i64 x15q_Wide, .int .i64 x15q_High, .slice x15q_Cells_p x15q_Cells_n x15q_Cells_c, .int .i64 x15q_Row, .int .i64 x15q_Col, .int .i64 x15q_Ink, .bool x15q_Bold, .int .i64 x15q_Top, .int .i64 x15q_Bottom])) = (Loc.mk 44 false ([.int .i64 x15q_Wide, .int .i64 x15q_High, .slice x15q_Cells_p x15q_Cells_n x15q_Cells_c, .int .i64 x15q_Row, .int .i64 x15q_Col, .int .i64 x15q_Ink, .bool x15q_Bold, .int .i64 x15q_Top, .int .i64 x15q_Bottom])) ∧
            M_ (x19 + 1) (putCells u13 b1 (o1 + x19.toNat * 4) ([.int .i64 x48q_Ch, .int .i64 x48q_Ink, .int .i64 x48q_Pic, .bool x48q_Bold])) < M_ x19 u11)) ∧
              ((decide ((x19 / x15q_Wide) = (x15q_High - 1))) = false → inK .i64 (x19 + 1) ∧
              (Loc.mk 47 true v) = (Loc.mk 47 true v) ∧ (Loc.mk 44 false ([.int .i64 0, .int .i64 0, .slice none 0 0, .int .i64 0, .int .i64 0, .int .i64 0, .bool false, .int .i64 0, .int .i64 0])) = (Loc.mk 44 false ([.int .i64 0, .int .i64 0, .slice none 0 0, .int .i64 0, .int .i64 0, .int .i64 0, .bool false, .int .i64 0, .int .i64 0])) ∧
              (Loc.mk 44 false ([.int .i64 x15q_Wide, .int .i64 x15q_High, .slice x15q_Cells_p x15q_Cells_n x15q_Cells_c, .int .i64 x15q_Row, .int .i64 x15q_Col, .int .i64 x15q_Ink, .bool x15q_Bold, .int .i64 x15q_Top, .int .i64 x15q_Bottom])) = (Loc.mk 44 false ([.int .i64 x15q_Wide, .int .i64 x15q_High, .slice x15q_Cells_p x15q_Cells_n x15q_Cells_c, .int .i64 x15q_Row, .int .i64 x15q_Col, .int .i64 x15q_Ink, .bool x15q_Bold, .int .i64 x15q_Top, .int .i64 x15q_Bottom])) ∧
              I_ (x19 + 1) (putCells u12 b (o + x19.toNat * 4) ([.int .i64 x36q_Ch, .int .i64 x36q_Ink, .int .i64 x36q_Pic, .bool x36q_Bold])) ∧
              (Loc.mk 47 true v) = (Loc.mk 47 true v) ∧ (Loc.mk 44 false ([.int .i64 0, .int .i64 0, .slice none 0 0, .int .i64 0, .int .i64 0, .int .i64 0, .bool false, .int .i64 0, .int .i64 0])) = (Loc.mk 44 false ([.int .i64 0, .int .i64 0, .slice none 0 0, .int .i64 0, .int .i64 0, .int .i64 0, .bool false, .int .i64 0, .int .i64 0])) ∧
              (Loc.mk 44 false ([.int .i64 x15q_Wide, .int .i64 x15q_High, .slice x15q_Cells_p x15q_Cells_n x15q_Cells_c, .int .i64 x15q_Row, .int .i64 x15q_Col, .int .i64 x15q_Ink, .bool x15q_Bold, .int .i64 x15q_Top, .int .i64 x15q_Bottom])) = (Loc.mk 44 false ([.int .i64 x15q_Wide, .int .i64 x15q_High, .slice x15q_Cells_p x15q_Cells_n x15q_Cells_c, .int .i64 x15q_Row, .int .i64 x15q_Col, .int .i64 x15q_Ink, .bool x15q_Bold, .int .i64 x15q_Top, .int .i64 x15q_Bottom])) ∧
      M_ (x19 + 1) (putCells u12 b (o + x19.toNat * 4) ([.int .i64 x36q_Ch, .int .i64 x36q_Ink, .int .i64 x36q_Pic, .bool x36q_Bold])) < M_ x19 u11)))) ∧
        ((decide (x19 < ((x15q_Cells_n : Nat) : Int))) = false → ∃ (x52 : Int), takeN v 57 1 = some [.int .i64 x52] ∧
          Spec Try.prog 59 #[.int .i64 x52] u11 (fun e u14 => ∃ (x53 : Bool), e = .returned (.bool x53) ∧
            (((!x53) = true → R (.returned (.agg #[.int .i64 x15q_Wide, .int .i64 x15q_High, .slice x15q_Cells_p x15q_Cells_n x15q_Cells_c, .int .i64 x15q_Row, .int .i64 x15q_Col, .int .i64 x15q_Ink, .bool x15q_Bold, .int .i64 x15q_Top, .int .i64 x15q_Bottom])) u14) ∧
              ((!x53) = false → ∃ (x57q_Columns_p : Option Addr) (x57q_Columns_n x57q_Columns_c : Nat), takeN v 0 1 = some [.slice x57q_Columns_p x57q_Columns_n x57q_Columns_c] ∧
              ∃ (x59 : Int), takeN v 55 1 = some [.int .i64 x59] ∧ ∃ (x61 : Int), takeN v 56 1 = some [.int .i64 x61] ∧
                ∃ (x63 : Int), takeN v 57 1 = some [.int .i64 x63] ∧ Spec Try.prog 52 #[.agg #[.slice x57q_Columns_p x57q_Columns_n x57q_Columns_c], .int .i64 x59, .int .i64 x61, .int .i64 x63] u14 (fun e u15 => ∃ (x64q_Row : Int) (x64q_Col : Int) (x64q_High : Int) (x64q_Wide : Int), e = .returned (.agg #[.int .i64 x64q_Row, .int .i64 x64q_Col, .int .i64 x64q_High, .int .i64 x64q_Wide]) ∧
                    (((decide ((0 : Int) < x64q_Wide)) = true → ∃ (x69 : Int), takeN v 57 1 = some [.int .i64 x69] ∧
                    0 ≤ x69 ∧ x69 < ((6 : Nat) : Int) ∧ ∃ (x72q_Wide : Int) (x72q_High : Int) (x72q_Cells_p : Option Addr) (x72q_Cells_n x72q_Cells_c : Nat) (x72q_Row : Int) (x72q_Col : Int) (x72q_Ink : Int) (x72q_Bold : Bool) (x72q_Top : Int) (x72q_Bottom : Int), takeN v (1 + x69.toNat * 9) 9 = some [.int .i64 x72q_Wide, .int .i64 x72q_High, .slice x72q_Cells_p x72q_Cells_n x72q_Cells_c, .int .i64 x72q_Row, .int .i64 x72q_Col, .int .i64 x72q_Ink, .bool x72q_Bold, .int .i64 x72q_Top, .int .i64 x72q_Bottom] ∧
                    inK .i64 (x64q_High - 1) ∧ inK .i64 (x64q_Row + (min x72q_Row (x64q_High - 1))) ∧
                    inK .i64 (x15q_High - 1) ∧ inK .i64 (x64q_Wide - 1) ∧ inK .i64 (x64q_Col + (min x72q_Col (x64q_Wide - 1))) ∧
                  inK .i64 (x15q_Wide - 1) ∧ R (.returned (.agg #[.int .i64 x15q_Wide, .int .i64 x15q_High, .slice x15q_Cells_p x15q_Cells_n x15q_Cells_c, .int .i64 (min (max (x64q_Row + (min x72q_Row (x64q_High - 1))) 0) (x15q_High - 1)), .int .i64 (min (max (x64q_Col + (min x72q_Col (x64q_Wide - 1))) 0) (x15q_Wide - 1)), .int .i64 x15q_Ink, .bool x15q_Bold, .int .i64 x15q_Top, .int .i64 x15q_Bottom])) (allocW (allocW u15 hole) hole)) ∧
  ((decide ((0 : Int) < x64q_Wide)) = false → R (.returned (.agg #[.int .i64 x15q_Wide, .int .i64 x15q_High, .slice x15q_Cells_p x15q_Cells_n x15q_Cells_c, .int .i64 x15q_Row, .int .i64 x15q_Col, .int .i64 x15q_Ink, .bool x15q_Bold, .int .i64 x15q_Top, .int .i64 x15q_Bottom])) (allocW u15 hole))))))))))
set_option maxRecDepth 100000 in
theorem vc_fenestraref_ScreenOf_eq (v : List Value) (wide : Int) (high : Int) (u : World) (R : Ending → World → Prop) : wFunc cx_fenestraref_ScreenOf Try.f32 [.agg v.toArray, .int .i64 wide, .int .i64 high] u R = vc_fenestraref_ScreenOf v wide high u R := by kernel_rfl
theorem vc_fenestraref_ScreenOf_spec (v : List Value) (wide : Int) (high : Int) {u : World} {R : Ending → World → Prop} (h : vc_fenestraref_ScreenOf v wide high u R) : Spec Try.prog fn_fenestraref_ScreenOf #[.agg v.toArray, .int .i64 wide, .int .i64 high] u R := func_spec (C := cx_fenestraref_ScreenOf) (fn := Try.f32) (args := [.agg v.toArray, .int .i64 wide, .int .i64 high]) (ctxOk _ _ _ _ _) Try.func32 (vc_fenestraref_ScreenOf_eq v wide high u R) h

end Go.Proofs.Ytkmmphkjmamckaa
