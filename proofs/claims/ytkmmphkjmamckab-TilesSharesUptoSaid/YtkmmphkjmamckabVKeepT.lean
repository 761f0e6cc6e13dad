import Derived.Test.YtkmmphkjmamckabCtx
namespace Go.Proofs.Ytkmmphkjmamckab
open Go
set_option linter.all false

/-- fenestra/fenestrakeep.lays -/
noncomputable def cx_fenestrakeep_lays : Ctx := ⟨Try.prog, tab, [], [], [], fns, [], []⟩
def vc_fenestrakeep_lays  (u : World) (R : Ending → World → Prop) : Prop :=
    Spec Try.prog 41 #[.agg #[.slice (some (Addr.mk (allocW u (.cells #[.int .i64 0] 3)).heap.size 0 none)) 1 1], .int .i64 0, .int .i64 3, .bool true] (allocW (allocW u (.cells #[.int .i64 0] 3)) (.cells #[.slice (some (Addr.mk u.heap.size 0 none)) 1 1] 28)) (fun e u1 => ∃ (x70q_Columns_p : Option Addr) (x70q_Columns_n x70q_Columns_c : Nat) (x71 : Int), e = .returned (.tuple #[.agg #[.slice x70q_Columns_p x70q_Columns_n x70q_Columns_c], .int .i64 x71]) ∧
          (((decide (x71 = 0)) = true → Spec Try.prog 24 #[.agg #[.slice x70q_Columns_p x70q_Columns_n x70q_Columns_c], .int .i64 3] (allocW u1 hole) (fun e u11 => ∃ (x14 : Bool), e = .returned (.bool x14) ∧
                ((x14 = true → Spec Try.prog 19 #[.agg #[.slice x70q_Columns_p x70q_Columns_n x70q_Columns_c], .int .i64 9, .int .i64 2, .int .i64 3] u11 (fun e u12 => ∃ (x18q_Row : Int) (x18q_Col : Int) (x18q_High : Int) (x18q_Wide : Int), e = .returned (.agg #[.int .i64 x18q_Row, .int .i64 x18q_Col, .int .i64 x18q_High, .int .i64 x18q_Wide]) ∧
            R (.returned (.bool (decide (x18q_Row = 0) && (decide (x18q_Col = 5) && (decide (x18q_High = 2) && (decide (x18q_Wide = 4))))))) u12)) ∧
        (x14 = false → R (.returned (.bool false)) u11)))) ∧ ((decide (x71 = 0)) = false →
  R (.returned (.bool false)) (allocW u1 hole))))
set_option maxRecDepth 100000 in
theorem vc_fenestrakeep_lays_eq  (u : World) (R : Ending → World → Prop) : wFunc cx_fenestrakeep_lays Try.f26 [] u R = vc_fenestrakeep_lays  u R := by kernel_rfl
theorem vc_fenestrakeep_lays_spec  {u : World} {R : Ending → World → Prop} (h : vc_fenestrakeep_lays  u R) : Spec Try.prog fn_fenestrakeep_lays #[] u R := func_spec (C := cx_fenestrakeep_lays) (fn := Try.f26) (args := []) (ctxOk _ _ _ _ _) Try.func26 (vc_fenestrakeep_lays_eq  u R) h

/-- fenestra/fenestrakeep.in -/
noncomputable def cx_fenestrakeep_in : Ctx := ⟨Try.prog, tab, [], [], [], fns, [], []⟩
def vc_fenestrakeep_in (r_Row : Int) (r_Col : Int) (r_High : Int) (r_Wide : Int) (row : Int) (col : Int) (u : World) (R : Ending → World → Prop) : Prop :=
          (((decide (r_Row ≤ row)) = true → inK .i64 (r_Row + r_High) ∧ (((decide (row < (r_Row + r_High))) = true →
            (((decide (r_Col ≤ col)) = true → inK .i64 (r_Col + r_Wide) ∧ R (.returned (.bool (decide (col < (r_Col + r_Wide))))) (allocW u hole)) ∧
        ((decide (r_Col ≤ col)) = false → R (.returned (.bool false)) (allocW u hole)))) ∧
    ((decide (row < (r_Row + r_High))) = false → R (.returned (.bool false)) (allocW u hole)))) ∧
  ((decide (r_Row ≤ row)) = false → R (.returned (.bool false)) (allocW u hole)))
set_option maxRecDepth 100000 in
theorem vc_fenestrakeep_in_eq (r_Row : Int) (r_Col : Int) (r_High : Int) (r_Wide : Int) (row : Int) (col : Int) (u : World) (R : Ending → World → Prop) : wFunc cx_fenestrakeep_in Try.f25 [.agg #[.int .i64 r_Row, .int .i64 r_Col, .int .i64 r_High, .int .i64 r_Wide], .int .i64 row, .int .i64 col] u R = vc_fenestrakeep_in r_Row r_Col r_High r_Wide row col u R := by kernel_rfl
theorem vc_fenestrakeep_in_spec (r_Row : Int) (r_Col : Int) (r_High : Int) (r_Wide : Int) (row : Int) (col : Int) {u : World} {R : Ending → World → Prop} (h : vc_fenestrakeep_in r_Row r_Col r_High r_Wide row col u R) : Spec Try.prog fn_fenestrakeep_in #[.agg #[.int .i64 r_Row, .int .i64 r_Col, .int .i64 r_High, .int .i64 r_Wide], .int .i64 row, .int .i64 col] u R := func_spec (C := cx_fenestrakeep_in) (fn := Try.f25) (args := [.agg #[.int .i64 r_Row, .int .i64 r_Col, .int .i64 r_High, .int .i64 r_Wide], .int .i64 row, .int .i64 col]) (ctxOk _ _ _ _ _) Try.func25 (vc_fenestrakeep_in_eq r_Row r_Col r_High r_Wide row col u R) h

/-- fenestra/fenestrakeep.TilesApart -/
noncomputable def cx_fenestrakeep_TilesApart : Ctx := ⟨Try.prog, tab, [], [], [], fns, [(5, ⟨[.keep, .keep, .keep, .keep, .keep, .keep, .keep, .keep, .keep, .keep, .junk, .cell (.int .i64), .junk, .junk, .keep, .keep, .keep, .keep, .keep, .keep, .keep, .keep, .keep, .keep, .keep, .keep, .cell (.int .i64), .junk, .junk, .junk, .junk, .junk, .junk, .junk, .junk, .junk, .junk, .junk, .junk, .junk, .junk, .junk, .junk, .junk, .junk, .junk, .junk, .junk, .junk, .junk, .junk, .junk, .junk, .junk, .junk, .junk, .junk, .junk, .junk, .junk, .junk, .junk, .junk, .junk, .junk, .junk, .junk, .junk, .junk, .junk, .junk, .junk, .junk, .junk, .junk, .junk, .junk, .junk, .junk, .junk, .junk, .junk, .junk, .junk, .junk, .junk, .junk, .keep, .keep, .keep, .keep, .keep], [.keep]⟩)], []⟩
def vc_fenestrakeep_TilesApart (t_Columns_p : Option Addr) (t_Columns_n t_Columns_c : Nat) (wide : Int) (high : Int) (row : Int) (col : Int) (u : World) (R : Ending → World → Prop) : Prop :=
    Spec Try.prog 23 #[.int .i64 wide, .int .i64 24] (allocW u hole) (fun e u1 => ∃ (x15 : Int), e = .returned (.int .i64 x15) ∧
      inK .i64 (1 + x15) ∧ Spec Try.prog 23 #[.int .i64 high, .int .i64 10] u1 (fun e u11 => ∃ (x18 : Int), e = .returned (.int .i64 x18) ∧
        inK .i64 (1 + x18) ∧ Spec Try.prog 23 #[.int .i64 row, .int .i64 (1 + x18)] u11 (fun e u12 => ∃ (x22 : Int), e = .returned (.int .i64 x22) ∧
          Spec Try.prog 23 #[.int .i64 col, .int .i64 (1 + x15)] u12 (fun e u13 => ∃ (x25 : Int), e = .returned (.int .i64 x25) ∧
            ∃ (I_ : Int → Int → World → Prop) (M_ : Int → Int → World → Nat), ((Loc.mk 41 false ([.slice t_Columns_p t_Columns_n t_Columns_c])) = (Loc.mk 41 false ([.slice t_Columns_p t_Columns_n t_Columns_c])) ∧
          I_ 0 0 u13) ∧ ∀ (n : Int) (x26 : Int), (Loc.mk 41 false ([.slice t_Columns_p t_Columns_n t_Columns_c])) = (Loc.mk 41 false ([.slice t_Columns_p t_Columns_n t_Columns_c])) ∧
                ∀ u14 : World, I_ n x26 u14 → (((decide (x26 < 6)) = true → Spec Try.prog 19 #[.agg #[.slice t_Columns_p t_Columns_n t_Columns_c], .int .i64 (1 + x15), .int .i64 (1 + x18), .int .i64 x26] u14 (fun e u15 => ∃ (x33q_Row : Int) (x33q_Col : Int) (x33q_High : Int) (x33q_Wide : Int), e = .returned (.agg #[.int .i64 x33q_Row, .int .i64 x33q_Col, .int .i64 x33q_High, .int .i64 x33q_Wide]) ∧
                  (((decide (x33q_Row < 0)) = true → R (.returned (.bool false)) (allocW u15 hole)) ∧
                        ((decide (x33q_Row < 0)) = false → (((decide (x33q_Col < 0)) = true →
                        R (.returned (.bool false)) (allocW u15 hole)) ∧ ((decide (x33q_Col < 0)) = false →
                            inK .i64 (x33q_Row + x33q_High) ∧ (((decide ((1 + x18) < (x33q_Row + x33q_High))) = true →
                            R (.returned (.bool false)) (allocW u15 hole)) ∧ ((decide ((1 + x18) < (x33q_Row + x33q_High))) = false →
                                inK .i64 (x33q_Col + x33q_Wide) ∧ (((decide ((1 + x15) < (x33q_Col + x33q_Wide))) = true →
                                R (.returned (.bool false)) (allocW u15 hole)) ∧ ((decide ((1 + x15) < (x33q_Col + x33q_Wide))) = false →
                                    (((!((decide ((0 : Int) < x33q_High)) == (decide ((0 : Int) < x33q_Wide)))) = true →
                                    R (.returned (.bool false)) (allocW u15 hole)) ∧ ((!((decide ((0 : Int) < x33q_High)) == (decide ((0 : Int) < x33q_Wide)))) = false →
                                          (((decide ((0 : Int) < x33q_Wide)) = true → Spec Try.prog 24 #[.agg #[.slice t_Columns_p t_Columns_n t_Columns_c], .int .i64 x26] (allocW u15 hole) (fun e u16 => ∃ (x76 : Bool), e = .returned (.bool x76) ∧
                                              (((!x76) = true → R (.returned (.bool false)) u16) ∧ ((!x76) = false →
                                                Spec Try.prog 25 #[.agg #[.int .i64 x33q_Row, .int .i64 x33q_Col, .int .i64 x33q_High, .int .i64 x33q_Wide], .int .i64 x22, .int .i64 x25] u16 (fun e u17 => ∃ (x83 : Bool), e = .returned (.bool x83) ∧
                                                    ((x83 = true → inK .i64 (n + 1) ∧ inK .i64 (x26 + 1) ∧ (Loc.mk 41 false ([.slice t_Columns_p t_Columns_n t_Columns_c])) = (Loc.mk 41 false ([.slice t_Columns_p t_Columns_n t_Columns_c])) ∧
                                                    I_ (n + 1) (x26 + 1) u17 ∧ (Loc.mk 41 false ([.slice t_Columns_p t_Columns_n t_Columns_c])) = (Loc.mk 41 false ([.slice t_Columns_p t_Columns_n t_Columns_c])) ∧
                                                    M_ (n + 1) (x26 + 1) u17 < M_ n x26 u14) ∧ (x83 = false → inK .i64 (x26 + 1) ∧
                                                    (Loc.mk 41 false ([.slice t_Columns_p t_Columns_n t_Columns_c])) = (Loc.mk 41 false ([.slice t_Columns_p t_Columns_n t_Columns_c])) ∧
                                                    I_ n (x26 + 1) u17 ∧ (Loc.mk 41 false ([.slice t_Columns_p t_Columns_n t_Columns_c])) = (Loc.mk 41 false ([.slice t_Columns_p t_Columns_n t_Columns_c])) ∧
                                        M_ n (x26 + 1) u17 < M_ n x26 u14))))))) ∧ ((decide ((0 : Int) < x33q_Wide)) = false →
                                          Spec Try.prog 25 #[.agg #[.int .i64 x33q_Row, .int .i64 x33q_Col, .int .i64 x33q_High, .int .i64 x33q_Wide], .int .i64 x22, .int .i64 x25] (allocW u15 hole) (fun e u18 => ∃ (x831 : Bool), e = .returned (.bool x831) ∧
                                              ((x831 = true → inK .i64 (n + 1) ∧ inK .i64 (x26 + 1) ∧ (Loc.mk 41 false ([.slice t_Columns_p t_Columns_n t_Columns_c])) = (Loc.mk 41 false ([.slice t_Columns_p t_Columns_n t_Columns_c])) ∧
                                              I_ (n + 1) (x26 + 1) u18 ∧ (Loc.mk 41 false ([.slice t_Columns_p t_Columns_n t_Columns_c])) = (Loc.mk 41 false ([.slice t_Columns_p t_Columns_n t_Columns_c])) ∧
                                              M_ (n + 1) (x26 + 1) u18 < M_ n x26 u14) ∧ (x831 = false → inK .i64 (x26 + 1) ∧
                                              (Loc.mk 41 false ([.slice t_Columns_p t_Columns_n t_Columns_c])) = (Loc.mk 41 false ([.slice t_Columns_p t_Columns_n t_Columns_c])) ∧
                                              I_ n (x26 + 1) u18 ∧ (Loc.mk 41 false ([.slice t_Columns_p t_Columns_n t_Columns_c])) = (Loc.mk 41 false ([.slice t_Columns_p t_Columns_n t_Columns_c])) ∧
              M_ n (x26 + 1) u18 < M_ n x26 u14))))))))))))))))) ∧ ((decide (x26 < 6)) = false →
                    (((decide (n ≤ 1)) = true → Spec Try.prog 26 #[] u14 (fun e u19 => ∃ (x90 : Bool), e = .returned (.bool x90) ∧
  R (.returned (.bool x90)) u19)) ∧ ((decide (n ≤ 1)) = false → R (.returned (.bool false)) u14))))))))
set_option maxRecDepth 100000 in
theorem vc_fenestrakeep_TilesApart_eq (t_Columns_p : Option Addr) (t_Columns_n t_Columns_c : Nat) (wide : Int) (high : Int) (row : Int) (col : Int) (u : World) (R : Ending → World → Prop) : wFunc cx_fenestrakeep_TilesApart Try.f7 [.agg #[.slice t_Columns_p t_Columns_n t_Columns_c], .int .i64 wide, .int .i64 high, .int .i64 row, .int .i64 col] u R = vc_fenestrakeep_TilesApart t_Columns_p t_Columns_n t_Columns_c wide high row col u R := by kernel_rfl
theorem vc_fenestrakeep_TilesApart_spec (t_Columns_p : Option Addr) (t_Columns_n t_Columns_c : Nat) (wide : Int) (high : Int) (row : Int) (col : Int) {u : World} {R : Ending → World → Prop} (h : vc_fenestrakeep_TilesApart t_Columns_p t_Columns_n t_Columns_c wide high row col u R) : Spec Try.prog fn_fenestrakeep_TilesApart #[.agg #[.slice t_Columns_p t_Columns_n t_Columns_c], .int .i64 wide, .int .i64 high, .int .i64 row, .int .i64 col] u R := func_spec (C := cx_fenestrakeep_TilesApart) (fn := Try.f7) (args := [.agg #[.slice t_Columns_p t_Columns_n t_Columns_c], .int .i64 wide, .int .i64 high, .int .i64 row, .int .i64 col]) (ctxOk _ _ _ _ _) Try.func7 (vc_fenestrakeep_TilesApart_eq t_Columns_p t_Columns_n t_Columns_c wide high row col u R) h

/-- fenestra/fenestrakeep.TilesShares -/
noncomputable def cx_fenestrakeep_TilesShares : Ctx := ⟨Try.prog, tab, [], [], [], fns, [(5, ⟨[.keep, .keep, .keep, .keep, .junk, .cell (.int .i64), .cell (.int .i64), .cell (.int .i64), .cell (.int .i64), .junk, .junk, .junk, .keep, .keep, .keep, .keep, .keep, .keep, .cell (.int .i64), .junk, .junk, .junk, .junk, .junk, .junk, .junk, .junk, .junk, .junk, .junk, .junk, .junk, .junk, .junk, .junk, .junk, .junk, .junk, .junk, .junk, .junk, .junk, .junk, .junk, .junk, .junk, .junk, .junk, .junk, .junk, .junk, .junk, .junk, .junk, .junk, .junk, .junk, .junk, .junk, .junk, .keep, .keep, .keep, .keep, .keep, .keep, .keep, .keep, .keep, .keep, .keep, .keep, .keep, .keep, .keep, .keep, .keep, .keep, .keep, .keep, .keep, .keep], []⟩)], []⟩
def vc_fenestrakeep_TilesShares (length : Int) (n : Int) (u : World) (R : Ending → World → Prop) : Prop :=
    Spec Try.prog 23 #[.int .i64 length, .int .i64 25] u (fun e u1 => ∃ (x13 : Int), e = .returned (.int .i64 x13) ∧
      Spec Try.prog 23 #[.int .i64 n, .int .i64 6] u1 (fun e u11 => ∃ (x15 : Int), e = .returned (.int .i64 x15) ∧
        inK .i64 (1 + x15) ∧ ∃ (I_ : Int → Int → Int → Int → Int → World →
      Prop) (M_ : Int → Int → Int → Int → Int → World → Nat), (I_ 0 0 24 0 0 u11) ∧
      ∀ (sum : Int) (at_ : Int) (least : Int) (most : Int) (x18 : Int), ∀ u12 : World, I_ sum at_ least most x18 u12 →
            (((decide (x18 < (1 + x15))) = true → Spec Try.prog 17 #[.int .i64 x13, .int .i64 (1 + x15), .int .i64 x18] u12 (fun e u13 => ∃ (x250 : Int) (x251 : Int), e = .returned (.tuple #[.int .i64 x250, .int .i64 x251]) ∧
                inK .i64 (2 * (1 + x15)) ∧ inK .i64 ((2 * (1 + x15)) - 1) ∧ (((decide (x13 < ((2 * (1 + x15)) - 1))) = true →
                  (((!decide (x250 = 0)) = true → R (.returned (.bool false)) u13) ∧
                        ((!decide (x250 = 0)) = false → (((!decide (x251 = 0)) = true →
                        R (.returned (.bool false)) u13) ∧ ((!decide (x251 = 0)) = false →
              inK .i64 (x18 + 1) ∧ I_ sum at_ least most (x18 + 1) u13 ∧ M_ sum at_ least most (x18 + 1) u13 < M_ sum at_ least most x18 u12))))) ∧
                    ((decide (x13 < ((2 * (1 + x15)) - 1))) = false → (((!decide (x250 = at_)) = true →
                    R (.returned (.bool false)) u13) ∧ ((!decide (x250 = at_)) = false →
                      (((decide (x251 < 1)) = true → R (.returned (.bool false)) u13) ∧
                        ((decide (x251 < 1)) = false → inK .i64 (x251 + 1) ∧ inK .i64 (at_ + (x251 + 1)) ∧
                        inK .i64 (sum + x251) ∧ inK .i64 (x18 + 1) ∧ I_ (sum + x251) (at_ + (x251 + 1)) (min least x251) (max most x251) (x18 + 1) u13 ∧
        M_ (sum + x251) (at_ + (x251 + 1)) (min least x251) (max most x251) (x18 + 1) u13 < M_ sum at_ least most x18 u12)))))))) ∧
          ((decide (x18 < (1 + x15))) = false → inK .i64 (2 * (1 + x15)) ∧
              inK .i64 ((2 * (1 + x15)) - 1) ∧ (((decide (x13 < ((2 * (1 + x15)) - 1))) = true →
                Spec Try.prog 26 #[] u12 (fun e u14 => ∃ (x80 : Bool), e = .returned (.bool x80) ∧
              R (.returned (.bool x80)) u14)) ∧ ((decide (x13 < ((2 * (1 + x15)) - 1))) = false →
              inK .i64 (sum + (1 + x15)) ∧ inK .i64 ((sum + (1 + x15)) - 1) ∧
                  (((decide (((sum + (1 + x15)) - 1) = x13)) = true → inK .i64 (most - least) ∧
                        (((decide ((most - least) ≤ 1)) = true → Spec Try.prog 26 #[] u12 (fun e u15 => ∃ (x801 : Bool), e = .returned (.bool x801) ∧
                      R (.returned (.bool x801)) u15)) ∧ ((decide ((most - least) ≤ 1)) = false →
                  R (.returned (.bool false)) u12))) ∧ ((decide (((sum + (1 + x15)) - 1) = x13)) = false →
  R (.returned (.bool false)) u12))))))))
set_option maxRecDepth 100000 in
theorem vc_fenestrakeep_TilesShares_eq (length : Int) (n : Int) (u : World) (R : Ending → World → Prop) : wFunc cx_fenestrakeep_TilesShares Try.f8 [.int .i64 length, .int .i64 n] u R = vc_fenestrakeep_TilesShares length n u R := by kernel_rfl
theorem vc_fenestrakeep_TilesShares_spec (length : Int) (n : Int) {u : World} {R : Ending → World → Prop} (h : vc_fenestrakeep_TilesShares length n u R) : Spec Try.prog fn_fenestrakeep_TilesShares #[.int .i64 length, .int .i64 n] u R := func_spec (C := cx_fenestrakeep_TilesShares) (fn := Try.f8) (args := [.int .i64 length, .int .i64 n]) (ctxOk _ _ _ _ _) Try.func8 (vc_fenestrakeep_TilesShares_eq length n u R) h

end Go.Proofs.Ytkmmphkjmamckab
