import Derived.Test.YtkmmphkjmamckacDoorCtx
namespace Go.Proofs.YtkmmphkjmamckacDoor
open Go
set_option linter.all false

/-- slices.Clone[[]fenestra/api.Cell,fenestra/api.Cell] -/
noncomputable def cx_slices_Clone_api_Cell_api_Cell : Ctx := ⟨Tryd.prog, tab, [], [], [], fns, [], []⟩
def vc_slices_Clone_api_Cell_api_Cell (s_p : Option Addr) (s_n s_c : Nat) (u : World) (R : Ending → World → Prop) : Prop :=
    (((Option.isNone s_p) = true → R (.returned (.slice none 0 0)) u) ∧
      ((Option.isNone s_p) = false → ∃ old new : List Value, old.length = 0 * 4 ∧
      Gets (allocW u (.cells #[] 71)) (some (Addr.mk u.heap.size 0 none)) old ∧
      new.length = s_n * 4 ∧ Gets (allocW u (.cells #[] 71)) s_p new ∧
      0 < 32 ∧ (2 * (0 + s_n) + 192) * 32 ≤ 140737488355328 ∧ okCells new True ∧
      (0 + s_n ≤ 0 → WrS (allocW u (.cells #[] 71)) (some (Addr.mk u.heap.size 0 none)) (0 * 4) (s_n * 4)) ∧
      ∀ p cap u1, AppR (allocW u (.cells #[] 71)) 71 4 [.int .i64 0, .int .i64 0, .int .i64 0, .bool false] (some (Addr.mk u.heap.size 0 none)) 0 0 s_n old new p cap u1 →
  R (.returned (.slice p (0 + s_n) cap)) u1))
set_option maxRecDepth 100000 in
theorem vc_slices_Clone_api_Cell_api_Cell_eq (s_p : Option Addr) (s_n s_c : Nat) (u : World) (R : Ending → World → Prop) : wFunc cx_slices_Clone_api_Cell_api_Cell Tryd.f82 [.slice s_p s_n s_c] u R = vc_slices_Clone_api_Cell_api_Cell s_p s_n s_c u R := by kernel_rfl
theorem vc_slices_Clone_api_Cell_api_Cell_spec (s_p : Option Addr) (s_n s_c : Nat) {u : World} {R : Ending → World → Prop} (h : vc_slices_Clone_api_Cell_api_Cell s_p s_n s_c u R) : Spec Tryd.prog fn_slices_Clone_api_Cell_api_Cell #[.slice s_p s_n s_c] u R := func_spec (C := cx_slices_Clone_api_Cell_api_Cell) (fn := Tryd.f82) (args := [.slice s_p s_n s_c]) (ctxOk _ _ _ _ _) Tryd.func82 (vc_slices_Clone_api_Cell_api_Cell_eq s_p s_n s_c u R) h

/-- slices.ContainsFunc[[]fenestra/api.Cell,fenestra/api.Cell] -/
noncomputable def cx_slices_ContainsFunc_api_Cell_api_Cell : Ctx := ⟨Tryd.prog, tab, [], [], [], fns, [], []⟩
def vc_slices_ContainsFunc_api_Cell_api_Cell (s_p : Option Addr) (s_n s_c : Nat) (f_f : Fn) (f_a f_c : Array Value) (u : World) (R : Ending → World → Prop) : Prop :=
    Spec Tryd.prog 66 #[.slice s_p s_n s_c, .func f_f f_a f_c] u (fun e u1 => ∃ (x7 : Int), e = .returned (.int .i64 x7) ∧
  R (.returned (.bool (decide ((0 : Int) ≤ x7)))) u1)
set_option maxRecDepth 100000 in
theorem vc_slices_ContainsFunc_api_Cell_api_Cell_eq (s_p : Option Addr) (s_n s_c : Nat) (f_f : Fn) (f_a f_c : Array Value) (u : World) (R : Ending → World → Prop) : wFunc cx_slices_ContainsFunc_api_Cell_api_Cell Tryd.f41 [.slice s_p s_n s_c, .func f_f f_a f_c] u R = vc_slices_ContainsFunc_api_Cell_api_Cell s_p s_n s_c f_f f_a f_c u R := by kernel_rfl
theorem vc_slices_ContainsFunc_api_Cell_api_Cell_spec (s_p : Option Addr) (s_n s_c : Nat) (f_f : Fn) (f_a f_c : Array Value) {u : World} {R : Ending → World → Prop} (h : vc_slices_ContainsFunc_api_Cell_api_Cell s_p s_n s_c f_f f_a f_c u R) : Spec Tryd.prog fn_slices_ContainsFunc_api_Cell_api_Cell #[.slice s_p s_n s_c, .func f_f f_a f_c] u R := func_spec (C := cx_slices_ContainsFunc_api_Cell_api_Cell) (fn := Tryd.f41) (args := [.slice s_p s_n s_c, .func f_f f_a f_c]) (ctxOk _ _ _ _ _) Tryd.func41 (vc_slices_ContainsFunc_api_Cell_api_Cell_eq s_p s_n s_c f_f f_a f_c u R) h

/-- slices.IndexFunc[[]fenestra/api.Cell,fenestra/api.Cell] -/
noncomputable def cx_slices_IndexFunc_api_Cell_api_Cell : Ctx := ⟨Tryd.prog, tab, [], [], [], fns, [(2, ⟨[.keep, .keep, .keep, .keep, .junk, .junk, .keep, .keep, .cell (.int .i64), .junk, .junk, .junk, .junk, .junk, .junk, .junk, .junk, .junk, .junk], []⟩)], []⟩
def vc_slices_IndexFunc_api_Cell_api_Cell (s_p : Option Addr) (s_n s_c : Nat) (u : World) (R : Ending → World → Prop) : Prop :=
  ∃ (I_ : Int → World → Prop) (M_ : Int → World → Nat), (I_ 0 u) ∧
      ∀ (x8 : Int), ∀ u1 : World, I_ x8 u1 → (((decide (x8 < ((s_n : Nat) : Int))) = true →
      ∃ b o, s_p = some ⟨b, o, none⟩ ∧ 0 ≤ x8 ∧ x8 < ((s_n : Nat) : Int) ∧
      ∃ (x15q_Ch : Int) (x15q_Ink : Int) (x15q_Pic : Int) (x15q_Bold : Bool), 4 = ([.int .i64 x15q_Ch, .int .i64 x15q_Ink, .int .i64 x15q_Pic, .bool x15q_Bold] : List Value).length ∧
      Rd u1 b (o + x8.toNat * 4) ([.int .i64 x15q_Ch, .int .i64 x15q_Ink, .int .i64 x15q_Pic, .bool x15q_Bold]) ∧
        Spec Tryd.prog 42 #[.agg #[.int .i64 x15q_Ch, .int .i64 x15q_Ink, .int .i64 x15q_Pic, .bool x15q_Bold]] u1 (fun e u11 => ∃ (x16 : Bool), e = .returned (.bool x16) ∧
            ((x16 = true → R (.returned (.int .i64 x8)) u11) ∧ (x16 = false →
    inK .i64 (x8 + 1) ∧ I_ (x8 + 1) u11 ∧ M_ (x8 + 1) u11 < M_ x8 u1)))) ∧
  ((decide (x8 < ((s_n : Nat) : Int))) = false → R (.returned (.int .i64 (-1))) u1))
set_option maxRecDepth 100000 in
theorem vc_slices_IndexFunc_api_Cell_api_Cell_eq (s_p : Option Addr) (s_n s_c : Nat) (u : World) (R : Ending → World → Prop) : wFunc cx_slices_IndexFunc_api_Cell_api_Cell Tryd.f66 [.slice s_p s_n s_c, .func (.func 42) #[] #[]] u R = vc_slices_IndexFunc_api_Cell_api_Cell s_p s_n s_c u R := by kernel_rfl
theorem vc_slices_IndexFunc_api_Cell_api_Cell_spec (s_p : Option Addr) (s_n s_c : Nat) {u : World} {R : Ending → World → Prop} (h : vc_slices_IndexFunc_api_Cell_api_Cell s_p s_n s_c u R) : Spec Tryd.prog fn_slices_IndexFunc_api_Cell_api_Cell #[.slice s_p s_n s_c, .func (.func 42) #[] #[]] u R := func_spec (C := cx_slices_IndexFunc_api_Cell_api_Cell) (fn := Tryd.f66) (args := [.slice s_p s_n s_c, .func (.func 42) #[] #[]]) (ctxOk _ _ _ _ _) Tryd.func66 (vc_slices_IndexFunc_api_Cell_api_Cell_eq s_p s_n s_c u R) h

/-- fenestra/grid.New -/
noncomputable def cx_grid_New : Ctx := ⟨Tryd.prog, tab, [], [], [], fns, [], []⟩
def vc_grid_New (wide : Int) (high : Int) (u : World) (R : Ending → World → Prop) : Prop :=
  inK .i64 ((max (1 : Int) (min wide 24)) * (max (1 : Int) (min high 10))) ∧
  0 ≤ ((max (1 : Int) (min wide 24)) * (max (1 : Int) (min high 10))) ∧
  ((max (1 : Int) (min wide 24)) * (max (1 : Int) (min high 10))) ≤ ((max (1 : Int) (min wide 24)) * (max (1 : Int) (min high 10))) ∧
  ((max (1 : Int) (min wide 24)) * (max (1 : Int) (min high 10))) ≤ 9223372036854775807 ∧
  ((32 : Nat) : Int) * ((max (1 : Int) (min wide 24)) * (max (1 : Int) (min high 10))) ≤ 140737488355328 ∧
  R (.returned (.agg #[.int .i64 (max (1 : Int) (min wide 24)), .int .i64 (max (1 : Int) (min high 10)), .slice (some (Addr.mk (allocW u hole).heap.size 0 none)) (((max (1 : Int) (min wide 24)) * (max (1 : Int) (min high 10))).toNat) (((max (1 : Int) (min wide 24)) * (max (1 : Int) (min high 10))).toNat), .int .i64 0, .int .i64 0, .int .i64 0, .bool false, .int .i64 0, .int .i64 (max (1 : Int) (min high 10))])) (allocW (allocW u hole) (.cells (repl ((max (1 : Int) (min wide 24)) * (max (1 : Int) (min high 10))).toNat [.int .i64 0, .int .i64 0, .int .i64 0, .bool false]).toArray 71))
set_option maxRecDepth 100000 in
theorem vc_grid_New_eq (wide : Int) (high : Int) (u : World) (R : Ending → World → Prop) : wFunc cx_grid_New Tryd.f44 [.int .i64 wide, .int .i64 high] u R = vc_grid_New wide high u R := by kernel_rfl
theorem vc_grid_New_spec (wide : Int) (high : Int) {u : World} {R : Ending → World → Prop} (h : vc_grid_New wide high u R) : Spec Tryd.prog fn_grid_New #[.int .i64 wide, .int .i64 high] u R := func_spec (C := cx_grid_New) (fn := Tryd.f44) (args := [.int .i64 wide, .int .i64 high]) (ctxOk _ _ _ _ _) Tryd.func44 (vc_grid_New_eq wide high u R) h

/-- fenestra/grid.GoodCell -/
noncomputable def cx_grid_GoodCell : Ctx := ⟨Tryd.prog, tab, [], [], [], fns, [], []⟩
def vc_grid_GoodCell (c_Ch : Int) (c_Ink : Int) (c_Pic : Int) (c_Bold : Bool) (u : World) (R : Ending → World → Prop) : Prop :=
    (((decide (c_Pic < 0)) = true → R (.returned (.bool false)) (allocW u hole)) ∧
          ((decide (c_Pic < 0)) = false → (((decide ((8 : Int) < c_Pic)) = true →
          R (.returned (.bool false)) (allocW u hole)) ∧ ((decide ((8 : Int) < c_Pic)) = false →
            (((decide (c_Ink < 0)) = true → R (.returned (.bool false)) (allocW u hole)) ∧
                  ((decide (c_Ink < 0)) = false → (((decide ((8 : Int) < c_Ink)) = true →
                  R (.returned (.bool false)) (allocW u hole)) ∧ ((decide ((8 : Int) < c_Ink)) = false →
                          (((!decide (c_Pic = 0)) = true → (((decide (c_Ch = 0)) = true →
                            (((decide (c_Ink = 0)) = true → R (.returned (.bool (!c_Bold))) (allocW u hole)) ∧
                        ((decide (c_Ink = 0)) = false → R (.returned (.bool false)) (allocW u hole)))) ∧
                    ((decide (c_Ch = 0)) = false → R (.returned (.bool false)) (allocW u hole)))) ∧
                          ((!decide (c_Pic = 0)) = false → (((decide (c_Ch = 0)) = true →
                                (((decide (c_Ink = 0)) = true → (((!c_Bold) = true → R (.returned (.bool true)) (allocW u hole)) ∧
                                    ((!c_Bold) = false → (((decide ((32 : Int) ≤ c_Ch)) = true → R (.returned (.bool (decide (c_Ch < 127)))) (allocW u hole)) ∧
                            ((decide ((32 : Int) ≤ c_Ch)) = false → R (.returned (.bool false)) (allocW u hole)))))) ∧
                                  ((decide (c_Ink = 0)) = false → (((decide ((32 : Int) ≤ c_Ch)) = true →
                                R (.returned (.bool (decide (c_Ch < 127)))) (allocW u hole)) ∧
                        ((decide ((32 : Int) ≤ c_Ch)) = false → R (.returned (.bool false)) (allocW u hole)))))) ∧
                              ((decide (c_Ch = 0)) = false → (((decide ((32 : Int) ≤ c_Ch)) = true →
                            R (.returned (.bool (decide (c_Ch < 127)))) (allocW u hole)) ∧
  ((decide ((32 : Int) ≤ c_Ch)) = false → R (.returned (.bool false)) (allocW u hole)))))))))))))))
set_option maxRecDepth 100000 in
theorem vc_grid_GoodCell_eq (c_Ch : Int) (c_Ink : Int) (c_Pic : Int) (c_Bold : Bool) (u : World) (R : Ending → World → Prop) : wFunc cx_grid_GoodCell Tryd.f43 [.agg #[.int .i64 c_Ch, .int .i64 c_Ink, .int .i64 c_Pic, .bool c_Bold]] u R = vc_grid_GoodCell c_Ch c_Ink c_Pic c_Bold u R := by kernel_rfl
theorem vc_grid_GoodCell_spec (c_Ch : Int) (c_Ink : Int) (c_Pic : Int) (c_Bold : Bool) {u : World} {R : Ending → World → Prop} (h : vc_grid_GoodCell c_Ch c_Ink c_Pic c_Bold u R) : Spec Tryd.prog fn_grid_GoodCell #[.agg #[.int .i64 c_Ch, .int .i64 c_Ink, .int .i64 c_Pic, .bool c_Bold]] u R := func_spec (C := cx_grid_GoodCell) (fn := Tryd.f43) (args := [.agg #[.int .i64 c_Ch, .int .i64 c_Ink, .int .i64 c_Pic, .bool c_Bold]]) (ctxOk _ _ _ _ _) Tryd.func43 (vc_grid_GoodCell_eq c_Ch c_Ink c_Pic c_Bold u R) h

/-- fenestra/grid.Good$1 -/
noncomputable def cx_grid_Good_c1 : Ctx := ⟨Tryd.prog, tab, [], [], [], fns, [], []⟩
def vc_grid_Good_c1 (c_Ch : Int) (c_Ink : Int) (c_Pic : Int) (c_Bold : Bool) (u : World) (R : Ending → World → Prop) : Prop :=
    Spec Tryd.prog 43 #[.agg #[.int .i64 c_Ch, .int .i64 c_Ink, .int .i64 c_Pic, .bool c_Bold]] (allocW u hole) (fun e u1 => ∃ (x4 : Bool), e = .returned (.bool x4) ∧
  R (.returned (.bool (!x4))) u1)
set_option maxRecDepth 100000 in
theorem vc_grid_Good_c1_eq (c_Ch : Int) (c_Ink : Int) (c_Pic : Int) (c_Bold : Bool) (u : World) (R : Ending → World → Prop) : wFunc cx_grid_Good_c1 Tryd.f42 [.agg #[.int .i64 c_Ch, .int .i64 c_Ink, .int .i64 c_Pic, .bool c_Bold]] u R = vc_grid_Good_c1 c_Ch c_Ink c_Pic c_Bold u R := by kernel_rfl
theorem vc_grid_Good_c1_spec (c_Ch : Int) (c_Ink : Int) (c_Pic : Int) (c_Bold : Bool) {u : World} {R : Ending → World → Prop} (h : vc_grid_Good_c1 c_Ch c_Ink c_Pic c_Bold u R) : Spec Tryd.prog fn_grid_Good_c1 #[.agg #[.int .i64 c_Ch, .int .i64 c_Ink, .int .i64 c_Pic, .bool c_Bold]] u R := func_spec (C := cx_grid_Good_c1) (fn := Tryd.f42) (args := [.agg #[.int .i64 c_Ch, .int .i64 c_Ink, .int .i64 c_Pic, .bool c_Bold]]) (ctxOk _ _ _ _ _) Tryd.func42 (vc_grid_Good_c1_eq c_Ch c_Ink c_Pic c_Bold u R) h

/-- fenestra/grid.Good -/
noncomputable def cx_grid_Good : Ctx := ⟨Tryd.prog, tab, [], [], [], fns, [], []⟩
def vc_grid_Good (g_Wide : Int) (g_High : Int) (g_Cells_p : Option Addr) (g_Cells_n g_Cells_c : Nat) (g_Row : Int) (g_Col : Int) (g_Ink : Int) (g_Bold : Bool) (g_Top : Int) (g_Bottom : Int) (u : World) (R : Ending → World → Prop) : Prop :=
    (((decide (g_Wide < 1)) = true → R (.returned (.bool false)) (allocW u hole)) ∧
          ((decide (g_Wide < 1)) = false → (((decide ((24 : Int) < g_Wide)) = true →
          R (.returned (.bool false)) (allocW u hole)) ∧ ((decide ((24 : Int) < g_Wide)) = false →
            (((decide (g_High < 1)) = true → R (.returned (.bool false)) (allocW u hole)) ∧
                  ((decide (g_High < 1)) = false → (((decide ((10 : Int) < g_High)) = true →
                  R (.returned (.bool false)) (allocW u hole)) ∧ ((decide ((10 : Int) < g_High)) = false →
                      inK .i64 (g_Wide * g_High) ∧ (((!decide (((g_Cells_n : Nat) : Int) = (g_Wide * g_High))) = true →
                      R (.returned (.bool false)) (allocW u hole)) ∧ ((!decide (((g_Cells_n : Nat) : Int) = (g_Wide * g_High))) = false →
                        (((decide (g_Row < 0)) = true → R (.returned (.bool false)) (allocW u hole)) ∧
                              ((decide (g_Row < 0)) = false → (((decide (g_High ≤ g_Row)) = true →
                              R (.returned (.bool false)) (allocW u hole)) ∧ ((decide (g_High ≤ g_Row)) = false →
                                (((decide (g_Col < 0)) = true → R (.returned (.bool false)) (allocW u hole)) ∧
                                      ((decide (g_Col < 0)) = false → (((decide (g_Wide < g_Col)) = true →
                                      R (.returned (.bool false)) (allocW u hole)) ∧ ((decide (g_Wide < g_Col)) = false →
                                        (((decide (g_Ink < 0)) = true → R (.returned (.bool false)) (allocW u hole)) ∧
                                              ((decide (g_Ink < 0)) = false → (((decide ((8 : Int) < g_Ink)) = true →
                                              R (.returned (.bool false)) (allocW u hole)) ∧ ((decide ((8 : Int) < g_Ink)) = false →
                                                (((decide (g_Top < 0)) = true → R (.returned (.bool false)) (allocW u hole)) ∧
                                                      ((decide (g_Top < 0)) = false → (((decide (g_Bottom ≤ g_Top)) = true →
                                                      R (.returned (.bool false)) (allocW u hole)) ∧ ((decide (g_Bottom ≤ g_Top)) = false →
                                                        (((decide (g_High < g_Bottom)) = true → R (.returned (.bool false)) (allocW u hole)) ∧
                                                            ((decide (g_High < g_Bottom)) = false → Spec Tryd.prog 41 #[.slice g_Cells_p g_Cells_n g_Cells_c, .func (.func 42) #[] #[]] (allocW u hole) (fun e u1 => ∃ (x85 : Bool), e = .returned (.bool x85) ∧
  R (.returned (.bool (!x85))) u1)))))))))))))))))))))))))))))
set_option maxRecDepth 100000 in
theorem vc_grid_Good_eq (g_Wide : Int) (g_High : Int) (g_Cells_p : Option Addr) (g_Cells_n g_Cells_c : Nat) (g_Row : Int) (g_Col : Int) (g_Ink : Int) (g_Bold : Bool) (g_Top : Int) (g_Bottom : Int) (u : World) (R : Ending → World → Prop) : wFunc cx_grid_Good Tryd.f14 [.agg #[.int .i64 g_Wide, .int .i64 g_High, .slice g_Cells_p g_Cells_n g_Cells_c, .int .i64 g_Row, .int .i64 g_Col, .int .i64 g_Ink, .bool g_Bold, .int .i64 g_Top, .int .i64 g_Bottom]] u R = vc_grid_Good g_Wide g_High g_Cells_p g_Cells_n g_Cells_c g_Row g_Col g_Ink g_Bold g_Top g_Bottom u R := by kernel_rfl
theorem vc_grid_Good_spec (g_Wide : Int) (g_High : Int) (g_Cells_p : Option Addr) (g_Cells_n g_Cells_c : Nat) (g_Row : Int) (g_Col : Int) (g_Ink : Int) (g_Bold : Bool) (g_Top : Int) (g_Bottom : Int) {u : World} {R : Ending → World → Prop} (h : vc_grid_Good g_Wide g_High g_Cells_p g_Cells_n g_Cells_c g_Row g_Col g_Ink g_Bold g_Top g_Bottom u R) : Spec Tryd.prog fn_grid_Good #[.agg #[.int .i64 g_Wide, .int .i64 g_High, .slice g_Cells_p g_Cells_n g_Cells_c, .int .i64 g_Row, .int .i64 g_Col, .int .i64 g_Ink, .bool g_Bold, .int .i64 g_Top, .int .i64 g_Bottom]] u R := func_spec (C := cx_grid_Good) (fn := Tryd.f14) (args := [.agg #[.int .i64 g_Wide, .int .i64 g_High, .slice g_Cells_p g_Cells_n g_Cells_c, .int .i64 g_Row, .int .i64 g_Col, .int .i64 g_Ink, .bool g_Bold, .int .i64 g_Top, .int .i64 g_Bottom]]) (ctxOk _ _ _ _ _) Tryd.func14 (vc_grid_Good_eq g_Wide g_High g_Cells_p g_Cells_n g_Cells_c g_Row g_Col g_Ink g_Bold g_Top g_Bottom u R) h

/-- fenestra/grid.At -/
noncomputable def cx_grid_At : Ctx := ⟨Tryd.prog, tab, [], [], [], fns, [], []⟩
def vc_grid_At (g_Wide : Int) (g_High : Int) (g_Cells_p : Option Addr) (g_Cells_n g_Cells_c : Nat) (g_Row : Int) (g_Col : Int) (g_Ink : Int) (g_Bold : Bool) (g_Top : Int) (g_Bottom : Int) (row : Int) (col : Int) (u : World) (R : Ending → World → Prop) : Prop :=
    (((decide ((24 : Int) < g_Wide)) = true → R (.returned (.agg #[.int .i64 0, .int .i64 0, .int .i64 0, .bool false])) (allocW (allocW u hole) hole)) ∧
          ((decide ((24 : Int) < g_Wide)) = false → (((decide ((10 : Int) < g_High)) = true →
        R (.returned (.agg #[.int .i64 0, .int .i64 0, .int .i64 0, .bool false])) (allocW (allocW u hole) hole)) ∧
              ((decide ((10 : Int) < g_High)) = false → (((decide (row < 0)) = true →
            R (.returned (.agg #[.int .i64 0, .int .i64 0, .int .i64 0, .bool false])) (allocW (allocW u hole) hole)) ∧
                  ((decide (row < 0)) = false → (((decide (g_High ≤ row)) = true →
                R (.returned (.agg #[.int .i64 0, .int .i64 0, .int .i64 0, .bool false])) (allocW (allocW u hole) hole)) ∧
                      ((decide (g_High ≤ row)) = false → (((decide (col < 0)) = true →
                    R (.returned (.agg #[.int .i64 0, .int .i64 0, .int .i64 0, .bool false])) (allocW (allocW u hole) hole)) ∧
                          ((decide (col < 0)) = false → (((decide (g_Wide ≤ col)) = true →
                        R (.returned (.agg #[.int .i64 0, .int .i64 0, .int .i64 0, .bool false])) (allocW (allocW u hole) hole)) ∧
                          ((decide (g_Wide ≤ col)) = false → inK .i64 (row * g_Wide) ∧ inK .i64 ((row * g_Wide) + col) ∧
                              (((decide (((g_Cells_n : Nat) : Int) ≤ ((row * g_Wide) + col))) = true →
                            R (.returned (.agg #[.int .i64 0, .int .i64 0, .int .i64 0, .bool false])) (allocW (allocW u hole) hole)) ∧
                              ((decide (((g_Cells_n : Nat) : Int) ≤ ((row * g_Wide) + col))) = false →
                              inK .i64 (row * g_Wide) ∧ inK .i64 ((row * g_Wide) + col) ∧ ∃ b o, g_Cells_p = some ⟨b, o, none⟩ ∧
                              0 ≤ ((row * g_Wide) + col) ∧ ((row * g_Wide) + col) < ((g_Cells_n : Nat) : Int) ∧
                              ∃ (x57q_Ch : Int) (x57q_Ink : Int) (x57q_Pic : Int) (x57q_Bold : Bool), 4 = ([.int .i64 x57q_Ch, .int .i64 x57q_Ink, .int .i64 x57q_Pic, .bool x57q_Bold] : List Value).length ∧
                              Rd (allocW (allocW u hole) hole) b (o + ((row * g_Wide) + col).toNat * 4) ([.int .i64 x57q_Ch, .int .i64 x57q_Ink, .int .i64 x57q_Pic, .bool x57q_Bold]) ∧
  R (.returned (.agg #[.int .i64 x57q_Ch, .int .i64 x57q_Ink, .int .i64 x57q_Pic, .bool x57q_Bold])) (allocW (allocW u hole) hole)))))))))))))))
set_option maxRecDepth 100000 in
theorem vc_grid_At_eq (g_Wide : Int) (g_High : Int) (g_Cells_p : Option Addr) (g_Cells_n g_Cells_c : Nat) (g_Row : Int) (g_Col : Int) (g_Ink : Int) (g_Bold : Bool) (g_Top : Int) (g_Bottom : Int) (row : Int) (col : Int) (u : World) (R : Ending → World → Prop) : wFunc cx_grid_At Tryd.f38 [.agg #[.int .i64 g_Wide, .int .i64 g_High, .slice g_Cells_p g_Cells_n g_Cells_c, .int .i64 g_Row, .int .i64 g_Col, .int .i64 g_Ink, .bool g_Bold, .int .i64 g_Top, .int .i64 g_Bottom], .int .i64 row, .int .i64 col] u R = vc_grid_At g_Wide g_High g_Cells_p g_Cells_n g_Cells_c g_Row g_Col g_Ink g_Bold g_Top g_Bottom row col u R := by kernel_rfl
theorem vc_grid_At_spec (g_Wide : Int) (g_High : Int) (g_Cells_p : Option Addr) (g_Cells_n g_Cells_c : Nat) (g_Row : Int) (g_Col : Int) (g_Ink : Int) (g_Bold : Bool) (g_Top : Int) (g_Bottom : Int) (row : Int) (col : Int) {u : World} {R : Ending → World → Prop} (h : vc_grid_At g_Wide g_High g_Cells_p g_Cells_n g_Cells_c g_Row g_Col g_Ink g_Bold g_Top g_Bottom row col u R) : Spec Tryd.prog fn_grid_At #[.agg #[.int .i64 g_Wide, .int .i64 g_High, .slice g_Cells_p g_Cells_n g_Cells_c, .int .i64 g_Row, .int .i64 g_Col, .int .i64 g_Ink, .bool g_Bold, .int .i64 g_Top, .int .i64 g_Bottom], .int .i64 row, .int .i64 col] u R := func_spec (C := cx_grid_At) (fn := Tryd.f38) (args := [.agg #[.int .i64 g_Wide, .int .i64 g_High, .slice g_Cells_p g_Cells_n g_Cells_c, .int .i64 g_Row, .int .i64 g_Col, .int .i64 g_Ink, .bool g_Bold, .int .i64 g_Top, .int .i64 g_Bottom], .int .i64 row, .int .i64 col]) (ctxOk _ _ _ _ _) Tryd.func38 (vc_grid_At_eq g_Wide g_High g_Cells_p g_Cells_n g_Cells_c g_Row g_Col g_Ink g_Bold g_Top g_Bottom row col u R) h

/-- fenestra/grid.row -/
noncomputable def cx_grid_row : Ctx := ⟨Tryd.prog, tab, [], [], [], fns, [], []⟩
def vc_grid_row (g_b g_o : Nat) (r : Int) (u : World) (R : Ending → World → Prop) : Prop :=
  ∃ (x8q_p : Option Addr) (x8q_n x8q_c : Nat), 1 = ([.slice x8q_p x8q_n x8q_c] : List Value).length ∧
  Rd (drewW u) g_b (g_o + 2) ([.slice x8q_p x8q_n x8q_c]) ∧ ∃ (x13 : Int), 1 = ([.int .i64 x13] : List Value).length ∧
  Rd (drewW u) g_b (g_o + 0) ([.int .i64 x13]) ∧ inK .i64 (r * x13) ∧
  inK .i64 (r + 1) ∧ ∃ (x20 : Int), 1 = ([.int .i64 x20] : List Value).length ∧
  Rd (drewW u) g_b (g_o + 0) ([.int .i64 x20]) ∧ inK .i64 ((r + 1) * x20) ∧
  0 ≤ (r * x13) ∧ (r * x13) ≤ ((r + 1) * x20) ∧ ((r + 1) * x20) ≤ ((x8q_c : Nat) : Int) ∧
  R (.returned (.slice (if x8q_c = (r * x13).toNat then x8q_p else Option.map (fun a => Addr.add a ((r * x13).toNat * 4)) x8q_p) (((r + 1) * x20).toNat - (r * x13).toNat) (x8q_c - (r * x13).toNat))) (drewW u)
set_option maxRecDepth 100000 in
theorem vc_grid_row_eq (g_b g_o : Nat) (r : Int) (u : World) (R : Ending → World → Prop) : wFunc cx_grid_row Tryd.f92 [.pointer (some ⟨g_b, g_o, none⟩), .int .i64 r] u R = vc_grid_row g_b g_o r u R := by kernel_rfl
theorem vc_grid_row_spec (g_b g_o : Nat) (r : Int) {u : World} {R : Ending → World → Prop} (h : vc_grid_row g_b g_o r u R) : Spec Tryd.prog fn_grid_row #[.pointer (some ⟨g_b, g_o, none⟩), .int .i64 r] u R := func_spec (C := cx_grid_row) (fn := Tryd.f92) (args := [.pointer (some ⟨g_b, g_o, none⟩), .int .i64 r]) (ctxOk _ _ _ _ _) Tryd.func92 (vc_grid_row_eq g_b g_o r u R) h

/-- fenestra/grid.wipe -/
noncomputable def cx_grid_wipe : Ctx := ⟨Tryd.prog, tab, [], [], [], fns, [(1, ⟨[.keep, .keep, .junk, .keep, .keep, .cell (.int .i64), .junk, .junk, .junk, .junk, .junk, .junk, .junk], []⟩)], []⟩
def vc_grid_wipe (l_p : Option Addr) (l_n l_c : Nat) (u : World) (R : Ending → World → Prop) : Prop :=
  ∃ (I_ : Int → World → Prop) (M_ : Int → World → Nat), (I_ 0 u) ∧
      ∀ (x5 : Int), ∀ u1 : World, I_ x5 u1 → (((decide (x5 < ((l_n : Nat) : Int))) = true →
      ∃ b o, l_p = some ⟨b, o, none⟩ ∧ 0 ≤ x5 ∧ x5 < ((l_n : Nat) : Int) ∧
      4 = ([.int .i64 0, .int .i64 0, .int .i64 0, .bool false] : List Value).length ∧
      Wr u1 b (o + x5.toNat * 4) 4 ∧ inK .i64 (x5 + 1) ∧ I_ (x5 + 1) (putCells u1 b (o + x5.toNat * 4) ([.int .i64 0, .int .i64 0, .int .i64 0, .bool false])) ∧
    M_ (x5 + 1) (putCells u1 b (o + x5.toNat * 4) ([.int .i64 0, .int .i64 0, .int .i64 0, .bool false])) < M_ x5 u1) ∧
  ((decide (x5 < ((l_n : Nat) : Int))) = false → R (.returned (.tuple #[])) u1))
set_option maxRecDepth 100000 in
theorem vc_grid_wipe_eq (l_p : Option Addr) (l_n l_c : Nat) (u : World) (R : Ending → World → Prop) : wFunc cx_grid_wipe Tryd.f108 [.slice l_p l_n l_c] u R = vc_grid_wipe l_p l_n l_c u R := by kernel_rfl
theorem vc_grid_wipe_spec (l_p : Option Addr) (l_n l_c : Nat) {u : World} {R : Ending → World → Prop} (h : vc_grid_wipe l_p l_n l_c u R) : Spec Tryd.prog fn_grid_wipe #[.slice l_p l_n l_c] u R := func_spec (C := cx_grid_wipe) (fn := Tryd.f108) (args := [.slice l_p l_n l_c]) (ctxOk _ _ _ _ _) Tryd.func108 (vc_grid_wipe_eq l_p l_n l_c u R) h

/-- fenestra/grid.up -/
noncomputable def cx_grid_up : Ctx := ⟨Tryd.prog, tab, [], [], [], fns, [], []⟩
def vc_grid_up (g_b g_o : Nat) (from_ : Int) (to_ : Int) (u : World) (R : Ending → World → Prop) : Prop :=
  ∃ (x9q_p : Option Addr) (x9q_n x9q_c : Nat), 1 = ([.slice x9q_p x9q_n x9q_c] : List Value).length ∧
  Rd (drewW u) g_b (g_o + 2) ([.slice x9q_p x9q_n x9q_c]) ∧ ∃ (x14 : Int), 1 = ([.int .i64 x14] : List Value).length ∧
  Rd (drewW u) g_b (g_o + 0) ([.int .i64 x14]) ∧ inK .i64 (from_ * x14) ∧
  0 ≤ (from_ * x14) ∧ (from_ * x14) ≤ ((x9q_n : Nat) : Int) ∧ ((x9q_n : Nat) : Int) ≤ ((x9q_c : Nat) : Int) ∧
  ∃ (x20q_p : Option Addr) (x20q_n x20q_c : Nat), 1 = ([.slice x20q_p x20q_n x20q_c] : List Value).length ∧
  Rd (drewW u) g_b (g_o + 2) ([.slice x20q_p x20q_n x20q_c]) ∧ inK .i64 (from_ + 1) ∧
  ∃ (x26 : Int), 1 = ([.int .i64 x26] : List Value).length ∧ Rd (drewW u) g_b (g_o + 0) ([.int .i64 x26]) ∧
  inK .i64 ((from_ + 1) * x26) ∧ ∃ (x32 : Int), 1 = ([.int .i64 x32] : List Value).length ∧
  Rd (drewW u) g_b (g_o + 0) ([.int .i64 x32]) ∧ inK .i64 (to_ * x32) ∧
  0 ≤ ((from_ + 1) * x26) ∧ ((from_ + 1) * x26) ≤ (to_ * x32) ∧ (to_ * x32) ≤ ((x20q_c : Nat) : Int) ∧
  ∃ cs : List Value, cs.length = min ((to_ * x32).toNat - ((from_ + 1) * x26).toNat) (((x9q_n : Nat) : Int).toNat - (from_ * x14).toNat) * 4 ∧
  Gets (drewW u) (if x20q_c = ((from_ + 1) * x26).toNat then x20q_p else Option.map (fun a => Addr.add a (((from_ + 1) * x26).toNat * 4)) x20q_p) cs ∧
  okCells cs True ∧ WrS (drewW u) (if x9q_c = (from_ * x14).toNat then x9q_p else Option.map (fun a => Addr.add a ((from_ * x14).toNat * 4)) x9q_p) 0 (min ((to_ * x32).toNat - ((from_ + 1) * x26).toNat) (((x9q_n : Nat) : Int).toNat - (from_ * x14).toNat) * 4) ∧
    inK .i64 (to_ - 1) ∧ Spec Tryd.prog 92 #[.pointer (some ⟨g_b, g_o, none⟩), .int .i64 (to_ - 1)] (putSl (drewW u) (if x9q_c = (from_ * x14).toNat then x9q_p else Option.map (fun a => Addr.add a ((from_ * x14).toNat * 4)) x9q_p) 0 cs) (fun e u1 => ∃ (x39q_p : Option Addr) (x39q_n x39q_c : Nat), e = .returned (.slice x39q_p x39q_n x39q_c) ∧
      Spec Tryd.prog 108 #[.slice x39q_p x39q_n x39q_c] u1 (fun e u11 => e = .returned (.tuple #[]) ∧
  R (.returned (.tuple #[])) u11))
set_option maxRecDepth 100000 in
theorem vc_grid_up_eq (g_b g_o : Nat) (from_ : Int) (to_ : Int) (u : World) (R : Ending → World → Prop) : wFunc cx_grid_up Tryd.f98 [.pointer (some ⟨g_b, g_o, none⟩), .int .i64 from_, .int .i64 to_] u R = vc_grid_up g_b g_o from_ to_ u R := by kernel_rfl
theorem vc_grid_up_spec (g_b g_o : Nat) (from_ : Int) (to_ : Int) {u : World} {R : Ending → World → Prop} (h : vc_grid_up g_b g_o from_ to_ u R) : Spec Tryd.prog fn_grid_up #[.pointer (some ⟨g_b, g_o, none⟩), .int .i64 from_, .int .i64 to_] u R := func_spec (C := cx_grid_up) (fn := Tryd.f98) (args := [.pointer (some ⟨g_b, g_o, none⟩), .int .i64 from_, .int .i64 to_]) (ctxOk _ _ _ _ _) Tryd.func98 (vc_grid_up_eq g_b g_o from_ to_ u R) h

/-- fenestra/grid.down -/
noncomputable def cx_grid_down : Ctx := ⟨Tryd.prog, tab, [], [], [], fns, [], []⟩
def vc_grid_down (g_b g_o : Nat) (from_ : Int) (to_ : Int) (u : World) (R : Ending → World → Prop) : Prop :=
  ∃ (x9q_p : Option Addr) (x9q_n x9q_c : Nat), 1 = ([.slice x9q_p x9q_n x9q_c] : List Value).length ∧
  Rd (drewW u) g_b (g_o + 2) ([.slice x9q_p x9q_n x9q_c]) ∧ inK .i64 (from_ + 1) ∧
  ∃ (x15 : Int), 1 = ([.int .i64 x15] : List Value).length ∧ Rd (drewW u) g_b (g_o + 0) ([.int .i64 x15]) ∧
  inK .i64 ((from_ + 1) * x15) ∧ ∃ (x21 : Int), 1 = ([.int .i64 x21] : List Value).length ∧
  Rd (drewW u) g_b (g_o + 0) ([.int .i64 x21]) ∧ inK .i64 (to_ * x21) ∧
  0 ≤ ((from_ + 1) * x15) ∧ ((from_ + 1) * x15) ≤ (to_ * x21) ∧ (to_ * x21) ≤ ((x9q_c : Nat) : Int) ∧
  ∃ (x27q_p : Option Addr) (x27q_n x27q_c : Nat), 1 = ([.slice x27q_p x27q_n x27q_c] : List Value).length ∧
  Rd (drewW u) g_b (g_o + 2) ([.slice x27q_p x27q_n x27q_c]) ∧ ∃ (x32 : Int), 1 = ([.int .i64 x32] : List Value).length ∧
  Rd (drewW u) g_b (g_o + 0) ([.int .i64 x32]) ∧ inK .i64 (from_ * x32) ∧
  inK .i64 (to_ - 1) ∧ ∃ (x39 : Int), 1 = ([.int .i64 x39] : List Value).length ∧
  Rd (drewW u) g_b (g_o + 0) ([.int .i64 x39]) ∧ inK .i64 ((to_ - 1) * x39) ∧
  0 ≤ (from_ * x32) ∧ (from_ * x32) ≤ ((to_ - 1) * x39) ∧ ((to_ - 1) * x39) ≤ ((x27q_c : Nat) : Int) ∧
  ∃ cs : List Value, cs.length = min (((to_ - 1) * x39).toNat - (from_ * x32).toNat) ((to_ * x21).toNat - ((from_ + 1) * x15).toNat) * 4 ∧
  Gets (drewW u) (if x27q_c = (from_ * x32).toNat then x27q_p else Option.map (fun a => Addr.add a ((from_ * x32).toNat * 4)) x27q_p) cs ∧
  okCells cs True ∧ WrS (drewW u) (if x9q_c = ((from_ + 1) * x15).toNat then x9q_p else Option.map (fun a => Addr.add a (((from_ + 1) * x15).toNat * 4)) x9q_p) 0 (min (((to_ - 1) * x39).toNat - (from_ * x32).toNat) ((to_ * x21).toNat - ((from_ + 1) * x15).toNat) * 4) ∧
    Spec Tryd.prog 92 #[.pointer (some ⟨g_b, g_o, none⟩), .int .i64 from_] (putSl (drewW u) (if x9q_c = ((from_ + 1) * x15).toNat then x9q_p else Option.map (fun a => Addr.add a (((from_ + 1) * x15).toNat * 4)) x9q_p) 0 cs) (fun e u1 => ∃ (x45q_p : Option Addr) (x45q_n x45q_c : Nat), e = .returned (.slice x45q_p x45q_n x45q_c) ∧
      Spec Tryd.prog 108 #[.slice x45q_p x45q_n x45q_c] u1 (fun e u11 => e = .returned (.tuple #[]) ∧
  R (.returned (.tuple #[])) u11))
set_option maxRecDepth 100000 in
theorem vc_grid_down_eq (g_b g_o : Nat) (from_ : Int) (to_ : Int) (u : World) (R : Ending → World → Prop) : wFunc cx_grid_down Tryd.f97 [.pointer (some ⟨g_b, g_o, none⟩), .int .i64 from_, .int .i64 to_] u R = vc_grid_down g_b g_o from_ to_ u R := by kernel_rfl
theorem vc_grid_down_spec (g_b g_o : Nat) (from_ : Int) (to_ : Int) {u : World} {R : Ending → World → Prop} (h : vc_grid_down g_b g_o from_ to_ u R) : Spec Tryd.prog fn_grid_down #[.pointer (some ⟨g_b, g_o, none⟩), .int .i64 from_, .int .i64 to_] u R := func_spec (C := cx_grid_down) (fn := Tryd.f97) (args := [.pointer (some ⟨g_b, g_o, none⟩), .int .i64 from_, .int .i64 to_]) (ctxOk _ _ _ _ _) Tryd.func97 (vc_grid_down_eq g_b g_o from_ to_ u R) h

/-- fenestra/grid.feed -/
noncomputable def cx_grid_feed : Ctx := ⟨Tryd.prog, tab, [], [], [], fns, [], []⟩
def vc_grid_feed (g_b g_o : Nat) (u : World) (R : Ending → World → Prop) : Prop :=
  ∃ (x6 : Int), 1 = ([.int .i64 x6] : List Value).length ∧ Rd (drewW u) g_b (g_o + 3) ([.int .i64 x6]) ∧
  ∃ (x10 : Int), 1 = ([.int .i64 x10] : List Value).length ∧ Rd (drewW u) g_b (g_o + 8) ([.int .i64 x10]) ∧
      inK .i64 (x10 - 1) ∧ (((decide (x6 = (x10 - 1))) = true → ∃ (x17 : Int), 1 = ([.int .i64 x17] : List Value).length ∧
      Rd (drewW (drewW u)) g_b (g_o + 7) ([.int .i64 x17]) ∧ ∃ (x21 : Int), 1 = ([.int .i64 x21] : List Value).length ∧
        Rd (drewW (drewW u)) g_b (g_o + 8) ([.int .i64 x21]) ∧ Spec Tryd.prog 98 #[.pointer (some ⟨g_b, g_o, none⟩), .int .i64 x17, .int .i64 x21] (drewW (drewW u)) (fun e u1 => e = .returned (.tuple #[]) ∧
      R (.returned (.tuple #[])) u1)) ∧ ((decide (x6 = (x10 - 1))) = false →
      ∃ (x27 : Int), 1 = ([.int .i64 x27] : List Value).length ∧ Rd (drewW (drewW u)) g_b (g_o + 3) ([.int .i64 x27]) ∧
      ∃ (x31 : Int), 1 = ([.int .i64 x31] : List Value).length ∧ Rd (drewW (drewW u)) g_b (g_o + 1) ([.int .i64 x31]) ∧
          inK .i64 (x31 - 1) ∧ (((decide (x27 < (x31 - 1))) = true → ∃ (x37 : Int), 1 = ([.int .i64 x37] : List Value).length ∧
          Rd (drewW (drewW u)) g_b (g_o + 3) ([.int .i64 x37]) ∧ inK .i64 (x37 + 1) ∧
          1 = ([.int .i64 (x37 + 1)] : List Value).length ∧ Wr (drewW (drewW u)) g_b (g_o + 3) 1 ∧
        R (.returned (.tuple #[])) (putCells (drewW (drewW u)) g_b (g_o + 3) ([.int .i64 (x37 + 1)]))) ∧
  ((decide (x27 < (x31 - 1))) = false → R (.returned (.tuple #[])) (drewW (drewW u))))))
set_option maxRecDepth 100000 in
theorem vc_grid_feed_eq (g_b g_o : Nat) (u : World) (R : Ending → World → Prop) : wFunc cx_grid_feed Tryd.f94 [.pointer (some ⟨g_b, g_o, none⟩)] u R = vc_grid_feed g_b g_o u R := by kernel_rfl
theorem vc_grid_feed_spec (g_b g_o : Nat) {u : World} {R : Ending → World → Prop} (h : vc_grid_feed g_b g_o u R) : Spec Tryd.prog fn_grid_feed #[.pointer (some ⟨g_b, g_o, none⟩)] u R := func_spec (C := cx_grid_feed) (fn := Tryd.f94) (args := [.pointer (some ⟨g_b, g_o, none⟩)]) (ctxOk _ _ _ _ _) Tryd.func94 (vc_grid_feed_eq g_b g_o u R) h

/-- fenestra/grid.show -/
noncomputable def cx_grid_show : Ctx := ⟨Tryd.prog, tab, [], [], [], fns, [], []⟩
def vc_grid_show (g_b g_o : Nat) (ch : Int) (u : World) (R : Ending → World → Prop) : Prop :=
  ∃ (x7 : Int), 1 = ([.int .i64 x7] : List Value).length ∧ Rd (drewW u) g_b (g_o + 4) ([.int .i64 x7]) ∧
  ∃ (x11 : Int), 1 = ([.int .i64 x11] : List Value).length ∧ Rd (drewW u) g_b (g_o + 0) ([.int .i64 x11]) ∧
      (((decide (x7 = x11)) = true → 1 = ([.int .i64 0] : List Value).length ∧
        Wr (drewW u) g_b (g_o + 4) 1 ∧ Spec Tryd.prog 94 #[.pointer (some ⟨g_b, g_o, none⟩)] (putCells (drewW u) g_b (g_o + 4) ([.int .i64 0])) (fun e u1 => e = .returned (.tuple #[]) ∧
        ∃ (x22 : Int), 1 = ([.int .i64 x22] : List Value).length ∧ Rd (drewW u1) g_b (g_o + 3) ([.int .i64 x22]) ∧
        ∃ (x27 : Int), 1 = ([.int .i64 x27] : List Value).length ∧ Rd (drewW u1) g_b (g_o + 4) ([.int .i64 x27]) ∧
        ∃ (x32 : Int), 1 = ([.int .i64 x32] : List Value).length ∧ Rd (drewW u1) g_b (g_o + 5) ([.int .i64 x32]) ∧
        ∃ (x36 : Bool), 1 = ([.bool x36] : List Value).length ∧ Rd (drewW u1) g_b (g_o + 6) ([.bool x36]) ∧
          Spec Tryd.prog 92 #[.pointer (some ⟨g_b, g_o, none⟩), .int .i64 x22] (drewW u1) (fun e u11 => ∃ (x23q_p : Option Addr) (x23q_n x23q_c : Nat), e = .returned (.slice x23q_p x23q_n x23q_c) ∧
          Rd u11 g_b (g_o + 6) ([.bool x36]) ∧ Rd u11 g_b (g_o + 5) ([.int .i64 x32]) ∧
          Rd u11 g_b (g_o + 4) ([.int .i64 x27]) ∧ ∃ b o, x23q_p = some ⟨b, o, none⟩ ∧
          0 ≤ x27 ∧ x27 < ((x23q_n : Nat) : Int) ∧ 4 = ([.int .i64 ch, .int .i64 x32, .int .i64 0, .bool x36] : List Value).length ∧
          Wr u11 b (o + x27.toNat * 4) 4 ∧ ∃ (x42 : Int), 1 = ([.int .i64 x42] : List Value).length ∧
          Rd (putCells u11 b (o + x27.toNat * 4) ([.int .i64 ch, .int .i64 x32, .int .i64 0, .bool x36])) g_b (g_o + 4) ([.int .i64 x42]) ∧
          inK .i64 (x42 + 1) ∧ 1 = ([.int .i64 (x42 + 1)] : List Value).length ∧
          Wr (putCells u11 b (o + x27.toNat * 4) ([.int .i64 ch, .int .i64 x32, .int .i64 0, .bool x36])) g_b (g_o + 4) 1 ∧
    R (.returned (.tuple #[])) (putCells (putCells u11 b (o + x27.toNat * 4) ([.int .i64 ch, .int .i64 x32, .int .i64 0, .bool x36])) g_b (g_o + 4) ([.int .i64 (x42 + 1)]))))) ∧
      ((decide (x7 = x11)) = false → ∃ (x221 : Int), 1 = ([.int .i64 x221] : List Value).length ∧
      Rd (drewW (drewW u)) g_b (g_o + 3) ([.int .i64 x221]) ∧ ∃ (x271 : Int), 1 = ([.int .i64 x271] : List Value).length ∧
      Rd (drewW (drewW u)) g_b (g_o + 4) ([.int .i64 x271]) ∧ ∃ (x321 : Int), 1 = ([.int .i64 x321] : List Value).length ∧
      Rd (drewW (drewW u)) g_b (g_o + 5) ([.int .i64 x321]) ∧ ∃ (x361 : Bool), 1 = ([.bool x361] : List Value).length ∧
        Rd (drewW (drewW u)) g_b (g_o + 6) ([.bool x361]) ∧ Spec Tryd.prog 92 #[.pointer (some ⟨g_b, g_o, none⟩), .int .i64 x221] (drewW (drewW u)) (fun e u12 => ∃ (x23q_p1 : Option Addr) (x23q_n1 x23q_c1 : Nat), e = .returned (.slice x23q_p1 x23q_n1 x23q_c1) ∧
        Rd u12 g_b (g_o + 6) ([.bool x361]) ∧ Rd u12 g_b (g_o + 5) ([.int .i64 x321]) ∧
        Rd u12 g_b (g_o + 4) ([.int .i64 x271]) ∧ ∃ b1 o1, x23q_p1 = some ⟨b1, o1, none⟩ ∧
        0 ≤ x271 ∧ x271 < ((x23q_n1 : Nat) : Int) ∧ 4 = ([.int .i64 ch, .int .i64 x321, .int .i64 0, .bool x361] : List Value).length ∧
        Wr u12 b1 (o1 + x271.toNat * 4) 4 ∧ ∃ (x421 : Int), 1 = ([.int .i64 x421] : List Value).length ∧
        Rd (putCells u12 b1 (o1 + x271.toNat * 4) ([.int .i64 ch, .int .i64 x321, .int .i64 0, .bool x361])) g_b (g_o + 4) ([.int .i64 x421]) ∧
        inK .i64 (x421 + 1) ∧ 1 = ([.int .i64 (x421 + 1)] : List Value).length ∧
        Wr (putCells u12 b1 (o1 + x271.toNat * 4) ([.int .i64 ch, .int .i64 x321, .int .i64 0, .bool x361])) g_b (g_o + 4) 1 ∧
  R (.returned (.tuple #[])) (putCells (putCells u12 b1 (o1 + x271.toNat * 4) ([.int .i64 ch, .int .i64 x321, .int .i64 0, .bool x361])) g_b (g_o + 4) ([.int .i64 (x421 + 1)])))))
set_option maxRecDepth 100000 in
theorem vc_grid_show_eq (g_b g_o : Nat) (ch : Int) (u : World) (R : Ending → World → Prop) : wFunc cx_grid_show Tryd.f83 [.pointer (some ⟨g_b, g_o, none⟩), .int .i64 ch] u R = vc_grid_show g_b g_o ch u R := by kernel_rfl
theorem vc_grid_show_spec (g_b g_o : Nat) (ch : Int) {u : World} {R : Ending → World → Prop} (h : vc_grid_show g_b g_o ch u R) : Spec Tryd.prog fn_grid_show #[.pointer (some ⟨g_b, g_o, none⟩), .int .i64 ch] u R := func_spec (C := cx_grid_show) (fn := Tryd.f83) (args := [.pointer (some ⟨g_b, g_o, none⟩), .int .i64 ch]) (ctxOk _ _ _ _ _) Tryd.func83 (vc_grid_show_eq g_b g_o ch u R) h

/-- fenestra/grid.control -/
noncomputable def cx_grid_control : Ctx := ⟨Tryd.prog, tab, [], [], [], fns, [], []⟩
def vc_grid_control (g_b g_o : Nat) (c : Int) (u : World) (R : Ending → World → Prop) : Prop :=
      (((decide (c = 8)) = true → ∃ (x11 : Int), 1 = ([.int .i64 x11] : List Value).length ∧
      Rd (drewW u) g_b (g_o + 4) ([.int .i64 x11]) ∧ ∃ (x15 : Int), 1 = ([.int .i64 x15] : List Value).length ∧
      Rd (drewW u) g_b (g_o + 0) ([.int .i64 x15]) ∧ inK .i64 (x15 - 1) ∧
      inK .i64 ((min x11 (x15 - 1)) - 1) ∧ 1 = ([.int .i64 (max (0 : Int) ((min x11 (x15 - 1)) - 1))] : List Value).length ∧
    Wr (drewW u) g_b (g_o + 4) 1 ∧ R (.returned (.tuple #[])) (putCells (drewW u) g_b (g_o + 4) ([.int .i64 (max (0 : Int) ((min x11 (x15 - 1)) - 1))]))) ∧
          ((decide (c = 8)) = false → (((decide (c = 9)) = true → ∃ (x28 : Int), 1 = ([.int .i64 x28] : List Value).length ∧
          Rd (drewW u) g_b (g_o + 0) ([.int .i64 x28]) ∧ inK .i64 (x28 - 1) ∧
          ∃ (x33 : Int), 1 = ([.int .i64 x33] : List Value).length ∧ Rd (drewW u) g_b (g_o + 4) ([.int .i64 x33]) ∧
          0 ≤ x33 ∧ 0 < (8 : Int) ∧ inK .i64 x33 ∧ inK .i64 ((x33 / 8) * 8) ∧
          inK .i64 (((x33 / 8) * 8) + 8) ∧ 1 = ([.int .i64 (min (x28 - 1) (((x33 / 8) * 8) + 8))] : List Value).length ∧
        Wr (drewW u) g_b (g_o + 4) 1 ∧ R (.returned (.tuple #[])) (putCells (drewW u) g_b (g_o + 4) ([.int .i64 (min (x28 - 1) (((x33 / 8) * 8) + 8))]))) ∧
                ((decide (c = 9)) = false → (((decide (c = 10)) = true → Spec Tryd.prog 94 #[.pointer (some ⟨g_b, g_o, none⟩)] u (fun e u1 => e = .returned (.tuple #[]) ∧
              R (.returned (.tuple #[])) u1)) ∧ ((decide (c = 10)) = false →
                  (((decide (c = 13)) = true → 1 = ([.int .i64 0] : List Value).length ∧
                Wr u g_b (g_o + 4) 1 ∧ R (.returned (.tuple #[])) (putCells u g_b (g_o + 4) ([.int .i64 0]))) ∧
  ((decide (c = 13)) = false → R (.returned (.tuple #[])) u))))))))
set_option maxRecDepth 100000 in
theorem vc_grid_control_eq (g_b g_o : Nat) (c : Int) (u : World) (R : Ending → World → Prop) : wFunc cx_grid_control Tryd.f84 [.pointer (some ⟨g_b, g_o, none⟩), .int .i64 c] u R = vc_grid_control g_b g_o c u R := by kernel_rfl
theorem vc_grid_control_spec (g_b g_o : Nat) (c : Int) {u : World} {R : Ending → World → Prop} (h : vc_grid_control g_b g_o c u R) : Spec Tryd.prog fn_grid_control #[.pointer (some ⟨g_b, g_o, none⟩), .int .i64 c] u R := func_spec (C := cx_grid_control) (fn := Tryd.f84) (args := [.pointer (some ⟨g_b, g_o, none⟩), .int .i64 c]) (ctxOk _ _ _ _ _) Tryd.func84 (vc_grid_control_eq g_b g_o c u R) h

/-- fenestra/grid.number -/
noncomputable def cx_grid_number : Ctx := ⟨Tryd.prog, tab, [], [], [], fns, [], []⟩
def vc_grid_number (l_p : Option Addr) (l_n l_c : Nat) (k : Int) (least : Int) (u : World) (R : Ending → World → Prop) : Prop :=
      (((decide (k < ((l_n : Nat) : Int))) = true → ∃ b o, l_p = some ⟨b, o, none⟩ ∧
      0 ≤ k ∧ k < ((l_n : Nat) : Int) ∧ ∃ (x15 : Int), 1 = ([.int .i64 x15] : List Value).length ∧
    Rd u b (o + k.toNat * 1) ([.int .i64 x15]) ∧ R (.returned (.int .i64 (max least (min x15 999)))) u) ∧
  ((decide (k < ((l_n : Nat) : Int))) = false → R (.returned (.int .i64 (max least (min (0 : Int) 999)))) u))
set_option maxRecDepth 100000 in
theorem vc_grid_number_eq (l_p : Option Addr) (l_n l_c : Nat) (k : Int) (least : Int) (u : World) (R : Ending → World → Prop) : wFunc cx_grid_number Tryd.f95 [.slice l_p l_n l_c, .int .i64 k, .int .i64 least] u R = vc_grid_number l_p l_n l_c k least u R := by kernel_rfl
theorem vc_grid_number_spec (l_p : Option Addr) (l_n l_c : Nat) (k : Int) (least : Int) {u : World} {R : Ending → World → Prop} (h : vc_grid_number l_p l_n l_c k least u R) : Spec Tryd.prog fn_grid_number #[.slice l_p l_n l_c, .int .i64 k, .int .i64 least] u R := func_spec (C := cx_grid_number) (fn := Tryd.f95) (args := [.slice l_p l_n l_c, .int .i64 k, .int .i64 least]) (ctxOk _ _ _ _ _) Tryd.func95 (vc_grid_number_eq l_p l_n l_c k least u R) h

/-- fenestra/grid.erase -/
noncomputable def cx_grid_erase : Ctx := ⟨Tryd.prog, tab, [], [], [], fns, [], []⟩
def vc_grid_erase (g_b g_o : Nat) (how : Int) (at_ : Int) (from_ : Int) (to_ : Int) (u : World) (R : Ending → World → Prop) : Prop :=
      (((decide (how = 0)) = true → ∃ (x16q_p : Option Addr) (x16q_n x16q_c : Nat), 1 = ([.slice x16q_p x16q_n x16q_c] : List Value).length ∧
      Rd u g_b (g_o + 2) ([.slice x16q_p x16q_n x16q_c]) ∧ 0 ≤ at_ ∧
        at_ ≤ to_ ∧ to_ ≤ ((x16q_c : Nat) : Int) ∧ Spec Tryd.prog 108 #[.slice (if x16q_c = at_.toNat then x16q_p else Option.map (fun a => Addr.add a (at_.toNat * 4)) x16q_p) (to_.toNat - at_.toNat) (x16q_c - at_.toNat)] u (fun e u1 => e = .returned (.tuple #[]) ∧
      R (.returned (.tuple #[])) u1)) ∧ ((decide (how = 0)) = false →
          (((decide (how = 1)) = true → ∃ (x26q_p : Option Addr) (x26q_n x26q_c : Nat), 1 = ([.slice x26q_p x26q_n x26q_c] : List Value).length ∧
          Rd u g_b (g_o + 2) ([.slice x26q_p x26q_n x26q_c]) ∧ inK .i64 (at_ + 1) ∧
          0 ≤ from_ ∧ from_ ≤ (at_ + 1) ∧ (at_ + 1) ≤ ((x26q_c : Nat) : Int) ∧
            Spec Tryd.prog 108 #[.slice (if x26q_c = from_.toNat then x26q_p else Option.map (fun a => Addr.add a (from_.toNat * 4)) x26q_p) ((at_ + 1).toNat - from_.toNat) (x26q_c - from_.toNat)] u (fun e u11 => e = .returned (.tuple #[]) ∧
          R (.returned (.tuple #[])) u11)) ∧ ((decide (how = 1)) = false →
              (((decide (how = 2)) = true → ∃ (x37q_p : Option Addr) (x37q_n x37q_c : Nat), 1 = ([.slice x37q_p x37q_n x37q_c] : List Value).length ∧
              Rd u g_b (g_o + 2) ([.slice x37q_p x37q_n x37q_c]) ∧ 0 ≤ from_ ∧
                from_ ≤ to_ ∧ to_ ≤ ((x37q_c : Nat) : Int) ∧ Spec Tryd.prog 108 #[.slice (if x37q_c = from_.toNat then x37q_p else Option.map (fun a => Addr.add a (from_.toNat * 4)) x37q_p) (to_.toNat - from_.toNat) (x37q_c - from_.toNat)] u (fun e u12 => e = .returned (.tuple #[]) ∧
              R (.returned (.tuple #[])) u12)) ∧ ((decide (how = 2)) = false →
  R (.returned (.tuple #[])) u))))))
set_option maxRecDepth 100000 in
theorem vc_grid_erase_eq (g_b g_o : Nat) (how : Int) (at_ : Int) (from_ : Int) (to_ : Int) (u : World) (R : Ending → World → Prop) : wFunc cx_grid_erase Tryd.f96 [.pointer (some ⟨g_b, g_o, none⟩), .int .i64 how, .int .i64 at_, .int .i64 from_, .int .i64 to_] u R = vc_grid_erase g_b g_o how at_ from_ to_ u R := by kernel_rfl
theorem vc_grid_erase_spec (g_b g_o : Nat) (how : Int) (at_ : Int) (from_ : Int) (to_ : Int) {u : World} {R : Ending → World → Prop} (h : vc_grid_erase g_b g_o how at_ from_ to_ u R) : Spec Tryd.prog fn_grid_erase #[.pointer (some ⟨g_b, g_o, none⟩), .int .i64 how, .int .i64 at_, .int .i64 from_, .int .i64 to_] u R := func_spec (C := cx_grid_erase) (fn := Tryd.f96) (args := [.pointer (some ⟨g_b, g_o, none⟩), .int .i64 how, .int .i64 at_, .int .i64 from_, .int .i64 to_]) (ctxOk _ _ _ _ _) Tryd.func96 (vc_grid_erase_eq g_b g_o how at_ from_ to_ u R) h

/-- fenestra/grid.ink -/
noncomputable def cx_grid_ink : Ctx := ⟨Tryd.prog, tab, [], [], [], fns, [], []⟩
def vc_grid_ink (g_b g_o : Nat) (n : Int) (u : World) (R : Ending → World → Prop) : Prop :=
      (((decide (n = 0)) = true → 1 = ([.int .i64 0] : List Value).length ∧
      Wr u g_b (g_o + 5) 1 ∧ 1 = ([.bool false] : List Value).length ∧
      Wr (putCells u g_b (g_o + 5) ([.int .i64 0])) g_b (g_o + 6) 1 ∧
    R (.returned (.tuple #[])) (putCells (putCells u g_b (g_o + 5) ([.int .i64 0])) g_b (g_o + 6) ([.bool false]))) ∧
          ((decide (n = 0)) = false → (((decide (n = 1)) = true → 1 = ([.bool true] : List Value).length ∧
        Wr u g_b (g_o + 6) 1 ∧ R (.returned (.tuple #[])) (putCells u g_b (g_o + 6) ([.bool true]))) ∧
              ((decide (n = 1)) = false → (((decide (n = 22)) = true → 1 = ([.bool false] : List Value).length ∧
            Wr u g_b (g_o + 6) 1 ∧ R (.returned (.tuple #[])) (putCells u g_b (g_o + 6) ([.bool false]))) ∧
                  ((decide (n = 22)) = false → (((decide ((30 : Int) ≤ n)) = true →
                      (((decide (n < 38)) = true → inK .i64 (n - 29) ∧ 1 = ([.int .i64 (n - 29)] : List Value).length ∧
                    Wr u g_b (g_o + 5) 1 ∧ R (.returned (.tuple #[])) (putCells u g_b (g_o + 5) ([.int .i64 (n - 29)]))) ∧
                          ((decide (n < 38)) = false → (((decide (n = 39)) = true → 1 = ([.int .i64 0] : List Value).length ∧
                        Wr u g_b (g_o + 5) 1 ∧ R (.returned (.tuple #[])) (putCells u g_b (g_o + 5) ([.int .i64 0]))) ∧
                ((decide (n = 39)) = false → R (.returned (.tuple #[])) u))))) ∧
                      ((decide ((30 : Int) ≤ n)) = false → (((decide (n = 39)) = true →
                      1 = ([.int .i64 0] : List Value).length ∧ Wr u g_b (g_o + 5) 1 ∧
                    R (.returned (.tuple #[])) (putCells u g_b (g_o + 5) ([.int .i64 0]))) ∧
  ((decide (n = 39)) = false → R (.returned (.tuple #[])) u))))))))))
set_option maxRecDepth 100000 in
theorem vc_grid_ink_eq (g_b g_o : Nat) (n : Int) (u : World) (R : Ending → World → Prop) : wFunc cx_grid_ink Tryd.f99 [.pointer (some ⟨g_b, g_o, none⟩), .int .i64 n] u R = vc_grid_ink g_b g_o n u R := by kernel_rfl
theorem vc_grid_ink_spec (g_b g_o : Nat) (n : Int) {u : World} {R : Ending → World → Prop} (h : vc_grid_ink g_b g_o n u R) : Spec Tryd.prog fn_grid_ink #[.pointer (some ⟨g_b, g_o, none⟩), .int .i64 n] u R := func_spec (C := cx_grid_ink) (fn := Tryd.f99) (args := [.pointer (some ⟨g_b, g_o, none⟩), .int .i64 n]) (ctxOk _ _ _ _ _) Tryd.func99 (vc_grid_ink_eq g_b g_o n u R) h

/-- fenestra/grid.command -/
noncomputable def cx_grid_command : Ctx := ⟨Tryd.prog, tab, [], [], [], fns, [(20, ⟨[.keep, .keep, .keep, .keep, .keep, .keep, .keep, .keep, .keep, .keep, .keep, .keep, .keep, .keep, .keep, .keep, .keep, .keep, .keep, .keep, .keep, .keep, .keep, .keep, .keep, .keep, .keep, .keep, .keep, .keep, .keep, .keep, .keep, .keep, .keep, .keep, .keep, .keep, .keep, .keep, .keep, .keep, .keep, .keep, .keep, .keep, .keep, .keep, .keep, .keep, .keep, .keep, .keep, .keep, .keep, .keep, .keep, .keep, .keep, .keep, .keep, .keep, .keep, .keep, .keep, .keep, .keep, .keep, .keep, .keep, .keep, .keep, .keep, .keep, .keep, .keep, .keep, .keep, .keep, .keep, .keep, .keep, .keep, .keep, .keep, .keep, .keep, .keep, .keep, .keep, .keep, .keep, .keep, .keep, .keep, .keep, .keep, .keep, .keep, .keep, .keep, .keep, .keep, .keep, .keep, .keep, .keep, .keep, .keep, .keep, .keep, .keep, .keep, .keep, .keep, .keep, .keep, .keep, .keep, .keep, .keep, .keep, .keep, .keep, .keep, .keep, .keep, .keep, .keep, .keep, .keep, .keep, .keep, .keep, .keep, .keep, .keep, .keep, .keep, .keep, .keep, .keep, .keep, .keep, .keep, .keep, .keep, .keep, .keep, .keep, .keep, .keep, .keep, .keep, .keep, .keep, .keep, .keep, .keep, .keep, .keep, .keep, .keep, .keep, .keep, .keep, .keep, .keep, .keep, .keep, .keep, .keep, .keep, .keep, .keep, .keep, .keep, .keep, .keep, .keep, .keep, .keep, .keep, .keep, .keep, .keep, .keep, .keep, .keep, .keep, .keep, .keep, .keep, .keep, .keep, .keep, .keep, .keep, .keep, .keep, .keep, .keep, .cell (.int .i64), .junk, .junk, .junk, .junk, .junk, .junk, .junk, .junk, .junk, .junk, .junk, .junk, .junk, .junk, .junk, .junk, .junk, .junk, .junk, .junk, .junk, .junk, .junk, .junk, .keep, .keep, .keep, .keep, .keep, .keep, .keep, .keep, .keep, .keep, .keep, .keep, .keep, .keep, .keep, .keep, .keep, .keep, .keep, .keep, .keep, .keep, .keep, .keep, .keep, .keep, .keep, .keep, .keep, .keep, .keep, .keep, .keep, .keep, .keep, .keep, .keep, .keep, .keep, .keep, .keep, .keep, .keep, .keep, .keep, .keep, .keep, .keep, .keep, .keep, .keep, .keep], []⟩), (28, ⟨[.keep, .keep, .keep, .keep, .keep, .keep, .keep, .keep, .junk, .keep, .keep, .keep, .keep, .keep, .keep, .keep, .keep, .keep, .keep, .keep, .keep, .keep, .keep, .keep, .keep, .keep, .keep, .keep, .keep, .keep, .keep, .keep, .keep, .keep, .keep, .keep, .keep, .keep, .keep, .keep, .keep, .keep, .keep, .keep, .keep, .keep, .keep, .keep, .keep, .keep, .keep, .keep, .keep, .keep, .keep, .keep, .keep, .keep, .keep, .keep, .keep, .keep, .keep, .keep, .keep, .keep, .keep, .keep, .keep, .keep, .keep, .keep, .keep, .keep, .keep, .keep, .keep, .keep, .keep, .keep, .keep, .keep, .keep, .keep, .keep, .keep, .keep, .keep, .keep, .keep, .keep, .keep, .keep, .keep, .keep, .keep, .keep, .keep, .keep, .keep, .keep, .keep, .keep, .keep, .keep, .keep, .keep, .keep, .keep, .keep, .keep, .keep, .keep, .keep, .keep, .keep, .keep, .keep, .keep, .keep, .keep, .keep, .keep, .keep, .keep, .keep, .keep, .keep, .keep, .keep, .keep, .keep, .keep, .keep, .keep, .keep, .keep, .keep, .keep, .keep, .keep, .keep, .keep, .keep, .keep, .keep, .keep, .keep, .keep, .keep, .keep, .keep, .keep, .keep, .keep, .keep, .keep, .keep, .keep, .keep, .keep, .keep, .keep, .keep, .keep, .keep, .keep, .keep, .keep, .keep, .keep, .keep, .keep, .keep, .keep, .keep, .keep, .keep, .keep, .keep, .keep, .keep, .keep, .keep, .keep, .keep, .keep, .keep, .keep, .keep, .keep, .keep, .keep, .keep, .keep, .keep, .keep, .keep, .keep, .keep, .keep, .keep, .keep, .keep, .keep, .keep, .keep, .keep, .keep, .keep, .keep, .keep, .keep, .keep, .keep, .keep, .keep, .keep, .keep, .keep, .keep, .keep, .keep, .keep, .keep, .keep, .keep, .keep, .keep, .keep, .keep, .keep, .keep, .keep, .cell (.int .i64), .junk, .junk, .junk, .junk, .junk, .junk, .junk, .keep, .keep, .keep, .keep, .keep, .keep, .keep, .keep, .keep, .keep, .keep, .keep, .keep, .keep, .keep, .keep, .keep, .keep, .keep, .keep, .keep, .keep, .keep, .keep, .keep, .keep, .keep, .keep, .keep, .keep, .keep, .keep, .keep, .keep, .keep, .keep, .keep], []⟩)], [(35, ⟨[.keep, .keep, .keep, .keep, .keep, .keep, .keep, .keep, .keep, .keep, .keep, .keep, .keep, .keep, .keep, .keep, .keep, .keep, .keep, .keep, .keep, .keep, .keep, .keep, .keep, .keep, .keep, .keep, .keep, .keep, .keep, .keep, .keep, .keep, .keep, .keep, .keep, .keep, .keep, .keep, .keep, .keep, .keep, .keep, .keep, .keep, .keep, .keep, .keep, .keep, .keep, .keep, .keep, .keep, .keep, .keep, .keep, .keep, .keep, .keep, .keep, .keep, .keep, .keep, .keep, .keep, .keep, .keep, .keep, .keep, .keep, .keep, .keep, .keep, .keep, .keep, .keep, .keep, .keep, .keep, .keep, .keep, .keep, .keep, .keep, .keep, .keep, .keep, .keep, .keep, .keep, .keep, .keep, .keep, .keep, .keep, .keep, .keep, .keep, .keep, .keep, .keep, .keep, .keep, .keep, .keep, .keep, .keep, .keep, .keep, .keep, .keep, .keep, .keep, .keep, .keep, .keep, .keep, .keep, .keep, .keep, .keep, .keep, .keep, .keep, .keep, .keep, .keep, .keep, .keep, .keep, .keep, .keep, .keep, .keep, .keep, .keep, .keep, .keep, .keep, .keep, .keep, .keep, .keep, .keep, .keep, .keep, .keep, .keep, .keep, .keep, .keep, .keep, .keep, .keep, .keep, .keep, .keep, .keep, .keep, .keep, .keep, .keep, .keep, .keep, .keep, .keep, .keep, .keep, .keep, .keep, .keep, .keep, .keep, .keep, .keep, .keep, .keep, .keep, .keep, .keep, .keep, .keep, .keep, .keep, .keep, .keep, .keep, .keep, .keep, .keep, .keep, .keep, .keep, .keep, .keep, .keep, .keep, .keep, .keep, .keep, .keep, .keep, .keep, .keep, .keep, .keep, .keep, .keep, .keep, .keep, .keep, .keep, .keep, .keep, .keep, .keep, .keep, .keep, .keep, .keep, .keep, .keep, .keep, .keep, .keep, .keep, .keep, .keep, .keep, .keep, .keep, .keep, .keep, .keep, .keep, .keep, .keep, .keep, .keep, .keep, .keep, .keep, .keep, .keep, .keep, .keep, .keep, .junk, .junk, .junk, .junk, .junk, .junk, .junk, .junk, .junk, .cell .bool, .keep, .keep, .keep, .keep, .keep, .keep, .keep, .keep, .keep, .keep, .keep, .keep, .keep, .keep, .keep, .keep, .keep, .keep, .keep, .keep, .keep], []⟩)]⟩
def vc_grid_command (g_b g_o : Nat) (c : Int) (l_p : Option Addr) (l_n l_c : Nat) (u : World) (R : Ending → World → Prop) : Prop :=
    Spec Tryd.prog 95 #[.slice l_p l_n l_c, .int .i64 0, .int .i64 1] u (fun e u1 => ∃ (x12 : Int), e = .returned (.int .i64 x12) ∧
        (((decide (c = 65)) = true → ∃ (x20 : Int), 1 = ([.int .i64 x20] : List Value).length ∧
        Rd u1 g_b (g_o + 3) ([.int .i64 x20]) ∧ inK .i64 (x20 - x12) ∧
        1 = ([.int .i64 (max (0 : Int) (x20 - x12))] : List Value).length ∧
      Wr u1 g_b (g_o + 3) 1 ∧ R (.returned (.tuple #[])) (putCells u1 g_b (g_o + 3) ([.int .i64 (max (0 : Int) (x20 - x12))]))) ∧
            ((decide (c = 65)) = false → (((decide (c = 66)) = true → ∃ (x32 : Int), 1 = ([.int .i64 x32] : List Value).length ∧
            Rd (drewW u1) g_b (g_o + 1) ([.int .i64 x32]) ∧ inK .i64 (x32 - 1) ∧
            ∃ (x37 : Int), 1 = ([.int .i64 x37] : List Value).length ∧ Rd (drewW u1) g_b (g_o + 3) ([.int .i64 x37]) ∧
            inK .i64 (x37 + x12) ∧ 1 = ([.int .i64 (min (x32 - 1) (x37 + x12))] : List Value).length ∧
          Wr (drewW u1) g_b (g_o + 3) 1 ∧ R (.returned (.tuple #[])) (putCells (drewW u1) g_b (g_o + 3) ([.int .i64 (min (x32 - 1) (x37 + x12))]))) ∧
                ((decide (c = 66)) = false → (((decide (c = 67)) = true → ∃ (x49 : Int), 1 = ([.int .i64 x49] : List Value).length ∧
                Rd (drewW u1) g_b (g_o + 0) ([.int .i64 x49]) ∧ inK .i64 (x49 - 1) ∧
                ∃ (x54 : Int), 1 = ([.int .i64 x54] : List Value).length ∧ Rd (drewW u1) g_b (g_o + 4) ([.int .i64 x54]) ∧
                inK .i64 (x54 + x12) ∧ 1 = ([.int .i64 (min (x49 - 1) (x54 + x12))] : List Value).length ∧
              Wr (drewW u1) g_b (g_o + 4) 1 ∧ R (.returned (.tuple #[])) (putCells (drewW u1) g_b (g_o + 4) ([.int .i64 (min (x49 - 1) (x54 + x12))]))) ∧
                    ((decide (c = 67)) = false → (((decide (c = 68)) = true → ∃ (x66 : Int), 1 = ([.int .i64 x66] : List Value).length ∧
                    Rd (drewW u1) g_b (g_o + 4) ([.int .i64 x66]) ∧ ∃ (x70 : Int), 1 = ([.int .i64 x70] : List Value).length ∧
                    Rd (drewW u1) g_b (g_o + 0) ([.int .i64 x70]) ∧ inK .i64 (x70 - 1) ∧
                    inK .i64 ((min x66 (x70 - 1)) - x12) ∧ 1 = ([.int .i64 (max (0 : Int) ((min x66 (x70 - 1)) - x12))] : List Value).length ∧
                  Wr (drewW u1) g_b (g_o + 4) 1 ∧ R (.returned (.tuple #[])) (putCells (drewW u1) g_b (g_o + 4) ([.int .i64 (max (0 : Int) ((min x66 (x70 - 1)) - x12))]))) ∧
                        ((decide (c = 68)) = false → (((decide (c = 72)) = true → ∃ (x85 : Int), 1 = ([.int .i64 x85] : List Value).length ∧
                        Rd (drewW u1) g_b (g_o + 1) ([.int .i64 x85]) ∧ inK .i64 ((min x85 x12) - 1) ∧
                        ∃ (x92 : Int), 1 = ([.int .i64 x92] : List Value).length ∧ Rd (drewW u1) g_b (g_o + 0) ([.int .i64 x92]) ∧
                          Spec Tryd.prog 95 #[.slice l_p l_n l_c, .int .i64 1, .int .i64 1] (drewW u1) (fun e u11 => ∃ (x94 : Int), e = .returned (.int .i64 x94) ∧
                          Rd u11 g_b (g_o + 0) ([.int .i64 x92]) ∧ Rd u11 g_b (g_o + 1) ([.int .i64 x85]) ∧
                          inK .i64 ((min x92 x94) - 1) ∧ 1 = ([.int .i64 ((min x85 x12) - 1)] : List Value).length ∧
                          Wr u11 g_b (g_o + 3) 1 ∧ 1 = ([.int .i64 ((min x92 x94) - 1)] : List Value).length ∧
                          Wr (putCells u11 g_b (g_o + 3) ([.int .i64 ((min x85 x12) - 1)])) g_b (g_o + 4) 1 ∧
                      R (.returned (.tuple #[])) (putCells (putCells u11 g_b (g_o + 3) ([.int .i64 ((min x85 x12) - 1)])) g_b (g_o + 4) ([.int .i64 ((min x92 x94) - 1)])))) ∧
                            ((decide (c = 72)) = false → (((decide (c = 74)) = true → ∃ (x109 : Int), 1 = ([.int .i64 x109] : List Value).length ∧
                            Rd (drewW u1) g_b (g_o + 3) ([.int .i64 x109]) ∧ ∃ (x113 : Int), 1 = ([.int .i64 x113] : List Value).length ∧
                            Rd (drewW u1) g_b (g_o + 0) ([.int .i64 x113]) ∧ inK .i64 (x109 * x113) ∧
                            ∃ (x118 : Int), 1 = ([.int .i64 x118] : List Value).length ∧ Rd (drewW u1) g_b (g_o + 4) ([.int .i64 x118]) ∧
                            ∃ (x122 : Int), 1 = ([.int .i64 x122] : List Value).length ∧ Rd (drewW u1) g_b (g_o + 0) ([.int .i64 x122]) ∧
                            inK .i64 (x122 - 1) ∧ inK .i64 ((x109 * x113) + (min x118 (x122 - 1))) ∧
                            ∃ (x129q_p : Option Addr) (x129q_n x129q_c : Nat), 1 = ([.slice x129q_p x129q_n x129q_c] : List Value).length ∧
                            Rd (drewW u1) g_b (g_o + 2) ([.slice x129q_p x129q_n x129q_c]) ∧
                              Spec Tryd.prog 95 #[.slice l_p l_n l_c, .int .i64 0, .int .i64 0] (drewW u1) (fun e u12 => ∃ (x105 : Int), e = .returned (.int .i64 x105) ∧
                              Rd u12 g_b (g_o + 2) ([.slice x129q_p x129q_n x129q_c]) ∧ Rd u12 g_b (g_o + 0) ([.int .i64 x122]) ∧
                              Rd u12 g_b (g_o + 4) ([.int .i64 x118]) ∧ Rd u12 g_b (g_o + 0) ([.int .i64 x113]) ∧
                                Rd u12 g_b (g_o + 3) ([.int .i64 x109]) ∧ Spec Tryd.prog 96 #[.pointer (some ⟨g_b, g_o, none⟩), .int .i64 x105, .int .i64 ((x109 * x113) + (min x118 (x122 - 1))), .int .i64 0, .int .i64 ((x129q_n : Nat) : Int)] u12 (fun e u13 => e = .returned (.tuple #[]) ∧
                            R (.returned (.tuple #[])) u13))) ∧ ((decide (c = 74)) = false →
                                (((decide (c = 75)) = true → ∃ (x140 : Int), 1 = ([.int .i64 x140] : List Value).length ∧
                                Rd (drewW u1) g_b (g_o + 3) ([.int .i64 x140]) ∧ ∃ (x144 : Int), 1 = ([.int .i64 x144] : List Value).length ∧
                                Rd (drewW u1) g_b (g_o + 0) ([.int .i64 x144]) ∧ inK .i64 (x140 * x144) ∧
                                ∃ (x149 : Int), 1 = ([.int .i64 x149] : List Value).length ∧ Rd (drewW u1) g_b (g_o + 4) ([.int .i64 x149]) ∧
                                ∃ (x153 : Int), 1 = ([.int .i64 x153] : List Value).length ∧ Rd (drewW u1) g_b (g_o + 0) ([.int .i64 x153]) ∧
                                inK .i64 (x153 - 1) ∧ inK .i64 ((x140 * x144) + (min x149 (x153 - 1))) ∧
                                ∃ (x160 : Int), 1 = ([.int .i64 x160] : List Value).length ∧ Rd (drewW u1) g_b (g_o + 3) ([.int .i64 x160]) ∧
                                ∃ (x164 : Int), 1 = ([.int .i64 x164] : List Value).length ∧ Rd (drewW u1) g_b (g_o + 0) ([.int .i64 x164]) ∧
                                inK .i64 (x160 * x164) ∧ ∃ (x169 : Int), 1 = ([.int .i64 x169] : List Value).length ∧
                                Rd (drewW u1) g_b (g_o + 3) ([.int .i64 x169]) ∧ inK .i64 (x169 + 1) ∧
                                ∃ (x174 : Int), 1 = ([.int .i64 x174] : List Value).length ∧ Rd (drewW u1) g_b (g_o + 0) ([.int .i64 x174]) ∧
                                  inK .i64 ((x169 + 1) * x174) ∧ Spec Tryd.prog 95 #[.slice l_p l_n l_c, .int .i64 0, .int .i64 0] (drewW u1) (fun e u14 => ∃ (x136 : Int), e = .returned (.int .i64 x136) ∧
                                  Rd u14 g_b (g_o + 0) ([.int .i64 x174]) ∧ Rd u14 g_b (g_o + 3) ([.int .i64 x169]) ∧
                                  Rd u14 g_b (g_o + 0) ([.int .i64 x164]) ∧ Rd u14 g_b (g_o + 3) ([.int .i64 x160]) ∧
                                  Rd u14 g_b (g_o + 0) ([.int .i64 x153]) ∧ Rd u14 g_b (g_o + 4) ([.int .i64 x149]) ∧
                                  Rd u14 g_b (g_o + 0) ([.int .i64 x144]) ∧ Rd u14 g_b (g_o + 3) ([.int .i64 x140]) ∧
                                    Spec Tryd.prog 96 #[.pointer (some ⟨g_b, g_o, none⟩), .int .i64 x136, .int .i64 ((x140 * x144) + (min x149 (x153 - 1))), .int .i64 (x160 * x164), .int .i64 ((x169 + 1) * x174)] u14 (fun e u15 => e = .returned (.tuple #[]) ∧
                                R (.returned (.tuple #[])) u15))) ∧ ((decide (c = 75)) = false →
                                        (((decide (c = 76)) = true → (((decide (c = 76)) = true → ∃ (x183 : Int), 1 = ([.int .i64 x183] : List Value).length ∧
                                        Rd (drewW u1) g_b (g_o + 3) ([.int .i64 x183]) ∧ ∃ (x187 : Int), 1 = ([.int .i64 x187] : List Value).length ∧
                                            Rd (drewW u1) g_b (g_o + 7) ([.int .i64 x187]) ∧ (((decide (x183 < x187)) = true →
                                            R (.returned (.tuple #[])) (drewW u1)) ∧ ((decide (x183 < x187)) = false →
                                            ∃ (x193 : Int), 1 = ([.int .i64 x193] : List Value).length ∧ Rd (drewW u1) g_b (g_o + 3) ([.int .i64 x193]) ∧
                                            ∃ (x197 : Int), 1 = ([.int .i64 x197] : List Value).length ∧ Rd (drewW u1) g_b (g_o + 8) ([.int .i64 x197]) ∧
                                              (((decide (x197 ≤ x193)) = true → R (.returned (.tuple #[])) (drewW u1)) ∧
                                                  ((decide (x197 ≤ x193)) = false → ∃ (I_ : Int → World → Prop) (M_ : Int →
                                                World → Nat), (I_ 0 (drewW u1)) ∧ ∀ (x202 : Int), ∀ u16 : World, I_ x202 u16 →
                                                        (((decide (x202 < (min x12 10))) = true → (((decide (c = 76)) = true →
                                                        ∃ (x210 : Int), 1 = ([.int .i64 x210] : List Value).length ∧ Rd (drewW u16) g_b (g_o + 3) ([.int .i64 x210]) ∧
                                                        ∃ (x214 : Int), 1 = ([.int .i64 x214] : List Value).length ∧ Rd (drewW u16) g_b (g_o + 8) ([.int .i64 x214]) ∧
                                                          Spec Tryd.prog 97 #[.pointer (some ⟨g_b, g_o, none⟩), .int .i64 x210, .int .i64 x214] (drewW u16) (fun e u17 => e = .returned (.tuple #[]) ∧
                                                      inK .i64 (x202 + 1) ∧ I_ (x202 + 1) u17 ∧ M_ (x202 + 1) u17 < M_ x202 u16)) ∧
                                                        ((decide (c = 76)) = false → ∃ (x220 : Int), 1 = ([.int .i64 x220] : List Value).length ∧
                                                        Rd (drewW u16) g_b (g_o + 3) ([.int .i64 x220]) ∧ ∃ (x224 : Int), 1 = ([.int .i64 x224] : List Value).length ∧
                                                          Rd (drewW u16) g_b (g_o + 8) ([.int .i64 x224]) ∧ Spec Tryd.prog 98 #[.pointer (some ⟨g_b, g_o, none⟩), .int .i64 x220, .int .i64 x224] (drewW u16) (fun e u18 => e = .returned (.tuple #[]) ∧
                                                  inK .i64 (x202 + 1) ∧ I_ (x202 + 1) u18 ∧ M_ (x202 + 1) u18 < M_ x202 u16)))) ∧
                                                    ((decide (x202 < (min x12 10))) = false → 1 = ([.int .i64 0] : List Value).length ∧
                                      Wr u16 g_b (g_o + 4) 1 ∧ R (.returned (.tuple #[])) (putCells u16 g_b (g_o + 4) ([.int .i64 0]))))))))) ∧
                                              ((decide (c = 76)) = false → (((decide (c = 109)) = true → ∃ (I_1 : Int →
                                            World → Prop) (M_1 : Int → World → Nat), (I_1 0 u1) ∧ ∀ (x234 : Int), ∀ u19 : World, I_1 x234 u19 →
                                                (((decide (x234 < ((l_n : Nat) : Int))) = true → ∃ b o, l_p = some ⟨b, o, none⟩ ∧
                                                0 ≤ x234 ∧ x234 < ((l_n : Nat) : Int) ∧ ∃ (x237 : Int), 1 = ([.int .i64 x237] : List Value).length ∧
                                                  Rd u19 b (o + x234.toNat * 1) ([.int .i64 x237]) ∧ Spec Tryd.prog 99 #[.pointer (some ⟨g_b, g_o, none⟩), .int .i64 x237] u19 (fun e u110 => e = .returned (.tuple #[]) ∧
                                              inK .i64 (x234 + 1) ∧ I_1 (x234 + 1) u110 ∧ M_1 (x234 + 1) u110 < M_1 x234 u19)) ∧
                                          ((decide (x234 < ((l_n : Nat) : Int))) = false → R (.returned (.tuple #[])) u19))) ∧
                                                ((decide (c = 109)) = false → (((decide (c = 114)) = true → inK .i64 (x12 - 1) ∧
                                                  Spec Tryd.prog 95 #[.slice l_p l_n l_c, .int .i64 1, .int .i64 0] u1 (fun e u111 => ∃ (x247 : Int), e = .returned (.int .i64 x247) ∧
                                                      ∃ J_ : Bool → World → Prop, ((((decide (x247 = 0)) = true → J_ true u111) ∧
                                                        ((decide (x247 = 0)) = false → ∃ (x255 : Int), 1 = ([.int .i64 x255] : List Value).length ∧
                                                  Rd u111 g_b (g_o + 1) ([.int .i64 x255]) ∧ J_ (decide (x255 < x247)) u111))) ∧
                                                      ∀ (x257 : Bool) (u112 : World), J_ x257 u112 → ((x257 = true →
                                                      ∃ (x261 : Int), 1 = ([.int .i64 x261] : List Value).length ∧ Rd u112 g_b (g_o + 1) ([.int .i64 x261]) ∧
                                                          (((decide ((x12 - 1) < x261)) = true → 1 = ([.int .i64 (x12 - 1)] : List Value).length ∧
                                                          Wr u112 g_b (g_o + 7) 1 ∧ 1 = ([.int .i64 x261] : List Value).length ∧
                                                          Wr (putCells u112 g_b (g_o + 7) ([.int .i64 (x12 - 1)])) g_b (g_o + 8) 1 ∧
                                                          1 = ([.int .i64 0] : List Value).length ∧ Wr (putCells (putCells u112 g_b (g_o + 7) ([.int .i64 (x12 - 1)])) g_b (g_o + 8) ([.int .i64 x261])) g_b (g_o + 3) 1 ∧
                                                          1 = ([.int .i64 0] : List Value).length ∧ Wr (putCells (putCells (putCells u112 g_b (g_o + 7) ([.int .i64 (x12 - 1)])) g_b (g_o + 8) ([.int .i64 x261])) g_b (g_o + 3) ([.int .i64 0])) g_b (g_o + 4) 1 ∧
                                                        R (.returned (.tuple #[])) (putCells (putCells (putCells (putCells u112 g_b (g_o + 7) ([.int .i64 (x12 - 1)])) g_b (g_o + 8) ([.int .i64 x261])) g_b (g_o + 3) ([.int .i64 0])) g_b (g_o + 4) ([.int .i64 0]))) ∧
                                                    ((decide ((x12 - 1) < x261)) = false → R (.returned (.tuple #[])) u112))) ∧
                                                          (x257 = false → (((decide ((x12 - 1) < x247)) = true → 1 = ([.int .i64 (x12 - 1)] : List Value).length ∧
                                                          Wr u112 g_b (g_o + 7) 1 ∧ 1 = ([.int .i64 x247] : List Value).length ∧
                                                          Wr (putCells u112 g_b (g_o + 7) ([.int .i64 (x12 - 1)])) g_b (g_o + 8) 1 ∧
                                                          1 = ([.int .i64 0] : List Value).length ∧ Wr (putCells (putCells u112 g_b (g_o + 7) ([.int .i64 (x12 - 1)])) g_b (g_o + 8) ([.int .i64 x247])) g_b (g_o + 3) 1 ∧
                                                          1 = ([.int .i64 0] : List Value).length ∧ Wr (putCells (putCells (putCells u112 g_b (g_o + 7) ([.int .i64 (x12 - 1)])) g_b (g_o + 8) ([.int .i64 x247])) g_b (g_o + 3) ([.int .i64 0])) g_b (g_o + 4) 1 ∧
                                                        R (.returned (.tuple #[])) (putCells (putCells (putCells (putCells u112 g_b (g_o + 7) ([.int .i64 (x12 - 1)])) g_b (g_o + 8) ([.int .i64 x247])) g_b (g_o + 3) ([.int .i64 0])) g_b (g_o + 4) ([.int .i64 0]))) ∧
                                              ((decide ((x12 - 1) < x247)) = false → R (.returned (.tuple #[])) u112)))))) ∧
                                  ((decide (c = 114)) = false → R (.returned (.tuple #[])) u1))))))) ∧
                                        ((decide (c = 76)) = false → (((decide (c = 77)) = true → ∃ (x1831 : Int), 1 = ([.int .i64 x1831] : List Value).length ∧
                                        Rd (drewW u1) g_b (g_o + 3) ([.int .i64 x1831]) ∧ ∃ (x1871 : Int), 1 = ([.int .i64 x1871] : List Value).length ∧
                                            Rd (drewW u1) g_b (g_o + 7) ([.int .i64 x1871]) ∧ (((decide (x1831 < x1871)) = true →
                                            R (.returned (.tuple #[])) (drewW u1)) ∧ ((decide (x1831 < x1871)) = false →
                                            ∃ (x1931 : Int), 1 = ([.int .i64 x1931] : List Value).length ∧
                                            Rd (drewW u1) g_b (g_o + 3) ([.int .i64 x1931]) ∧ ∃ (x1971 : Int), 1 = ([.int .i64 x1971] : List Value).length ∧
                                                Rd (drewW u1) g_b (g_o + 8) ([.int .i64 x1971]) ∧ (((decide (x1971 ≤ x1931)) = true →
                                                R (.returned (.tuple #[])) (drewW u1)) ∧ ((decide (x1971 ≤ x1931)) = false →
                                                ∃ (I_2 : Int → World → Prop) (M_2 : Int → World → Nat), (I_2 0 (drewW u1)) ∧
                                                    ∀ (x2021 : Int), ∀ u113 : World, I_2 x2021 u113 → (((decide (x2021 < (min x12 10))) = true →
                                                        (((decide (c = 76)) = true → ∃ (x2101 : Int), 1 = ([.int .i64 x2101] : List Value).length ∧
                                                        Rd (drewW u113) g_b (g_o + 3) ([.int .i64 x2101]) ∧ ∃ (x2141 : Int), 1 = ([.int .i64 x2141] : List Value).length ∧
                                                          Rd (drewW u113) g_b (g_o + 8) ([.int .i64 x2141]) ∧ Spec Tryd.prog 97 #[.pointer (some ⟨g_b, g_o, none⟩), .int .i64 x2101, .int .i64 x2141] (drewW u113) (fun e u114 => e = .returned (.tuple #[]) ∧
                                                      inK .i64 (x2021 + 1) ∧ I_2 (x2021 + 1) u114 ∧ M_2 (x2021 + 1) u114 < M_2 x2021 u113)) ∧
                                                        ((decide (c = 76)) = false → ∃ (x2201 : Int), 1 = ([.int .i64 x2201] : List Value).length ∧
                                                        Rd (drewW u113) g_b (g_o + 3) ([.int .i64 x2201]) ∧ ∃ (x2241 : Int), 1 = ([.int .i64 x2241] : List Value).length ∧
                                                          Rd (drewW u113) g_b (g_o + 8) ([.int .i64 x2241]) ∧ Spec Tryd.prog 98 #[.pointer (some ⟨g_b, g_o, none⟩), .int .i64 x2201, .int .i64 x2241] (drewW u113) (fun e u115 => e = .returned (.tuple #[]) ∧
                                                  inK .i64 (x2021 + 1) ∧ I_2 (x2021 + 1) u115 ∧ M_2 (x2021 + 1) u115 < M_2 x2021 u113)))) ∧
                                                    ((decide (x2021 < (min x12 10))) = false → 1 = ([.int .i64 0] : List Value).length ∧
                                      Wr u113 g_b (g_o + 4) 1 ∧ R (.returned (.tuple #[])) (putCells u113 g_b (g_o + 4) ([.int .i64 0]))))))))) ∧
                                              ((decide (c = 77)) = false → (((decide (c = 109)) = true → ∃ (I_3 : Int →
                                            World → Prop) (M_3 : Int → World → Nat), (I_3 0 u1) ∧ ∀ (x2341 : Int), ∀ u116 : World, I_3 x2341 u116 →
                                                (((decide (x2341 < ((l_n : Nat) : Int))) = true → ∃ b1 o1, l_p = some ⟨b1, o1, none⟩ ∧
                                                0 ≤ x2341 ∧ x2341 < ((l_n : Nat) : Int) ∧ ∃ (x2371 : Int), 1 = ([.int .i64 x2371] : List Value).length ∧
                                                  Rd u116 b1 (o1 + x2341.toNat * 1) ([.int .i64 x2371]) ∧ Spec Tryd.prog 99 #[.pointer (some ⟨g_b, g_o, none⟩), .int .i64 x2371] u116 (fun e u117 => e = .returned (.tuple #[]) ∧
                                              inK .i64 (x2341 + 1) ∧ I_3 (x2341 + 1) u117 ∧ M_3 (x2341 + 1) u117 < M_3 x2341 u116)) ∧
                                          ((decide (x2341 < ((l_n : Nat) : Int))) = false → R (.returned (.tuple #[])) u116))) ∧
                                                ((decide (c = 109)) = false → (((decide (c = 114)) = true → inK .i64 (x12 - 1) ∧
                                                  Spec Tryd.prog 95 #[.slice l_p l_n l_c, .int .i64 1, .int .i64 0] u1 (fun e u118 => ∃ (x2471 : Int), e = .returned (.int .i64 x2471) ∧
                                                      ∃ J_1 : Bool → World → Prop, ((((decide (x2471 = 0)) = true → J_1 true u118) ∧
                                                        ((decide (x2471 = 0)) = false → ∃ (x2551 : Int), 1 = ([.int .i64 x2551] : List Value).length ∧
                                                  Rd u118 g_b (g_o + 1) ([.int .i64 x2551]) ∧ J_1 (decide (x2551 < x2471)) u118))) ∧
                                                      ∀ (x2571 : Bool) (u119 : World), J_1 x2571 u119 → ((x2571 = true →
                                                      ∃ (x2611 : Int), 1 = ([.int .i64 x2611] : List Value).length ∧
                                                          Rd u119 g_b (g_o + 1) ([.int .i64 x2611]) ∧ (((decide ((x12 - 1) < x2611)) = true →
                                                          1 = ([.int .i64 (x12 - 1)] : List Value).length ∧ Wr u119 g_b (g_o + 7) 1 ∧
                                                          1 = ([.int .i64 x2611] : List Value).length ∧ Wr (putCells u119 g_b (g_o + 7) ([.int .i64 (x12 - 1)])) g_b (g_o + 8) 1 ∧
                                                          1 = ([.int .i64 0] : List Value).length ∧ Wr (putCells (putCells u119 g_b (g_o + 7) ([.int .i64 (x12 - 1)])) g_b (g_o + 8) ([.int .i64 x2611])) g_b (g_o + 3) 1 ∧
                                                          1 = ([.int .i64 0] : List Value).length ∧ Wr (putCells (putCells (putCells u119 g_b (g_o + 7) ([.int .i64 (x12 - 1)])) g_b (g_o + 8) ([.int .i64 x2611])) g_b (g_o + 3) ([.int .i64 0])) g_b (g_o + 4) 1 ∧
                                                        R (.returned (.tuple #[])) (putCells (putCells (putCells (putCells u119 g_b (g_o + 7) ([.int .i64 (x12 - 1)])) g_b (g_o + 8) ([.int .i64 x2611])) g_b (g_o + 3) ([.int .i64 0])) g_b (g_o + 4) ([.int .i64 0]))) ∧
                                                    ((decide ((x12 - 1) < x2611)) = false → R (.returned (.tuple #[])) u119))) ∧
                                                          (x2571 = false → (((decide ((x12 - 1) < x2471)) = true → 1 = ([.int .i64 (x12 - 1)] : List Value).length ∧
                                                          Wr u119 g_b (g_o + 7) 1 ∧ 1 = ([.int .i64 x2471] : List Value).length ∧
                                                          Wr (putCells u119 g_b (g_o + 7) ([.int .i64 (x12 - 1)])) g_b (g_o + 8) 1 ∧
                                                          1 = ([.int .i64 0] : List Value).length ∧ Wr (putCells (putCells u119 g_b (g_o + 7) ([.int .i64 (x12 - 1)])) g_b (g_o + 8) ([.int .i64 x2471])) g_b (g_o + 3) 1 ∧
                                                          1 = ([.int .i64 0] : List Value).length ∧ Wr (putCells (putCells (putCells u119 g_b (g_o + 7) ([.int .i64 (x12 - 1)])) g_b (g_o + 8) ([.int .i64 x2471])) g_b (g_o + 3) ([.int .i64 0])) g_b (g_o + 4) 1 ∧
                                                        R (.returned (.tuple #[])) (putCells (putCells (putCells (putCells u119 g_b (g_o + 7) ([.int .i64 (x12 - 1)])) g_b (g_o + 8) ([.int .i64 x2471])) g_b (g_o + 3) ([.int .i64 0])) g_b (g_o + 4) ([.int .i64 0]))) ∧
                                              ((decide ((x12 - 1) < x2471)) = false → R (.returned (.tuple #[])) u119)))))) ∧
  ((decide (c = 114)) = false → R (.returned (.tuple #[])) u1)))))))))))))))))))))))
set_option maxRecDepth 100000 in
theorem vc_grid_command_eq (g_b g_o : Nat) (c : Int) (l_p : Option Addr) (l_n l_c : Nat) (u : World) (R : Ending → World → Prop) : wFunc cx_grid_command Tryd.f85 [.pointer (some ⟨g_b, g_o, none⟩), .int .i64 c, .slice l_p l_n l_c] u R = vc_grid_command g_b g_o c l_p l_n l_c u R := by kernel_rfl
theorem vc_grid_command_spec (g_b g_o : Nat) (c : Int) (l_p : Option Addr) (l_n l_c : Nat) {u : World} {R : Ending → World → Prop} (h : vc_grid_command g_b g_o c l_p l_n l_c u R) : Spec Tryd.prog fn_grid_command #[.pointer (some ⟨g_b, g_o, none⟩), .int .i64 c, .slice l_p l_n l_c] u R := func_spec (C := cx_grid_command) (fn := Tryd.f85) (args := [.pointer (some ⟨g_b, g_o, none⟩), .int .i64 c, .slice l_p l_n l_c]) (ctxOk _ _ _ _ _) Tryd.func85 (vc_grid_command_eq g_b g_o c l_p l_n l_c u R) h

/-- fenestra/grid.picture -/
noncomputable def cx_grid_picture : Ctx := ⟨Tryd.prog, tab, [], [], [], fns, [(3, ⟨[.keep, .keep, .keep, .keep, .cell (.int .i64), .cell (.int .i64), .keep, .junk, .junk, .keep, .keep, .keep, .keep, .keep, .keep, .keep, .keep, .keep, .keep, .keep, .keep, .keep, .keep, .keep, .keep, .keep, .cell (.int .i64), .junk, .junk, .junk, .junk, .junk, .junk, .junk, .junk, .junk, .junk, .junk, .junk, .junk, .junk, .junk, .junk, .junk, .junk, .junk, .junk, .junk, .junk, .junk, .junk, .junk, .junk, .junk, .junk, .junk, .junk, .junk, .junk, .junk, .junk, .junk, .junk, .junk, .junk, .junk, .junk, .junk, .junk, .junk, .junk, .junk, .junk, .junk], []⟩)], []⟩
def vc_grid_picture (g_b g_o : Nat) (s : ByteArray) (u : World) (R : Ending → World → Prop) : Prop :=
  ∃ (x12 : Int), 1 = ([.int .i64 x12] : List Value).length ∧ Rd (drewW u) g_b (g_o + 3) ([.int .i64 x12]) ∧
  ∃ (x16 : Int), 1 = ([.int .i64 x16] : List Value).length ∧ Rd (drewW u) g_b (g_o + 4) ([.int .i64 x16]) ∧
  ∃ (x20 : Int), 1 = ([.int .i64 x20] : List Value).length ∧ Rd (drewW u) g_b (g_o + 0) ([.int .i64 x20]) ∧
    inK .i64 (x20 - 1) ∧ ∃ (I_ : Int → Int → Int → World → Prop) (M_ : Int →
  Int → Int → World → Nat), (I_ x12 (min x16 (x20 - 1)) 0 (drewW u)) ∧
  ∀ (r : Int) (c : Int) (x26 : Int), ∀ u1 : World, I_ r c x26 u1 →
      (((decide (x26 < ((s.size : Nat) : Int))) = true → 0 ≤ x26 ∧ ∃ c1 : UInt8, s.data.toList[x26.toNat]? = some c1 ∧
          inK .i64 ((c1.toNat : Nat) : Int) ∧ (((decide (((c1.toNat : Nat) : Int) = 45)) = true →
          inK .i64 (r + 1) ∧ inK .i64 (x26 + 1) ∧ I_ (r + 1) (min x16 (x20 - 1)) (x26 + 1) u1 ∧
        M_ (r + 1) (min x16 (x20 - 1)) (x26 + 1) u1 < M_ r c x26 u1) ∧
              ((decide (((c1.toNat : Nat) : Int) = 45)) = false → (((decide ((97 : Int) ≤ ((c1.toNat : Nat) : Int))) = true →
                  (((decide (((c1.toNat : Nat) : Int) < 105)) = true → ∃ (x51 : Int), 1 = ([.int .i64 x51] : List Value).length ∧
                      Rd u1 g_b (g_o + 1) ([.int .i64 x51]) ∧ (((decide (r < x51)) = true →
                      ∃ (x59 : Int), 1 = ([.int .i64 x59] : List Value).length ∧ Rd u1 g_b (g_o + 0) ([.int .i64 x59]) ∧
                            (((decide (c < x59)) = true → Spec Tryd.prog 92 #[.pointer (some ⟨g_b, g_o, none⟩), .int .i64 r] u1 (fun e u11 => ∃ (x64q_p : Option Addr) (x64q_n x64q_c : Nat), e = .returned (.slice x64q_p x64q_n x64q_c) ∧
                            inK .i64 (((c1.toNat : Nat) : Int) - 97) ∧ inK .i64 ((((c1.toNat : Nat) : Int) - 97) + 1) ∧
                            ∃ b o, x64q_p = some ⟨b, o, none⟩ ∧ 0 ≤ c ∧ c < ((x64q_n : Nat) : Int) ∧
                            4 = ([.int .i64 0, .int .i64 0, .int .i64 ((((c1.toNat : Nat) : Int) - 97) + 1), .bool false] : List Value).length ∧
                            Wr u11 b (o + c.toNat * 4) 4 ∧ inK .i64 (c + 1) ∧ inK .i64 (x26 + 1) ∧
                            I_ r (c + 1) (x26 + 1) (putCells u11 b (o + c.toNat * 4) ([.int .i64 0, .int .i64 0, .int .i64 ((((c1.toNat : Nat) : Int) - 97) + 1), .bool false])) ∧
                        M_ r (c + 1) (x26 + 1) (putCells u11 b (o + c.toNat * 4) ([.int .i64 0, .int .i64 0, .int .i64 ((((c1.toNat : Nat) : Int) - 97) + 1), .bool false])) < M_ r c x26 u1)) ∧
                          ((decide (c < x59)) = false → inK .i64 (c + 1) ∧ inK .i64 (x26 + 1) ∧
                    I_ r (c + 1) (x26 + 1) u1 ∧ M_ r (c + 1) (x26 + 1) u1 < M_ r c x26 u1))) ∧
                      ((decide (r < x51)) = false → inK .i64 (c + 1) ∧ inK .i64 (x26 + 1) ∧
                I_ r (c + 1) (x26 + 1) u1 ∧ M_ r (c + 1) (x26 + 1) u1 < M_ r c x26 u1))) ∧
                  ((decide (((c1.toNat : Nat) : Int) < 105)) = false → inK .i64 (c + 1) ∧
            inK .i64 (x26 + 1) ∧ I_ r (c + 1) (x26 + 1) u1 ∧ M_ r (c + 1) (x26 + 1) u1 < M_ r c x26 u1))) ∧
              ((decide ((97 : Int) ≤ ((c1.toNat : Nat) : Int))) = false → inK .i64 (c + 1) ∧
    inK .i64 (x26 + 1) ∧ I_ r (c + 1) (x26 + 1) u1 ∧ M_ r (c + 1) (x26 + 1) u1 < M_ r c x26 u1))))) ∧
  ((decide (x26 < ((s.size : Nat) : Int))) = false → R (.returned (.tuple #[])) u1))
set_option maxRecDepth 100000 in
theorem vc_grid_picture_eq (g_b g_o : Nat) (s : ByteArray) (u : World) (R : Ending → World → Prop) : wFunc cx_grid_picture Tryd.f86 [.pointer (some ⟨g_b, g_o, none⟩), .string s] u R = vc_grid_picture g_b g_o s u R := by kernel_rfl
theorem vc_grid_picture_spec (g_b g_o : Nat) (s : ByteArray) {u : World} {R : Ending → World → Prop} (h : vc_grid_picture g_b g_o s u R) : Spec Tryd.prog fn_grid_picture #[.pointer (some ⟨g_b, g_o, none⟩), .string s] u R := func_spec (C := cx_grid_picture) (fn := Tryd.f86) (args := [.pointer (some ⟨g_b, g_o, none⟩), .string s]) (ctxOk _ _ _ _ _) Tryd.func86 (vc_grid_picture_eq g_b g_o s u R) h

/-- fenestra/grid.Do -/
noncomputable def cx_grid_Do : Ctx := ⟨Tryd.prog, tab, [6], [], [], fns, [], []⟩
def vc_grid_Do (g_Wide : Int) (g_High : Int) (g_Cells_p : Option Addr) (g_Cells_n g_Cells_c : Nat) (g_Row : Int) (g_Col : Int) (g_Ink : Int) (g_Bold : Bool) (g_Top : Int) (g_Bottom : Int) (e_Kind : Int) (e_B : Int) (e_Params_p : Option Addr) (e_Params_n e_Params_c : Nat) (e_Payload : ByteArray) (u : World) (R : Ending → World → Prop) : Prop :=
    Spec Tryd.prog 14 #[.agg #[.int .i64 g_Wide, .int .i64 g_High, .slice g_Cells_p g_Cells_n g_Cells_c, .int .i64 g_Row, .int .i64 g_Col, .int .i64 g_Ink, .bool g_Bold, .int .i64 g_Top, .int .i64 g_Bottom]] (allocW (allocW (allocW u hole) hole) hole) (fun e u1 => ∃ (x8 : Bool), e = .returned (.bool x8) ∧
      (((!x8) = true → R (.returned (.tuple #[.agg #[.int .i64 g_Wide, .int .i64 g_High, .slice g_Cells_p g_Cells_n g_Cells_c, .int .i64 g_Row, .int .i64 g_Col, .int .i64 g_Ink, .bool g_Bold, .int .i64 g_Top, .int .i64 g_Bottom], .int .i64 1])) u1) ∧
        ((!x8) = false → 9 = ([.int .i64 g_Wide, .int .i64 g_High, .slice g_Cells_p g_Cells_n g_Cells_c, .int .i64 g_Row, .int .i64 g_Col, .int .i64 g_Ink, .bool g_Bold, .int .i64 g_Top, .int .i64 g_Bottom] : List Value).length ∧
        Wr (allocW u1 (.cells ([.int .i64 0, .int .i64 0, .slice none 0 0, .int .i64 0, .int .i64 0, .int .i64 0, .bool false, .int .i64 0, .int .i64 0] : List Value).toArray 24)) u1.heap.size 0 9 ∧
          Spec Tryd.prog 82 #[.slice g_Cells_p g_Cells_n g_Cells_c] (putCells (allocW u1 (.cells ([.int .i64 0, .int .i64 0, .slice none 0 0, .int .i64 0, .int .i64 0, .int .i64 0, .bool false, .int .i64 0, .int .i64 0] : List Value).toArray 24)) u1.heap.size 0 ([.int .i64 g_Wide, .int .i64 g_High, .slice g_Cells_p g_Cells_n g_Cells_c, .int .i64 g_Row, .int .i64 g_Col, .int .i64 g_Ink, .bool g_Bold, .int .i64 g_Top, .int .i64 g_Bottom])) (fun e u11 => ∃ (x14q_p : Option Addr) (x14q_n x14q_c : Nat), e = .returned (.slice x14q_p x14q_n x14q_c) ∧
          1 = ([.slice x14q_p x14q_n x14q_c] : List Value).length ∧ Wr u11 u1.heap.size (0 + 2) 1 ∧
                  (((decide (e_Kind = 1)) = true → (((decide (e_B < 32)) = true →
                R (.returned (.tuple #[.agg #[.int .i64 g_Wide, .int .i64 g_High, .slice g_Cells_p g_Cells_n g_Cells_c, .int .i64 g_Row, .int .i64 g_Col, .int .i64 g_Ink, .bool g_Bold, .int .i64 g_Top, .int .i64 g_Bottom], .int .i64 6])) (putCells u11 u1.heap.size (0 + 2) ([.slice x14q_p x14q_n x14q_c]))) ∧
                      ((decide (e_B < 32)) = false → (((decide ((126 : Int) < e_B)) = true →
                    R (.returned (.tuple #[.agg #[.int .i64 g_Wide, .int .i64 g_High, .slice g_Cells_p g_Cells_n g_Cells_c, .int .i64 g_Row, .int .i64 g_Col, .int .i64 g_Ink, .bool g_Bold, .int .i64 g_Top, .int .i64 g_Bottom], .int .i64 6])) (putCells u11 u1.heap.size (0 + 2) ([.slice x14q_p x14q_n x14q_c]))) ∧
                        ((decide ((126 : Int) < e_B)) = false → Spec Tryd.prog 83 #[.pointer (some ⟨u1.heap.size, 0, none⟩), .int .i64 e_B] (putCells u11 u1.heap.size (0 + 2) ([.slice x14q_p x14q_n x14q_c])) (fun e u12 => e = .returned (.tuple #[]) ∧
                        ∃ (x57q_Wide : Int) (x57q_High : Int) (x57q_Cells_p : Option Addr) (x57q_Cells_n x57q_Cells_c : Nat) (x57q_Row : Int) (x57q_Col : Int) (x57q_Ink : Int) (x57q_Bold : Bool) (x57q_Top : Int) (x57q_Bottom : Int), 9 = ([.int .i64 x57q_Wide, .int .i64 x57q_High, .slice x57q_Cells_p x57q_Cells_n x57q_Cells_c, .int .i64 x57q_Row, .int .i64 x57q_Col, .int .i64 x57q_Ink, .bool x57q_Bold, .int .i64 x57q_Top, .int .i64 x57q_Bottom] : List Value).length ∧
                        Rd u12 u1.heap.size 0 ([.int .i64 x57q_Wide, .int .i64 x57q_High, .slice x57q_Cells_p x57q_Cells_n x57q_Cells_c, .int .i64 x57q_Row, .int .i64 x57q_Col, .int .i64 x57q_Ink, .bool x57q_Bold, .int .i64 x57q_Top, .int .i64 x57q_Bottom]) ∧
            R (.returned (.tuple #[.agg #[.int .i64 x57q_Wide, .int .i64 x57q_High, .slice x57q_Cells_p x57q_Cells_n x57q_Cells_c, .int .i64 x57q_Row, .int .i64 x57q_Col, .int .i64 x57q_Ink, .bool x57q_Bold, .int .i64 x57q_Top, .int .i64 x57q_Bottom], .int .i64 0])) u12)))))) ∧
                  ((decide (e_Kind = 1)) = false → (((decide (e_Kind = 2)) = true →
                    Spec Tryd.prog 84 #[.pointer (some ⟨u1.heap.size, 0, none⟩), .int .i64 e_B] (putCells u11 u1.heap.size (0 + 2) ([.slice x14q_p x14q_n x14q_c])) (fun e u13 => e = .returned (.tuple #[]) ∧
                    ∃ (x57q_Wide1 : Int) (x57q_High1 : Int) (x57q_Cells_p1 : Option Addr) (x57q_Cells_n1 x57q_Cells_c1 : Nat) (x57q_Row1 : Int) (x57q_Col1 : Int) (x57q_Ink1 : Int) (x57q_Bold1 : Bool) (x57q_Top1 : Int) (x57q_Bottom1 : Int), 9 = ([.int .i64 x57q_Wide1, .int .i64 x57q_High1, .slice x57q_Cells_p1 x57q_Cells_n1 x57q_Cells_c1, .int .i64 x57q_Row1, .int .i64 x57q_Col1, .int .i64 x57q_Ink1, .bool x57q_Bold1, .int .i64 x57q_Top1, .int .i64 x57q_Bottom1] : List Value).length ∧
                    Rd u13 u1.heap.size 0 ([.int .i64 x57q_Wide1, .int .i64 x57q_High1, .slice x57q_Cells_p1 x57q_Cells_n1 x57q_Cells_c1, .int .i64 x57q_Row1, .int .i64 x57q_Col1, .int .i64 x57q_Ink1, .bool x57q_Bold1, .int .i64 x57q_Top1, .int .i64 x57q_Bottom1]) ∧
                R (.returned (.tuple #[.agg #[.int .i64 x57q_Wide1, .int .i64 x57q_High1, .slice x57q_Cells_p1 x57q_Cells_n1 x57q_Cells_c1, .int .i64 x57q_Row1, .int .i64 x57q_Col1, .int .i64 x57q_Ink1, .bool x57q_Bold1, .int .i64 x57q_Top1, .int .i64 x57q_Bottom1], .int .i64 0])) u13)) ∧
                      ((decide (e_Kind = 2)) = false → (((decide (e_Kind = 3)) = true →
                        Spec Tryd.prog 85 #[.pointer (some ⟨u1.heap.size, 0, none⟩), .int .i64 e_B, .slice e_Params_p e_Params_n e_Params_c] (putCells u11 u1.heap.size (0 + 2) ([.slice x14q_p x14q_n x14q_c])) (fun e u14 => e = .returned (.tuple #[]) ∧
                        ∃ (x57q_Wide2 : Int) (x57q_High2 : Int) (x57q_Cells_p2 : Option Addr) (x57q_Cells_n2 x57q_Cells_c2 : Nat) (x57q_Row2 : Int) (x57q_Col2 : Int) (x57q_Ink2 : Int) (x57q_Bold2 : Bool) (x57q_Top2 : Int) (x57q_Bottom2 : Int), 9 = ([.int .i64 x57q_Wide2, .int .i64 x57q_High2, .slice x57q_Cells_p2 x57q_Cells_n2 x57q_Cells_c2, .int .i64 x57q_Row2, .int .i64 x57q_Col2, .int .i64 x57q_Ink2, .bool x57q_Bold2, .int .i64 x57q_Top2, .int .i64 x57q_Bottom2] : List Value).length ∧
                        Rd u14 u1.heap.size 0 ([.int .i64 x57q_Wide2, .int .i64 x57q_High2, .slice x57q_Cells_p2 x57q_Cells_n2 x57q_Cells_c2, .int .i64 x57q_Row2, .int .i64 x57q_Col2, .int .i64 x57q_Ink2, .bool x57q_Bold2, .int .i64 x57q_Top2, .int .i64 x57q_Bottom2]) ∧
                    R (.returned (.tuple #[.agg #[.int .i64 x57q_Wide2, .int .i64 x57q_High2, .slice x57q_Cells_p2 x57q_Cells_n2 x57q_Cells_c2, .int .i64 x57q_Row2, .int .i64 x57q_Col2, .int .i64 x57q_Ink2, .bool x57q_Bold2, .int .i64 x57q_Top2, .int .i64 x57q_Bottom2], .int .i64 0])) u14)) ∧
                          ((decide (e_Kind = 3)) = false → (((decide (e_Kind = 4)) = true →
                            Spec Tryd.prog 86 #[.pointer (some ⟨u1.heap.size, 0, none⟩), .string e_Payload] (putCells u11 u1.heap.size (0 + 2) ([.slice x14q_p x14q_n x14q_c])) (fun e u15 => e = .returned (.tuple #[]) ∧
                            ∃ (x57q_Wide3 : Int) (x57q_High3 : Int) (x57q_Cells_p3 : Option Addr) (x57q_Cells_n3 x57q_Cells_c3 : Nat) (x57q_Row3 : Int) (x57q_Col3 : Int) (x57q_Ink3 : Int) (x57q_Bold3 : Bool) (x57q_Top3 : Int) (x57q_Bottom3 : Int), 9 = ([.int .i64 x57q_Wide3, .int .i64 x57q_High3, .slice x57q_Cells_p3 x57q_Cells_n3 x57q_Cells_c3, .int .i64 x57q_Row3, .int .i64 x57q_Col3, .int .i64 x57q_Ink3, .bool x57q_Bold3, .int .i64 x57q_Top3, .int .i64 x57q_Bottom3] : List Value).length ∧
                            Rd u15 u1.heap.size 0 ([.int .i64 x57q_Wide3, .int .i64 x57q_High3, .slice x57q_Cells_p3 x57q_Cells_n3 x57q_Cells_c3, .int .i64 x57q_Row3, .int .i64 x57q_Col3, .int .i64 x57q_Ink3, .bool x57q_Bold3, .int .i64 x57q_Top3, .int .i64 x57q_Bottom3]) ∧
                        R (.returned (.tuple #[.agg #[.int .i64 x57q_Wide3, .int .i64 x57q_High3, .slice x57q_Cells_p3 x57q_Cells_n3 x57q_Cells_c3, .int .i64 x57q_Row3, .int .i64 x57q_Col3, .int .i64 x57q_Ink3, .bool x57q_Bold3, .int .i64 x57q_Top3, .int .i64 x57q_Bottom3], .int .i64 0])) u15)) ∧
                              ((decide (e_Kind = 4)) = false → (((decide (e_Kind = 5)) = true →
                                Spec Tryd.prog 44 #[.int .i64 g_Wide, .int .i64 g_High] (putCells u11 u1.heap.size (0 + 2) ([.slice x14q_p x14q_n x14q_c])) (fun e u16 => ∃ (x56q_Wide : Int) (x56q_High : Int) (x56q_Cells_p : Option Addr) (x56q_Cells_n x56q_Cells_c : Nat) (x56q_Row : Int) (x56q_Col : Int) (x56q_Ink : Int) (x56q_Bold : Bool) (x56q_Top : Int) (x56q_Bottom : Int), e = .returned (.agg #[.int .i64 x56q_Wide, .int .i64 x56q_High, .slice x56q_Cells_p x56q_Cells_n x56q_Cells_c, .int .i64 x56q_Row, .int .i64 x56q_Col, .int .i64 x56q_Ink, .bool x56q_Bold, .int .i64 x56q_Top, .int .i64 x56q_Bottom]) ∧
                            R (.returned (.tuple #[.agg #[.int .i64 x56q_Wide, .int .i64 x56q_High, .slice x56q_Cells_p x56q_Cells_n x56q_Cells_c, .int .i64 x56q_Row, .int .i64 x56q_Col, .int .i64 x56q_Ink, .bool x56q_Bold, .int .i64 x56q_Top, .int .i64 x56q_Bottom], .int .i64 0])) u16)) ∧
  ((decide (e_Kind = 5)) = false → R (.returned (.tuple #[.agg #[.int .i64 g_Wide, .int .i64 g_High, .slice g_Cells_p g_Cells_n g_Cells_c, .int .i64 g_Row, .int .i64 g_Col, .int .i64 g_Ink, .bool g_Bold, .int .i64 g_Top, .int .i64 g_Bottom], .int .i64 2])) (putCells u11 u1.heap.size (0 + 2) ([.slice x14q_p x14q_n x14q_c]))))))))))))))))
set_option maxRecDepth 100000 in
theorem vc_grid_Do_eq (g_Wide : Int) (g_High : Int) (g_Cells_p : Option Addr) (g_Cells_n g_Cells_c : Nat) (g_Row : Int) (g_Col : Int) (g_Ink : Int) (g_Bold : Bool) (g_Top : Int) (g_Bottom : Int) (e_Kind : Int) (e_B : Int) (e_Params_p : Option Addr) (e_Params_n e_Params_c : Nat) (e_Payload : ByteArray) (u : World) (R : Ending → World → Prop) : wFunc cx_grid_Do Tryd.f70 [.agg #[.int .i64 g_Wide, .int .i64 g_High, .slice g_Cells_p g_Cells_n g_Cells_c, .int .i64 g_Row, .int .i64 g_Col, .int .i64 g_Ink, .bool g_Bold, .int .i64 g_Top, .int .i64 g_Bottom], .agg #[.int .i64 e_Kind, .int .i64 e_B, .slice e_Params_p e_Params_n e_Params_c, .string e_Payload]] u R = vc_grid_Do g_Wide g_High g_Cells_p g_Cells_n g_Cells_c g_Row g_Col g_Ink g_Bold g_Top g_Bottom e_Kind e_B e_Params_p e_Params_n e_Params_c e_Payload u R := by kernel_rfl
theorem vc_grid_Do_spec (g_Wide : Int) (g_High : Int) (g_Cells_p : Option Addr) (g_Cells_n g_Cells_c : Nat) (g_Row : Int) (g_Col : Int) (g_Ink : Int) (g_Bold : Bool) (g_Top : Int) (g_Bottom : Int) (e_Kind : Int) (e_B : Int) (e_Params_p : Option Addr) (e_Params_n e_Params_c : Nat) (e_Payload : ByteArray) {u : World} {R : Ending → World → Prop} (h : vc_grid_Do g_Wide g_High g_Cells_p g_Cells_n g_Cells_c g_Row g_Col g_Ink g_Bold g_Top g_Bottom e_Kind e_B e_Params_p e_Params_n e_Params_c e_Payload u R) : Spec Tryd.prog fn_grid_Do #[.agg #[.int .i64 g_Wide, .int .i64 g_High, .slice g_Cells_p g_Cells_n g_Cells_c, .int .i64 g_Row, .int .i64 g_Col, .int .i64 g_Ink, .bool g_Bold, .int .i64 g_Top, .int .i64 g_Bottom], .agg #[.int .i64 e_Kind, .int .i64 e_B, .slice e_Params_p e_Params_n e_Params_c, .string e_Payload]] u R := func_spec (C := cx_grid_Do) (fn := Tryd.f70) (args := [.agg #[.int .i64 g_Wide, .int .i64 g_High, .slice g_Cells_p g_Cells_n g_Cells_c, .int .i64 g_Row, .int .i64 g_Col, .int .i64 g_Ink, .bool g_Bold, .int .i64 g_Top, .int .i64 g_Bottom], .agg #[.int .i64 e_Kind, .int .i64 e_B, .slice e_Params_p e_Params_n e_Params_c, .string e_Payload]]) (ctxOk _ _ _ _ _) Tryd.func70 (vc_grid_Do_eq g_Wide g_High g_Cells_p g_Cells_n g_Cells_c g_Row g_Col g_Ink g_Bold g_Top g_Bottom e_Kind e_B e_Params_p e_Params_n e_Params_c e_Payload u R) h

end Go.Proofs.YtkmmphkjmamckacDoor
