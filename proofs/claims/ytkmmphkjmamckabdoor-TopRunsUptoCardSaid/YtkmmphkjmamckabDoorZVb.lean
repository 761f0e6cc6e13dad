/-
  Texts that belong together, joined: VGrid, VGrid2, VRefG, VRefN.
-/
import Derived.Test.YtkmmphkjmamckabDoorCtx
namespace Go.Proofs.YtkmmphkjmamckabDoor
open Go
set_option linter.all false

/-- slices.Clone[[]fenestra/api.Cell,fenestra/api.Cell] -/
noncomputable def cx_slices_Clone_api_Cell_api_Cell : Ctx := ⟨Tryd.prog, tab, [], [], [], fns, [], []⟩
def vc_slices_Clone_api_Cell_api_Cell (s_p : Option Addr) (s_n s_c : Nat) (u : World) (R : Ending → World → Prop) : Prop :=
 (((Option.isNone s_p) = true → R (.returned (.slice none 0 0)) u) ∧
 ((Option.isNone s_p) = false → ∃ old new : List Value, old.length = 0 * 4 ∧
 Gets (allocW u (.cells #[] 101)) (some (Addr.mk u.heap.size 0 none)) old ∧
 new.length = s_n * 4 ∧ Gets (allocW u (.cells #[] 101)) s_p new ∧
 0 < 32 ∧ (2 * (0 + s_n) + 192) * 32 ≤ 140737488355328 ∧ okCells new True ∧
 (0 + s_n ≤ 0 → WrS (allocW u (.cells #[] 101)) (some (Addr.mk u.heap.size 0 none)) (0 * 4) (s_n * 4)) ∧
 ∀ p cap u1, AppR (allocW u (.cells #[] 101)) 101 4 [.int .i64 0, .int .i64 0, .int .i64 0, .bool false] (some (Addr.mk u.heap.size 0 none)) 0 0 s_n old new p cap u1 →
 R (.returned (.slice p (0 + s_n) cap)) u1))
set_option maxRecDepth 100000 in
theorem vc_slices_Clone_api_Cell_api_Cell_eq (s_p : Option Addr) (s_n s_c : Nat) (u : World) (R : Ending → World → Prop) : wFunc cx_slices_Clone_api_Cell_api_Cell Tryd.f53 [.slice s_p s_n s_c] u R = vc_slices_Clone_api_Cell_api_Cell s_p s_n s_c u R := by kernel_rfl
theorem vc_slices_Clone_api_Cell_api_Cell_spec (s_p : Option Addr) (s_n s_c : Nat) {u : World} {R : Ending → World → Prop} (h : vc_slices_Clone_api_Cell_api_Cell s_p s_n s_c u R) : Spec Tryd.prog fn_slices_Clone_api_Cell_api_Cell #[.slice s_p s_n s_c] u R := func_spec (C := cx_slices_Clone_api_Cell_api_Cell) (fn := Tryd.f53) (args := [.slice s_p s_n s_c]) (ctxOk _ _ _ _ _) Tryd.func53 (vc_slices_Clone_api_Cell_api_Cell_eq s_p s_n s_c u R) h

/-- slices.ContainsFunc[[]fenestra/api.Cell,fenestra/api.Cell] -/
noncomputable def cx_slices_ContainsFunc_api_Cell_api_Cell : Ctx := ⟨Tryd.prog, tab, [], [], [], fns, [], []⟩
def vc_slices_ContainsFunc_api_Cell_api_Cell (s_p : Option Addr) (s_n s_c : Nat) (f_f : Fn) (f_a f_c : Array Value) (u : World) (R : Ending → World → Prop) : Prop :=
 Spec Tryd.prog 78 #[.slice s_p s_n s_c, .func f_f f_a f_c] u (fun e u1 => ∃ (q0 : Int), e = .returned (.int .i64 q0) ∧
 R (.returned (.bool (decide ((0 : Int) ≤ q0)))) u1)
set_option maxRecDepth 100000 in
theorem vc_slices_ContainsFunc_api_Cell_api_Cell_eq (s_p : Option Addr) (s_n s_c : Nat) (f_f : Fn) (f_a f_c : Array Value) (u : World) (R : Ending → World → Prop) : wFunc cx_slices_ContainsFunc_api_Cell_api_Cell Tryd.f62 [.slice s_p s_n s_c, .func f_f f_a f_c] u R = vc_slices_ContainsFunc_api_Cell_api_Cell s_p s_n s_c f_f f_a f_c u R := by kernel_rfl
theorem vc_slices_ContainsFunc_api_Cell_api_Cell_spec (s_p : Option Addr) (s_n s_c : Nat) (f_f : Fn) (f_a f_c : Array Value) {u : World} {R : Ending → World → Prop} (h : vc_slices_ContainsFunc_api_Cell_api_Cell s_p s_n s_c f_f f_a f_c u R) : Spec Tryd.prog fn_slices_ContainsFunc_api_Cell_api_Cell #[.slice s_p s_n s_c, .func f_f f_a f_c] u R := func_spec (C := cx_slices_ContainsFunc_api_Cell_api_Cell) (fn := Tryd.f62) (args := [.slice s_p s_n s_c, .func f_f f_a f_c]) (ctxOk _ _ _ _ _) Tryd.func62 (vc_slices_ContainsFunc_api_Cell_api_Cell_eq s_p s_n s_c f_f f_a f_c u R) h

/-- slices.IndexFunc[[]fenestra/api.Cell,fenestra/api.Cell] -/
noncomputable def cx_slices_IndexFunc_api_Cell_api_Cell : Ctx := ⟨Tryd.prog, tab, [], [], [], fns, [(2, ⟨[.keep, .keep, .keep, .keep, .junk, .junk, .keep, .keep, .cell (.int .i64), .junk, .junk, .junk, .junk, .junk, .junk, .junk, .junk, .junk, .junk], []⟩)], []⟩
def vc_slices_IndexFunc_api_Cell_api_Cell (s_p : Option Addr) (s_n s_c : Nat) (u : World) (R : Ending → World → Prop) : Prop :=
 ∃ (I_ : Int → World → Prop) (M_ : Int → World → Nat), (I_ 0 u) ∧
 ∀ (q0 : Int), ∀ u1 : World, I_ q0 u1 → (((decide (q0 < ((s_n : Nat) : Int))) = true →
 ∃ b o, s_p = some ⟨b, o, none⟩ ∧ 0 ≤ q0 ∧ q0 < ((s_n : Nat) : Int) ∧
 ∃ (q1 q2 q3 : Int) (q4 : Bool), 4 = szN 4 ∧
 Rd u1 b (o + q0.toNat * 4) ([.int .i64 q1, .int .i64 q2, .int .i64 q3, .bool q4]) ∧
 Spec Tryd.prog 63 #[.agg #[.int .i64 q1, .int .i64 q2, .int .i64 q3, .bool q4]] u1 (fun e u11 => ∃ (q5 : Bool), e = .returned (.bool q5) ∧
 ((q5 = true → R (.returned (.int .i64 q0)) u11) ∧ (q5 = false →
 inK .i64 (q0 + 1) ∧ I_ (q0 + 1) u11 ∧ M_ (q0 + 1) u11 < M_ q0 u1)))) ∧
 ((decide (q0 < ((s_n : Nat) : Int))) = false → R (.returned (.int .i64 (-1))) u1))
set_option maxRecDepth 100000 in
theorem vc_slices_IndexFunc_api_Cell_api_Cell_eq (s_p : Option Addr) (s_n s_c : Nat) (u : World) (R : Ending → World → Prop) : wFunc cx_slices_IndexFunc_api_Cell_api_Cell Tryd.f78 [.slice s_p s_n s_c, .func (.func 63) #[] #[]] u R = vc_slices_IndexFunc_api_Cell_api_Cell s_p s_n s_c u R := by kernel_rfl
theorem vc_slices_IndexFunc_api_Cell_api_Cell_spec (s_p : Option Addr) (s_n s_c : Nat) {u : World} {R : Ending → World → Prop} (h : vc_slices_IndexFunc_api_Cell_api_Cell s_p s_n s_c u R) : Spec Tryd.prog fn_slices_IndexFunc_api_Cell_api_Cell #[.slice s_p s_n s_c, .func (.func 63) #[] #[]] u R := func_spec (C := cx_slices_IndexFunc_api_Cell_api_Cell) (fn := Tryd.f78) (args := [.slice s_p s_n s_c, .func (.func 63) #[] #[]]) (ctxOk _ _ _ _ _) Tryd.func78 (vc_slices_IndexFunc_api_Cell_api_Cell_eq s_p s_n s_c u R) h

/-- fenestra/grid.New -/
noncomputable def cx_grid_New : Ctx := ⟨Tryd.prog, tab, [], [], [], fns, [], []⟩
def vc_grid_New (wide : Int) (high : Int) (u : World) (R : Ending → World → Prop) : Prop :=
 inK .i64 ((max (1 : Int) (min wide 24)) * (max (1 : Int) (min high 10))) ∧
 0 ≤ ((max (1 : Int) (min wide 24)) * (max (1 : Int) (min high 10))) ∧
 ((max (1 : Int) (min wide 24)) * (max (1 : Int) (min high 10))) ≤ ((max (1 : Int) (min wide 24)) * (max (1 : Int) (min high 10))) ∧
 ((max (1 : Int) (min wide 24)) * (max (1 : Int) (min high 10))) ≤ 9223372036854775807 ∧
 ((32 : Nat) : Int) * ((max (1 : Int) (min wide 24)) * (max (1 : Int) (min high 10))) ≤ 140737488355328 ∧
 R (.returned (.agg #[.int .i64 (max (1 : Int) (min wide 24)), .int .i64 (max (1 : Int) (min high 10)), .slice (some (Addr.mk (allocW u hole).heap.size 0 none)) (((max (1 : Int) (min wide 24)) * (max (1 : Int) (min high 10))).toNat) (((max (1 : Int) (min wide 24)) * (max (1 : Int) (min high 10))).toNat), .int .i64 0, .int .i64 0, .int .i64 0, .bool false, .int .i64 0, .int .i64 (max (1 : Int) (min high 10))])) (allocW (allocW u hole) (.cells (repl ((max (1 : Int) (min wide 24)) * (max (1 : Int) (min high 10))).toNat [.int .i64 0, .int .i64 0, .int .i64 0, .bool false]).toArray 101))
set_option maxRecDepth 100000 in
theorem vc_grid_New_eq (wide : Int) (high : Int) (u : World) (R : Ending → World → Prop) : wFunc cx_grid_New Tryd.f22 [.int .i64 wide, .int .i64 high] u R = vc_grid_New wide high u R := by kernel_rfl
theorem vc_grid_New_spec (wide : Int) (high : Int) {u : World} {R : Ending → World → Prop} (h : vc_grid_New wide high u R) : Spec Tryd.prog fn_grid_New #[.int .i64 wide, .int .i64 high] u R := func_spec (C := cx_grid_New) (fn := Tryd.f22) (args := [.int .i64 wide, .int .i64 high]) (ctxOk _ _ _ _ _) Tryd.func22 (vc_grid_New_eq wide high u R) h

/-- fenestra/grid.GoodCell -/
noncomputable def cx_grid_GoodCell : Ctx := ⟨Tryd.prog, tab, [], [], [], fns, [], []⟩
def vc_grid_GoodCell (c_Ch : Int) (c_Ink : Int) (c_Pic : Int) (c_Bold : Bool) (u : World) (R : Ending → World → Prop) : Prop :=
 (((decide (c_Pic < 0)) = true → R (.returned (.bool false)) (allocW u hole)) ∧
 ((decide (c_Pic < 0)) = false → (((decide ((8 : Int) < c_Pic)) = true →
 R (.returned (.bool false)) (allocW u hole)) ∧ ((decide ((8 : Int) < c_Pic)) = false →
 (((decide (c_Ink < 0)) = true → R (.returned (.bool false)) (allocW u hole)) ∧
 ((decide (c_Ink < 0)) = false → (((decide ((8 : Int) < c_Ink)) = true →
 R (.returned (.bool false)) (allocW u hole)) ∧ ((decide ((8 : Int) < c_Ink)) = false →
 (((!decide (c_Pic = 0)) = true → (((decide (c_Ch = 0)) = true →
 (((decide (c_Ink = 0)) = true → R (.returned (.bool (!c_Bold))) (allocW u hole)) ∧
 ((decide (c_Ink = 0)) = false → R (.returned (.bool false)) (allocW u hole)))) ∧
 ((decide (c_Ch = 0)) = false → R (.returned (.bool false)) (allocW u hole)))) ∧
 ((!decide (c_Pic = 0)) = false → (((decide (c_Ch = 0)) = true →
 (((decide (c_Ink = 0)) = true → (((!c_Bold) = true → R (.returned (.bool true)) (allocW u hole)) ∧
 ((!c_Bold) = false → (((decide ((32 : Int) ≤ c_Ch)) = true → R (.returned (.bool (decide (c_Ch < 127)))) (allocW u hole)) ∧
 ((decide ((32 : Int) ≤ c_Ch)) = false → R (.returned (.bool false)) (allocW u hole)))))) ∧
 ((decide (c_Ink = 0)) = false → (((decide ((32 : Int) ≤ c_Ch)) = true →
 R (.returned (.bool (decide (c_Ch < 127)))) (allocW u hole)) ∧
 ((decide ((32 : Int) ≤ c_Ch)) = false → R (.returned (.bool false)) (allocW u hole)))))) ∧
 ((decide (c_Ch = 0)) = false → (((decide ((32 : Int) ≤ c_Ch)) = true →
 R (.returned (.bool (decide (c_Ch < 127)))) (allocW u hole)) ∧
 ((decide ((32 : Int) ≤ c_Ch)) = false → R (.returned (.bool false)) (allocW u hole)))))))))))))))
set_option maxRecDepth 100000 in
theorem vc_grid_GoodCell_eq (c_Ch : Int) (c_Ink : Int) (c_Pic : Int) (c_Bold : Bool) (u : World) (R : Ending → World → Prop) : wFunc cx_grid_GoodCell Tryd.f64 [.agg #[.int .i64 c_Ch, .int .i64 c_Ink, .int .i64 c_Pic, .bool c_Bold]] u R = vc_grid_GoodCell c_Ch c_Ink c_Pic c_Bold u R := by kernel_rfl
theorem vc_grid_GoodCell_spec (c_Ch : Int) (c_Ink : Int) (c_Pic : Int) (c_Bold : Bool) {u : World} {R : Ending → World → Prop} (h : vc_grid_GoodCell c_Ch c_Ink c_Pic c_Bold u R) : Spec Tryd.prog fn_grid_GoodCell #[.agg #[.int .i64 c_Ch, .int .i64 c_Ink, .int .i64 c_Pic, .bool c_Bold]] u R := func_spec (C := cx_grid_GoodCell) (fn := Tryd.f64) (args := [.agg #[.int .i64 c_Ch, .int .i64 c_Ink, .int .i64 c_Pic, .bool c_Bold]]) (ctxOk _ _ _ _ _) Tryd.func64 (vc_grid_GoodCell_eq c_Ch c_Ink c_Pic c_Bold u R) h

/-- fenestra/grid.Good$1 -/
noncomputable def cx_grid_Good_c1 : Ctx := ⟨Tryd.prog, tab, [], [], [], fns, [], []⟩
def vc_grid_Good_c1 (c_Ch : Int) (c_Ink : Int) (c_Pic : Int) (c_Bold : Bool) (u : World) (R : Ending → World → Prop) : Prop :=
 Spec Tryd.prog 64 #[.agg #[.int .i64 c_Ch, .int .i64 c_Ink, .int .i64 c_Pic, .bool c_Bold]] (allocW u hole) (fun e u1 => ∃ (q0 : Bool), e = .returned (.bool q0) ∧
 R (.returned (.bool (!q0))) u1)
set_option maxRecDepth 100000 in
theorem vc_grid_Good_c1_eq (c_Ch : Int) (c_Ink : Int) (c_Pic : Int) (c_Bold : Bool) (u : World) (R : Ending → World → Prop) : wFunc cx_grid_Good_c1 Tryd.f63 [.agg #[.int .i64 c_Ch, .int .i64 c_Ink, .int .i64 c_Pic, .bool c_Bold]] u R = vc_grid_Good_c1 c_Ch c_Ink c_Pic c_Bold u R := by kernel_rfl
theorem vc_grid_Good_c1_spec (c_Ch : Int) (c_Ink : Int) (c_Pic : Int) (c_Bold : Bool) {u : World} {R : Ending → World → Prop} (h : vc_grid_Good_c1 c_Ch c_Ink c_Pic c_Bold u R) : Spec Tryd.prog fn_grid_Good_c1 #[.agg #[.int .i64 c_Ch, .int .i64 c_Ink, .int .i64 c_Pic, .bool c_Bold]] u R := func_spec (C := cx_grid_Good_c1) (fn := Tryd.f63) (args := [.agg #[.int .i64 c_Ch, .int .i64 c_Ink, .int .i64 c_Pic, .bool c_Bold]]) (ctxOk _ _ _ _ _) Tryd.func63 (vc_grid_Good_c1_eq c_Ch c_Ink c_Pic c_Bold u R) h

/-- fenestra/grid.Good -/
noncomputable def cx_grid_Good : Ctx := ⟨Tryd.prog, tab, [], [], [], fns, [], []⟩
def vc_grid_Good (g_Wide : Int) (g_High : Int) (g_Cells_p : Option Addr) (g_Cells_n g_Cells_c : Nat) (g_Row : Int) (g_Col : Int) (g_Ink : Int) (g_Bold : Bool) (g_Top : Int) (g_Bottom : Int) (u : World) (R : Ending → World → Prop) : Prop :=
 (((decide (g_Wide < 1)) = true → R (.returned (.bool false)) (allocW u hole)) ∧
 ((decide (g_Wide < 1)) = false → (((decide ((24 : Int) < g_Wide)) = true →
 R (.returned (.bool false)) (allocW u hole)) ∧ ((decide ((24 : Int) < g_Wide)) = false →
 (((decide (g_High < 1)) = true → R (.returned (.bool false)) (allocW u hole)) ∧
 ((decide (g_High < 1)) = false → (((decide ((10 : Int) < g_High)) = true →
 R (.returned (.bool false)) (allocW u hole)) ∧ ((decide ((10 : Int) < g_High)) = false →
 inK .i64 (g_Wide * g_High) ∧ (((!decide (((g_Cells_n : Nat) : Int) = (g_Wide * g_High))) = true →
 R (.returned (.bool false)) (allocW u hole)) ∧ ((!decide (((g_Cells_n : Nat) : Int) = (g_Wide * g_High))) = false →
 (((decide (g_Row < 0)) = true → R (.returned (.bool false)) (allocW u hole)) ∧
 ((decide (g_Row < 0)) = false → (((decide (g_High ≤ g_Row)) = true →
 R (.returned (.bool false)) (allocW u hole)) ∧ ((decide (g_High ≤ g_Row)) = false →
 (((decide (g_Col < 0)) = true → R (.returned (.bool false)) (allocW u hole)) ∧
 ((decide (g_Col < 0)) = false → (((decide (g_Wide < g_Col)) = true →
 R (.returned (.bool false)) (allocW u hole)) ∧ ((decide (g_Wide < g_Col)) = false →
 (((decide (g_Ink < 0)) = true → R (.returned (.bool false)) (allocW u hole)) ∧
 ((decide (g_Ink < 0)) = false → (((decide ((8 : Int) < g_Ink)) = true →
 R (.returned (.bool false)) (allocW u hole)) ∧ ((decide ((8 : Int) < g_Ink)) = false →
 (((decide (g_Top < 0)) = true → R (.returned (.bool false)) (allocW u hole)) ∧
 ((decide (g_Top < 0)) = false → (((decide (g_Bottom ≤ g_Top)) = true →
 R (.returned (.bool false)) (allocW u hole)) ∧ ((decide (g_Bottom ≤ g_Top)) = false →
 (((decide (g_High < g_Bottom)) = true → R (.returned (.bool false)) (allocW u hole)) ∧
 ((decide (g_High < g_Bottom)) = false → Spec Tryd.prog 62 #[.slice g_Cells_p g_Cells_n g_Cells_c, .func (.func 63) #[] #[]] (allocW u hole) (fun e u1 => ∃ (q0 : Bool), e = .returned (.bool q0) ∧
 R (.returned (.bool (!q0))) u1)))))))))))))))))))))))))))))
set_option maxRecDepth 100000 in
theorem vc_grid_Good_eq (g_Wide : Int) (g_High : Int) (g_Cells_p : Option Addr) (g_Cells_n g_Cells_c : Nat) (g_Row : Int) (g_Col : Int) (g_Ink : Int) (g_Bold : Bool) (g_Top : Int) (g_Bottom : Int) (u : World) (R : Ending → World → Prop) : wFunc cx_grid_Good Tryd.f43 [.agg #[.int .i64 g_Wide, .int .i64 g_High, .slice g_Cells_p g_Cells_n g_Cells_c, .int .i64 g_Row, .int .i64 g_Col, .int .i64 g_Ink, .bool g_Bold, .int .i64 g_Top, .int .i64 g_Bottom]] u R = vc_grid_Good g_Wide g_High g_Cells_p g_Cells_n g_Cells_c g_Row g_Col g_Ink g_Bold g_Top g_Bottom u R := by kernel_rfl
theorem vc_grid_Good_spec (g_Wide : Int) (g_High : Int) (g_Cells_p : Option Addr) (g_Cells_n g_Cells_c : Nat) (g_Row : Int) (g_Col : Int) (g_Ink : Int) (g_Bold : Bool) (g_Top : Int) (g_Bottom : Int) {u : World} {R : Ending → World → Prop} (h : vc_grid_Good g_Wide g_High g_Cells_p g_Cells_n g_Cells_c g_Row g_Col g_Ink g_Bold g_Top g_Bottom u R) : Spec Tryd.prog fn_grid_Good #[.agg #[.int .i64 g_Wide, .int .i64 g_High, .slice g_Cells_p g_Cells_n g_Cells_c, .int .i64 g_Row, .int .i64 g_Col, .int .i64 g_Ink, .bool g_Bold, .int .i64 g_Top, .int .i64 g_Bottom]] u R := func_spec (C := cx_grid_Good) (fn := Tryd.f43) (args := [.agg #[.int .i64 g_Wide, .int .i64 g_High, .slice g_Cells_p g_Cells_n g_Cells_c, .int .i64 g_Row, .int .i64 g_Col, .int .i64 g_Ink, .bool g_Bold, .int .i64 g_Top, .int .i64 g_Bottom]]) (ctxOk _ _ _ _ _) Tryd.func43 (vc_grid_Good_eq g_Wide g_High g_Cells_p g_Cells_n g_Cells_c g_Row g_Col g_Ink g_Bold g_Top g_Bottom u R) h

/-- fenestra/grid.At -/
noncomputable def cx_grid_At : Ctx := ⟨Tryd.prog, tab, [], [], [], fns, [], []⟩
def vc_grid_At (g_Wide : Int) (g_High : Int) (g_Cells_p : Option Addr) (g_Cells_n g_Cells_c : Nat) (g_Row : Int) (g_Col : Int) (g_Ink : Int) (g_Bold : Bool) (g_Top : Int) (g_Bottom : Int) (row : Int) (col : Int) (u : World) (R : Ending → World → Prop) : Prop :=
 (((decide ((24 : Int) < g_Wide)) = true → R (.returned (.agg #[.int .i64 0, .int .i64 0, .int .i64 0, .bool false])) (allocW (allocW u hole) hole)) ∧
 ((decide ((24 : Int) < g_Wide)) = false → (((decide ((10 : Int) < g_High)) = true →
 R (.returned (.agg #[.int .i64 0, .int .i64 0, .int .i64 0, .bool false])) (allocW (allocW u hole) hole)) ∧
 ((decide ((10 : Int) < g_High)) = false → (((decide (row < 0)) = true →
 R (.returned (.agg #[.int .i64 0, .int .i64 0, .int .i64 0, .bool false])) (allocW (allocW u hole) hole)) ∧
 ((decide (row < 0)) = false → (((decide (g_High ≤ row)) = true →
 R (.returned (.agg #[.int .i64 0, .int .i64 0, .int .i64 0, .bool false])) (allocW (allocW u hole) hole)) ∧
 ((decide (g_High ≤ row)) = false → (((decide (col < 0)) = true →
 R (.returned (.agg #[.int .i64 0, .int .i64 0, .int .i64 0, .bool false])) (allocW (allocW u hole) hole)) ∧
 ((decide (col < 0)) = false → (((decide (g_Wide ≤ col)) = true →
 R (.returned (.agg #[.int .i64 0, .int .i64 0, .int .i64 0, .bool false])) (allocW (allocW u hole) hole)) ∧
 ((decide (g_Wide ≤ col)) = false → inK .i64 (row * g_Wide) ∧ inK .i64 ((row * g_Wide) + col) ∧
 (((decide (((g_Cells_n : Nat) : Int) ≤ ((row * g_Wide) + col))) = true →
 R (.returned (.agg #[.int .i64 0, .int .i64 0, .int .i64 0, .bool false])) (allocW (allocW u hole) hole)) ∧
 ((decide (((g_Cells_n : Nat) : Int) ≤ ((row * g_Wide) + col))) = false →
 inK .i64 (row * g_Wide) ∧ inK .i64 ((row * g_Wide) + col) ∧ ∃ b o, g_Cells_p = some ⟨b, o, none⟩ ∧
 0 ≤ ((row * g_Wide) + col) ∧ ((row * g_Wide) + col) < ((g_Cells_n : Nat) : Int) ∧
 ∃ (q0 q1 q2 : Int) (q3 : Bool), 4 = szN 4 ∧
 Rd (allocW (allocW u hole) hole) b (o + ((row * g_Wide) + col).toNat * 4) ([.int .i64 q0, .int .i64 q1, .int .i64 q2, .bool q3]) ∧
 R (.returned (.agg #[.int .i64 q0, .int .i64 q1, .int .i64 q2, .bool q3])) (allocW (allocW u hole) hole)))))))))))))))
set_option maxRecDepth 100000 in
theorem vc_grid_At_eq (g_Wide : Int) (g_High : Int) (g_Cells_p : Option Addr) (g_Cells_n g_Cells_c : Nat) (g_Row : Int) (g_Col : Int) (g_Ink : Int) (g_Bold : Bool) (g_Top : Int) (g_Bottom : Int) (row : Int) (col : Int) (u : World) (R : Ending → World → Prop) : wFunc cx_grid_At Tryd.f58 [.agg #[.int .i64 g_Wide, .int .i64 g_High, .slice g_Cells_p g_Cells_n g_Cells_c, .int .i64 g_Row, .int .i64 g_Col, .int .i64 g_Ink, .bool g_Bold, .int .i64 g_Top, .int .i64 g_Bottom], .int .i64 row, .int .i64 col] u R = vc_grid_At g_Wide g_High g_Cells_p g_Cells_n g_Cells_c g_Row g_Col g_Ink g_Bold g_Top g_Bottom row col u R := by kernel_rfl
theorem vc_grid_At_spec (g_Wide : Int) (g_High : Int) (g_Cells_p : Option Addr) (g_Cells_n g_Cells_c : Nat) (g_Row : Int) (g_Col : Int) (g_Ink : Int) (g_Bold : Bool) (g_Top : Int) (g_Bottom : Int) (row : Int) (col : Int) {u : World} {R : Ending → World → Prop} (h : vc_grid_At g_Wide g_High g_Cells_p g_Cells_n g_Cells_c g_Row g_Col g_Ink g_Bold g_Top g_Bottom row col u R) : Spec Tryd.prog fn_grid_At #[.agg #[.int .i64 g_Wide, .int .i64 g_High, .slice g_Cells_p g_Cells_n g_Cells_c, .int .i64 g_Row, .int .i64 g_Col, .int .i64 g_Ink, .bool g_Bold, .int .i64 g_Top, .int .i64 g_Bottom], .int .i64 row, .int .i64 col] u R := func_spec (C := cx_grid_At) (fn := Tryd.f58) (args := [.agg #[.int .i64 g_Wide, .int .i64 g_High, .slice g_Cells_p g_Cells_n g_Cells_c, .int .i64 g_Row, .int .i64 g_Col, .int .i64 g_Ink, .bool g_Bold, .int .i64 g_Top, .int .i64 g_Bottom], .int .i64 row, .int .i64 col]) (ctxOk _ _ _ _ _) Tryd.func58 (vc_grid_At_eq g_Wide g_High g_Cells_p g_Cells_n g_Cells_c g_Row g_Col g_Ink g_Bold g_Top g_Bottom row col u R) h

/-- fenestra/grid.row -/
noncomputable def cx_grid_row : Ctx := ⟨Tryd.prog, tab, [], [], [], fns, [], []⟩
def vc_grid_row (g_b g_o : Nat) (r : Int) (u : World) (R : Ending → World → Prop) : Prop :=
 ∃ (q0 : Option Addr) (q1 q2 : Nat), 1 = szN 1 ∧
 Rd (drewW u) g_b (g_o + 2) ([.slice q0 q1 q2]) ∧ ∃ (q3 : Int), 1 = szN 1 ∧
 Rd (drewW u) g_b (g_o + 0) ([.int .i64 q3]) ∧ inK .i64 (r * q3) ∧
 inK .i64 (r + 1) ∧ ∃ (q4 : Int), 1 = szN 1 ∧
 Rd (drewW u) g_b (g_o + 0) ([.int .i64 q4]) ∧ inK .i64 ((r + 1) * q4) ∧
 0 ≤ (r * q3) ∧ (r * q3) ≤ ((r + 1) * q4) ∧ ((r + 1) * q4) ≤ ((q2 : Nat) : Int) ∧
 R (.returned (.slice (if q2 = (r * q3).toNat then q0 else Option.map (fun a => Addr.add a ((r * q3).toNat * 4)) q0) (((r + 1) * q4).toNat - (r * q3).toNat) (q2 - (r * q3).toNat))) (drewW u)
set_option maxRecDepth 100000 in
theorem vc_grid_row_eq (g_b g_o : Nat) (r : Int) (u : World) (R : Ending → World → Prop) : wFunc cx_grid_row Tryd.f44 [.pointer (some ⟨g_b, g_o, none⟩), .int .i64 r] u R = vc_grid_row g_b g_o r u R := by kernel_rfl
theorem vc_grid_row_spec (g_b g_o : Nat) (r : Int) {u : World} {R : Ending → World → Prop} (h : vc_grid_row g_b g_o r u R) : Spec Tryd.prog fn_grid_row #[.pointer (some ⟨g_b, g_o, none⟩), .int .i64 r] u R := func_spec (C := cx_grid_row) (fn := Tryd.f44) (args := [.pointer (some ⟨g_b, g_o, none⟩), .int .i64 r]) (ctxOk _ _ _ _ _) Tryd.func44 (vc_grid_row_eq g_b g_o r u R) h

/-- fenestra/grid.wipe -/
noncomputable def cx_grid_wipe : Ctx := ⟨Tryd.prog, tab, [], [], [], fns, [(1, ⟨[.keep, .keep, .junk, .keep, .keep, .cell (.int .i64), .junk, .junk, .junk, .junk, .junk, .junk, .junk], []⟩)], []⟩
def vc_grid_wipe (l_p : Option Addr) (l_n l_c : Nat) (u : World) (R : Ending → World → Prop) : Prop :=
 ∃ (I_ : Int → World → Prop) (M_ : Int → World → Nat), (I_ 0 u) ∧
 ∀ (q0 : Int), ∀ u1 : World, I_ q0 u1 → (((decide (q0 < ((l_n : Nat) : Int))) = true →
 ∃ b o, l_p = some ⟨b, o, none⟩ ∧ 0 ≤ q0 ∧ q0 < ((l_n : Nat) : Int) ∧
 4 = szN 4 ∧
 Wr u1 b (o + q0.toNat * 4) 4 ∧ inK .i64 (q0 + 1) ∧ I_ (q0 + 1) (putCells u1 b (o + q0.toNat * 4) ([.int .i64 0, .int .i64 0, .int .i64 0, .bool false])) ∧
 M_ (q0 + 1) (putCells u1 b (o + q0.toNat * 4) ([.int .i64 0, .int .i64 0, .int .i64 0, .bool false])) < M_ q0 u1) ∧
 ((decide (q0 < ((l_n : Nat) : Int))) = false → R (.returned (.tuple #[])) u1))
set_option maxRecDepth 100000 in
theorem vc_grid_wipe_eq (l_p : Option Addr) (l_n l_c : Nat) (u : World) (R : Ending → World → Prop) : wFunc cx_grid_wipe Tryd.f81 [.slice l_p l_n l_c] u R = vc_grid_wipe l_p l_n l_c u R := by kernel_rfl
theorem vc_grid_wipe_spec (l_p : Option Addr) (l_n l_c : Nat) {u : World} {R : Ending → World → Prop} (h : vc_grid_wipe l_p l_n l_c u R) : Spec Tryd.prog fn_grid_wipe #[.slice l_p l_n l_c] u R := func_spec (C := cx_grid_wipe) (fn := Tryd.f81) (args := [.slice l_p l_n l_c]) (ctxOk _ _ _ _ _) Tryd.func81 (vc_grid_wipe_eq l_p l_n l_c u R) h

/-- fenestra/grid.up -/
noncomputable def cx_grid_up : Ctx := ⟨Tryd.prog, tab, [], [], [], fns, [], []⟩
def vc_grid_up (g_b g_o : Nat) (from_ : Int) (to_ : Int) (u : World) (R : Ending → World → Prop) : Prop :=
 ∃ (q0 : Option Addr) (q1 q2 : Nat), 1 = szN 1 ∧
 Rd (drewW u) g_b (g_o + 2) ([.slice q0 q1 q2]) ∧ ∃ (q3 : Int), 1 = szN 1 ∧
 Rd (drewW u) g_b (g_o + 0) ([.int .i64 q3]) ∧ inK .i64 (from_ * q3) ∧
 0 ≤ (from_ * q3) ∧ (from_ * q3) ≤ ((q1 : Nat) : Int) ∧ ((q1 : Nat) : Int) ≤ ((q2 : Nat) : Int) ∧
 ∃ (q4 : Option Addr) (q5 q6 : Nat), 1 = szN 1 ∧
 Rd (drewW u) g_b (g_o + 2) ([.slice q4 q5 q6]) ∧ inK .i64 (from_ + 1) ∧
 ∃ (q7 : Int), 1 = szN 1 ∧ Rd (drewW u) g_b (g_o + 0) ([.int .i64 q7]) ∧
 inK .i64 ((from_ + 1) * q7) ∧ ∃ (q8 : Int), 1 = szN 1 ∧
 Rd (drewW u) g_b (g_o + 0) ([.int .i64 q8]) ∧ inK .i64 (to_ * q8) ∧
 0 ≤ ((from_ + 1) * q7) ∧ ((from_ + 1) * q7) ≤ (to_ * q8) ∧ (to_ * q8) ≤ ((q6 : Nat) : Int) ∧
 ∃ cs : List Value, cs.length = min ((to_ * q8).toNat - ((from_ + 1) * q7).toNat) (((q1 : Nat) : Int).toNat - (from_ * q3).toNat) * 4 ∧
 Gets (drewW u) (if q6 = ((from_ + 1) * q7).toNat then q4 else Option.map (fun a => Addr.add a (((from_ + 1) * q7).toNat * 4)) q4) cs ∧
 okCells cs True ∧ WrS (drewW u) (if q2 = (from_ * q3).toNat then q0 else Option.map (fun a => Addr.add a ((from_ * q3).toNat * 4)) q0) 0 (min ((to_ * q8).toNat - ((from_ + 1) * q7).toNat) (((q1 : Nat) : Int).toNat - (from_ * q3).toNat) * 4) ∧
 inK .i64 (to_ - 1) ∧ Spec Tryd.prog 44 #[.pointer (some ⟨g_b, g_o, none⟩), .int .i64 (to_ - 1)] (putSl (drewW u) (if q2 = (from_ * q3).toNat then q0 else Option.map (fun a => Addr.add a ((from_ * q3).toNat * 4)) q0) 0 cs) (fun e u1 => ∃ (q9 : Option Addr) (qa qb : Nat), e = .returned (.slice q9 qa qb) ∧
 Spec Tryd.prog 81 #[.slice q9 qa qb] u1 (fun e u11 => e = .returned (.tuple #[]) ∧
 R (.returned (.tuple #[])) u11))
set_option maxRecDepth 100000 in
theorem vc_grid_up_eq (g_b g_o : Nat) (from_ : Int) (to_ : Int) (u : World) (R : Ending → World → Prop) : wFunc cx_grid_up Tryd.f73 [.pointer (some ⟨g_b, g_o, none⟩), .int .i64 from_, .int .i64 to_] u R = vc_grid_up g_b g_o from_ to_ u R := by kernel_rfl
theorem vc_grid_up_spec (g_b g_o : Nat) (from_ : Int) (to_ : Int) {u : World} {R : Ending → World → Prop} (h : vc_grid_up g_b g_o from_ to_ u R) : Spec Tryd.prog fn_grid_up #[.pointer (some ⟨g_b, g_o, none⟩), .int .i64 from_, .int .i64 to_] u R := func_spec (C := cx_grid_up) (fn := Tryd.f73) (args := [.pointer (some ⟨g_b, g_o, none⟩), .int .i64 from_, .int .i64 to_]) (ctxOk _ _ _ _ _) Tryd.func73 (vc_grid_up_eq g_b g_o from_ to_ u R) h

/-- fenestra/grid.down -/
noncomputable def cx_grid_down : Ctx := ⟨Tryd.prog, tab, [], [], [], fns, [], []⟩
def vc_grid_down (g_b g_o : Nat) (from_ : Int) (to_ : Int) (u : World) (R : Ending → World → Prop) : Prop :=
 ∃ (q0 : Option Addr) (q1 q2 : Nat), 1 = szN 1 ∧
 Rd (drewW u) g_b (g_o + 2) ([.slice q0 q1 q2]) ∧ inK .i64 (from_ + 1) ∧
 ∃ (q3 : Int), 1 = szN 1 ∧ Rd (drewW u) g_b (g_o + 0) ([.int .i64 q3]) ∧
 inK .i64 ((from_ + 1) * q3) ∧ ∃ (q4 : Int), 1 = szN 1 ∧
 Rd (drewW u) g_b (g_o + 0) ([.int .i64 q4]) ∧ inK .i64 (to_ * q4) ∧
 0 ≤ ((from_ + 1) * q3) ∧ ((from_ + 1) * q3) ≤ (to_ * q4) ∧ (to_ * q4) ≤ ((q2 : Nat) : Int) ∧
 ∃ (q5 : Option Addr) (q6 q7 : Nat), 1 = szN 1 ∧
 Rd (drewW u) g_b (g_o + 2) ([.slice q5 q6 q7]) ∧ ∃ (q8 : Int), 1 = szN 1 ∧
 Rd (drewW u) g_b (g_o + 0) ([.int .i64 q8]) ∧ inK .i64 (from_ * q8) ∧
 inK .i64 (to_ - 1) ∧ ∃ (q9 : Int), 1 = szN 1 ∧
 Rd (drewW u) g_b (g_o + 0) ([.int .i64 q9]) ∧ inK .i64 ((to_ - 1) * q9) ∧
 0 ≤ (from_ * q8) ∧ (from_ * q8) ≤ ((to_ - 1) * q9) ∧ ((to_ - 1) * q9) ≤ ((q7 : Nat) : Int) ∧
 ∃ cs : List Value, cs.length = min (((to_ - 1) * q9).toNat - (from_ * q8).toNat) ((to_ * q4).toNat - ((from_ + 1) * q3).toNat) * 4 ∧
 Gets (drewW u) (if q7 = (from_ * q8).toNat then q5 else Option.map (fun a => Addr.add a ((from_ * q8).toNat * 4)) q5) cs ∧
 okCells cs True ∧ WrS (drewW u) (if q2 = ((from_ + 1) * q3).toNat then q0 else Option.map (fun a => Addr.add a (((from_ + 1) * q3).toNat * 4)) q0) 0 (min (((to_ - 1) * q9).toNat - (from_ * q8).toNat) ((to_ * q4).toNat - ((from_ + 1) * q3).toNat) * 4) ∧
 Spec Tryd.prog 44 #[.pointer (some ⟨g_b, g_o, none⟩), .int .i64 from_] (putSl (drewW u) (if q2 = ((from_ + 1) * q3).toNat then q0 else Option.map (fun a => Addr.add a (((from_ + 1) * q3).toNat * 4)) q0) 0 cs) (fun e u1 => ∃ (qa : Option Addr) (qb qc : Nat), e = .returned (.slice qa qb qc) ∧
 Spec Tryd.prog 81 #[.slice qa qb qc] u1 (fun e u11 => e = .returned (.tuple #[]) ∧
 R (.returned (.tuple #[])) u11))
set_option maxRecDepth 100000 in
theorem vc_grid_down_eq (g_b g_o : Nat) (from_ : Int) (to_ : Int) (u : World) (R : Ending → World → Prop) : wFunc cx_grid_down Tryd.f72 [.pointer (some ⟨g_b, g_o, none⟩), .int .i64 from_, .int .i64 to_] u R = vc_grid_down g_b g_o from_ to_ u R := by kernel_rfl
theorem vc_grid_down_spec (g_b g_o : Nat) (from_ : Int) (to_ : Int) {u : World} {R : Ending → World → Prop} (h : vc_grid_down g_b g_o from_ to_ u R) : Spec Tryd.prog fn_grid_down #[.pointer (some ⟨g_b, g_o, none⟩), .int .i64 from_, .int .i64 to_] u R := func_spec (C := cx_grid_down) (fn := Tryd.f72) (args := [.pointer (some ⟨g_b, g_o, none⟩), .int .i64 from_, .int .i64 to_]) (ctxOk _ _ _ _ _) Tryd.func72 (vc_grid_down_eq g_b g_o from_ to_ u R) h

/-- fenestra/grid.feed -/
noncomputable def cx_grid_feed : Ctx := ⟨Tryd.prog, tab, [], [], [], fns, [], []⟩
def vc_grid_feed (g_b g_o : Nat) (u : World) (R : Ending → World → Prop) : Prop :=
 ∃ (q0 : Int), 1 = szN 1 ∧ Rd (drewW u) g_b (g_o + 3) ([.int .i64 q0]) ∧
 ∃ (q1 : Int), 1 = szN 1 ∧ Rd (drewW u) g_b (g_o + 8) ([.int .i64 q1]) ∧
 inK .i64 (q1 - 1) ∧ (((decide (q0 = (q1 - 1))) = true → ∃ (q2 : Int), 1 = szN 1 ∧
 Rd (drewW (drewW u)) g_b (g_o + 7) ([.int .i64 q2]) ∧ ∃ (q3 : Int), 1 = szN 1 ∧
 Rd (drewW (drewW u)) g_b (g_o + 8) ([.int .i64 q3]) ∧ Spec Tryd.prog 73 #[.pointer (some ⟨g_b, g_o, none⟩), .int .i64 q2, .int .i64 q3] (drewW (drewW u)) (fun e u1 => e = .returned (.tuple #[]) ∧
 R (.returned (.tuple #[])) u1)) ∧ ((decide (q0 = (q1 - 1))) = false →
 ∃ (q4 : Int), 1 = szN 1 ∧ Rd (drewW (drewW u)) g_b (g_o + 3) ([.int .i64 q4]) ∧
 ∃ (q5 : Int), 1 = szN 1 ∧ Rd (drewW (drewW u)) g_b (g_o + 1) ([.int .i64 q5]) ∧
 inK .i64 (q5 - 1) ∧ (((decide (q4 < (q5 - 1))) = true → ∃ (q6 : Int), 1 = szN 1 ∧
 Rd (drewW (drewW u)) g_b (g_o + 3) ([.int .i64 q6]) ∧ inK .i64 (q6 + 1) ∧
 1 = szN 1 ∧ Wr (drewW (drewW u)) g_b (g_o + 3) 1 ∧
 R (.returned (.tuple #[])) (putCells (drewW (drewW u)) g_b (g_o + 3) ([.int .i64 (q6 + 1)]))) ∧
 ((decide (q4 < (q5 - 1))) = false → R (.returned (.tuple #[])) (drewW (drewW u))))))
set_option maxRecDepth 100000 in
theorem vc_grid_feed_eq (g_b g_o : Nat) (u : World) (R : Ending → World → Prop) : wFunc cx_grid_feed Tryd.f69 [.pointer (some ⟨g_b, g_o, none⟩)] u R = vc_grid_feed g_b g_o u R := by kernel_rfl
theorem vc_grid_feed_spec (g_b g_o : Nat) {u : World} {R : Ending → World → Prop} (h : vc_grid_feed g_b g_o u R) : Spec Tryd.prog fn_grid_feed #[.pointer (some ⟨g_b, g_o, none⟩)] u R := func_spec (C := cx_grid_feed) (fn := Tryd.f69) (args := [.pointer (some ⟨g_b, g_o, none⟩)]) (ctxOk _ _ _ _ _) Tryd.func69 (vc_grid_feed_eq g_b g_o u R) h

/-- fenestra/grid.show -/
noncomputable def cx_grid_show : Ctx := ⟨Tryd.prog, tab, [], [], [], fns, [], []⟩
def vc_grid_show (g_b g_o : Nat) (ch : Int) (u : World) (R : Ending → World → Prop) : Prop :=
 ∃ (q0 : Int), 1 = szN 1 ∧ Rd (drewW u) g_b (g_o + 4) ([.int .i64 q0]) ∧
 ∃ (q1 : Int), 1 = szN 1 ∧ Rd (drewW u) g_b (g_o + 0) ([.int .i64 q1]) ∧
 (((decide (q0 = q1)) = true → 1 = szN 1 ∧
 Wr (drewW u) g_b (g_o + 4) 1 ∧ Spec Tryd.prog 69 #[.pointer (some ⟨g_b, g_o, none⟩)] (putCells (drewW u) g_b (g_o + 4) ([.int .i64 0])) (fun e u1 => e = .returned (.tuple #[]) ∧
 ∃ (q2 : Int), 1 = szN 1 ∧ Rd (drewW u1) g_b (g_o + 3) ([.int .i64 q2]) ∧
 ∃ (q3 : Int), 1 = szN 1 ∧ Rd (drewW u1) g_b (g_o + 4) ([.int .i64 q3]) ∧
 ∃ (q4 : Int), 1 = szN 1 ∧ Rd (drewW u1) g_b (g_o + 5) ([.int .i64 q4]) ∧
 ∃ (q5 : Bool), 1 = szN 1 ∧ Rd (drewW u1) g_b (g_o + 6) ([.bool q5]) ∧
 Spec Tryd.prog 44 #[.pointer (some ⟨g_b, g_o, none⟩), .int .i64 q2] (drewW u1) (fun e u11 => ∃ (q6 : Option Addr) (q7 q8 : Nat), e = .returned (.slice q6 q7 q8) ∧
 Rd u11 g_b (g_o + 6) ([.bool q5]) ∧ Rd u11 g_b (g_o + 5) ([.int .i64 q4]) ∧
 Rd u11 g_b (g_o + 4) ([.int .i64 q3]) ∧ ∃ b o, q6 = some ⟨b, o, none⟩ ∧
 0 ≤ q3 ∧ q3 < ((q7 : Nat) : Int) ∧ 4 = szN 4 ∧
 Wr u11 b (o + q3.toNat * 4) 4 ∧ ∃ (q9 : Int), 1 = szN 1 ∧
 Rd (putCells u11 b (o + q3.toNat * 4) ([.int .i64 ch, .int .i64 q4, .int .i64 0, .bool q5])) g_b (g_o + 4) ([.int .i64 q9]) ∧
 inK .i64 (q9 + 1) ∧ 1 = szN 1 ∧
 Wr (putCells u11 b (o + q3.toNat * 4) ([.int .i64 ch, .int .i64 q4, .int .i64 0, .bool q5])) g_b (g_o + 4) 1 ∧
 R (.returned (.tuple #[])) (putCells (putCells u11 b (o + q3.toNat * 4) ([.int .i64 ch, .int .i64 q4, .int .i64 0, .bool q5])) g_b (g_o + 4) ([.int .i64 (q9 + 1)]))))) ∧
 ((decide (q0 = q1)) = false → ∃ (qa : Int), 1 = szN 1 ∧
 Rd (drewW (drewW u)) g_b (g_o + 3) ([.int .i64 qa]) ∧ ∃ (qb : Int), 1 = szN 1 ∧
 Rd (drewW (drewW u)) g_b (g_o + 4) ([.int .i64 qb]) ∧ ∃ (qc : Int), 1 = szN 1 ∧
 Rd (drewW (drewW u)) g_b (g_o + 5) ([.int .i64 qc]) ∧ ∃ (qd : Bool), 1 = szN 1 ∧
 Rd (drewW (drewW u)) g_b (g_o + 6) ([.bool qd]) ∧ Spec Tryd.prog 44 #[.pointer (some ⟨g_b, g_o, none⟩), .int .i64 qa] (drewW (drewW u)) (fun e u12 => ∃ (qe : Option Addr) (qf qg : Nat), e = .returned (.slice qe qf qg) ∧
 Rd u12 g_b (g_o + 6) ([.bool qd]) ∧ Rd u12 g_b (g_o + 5) ([.int .i64 qc]) ∧
 Rd u12 g_b (g_o + 4) ([.int .i64 qb]) ∧ ∃ b1 o1, qe = some ⟨b1, o1, none⟩ ∧
 0 ≤ qb ∧ qb < ((qf : Nat) : Int) ∧ 4 = szN 4 ∧
 Wr u12 b1 (o1 + qb.toNat * 4) 4 ∧ ∃ (qh : Int), 1 = szN 1 ∧
 Rd (putCells u12 b1 (o1 + qb.toNat * 4) ([.int .i64 ch, .int .i64 qc, .int .i64 0, .bool qd])) g_b (g_o + 4) ([.int .i64 qh]) ∧
 inK .i64 (qh + 1) ∧ 1 = szN 1 ∧
 Wr (putCells u12 b1 (o1 + qb.toNat * 4) ([.int .i64 ch, .int .i64 qc, .int .i64 0, .bool qd])) g_b (g_o + 4) 1 ∧
 R (.returned (.tuple #[])) (putCells (putCells u12 b1 (o1 + qb.toNat * 4) ([.int .i64 ch, .int .i64 qc, .int .i64 0, .bool qd])) g_b (g_o + 4) ([.int .i64 (qh + 1)])))))
set_option maxRecDepth 100000 in
theorem vc_grid_show_eq (g_b g_o : Nat) (ch : Int) (u : World) (R : Ending → World → Prop) : wFunc cx_grid_show Tryd.f54 [.pointer (some ⟨g_b, g_o, none⟩), .int .i64 ch] u R = vc_grid_show g_b g_o ch u R := by kernel_rfl
theorem vc_grid_show_spec (g_b g_o : Nat) (ch : Int) {u : World} {R : Ending → World → Prop} (h : vc_grid_show g_b g_o ch u R) : Spec Tryd.prog fn_grid_show #[.pointer (some ⟨g_b, g_o, none⟩), .int .i64 ch] u R := func_spec (C := cx_grid_show) (fn := Tryd.f54) (args := [.pointer (some ⟨g_b, g_o, none⟩), .int .i64 ch]) (ctxOk _ _ _ _ _) Tryd.func54 (vc_grid_show_eq g_b g_o ch u R) h

/-- fenestra/grid.control -/
noncomputable def cx_grid_control : Ctx := ⟨Tryd.prog, tab, [], [], [], fns, [], []⟩
def vc_grid_control (g_b g_o : Nat) (c : Int) (u : World) (R : Ending → World → Prop) : Prop :=
 (((decide (c = 8)) = true → ∃ (q0 : Int), 1 = szN 1 ∧
 Rd (drewW u) g_b (g_o + 4) ([.int .i64 q0]) ∧ ∃ (q1 : Int), 1 = szN 1 ∧
 Rd (drewW u) g_b (g_o + 0) ([.int .i64 q1]) ∧ inK .i64 (q1 - 1) ∧
 inK .i64 ((min q0 (q1 - 1)) - 1) ∧ 1 = szN 1 ∧
 Wr (drewW u) g_b (g_o + 4) 1 ∧ R (.returned (.tuple #[])) (putCells (drewW u) g_b (g_o + 4) ([.int .i64 (max (0 : Int) ((min q0 (q1 - 1)) - 1))]))) ∧
 ((decide (c = 8)) = false → (((decide (c = 9)) = true → ∃ (q2 : Int), 1 = szN 1 ∧
 Rd (drewW u) g_b (g_o + 0) ([.int .i64 q2]) ∧ inK .i64 (q2 - 1) ∧
 ∃ (q3 : Int), 1 = szN 1 ∧ Rd (drewW u) g_b (g_o + 4) ([.int .i64 q3]) ∧
 0 ≤ q3 ∧ 0 < (8 : Int) ∧ inK .i64 q3 ∧ inK .i64 ((q3 / 8) * 8) ∧
 inK .i64 (((q3 / 8) * 8) + 8) ∧ 1 = szN 1 ∧
 Wr (drewW u) g_b (g_o + 4) 1 ∧ R (.returned (.tuple #[])) (putCells (drewW u) g_b (g_o + 4) ([.int .i64 (min (q2 - 1) (((q3 / 8) * 8) + 8))]))) ∧
 ((decide (c = 9)) = false → (((decide (c = 10)) = true → Spec Tryd.prog 69 #[.pointer (some ⟨g_b, g_o, none⟩)] u (fun e u1 => e = .returned (.tuple #[]) ∧
 R (.returned (.tuple #[])) u1)) ∧ ((decide (c = 10)) = false →
 (((decide (c = 13)) = true → 1 = szN 1 ∧
 Wr u g_b (g_o + 4) 1 ∧ R (.returned (.tuple #[])) (putCells u g_b (g_o + 4) ([.int .i64 0]))) ∧
 ((decide (c = 13)) = false → R (.returned (.tuple #[])) u))))))))
set_option maxRecDepth 100000 in
theorem vc_grid_control_eq (g_b g_o : Nat) (c : Int) (u : World) (R : Ending → World → Prop) : wFunc cx_grid_control Tryd.f55 [.pointer (some ⟨g_b, g_o, none⟩), .int .i64 c] u R = vc_grid_control g_b g_o c u R := by kernel_rfl
theorem vc_grid_control_spec (g_b g_o : Nat) (c : Int) {u : World} {R : Ending → World → Prop} (h : vc_grid_control g_b g_o c u R) : Spec Tryd.prog fn_grid_control #[.pointer (some ⟨g_b, g_o, none⟩), .int .i64 c] u R := func_spec (C := cx_grid_control) (fn := Tryd.f55) (args := [.pointer (some ⟨g_b, g_o, none⟩), .int .i64 c]) (ctxOk _ _ _ _ _) Tryd.func55 (vc_grid_control_eq g_b g_o c u R) h

/-- fenestra/grid.number -/
noncomputable def cx_grid_number : Ctx := ⟨Tryd.prog, tab, [], [], [], fns, [], []⟩
def vc_grid_number (l_p : Option Addr) (l_n l_c : Nat) (k : Int) (least : Int) (u : World) (R : Ending → World → Prop) : Prop :=
 (((decide (k < ((l_n : Nat) : Int))) = true → ∃ b o, l_p = some ⟨b, o, none⟩ ∧
 0 ≤ k ∧ k < ((l_n : Nat) : Int) ∧ ∃ (q0 : Int), 1 = szN 1 ∧
 Rd u b (o + k.toNat * 1) ([.int .i64 q0]) ∧ R (.returned (.int .i64 (max least (min q0 999)))) u) ∧
 ((decide (k < ((l_n : Nat) : Int))) = false → R (.returned (.int .i64 (max least (min (0 : Int) 999)))) u))
set_option maxRecDepth 100000 in
theorem vc_grid_number_eq (l_p : Option Addr) (l_n l_c : Nat) (k : Int) (least : Int) (u : World) (R : Ending → World → Prop) : wFunc cx_grid_number Tryd.f70 [.slice l_p l_n l_c, .int .i64 k, .int .i64 least] u R = vc_grid_number l_p l_n l_c k least u R := by kernel_rfl
theorem vc_grid_number_spec (l_p : Option Addr) (l_n l_c : Nat) (k : Int) (least : Int) {u : World} {R : Ending → World → Prop} (h : vc_grid_number l_p l_n l_c k least u R) : Spec Tryd.prog fn_grid_number #[.slice l_p l_n l_c, .int .i64 k, .int .i64 least] u R := func_spec (C := cx_grid_number) (fn := Tryd.f70) (args := [.slice l_p l_n l_c, .int .i64 k, .int .i64 least]) (ctxOk _ _ _ _ _) Tryd.func70 (vc_grid_number_eq l_p l_n l_c k least u R) h

/-- fenestra/grid.erase -/
noncomputable def cx_grid_erase : Ctx := ⟨Tryd.prog, tab, [], [], [], fns, [], []⟩
def vc_grid_erase (g_b g_o : Nat) (how : Int) (at_ : Int) (from_ : Int) (to_ : Int) (u : World) (R : Ending → World → Prop) : Prop :=
 (((decide (how = 0)) = true → ∃ (q0 : Option Addr) (q1 q2 : Nat), 1 = szN 1 ∧
 Rd u g_b (g_o + 2) ([.slice q0 q1 q2]) ∧ 0 ≤ at_ ∧
 at_ ≤ to_ ∧ to_ ≤ ((q2 : Nat) : Int) ∧ Spec Tryd.prog 81 #[.slice (if q2 = at_.toNat then q0 else Option.map (fun a => Addr.add a (at_.toNat * 4)) q0) (to_.toNat - at_.toNat) (q2 - at_.toNat)] u (fun e u1 => e = .returned (.tuple #[]) ∧
 R (.returned (.tuple #[])) u1)) ∧ ((decide (how = 0)) = false →
 (((decide (how = 1)) = true → ∃ (q3 : Option Addr) (q4 q5 : Nat), 1 = szN 1 ∧
 Rd u g_b (g_o + 2) ([.slice q3 q4 q5]) ∧ inK .i64 (at_ + 1) ∧
 0 ≤ from_ ∧ from_ ≤ (at_ + 1) ∧ (at_ + 1) ≤ ((q5 : Nat) : Int) ∧
 Spec Tryd.prog 81 #[.slice (if q5 = from_.toNat then q3 else Option.map (fun a => Addr.add a (from_.toNat * 4)) q3) ((at_ + 1).toNat - from_.toNat) (q5 - from_.toNat)] u (fun e u11 => e = .returned (.tuple #[]) ∧
 R (.returned (.tuple #[])) u11)) ∧ ((decide (how = 1)) = false →
 (((decide (how = 2)) = true → ∃ (q6 : Option Addr) (q7 q8 : Nat), 1 = szN 1 ∧
 Rd u g_b (g_o + 2) ([.slice q6 q7 q8]) ∧ 0 ≤ from_ ∧
 from_ ≤ to_ ∧ to_ ≤ ((q8 : Nat) : Int) ∧ Spec Tryd.prog 81 #[.slice (if q8 = from_.toNat then q6 else Option.map (fun a => Addr.add a (from_.toNat * 4)) q6) (to_.toNat - from_.toNat) (q8 - from_.toNat)] u (fun e u12 => e = .returned (.tuple #[]) ∧
 R (.returned (.tuple #[])) u12)) ∧ ((decide (how = 2)) = false →
 R (.returned (.tuple #[])) u))))))
set_option maxRecDepth 100000 in
theorem vc_grid_erase_eq (g_b g_o : Nat) (how : Int) (at_ : Int) (from_ : Int) (to_ : Int) (u : World) (R : Ending → World → Prop) : wFunc cx_grid_erase Tryd.f71 [.pointer (some ⟨g_b, g_o, none⟩), .int .i64 how, .int .i64 at_, .int .i64 from_, .int .i64 to_] u R = vc_grid_erase g_b g_o how at_ from_ to_ u R := by kernel_rfl
theorem vc_grid_erase_spec (g_b g_o : Nat) (how : Int) (at_ : Int) (from_ : Int) (to_ : Int) {u : World} {R : Ending → World → Prop} (h : vc_grid_erase g_b g_o how at_ from_ to_ u R) : Spec Tryd.prog fn_grid_erase #[.pointer (some ⟨g_b, g_o, none⟩), .int .i64 how, .int .i64 at_, .int .i64 from_, .int .i64 to_] u R := func_spec (C := cx_grid_erase) (fn := Tryd.f71) (args := [.pointer (some ⟨g_b, g_o, none⟩), .int .i64 how, .int .i64 at_, .int .i64 from_, .int .i64 to_]) (ctxOk _ _ _ _ _) Tryd.func71 (vc_grid_erase_eq g_b g_o how at_ from_ to_ u R) h

/-- fenestra/grid.ink -/
noncomputable def cx_grid_ink : Ctx := ⟨Tryd.prog, tab, [], [], [], fns, [], []⟩
def vc_grid_ink (g_b g_o : Nat) (n : Int) (u : World) (R : Ending → World → Prop) : Prop :=
 (((decide (n = 0)) = true → 1 = szN 1 ∧
 Wr u g_b (g_o + 5) 1 ∧ 1 = szN 1 ∧
 Wr (putCells u g_b (g_o + 5) ([.int .i64 0])) g_b (g_o + 6) 1 ∧
 R (.returned (.tuple #[])) (putCells (putCells u g_b (g_o + 5) ([.int .i64 0])) g_b (g_o + 6) ([.bool false]))) ∧
 ((decide (n = 0)) = false → (((decide (n = 1)) = true → 1 = szN 1 ∧
 Wr u g_b (g_o + 6) 1 ∧ R (.returned (.tuple #[])) (putCells u g_b (g_o + 6) ([.bool true]))) ∧
 ((decide (n = 1)) = false → (((decide (n = 22)) = true → 1 = szN 1 ∧
 Wr u g_b (g_o + 6) 1 ∧ R (.returned (.tuple #[])) (putCells u g_b (g_o + 6) ([.bool false]))) ∧
 ((decide (n = 22)) = false → (((decide ((30 : Int) ≤ n)) = true →
 (((decide (n < 38)) = true → inK .i64 (n - 29) ∧ 1 = szN 1 ∧
 Wr u g_b (g_o + 5) 1 ∧ R (.returned (.tuple #[])) (putCells u g_b (g_o + 5) ([.int .i64 (n - 29)]))) ∧
 ((decide (n < 38)) = false → (((decide (n = 39)) = true → 1 = szN 1 ∧
 Wr u g_b (g_o + 5) 1 ∧ R (.returned (.tuple #[])) (putCells u g_b (g_o + 5) ([.int .i64 0]))) ∧
 ((decide (n = 39)) = false → R (.returned (.tuple #[])) u))))) ∧
 ((decide ((30 : Int) ≤ n)) = false → (((decide (n = 39)) = true →
 1 = szN 1 ∧ Wr u g_b (g_o + 5) 1 ∧
 R (.returned (.tuple #[])) (putCells u g_b (g_o + 5) ([.int .i64 0]))) ∧
 ((decide (n = 39)) = false → R (.returned (.tuple #[])) u))))))))))
set_option maxRecDepth 100000 in
theorem vc_grid_ink_eq (g_b g_o : Nat) (n : Int) (u : World) (R : Ending → World → Prop) : wFunc cx_grid_ink Tryd.f74 [.pointer (some ⟨g_b, g_o, none⟩), .int .i64 n] u R = vc_grid_ink g_b g_o n u R := by kernel_rfl
theorem vc_grid_ink_spec (g_b g_o : Nat) (n : Int) {u : World} {R : Ending → World → Prop} (h : vc_grid_ink g_b g_o n u R) : Spec Tryd.prog fn_grid_ink #[.pointer (some ⟨g_b, g_o, none⟩), .int .i64 n] u R := func_spec (C := cx_grid_ink) (fn := Tryd.f74) (args := [.pointer (some ⟨g_b, g_o, none⟩), .int .i64 n]) (ctxOk _ _ _ _ _) Tryd.func74 (vc_grid_ink_eq g_b g_o n u R) h

/-- fenestra/grid.command -/
noncomputable def cx_grid_command : Ctx := ⟨Tryd.prog, tab, [], [], [], fns, [(20, ⟨[.keep, .keep, .keep, .keep, .keep, .keep, .keep, .keep, .keep, .keep, .keep, .keep, .keep, .keep, .keep, .keep, .keep, .keep, .keep, .keep, .keep, .keep, .keep, .keep, .keep, .keep, .keep, .keep, .keep, .keep, .keep, .keep, .keep, .keep, .keep, .keep, .keep, .keep, .keep, .keep, .keep, .keep, .keep, .keep, .keep, .keep, .keep, .keep, .keep, .keep, .keep, .keep, .keep, .keep, .keep, .keep, .keep, .keep, .keep, .keep, .keep, .keep, .keep, .keep, .keep, .keep, .keep, .keep, .keep, .keep, .keep, .keep, .keep, .keep, .keep, .keep, .keep, .keep, .keep, .keep, .keep, .keep, .keep, .keep, .keep, .keep, .keep, .keep, .keep, .keep, .keep, .keep, .keep, .keep, .keep, .keep, .keep, .keep, .keep, .keep, .keep, .keep, .keep, .keep, .keep, .keep, .keep, .keep, .keep, .keep, .keep, .keep, .keep, .keep, .keep, .keep, .keep, .keep, .keep, .keep, .keep, .keep, .keep, .keep, .keep, .keep, .keep, .keep, .keep, .keep, .keep, .keep, .keep, .keep, .keep, .keep, .keep, .keep, .keep, .keep, .keep, .keep, .keep, .keep, .keep, .keep, .keep, .keep, .keep, .keep, .keep, .keep, .keep, .keep, .keep, .keep, .keep, .keep, .keep, .keep, .keep, .keep, .keep, .keep, .keep, .keep, .keep, .keep, .keep, .keep, .keep, .keep, .keep, .keep, .keep, .keep, .keep, .keep, .keep, .keep, .keep, .keep, .keep, .keep, .keep, .keep, .keep, .keep, .keep, .keep, .keep, .keep, .keep, .keep, .keep, .keep, .keep, .keep, .keep, .keep, .keep, .keep, .cell (.int .i64), .junk, .junk, .junk, .junk, .junk, .junk, .junk, .junk, .junk, .junk, .junk, .junk, .junk, .junk, .junk, .junk, .junk, .junk, .junk, .junk, .junk, .junk, .junk, .junk, .keep, .keep, .keep, .keep, .keep, .keep, .keep, .keep, .keep, .keep, .keep, .keep, .keep, .keep, .keep, .keep, .keep, .keep, .keep, .keep, .keep, .keep, .keep, .keep, .keep, .keep, .keep, .keep, .keep, .keep, .keep, .keep, .keep, .keep, .keep, .keep, .keep, .keep, .keep, .keep, .keep, .keep, .keep, .keep, .keep, .keep, .keep, .keep, .keep, .keep, .keep, .keep], []⟩), (28, ⟨[.keep, .keep, .keep, .keep, .keep, .keep, .keep, .keep, .junk, .keep, .keep, .keep, .keep, .keep, .keep, .keep, .keep, .keep, .keep, .keep, .keep, .keep, .keep, .keep, .keep, .keep, .keep, .keep, .keep, .keep, .keep, .keep, .keep, .keep, .keep, .keep, .keep, .keep, .keep, .keep, .keep, .keep, .keep, .keep, .keep, .keep, .keep, .keep, .keep, .keep, .keep, .keep, .keep, .keep, .keep, .keep, .keep, .keep, .keep, .keep, .keep, .keep, .keep, .keep, .keep, .keep, .keep, .keep, .keep, .keep, .keep, .keep, .keep, .keep, .keep, .keep, .keep, .keep, .keep, .keep, .keep, .keep, .keep, .keep, .keep, .keep, .keep, .keep, .keep, .keep, .keep, .keep, .keep, .keep, .keep, .keep, .keep, .keep, .keep, .keep, .keep, .keep, .keep, .keep, .keep, .keep, .keep, .keep, .keep, .keep, .keep, .keep, .keep, .keep, .keep, .keep, .keep, .keep, .keep, .keep, .keep, .keep, .keep, .keep, .keep, .keep, .keep, .keep, .keep, .keep, .keep, .keep, .keep, .keep, .keep, .keep, .keep, .keep, .keep, .keep, .keep, .keep, .keep, .keep, .keep, .keep, .keep, .keep, .keep, .keep, .keep, .keep, .keep, .keep, .keep, .keep, .keep, .keep, .keep, .keep, .keep, .keep, .keep, .keep, .keep, .keep, .keep, .keep, .keep, .keep, .keep, .keep, .keep, .keep, .keep, .keep, .keep, .keep, .keep, .keep, .keep, .keep, .keep, .keep, .keep, .keep, .keep, .keep, .keep, .keep, .keep, .keep, .keep, .keep, .keep, .keep, .keep, .keep, .keep, .keep, .keep, .keep, .keep, .keep, .keep, .keep, .keep, .keep, .keep, .keep, .keep, .keep, .keep, .keep, .keep, .keep, .keep, .keep, .keep, .keep, .keep, .keep, .keep, .keep, .keep, .keep, .keep, .keep, .keep, .keep, .keep, .keep, .keep, .keep, .cell (.int .i64), .junk, .junk, .junk, .junk, .junk, .junk, .junk, .keep, .keep, .keep, .keep, .keep, .keep, .keep, .keep, .keep, .keep, .keep, .keep, .keep, .keep, .keep, .keep, .keep, .keep, .keep, .keep, .keep, .keep, .keep, .keep, .keep, .keep, .keep, .keep, .keep, .keep, .keep, .keep, .keep, .keep, .keep, .keep, .keep], []⟩)], [(35, ⟨[.keep, .keep, .keep, .keep, .keep, .keep, .keep, .keep, .keep, .keep, .keep, .keep, .keep, .keep, .keep, .keep, .keep, .keep, .keep, .keep, .keep, .keep, .keep, .keep, .keep, .keep, .keep, .keep, .keep, .keep, .keep, .keep, .keep, .keep, .keep, .keep, .keep, .keep, .keep, .keep, .keep, .keep, .keep, .keep, .keep, .keep, .keep, .keep, .keep, .keep, .keep, .keep, .keep, .keep, .keep, .keep, .keep, .keep, .keep, .keep, .keep, .keep, .keep, .keep, .keep, .keep, .keep, .keep, .keep, .keep, .keep, .keep, .keep, .keep, .keep, .keep, .keep, .keep, .keep, .keep, .keep, .keep, .keep, .keep, .keep, .keep, .keep, .keep, .keep, .keep, .keep, .keep, .keep, .keep, .keep, .keep, .keep, .keep, .keep, .keep, .keep, .keep, .keep, .keep, .keep, .keep, .keep, .keep, .keep, .keep, .keep, .keep, .keep, .keep, .keep, .keep, .keep, .keep, .keep, .keep, .keep, .keep, .keep, .keep, .keep, .keep, .keep, .keep, .keep, .keep, .keep, .keep, .keep, .keep, .keep, .keep, .keep, .keep, .keep, .keep, .keep, .keep, .keep, .keep, .keep, .keep, .keep, .keep, .keep, .keep, .keep, .keep, .keep, .keep, .keep, .keep, .keep, .keep, .keep, .keep, .keep, .keep, .keep, .keep, .keep, .keep, .keep, .keep, .keep, .keep, .keep, .keep, .keep, .keep, .keep, .keep, .keep, .keep, .keep, .keep, .keep, .keep, .keep, .keep, .keep, .keep, .keep, .keep, .keep, .keep, .keep, .keep, .keep, .keep, .keep, .keep, .keep, .keep, .keep, .keep, .keep, .keep, .keep, .keep, .keep, .keep, .keep, .keep, .keep, .keep, .keep, .keep, .keep, .keep, .keep, .keep, .keep, .keep, .keep, .keep, .keep, .keep, .keep, .keep, .keep, .keep, .keep, .keep, .keep, .keep, .keep, .keep, .keep, .keep, .keep, .keep, .keep, .keep, .keep, .keep, .keep, .keep, .keep, .keep, .keep, .keep, .keep, .keep, .junk, .junk, .junk, .junk, .junk, .junk, .junk, .junk, .junk, .cell .bool, .keep, .keep, .keep, .keep, .keep, .keep, .keep, .keep, .keep, .keep, .keep, .keep, .keep, .keep, .keep, .keep, .keep, .keep, .keep, .keep, .keep], []⟩)]⟩
def vc_grid_command (g_b g_o : Nat) (c : Int) (l_p : Option Addr) (l_n l_c : Nat) (u : World) (R : Ending → World → Prop) : Prop :=
 Spec Tryd.prog 70 #[.slice l_p l_n l_c, .int .i64 0, .int .i64 1] u (fun e u1 => ∃ (q0 : Int), e = .returned (.int .i64 q0) ∧
 (((decide (c = 65)) = true → ∃ (q1 : Int), 1 = szN 1 ∧
 Rd u1 g_b (g_o + 3) ([.int .i64 q1]) ∧ inK .i64 (q1 - q0) ∧
 1 = szN 1 ∧
 Wr u1 g_b (g_o + 3) 1 ∧ R (.returned (.tuple #[])) (putCells u1 g_b (g_o + 3) ([.int .i64 (max (0 : Int) (q1 - q0))]))) ∧
 ((decide (c = 65)) = false → (((decide (c = 66)) = true → ∃ (q2 : Int), 1 = szN 1 ∧
 Rd (drewW u1) g_b (g_o + 1) ([.int .i64 q2]) ∧ inK .i64 (q2 - 1) ∧
 ∃ (q3 : Int), 1 = szN 1 ∧ Rd (drewW u1) g_b (g_o + 3) ([.int .i64 q3]) ∧
 inK .i64 (q3 + q0) ∧ 1 = szN 1 ∧
 Wr (drewW u1) g_b (g_o + 3) 1 ∧ R (.returned (.tuple #[])) (putCells (drewW u1) g_b (g_o + 3) ([.int .i64 (min (q2 - 1) (q3 + q0))]))) ∧
 ((decide (c = 66)) = false → (((decide (c = 67)) = true → ∃ (q4 : Int), 1 = szN 1 ∧
 Rd (drewW u1) g_b (g_o + 0) ([.int .i64 q4]) ∧ inK .i64 (q4 - 1) ∧
 ∃ (q5 : Int), 1 = szN 1 ∧ Rd (drewW u1) g_b (g_o + 4) ([.int .i64 q5]) ∧
 inK .i64 (q5 + q0) ∧ 1 = szN 1 ∧
 Wr (drewW u1) g_b (g_o + 4) 1 ∧ R (.returned (.tuple #[])) (putCells (drewW u1) g_b (g_o + 4) ([.int .i64 (min (q4 - 1) (q5 + q0))]))) ∧
 ((decide (c = 67)) = false → (((decide (c = 68)) = true → ∃ (q6 : Int), 1 = szN 1 ∧
 Rd (drewW u1) g_b (g_o + 4) ([.int .i64 q6]) ∧ ∃ (q7 : Int), 1 = szN 1 ∧
 Rd (drewW u1) g_b (g_o + 0) ([.int .i64 q7]) ∧ inK .i64 (q7 - 1) ∧
 inK .i64 ((min q6 (q7 - 1)) - q0) ∧ 1 = szN 1 ∧
 Wr (drewW u1) g_b (g_o + 4) 1 ∧ R (.returned (.tuple #[])) (putCells (drewW u1) g_b (g_o + 4) ([.int .i64 (max (0 : Int) ((min q6 (q7 - 1)) - q0))]))) ∧
 ((decide (c = 68)) = false → (((decide (c = 72)) = true → ∃ (q8 : Int), 1 = szN 1 ∧
 Rd (drewW u1) g_b (g_o + 1) ([.int .i64 q8]) ∧ inK .i64 ((min q8 q0) - 1) ∧
 ∃ (q9 : Int), 1 = szN 1 ∧ Rd (drewW u1) g_b (g_o + 0) ([.int .i64 q9]) ∧
 Spec Tryd.prog 70 #[.slice l_p l_n l_c, .int .i64 1, .int .i64 1] (drewW u1) (fun e u11 => ∃ (qa : Int), e = .returned (.int .i64 qa) ∧
 Rd u11 g_b (g_o + 0) ([.int .i64 q9]) ∧ Rd u11 g_b (g_o + 1) ([.int .i64 q8]) ∧
 inK .i64 ((min q9 qa) - 1) ∧ 1 = szN 1 ∧
 Wr u11 g_b (g_o + 3) 1 ∧ 1 = szN 1 ∧
 Wr (putCells u11 g_b (g_o + 3) ([.int .i64 ((min q8 q0) - 1)])) g_b (g_o + 4) 1 ∧
 R (.returned (.tuple #[])) (putCells (putCells u11 g_b (g_o + 3) ([.int .i64 ((min q8 q0) - 1)])) g_b (g_o + 4) ([.int .i64 ((min q9 qa) - 1)])))) ∧
 ((decide (c = 72)) = false → (((decide (c = 74)) = true → ∃ (qb : Int), 1 = szN 1 ∧
 Rd (drewW u1) g_b (g_o + 3) ([.int .i64 qb]) ∧ ∃ (qc : Int), 1 = szN 1 ∧
 Rd (drewW u1) g_b (g_o + 0) ([.int .i64 qc]) ∧ inK .i64 (qb * qc) ∧
 ∃ (qd : Int), 1 = szN 1 ∧ Rd (drewW u1) g_b (g_o + 4) ([.int .i64 qd]) ∧
 ∃ (qe : Int), 1 = szN 1 ∧ Rd (drewW u1) g_b (g_o + 0) ([.int .i64 qe]) ∧
 inK .i64 (qe - 1) ∧ inK .i64 ((qb * qc) + (min qd (qe - 1))) ∧
 ∃ (qf : Option Addr) (qg qh : Nat), 1 = szN 1 ∧
 Rd (drewW u1) g_b (g_o + 2) ([.slice qf qg qh]) ∧
 Spec Tryd.prog 70 #[.slice l_p l_n l_c, .int .i64 0, .int .i64 0] (drewW u1) (fun e u12 => ∃ (qi : Int), e = .returned (.int .i64 qi) ∧
 Rd u12 g_b (g_o + 2) ([.slice qf qg qh]) ∧ Rd u12 g_b (g_o + 0) ([.int .i64 qe]) ∧
 Rd u12 g_b (g_o + 4) ([.int .i64 qd]) ∧ Rd u12 g_b (g_o + 0) ([.int .i64 qc]) ∧
 Rd u12 g_b (g_o + 3) ([.int .i64 qb]) ∧ Spec Tryd.prog 71 #[.pointer (some ⟨g_b, g_o, none⟩), .int .i64 qi, .int .i64 ((qb * qc) + (min qd (qe - 1))), .int .i64 0, .int .i64 ((qg : Nat) : Int)] u12 (fun e u13 => e = .returned (.tuple #[]) ∧
 R (.returned (.tuple #[])) u13))) ∧ ((decide (c = 74)) = false →
 (((decide (c = 75)) = true → ∃ (qj : Int), 1 = szN 1 ∧
 Rd (drewW u1) g_b (g_o + 3) ([.int .i64 qj]) ∧ ∃ (qk : Int), 1 = szN 1 ∧
 Rd (drewW u1) g_b (g_o + 0) ([.int .i64 qk]) ∧ inK .i64 (qj * qk) ∧
 ∃ (ql : Int), 1 = szN 1 ∧ Rd (drewW u1) g_b (g_o + 4) ([.int .i64 ql]) ∧
 ∃ (qm : Int), 1 = szN 1 ∧ Rd (drewW u1) g_b (g_o + 0) ([.int .i64 qm]) ∧
 inK .i64 (qm - 1) ∧ inK .i64 ((qj * qk) + (min ql (qm - 1))) ∧
 ∃ (qn : Int), 1 = szN 1 ∧ Rd (drewW u1) g_b (g_o + 3) ([.int .i64 qn]) ∧
 ∃ (qo : Int), 1 = szN 1 ∧ Rd (drewW u1) g_b (g_o + 0) ([.int .i64 qo]) ∧
 inK .i64 (qn * qo) ∧ ∃ (qp : Int), 1 = szN 1 ∧
 Rd (drewW u1) g_b (g_o + 3) ([.int .i64 qp]) ∧ inK .i64 (qp + 1) ∧
 ∃ (qq : Int), 1 = szN 1 ∧ Rd (drewW u1) g_b (g_o + 0) ([.int .i64 qq]) ∧
 inK .i64 ((qp + 1) * qq) ∧ Spec Tryd.prog 70 #[.slice l_p l_n l_c, .int .i64 0, .int .i64 0] (drewW u1) (fun e u14 => ∃ (qr : Int), e = .returned (.int .i64 qr) ∧
 Rd u14 g_b (g_o + 0) ([.int .i64 qq]) ∧ Rd u14 g_b (g_o + 3) ([.int .i64 qp]) ∧
 Rd u14 g_b (g_o + 0) ([.int .i64 qo]) ∧ Rd u14 g_b (g_o + 3) ([.int .i64 qn]) ∧
 Rd u14 g_b (g_o + 0) ([.int .i64 qm]) ∧ Rd u14 g_b (g_o + 4) ([.int .i64 ql]) ∧
 Rd u14 g_b (g_o + 0) ([.int .i64 qk]) ∧ Rd u14 g_b (g_o + 3) ([.int .i64 qj]) ∧
 Spec Tryd.prog 71 #[.pointer (some ⟨g_b, g_o, none⟩), .int .i64 qr, .int .i64 ((qj * qk) + (min ql (qm - 1))), .int .i64 (qn * qo), .int .i64 ((qp + 1) * qq)] u14 (fun e u15 => e = .returned (.tuple #[]) ∧
 R (.returned (.tuple #[])) u15))) ∧ ((decide (c = 75)) = false →
 (((decide (c = 76)) = true → (((decide (c = 76)) = true → ∃ (qs : Int), 1 = szN 1 ∧
 Rd (drewW u1) g_b (g_o + 3) ([.int .i64 qs]) ∧ ∃ (qt : Int), 1 = szN 1 ∧
 Rd (drewW u1) g_b (g_o + 7) ([.int .i64 qt]) ∧ (((decide (qs < qt)) = true →
 R (.returned (.tuple #[])) (drewW u1)) ∧ ((decide (qs < qt)) = false →
 ∃ (qu : Int), 1 = szN 1 ∧ Rd (drewW u1) g_b (g_o + 3) ([.int .i64 qu]) ∧
 ∃ (qv : Int), 1 = szN 1 ∧ Rd (drewW u1) g_b (g_o + 8) ([.int .i64 qv]) ∧
 (((decide (qv ≤ qu)) = true → R (.returned (.tuple #[])) (drewW u1)) ∧
 ((decide (qv ≤ qu)) = false → ∃ (I_ : Int → World → Prop) (M_ : Int →
 World → Nat), (I_ 0 (drewW u1)) ∧ ∀ (qw : Int), ∀ u16 : World, I_ qw u16 →
 (((decide (qw < (min q0 10))) = true → (((decide (c = 76)) = true →
 ∃ (qx : Int), 1 = szN 1 ∧ Rd (drewW u16) g_b (g_o + 3) ([.int .i64 qx]) ∧
 ∃ (qy : Int), 1 = szN 1 ∧ Rd (drewW u16) g_b (g_o + 8) ([.int .i64 qy]) ∧
 Spec Tryd.prog 72 #[.pointer (some ⟨g_b, g_o, none⟩), .int .i64 qx, .int .i64 qy] (drewW u16) (fun e u17 => e = .returned (.tuple #[]) ∧
 inK .i64 (qw + 1) ∧ I_ (qw + 1) u17 ∧ M_ (qw + 1) u17 < M_ qw u16)) ∧
 ((decide (c = 76)) = false → ∃ (qz : Int), 1 = szN 1 ∧
 Rd (drewW u16) g_b (g_o + 3) ([.int .i64 qz]) ∧ ∃ (q10 : Int), 1 = szN 1 ∧
 Rd (drewW u16) g_b (g_o + 8) ([.int .i64 q10]) ∧ Spec Tryd.prog 73 #[.pointer (some ⟨g_b, g_o, none⟩), .int .i64 qz, .int .i64 q10] (drewW u16) (fun e u18 => e = .returned (.tuple #[]) ∧
 inK .i64 (qw + 1) ∧ I_ (qw + 1) u18 ∧ M_ (qw + 1) u18 < M_ qw u16)))) ∧
 ((decide (qw < (min q0 10))) = false → 1 = szN 1 ∧
 Wr u16 g_b (g_o + 4) 1 ∧ R (.returned (.tuple #[])) (putCells u16 g_b (g_o + 4) ([.int .i64 0]))))))))) ∧
 ((decide (c = 76)) = false → (((decide (c = 109)) = true → ∃ (I_1 : Int →
 World → Prop) (M_1 : Int → World → Nat), (I_1 0 u1) ∧ ∀ (q11 : Int), ∀ u19 : World, I_1 q11 u19 →
 (((decide (q11 < ((l_n : Nat) : Int))) = true → ∃ b o, l_p = some ⟨b, o, none⟩ ∧
 0 ≤ q11 ∧ q11 < ((l_n : Nat) : Int) ∧ ∃ (q12 : Int), 1 = szN 1 ∧
 Rd u19 b (o + q11.toNat * 1) ([.int .i64 q12]) ∧ Spec Tryd.prog 74 #[.pointer (some ⟨g_b, g_o, none⟩), .int .i64 q12] u19 (fun e u110 => e = .returned (.tuple #[]) ∧
 inK .i64 (q11 + 1) ∧ I_1 (q11 + 1) u110 ∧ M_1 (q11 + 1) u110 < M_1 q11 u19)) ∧
 ((decide (q11 < ((l_n : Nat) : Int))) = false → R (.returned (.tuple #[])) u19))) ∧
 ((decide (c = 109)) = false → (((decide (c = 114)) = true → inK .i64 (q0 - 1) ∧
 Spec Tryd.prog 70 #[.slice l_p l_n l_c, .int .i64 1, .int .i64 0] u1 (fun e u111 => ∃ (q13 : Int), e = .returned (.int .i64 q13) ∧
 ∃ J_ : Bool → World → Prop, ((((decide (q13 = 0)) = true → J_ true u111) ∧
 ((decide (q13 = 0)) = false → ∃ (q14 : Int), 1 = szN 1 ∧
 Rd u111 g_b (g_o + 1) ([.int .i64 q14]) ∧ J_ (decide (q14 < q13)) u111))) ∧
 ∀ (q15 : Bool) (u112 : World), J_ q15 u112 → ((q15 = true →
 ∃ (q16 : Int), 1 = szN 1 ∧ Rd u112 g_b (g_o + 1) ([.int .i64 q16]) ∧
 (((decide ((q0 - 1) < q16)) = true → 1 = szN 1 ∧
 Wr u112 g_b (g_o + 7) 1 ∧ 1 = szN 1 ∧
 Wr (putCells u112 g_b (g_o + 7) ([.int .i64 (q0 - 1)])) g_b (g_o + 8) 1 ∧
 1 = szN 1 ∧ Wr (putCells (putCells u112 g_b (g_o + 7) ([.int .i64 (q0 - 1)])) g_b (g_o + 8) ([.int .i64 q16])) g_b (g_o + 3) 1 ∧
 1 = szN 1 ∧ Wr (putCells (putCells (putCells u112 g_b (g_o + 7) ([.int .i64 (q0 - 1)])) g_b (g_o + 8) ([.int .i64 q16])) g_b (g_o + 3) ([.int .i64 0])) g_b (g_o + 4) 1 ∧
 R (.returned (.tuple #[])) (putCells (putCells (putCells (putCells u112 g_b (g_o + 7) ([.int .i64 (q0 - 1)])) g_b (g_o + 8) ([.int .i64 q16])) g_b (g_o + 3) ([.int .i64 0])) g_b (g_o + 4) ([.int .i64 0]))) ∧
 ((decide ((q0 - 1) < q16)) = false → R (.returned (.tuple #[])) u112))) ∧
 (q15 = false → (((decide ((q0 - 1) < q13)) = true → 1 = szN 1 ∧
 Wr u112 g_b (g_o + 7) 1 ∧ 1 = szN 1 ∧
 Wr (putCells u112 g_b (g_o + 7) ([.int .i64 (q0 - 1)])) g_b (g_o + 8) 1 ∧
 1 = szN 1 ∧ Wr (putCells (putCells u112 g_b (g_o + 7) ([.int .i64 (q0 - 1)])) g_b (g_o + 8) ([.int .i64 q13])) g_b (g_o + 3) 1 ∧
 1 = szN 1 ∧ Wr (putCells (putCells (putCells u112 g_b (g_o + 7) ([.int .i64 (q0 - 1)])) g_b (g_o + 8) ([.int .i64 q13])) g_b (g_o + 3) ([.int .i64 0])) g_b (g_o + 4) 1 ∧
 R (.returned (.tuple #[])) (putCells (putCells (putCells (putCells u112 g_b (g_o + 7) ([.int .i64 (q0 - 1)])) g_b (g_o + 8) ([.int .i64 q13])) g_b (g_o + 3) ([.int .i64 0])) g_b (g_o + 4) ([.int .i64 0]))) ∧
 ((decide ((q0 - 1) < q13)) = false → R (.returned (.tuple #[])) u112)))))) ∧
 ((decide (c = 114)) = false → R (.returned (.tuple #[])) u1))))))) ∧
 ((decide (c = 76)) = false → (((decide (c = 77)) = true → ∃ (q17 : Int), 1 = szN 1 ∧
 Rd (drewW u1) g_b (g_o + 3) ([.int .i64 q17]) ∧ ∃ (q18 : Int), 1 = szN 1 ∧
 Rd (drewW u1) g_b (g_o + 7) ([.int .i64 q18]) ∧ (((decide (q17 < q18)) = true →
 R (.returned (.tuple #[])) (drewW u1)) ∧ ((decide (q17 < q18)) = false →
 ∃ (q19 : Int), 1 = szN 1 ∧
 Rd (drewW u1) g_b (g_o + 3) ([.int .i64 q19]) ∧ ∃ (q1a : Int), 1 = szN 1 ∧
 Rd (drewW u1) g_b (g_o + 8) ([.int .i64 q1a]) ∧ (((decide (q1a ≤ q19)) = true →
 R (.returned (.tuple #[])) (drewW u1)) ∧ ((decide (q1a ≤ q19)) = false →
 ∃ (I_2 : Int → World → Prop) (M_2 : Int → World → Nat), (I_2 0 (drewW u1)) ∧
 ∀ (q1b : Int), ∀ u113 : World, I_2 q1b u113 → (((decide (q1b < (min q0 10))) = true →
 (((decide (c = 76)) = true → ∃ (q1c : Int), 1 = szN 1 ∧
 Rd (drewW u113) g_b (g_o + 3) ([.int .i64 q1c]) ∧ ∃ (q1d : Int), 1 = szN 1 ∧
 Rd (drewW u113) g_b (g_o + 8) ([.int .i64 q1d]) ∧ Spec Tryd.prog 72 #[.pointer (some ⟨g_b, g_o, none⟩), .int .i64 q1c, .int .i64 q1d] (drewW u113) (fun e u114 => e = .returned (.tuple #[]) ∧
 inK .i64 (q1b + 1) ∧ I_2 (q1b + 1) u114 ∧ M_2 (q1b + 1) u114 < M_2 q1b u113)) ∧
 ((decide (c = 76)) = false → ∃ (q1e : Int), 1 = szN 1 ∧
 Rd (drewW u113) g_b (g_o + 3) ([.int .i64 q1e]) ∧ ∃ (q1f : Int), 1 = szN 1 ∧
 Rd (drewW u113) g_b (g_o + 8) ([.int .i64 q1f]) ∧ Spec Tryd.prog 73 #[.pointer (some ⟨g_b, g_o, none⟩), .int .i64 q1e, .int .i64 q1f] (drewW u113) (fun e u115 => e = .returned (.tuple #[]) ∧
 inK .i64 (q1b + 1) ∧ I_2 (q1b + 1) u115 ∧ M_2 (q1b + 1) u115 < M_2 q1b u113)))) ∧
 ((decide (q1b < (min q0 10))) = false → 1 = szN 1 ∧
 Wr u113 g_b (g_o + 4) 1 ∧ R (.returned (.tuple #[])) (putCells u113 g_b (g_o + 4) ([.int .i64 0]))))))))) ∧
 ((decide (c = 77)) = false → (((decide (c = 109)) = true → ∃ (I_3 : Int →
 World → Prop) (M_3 : Int → World → Nat), (I_3 0 u1) ∧ ∀ (q1g : Int), ∀ u116 : World, I_3 q1g u116 →
 (((decide (q1g < ((l_n : Nat) : Int))) = true → ∃ b1 o1, l_p = some ⟨b1, o1, none⟩ ∧
 0 ≤ q1g ∧ q1g < ((l_n : Nat) : Int) ∧ ∃ (q1h : Int), 1 = szN 1 ∧
 Rd u116 b1 (o1 + q1g.toNat * 1) ([.int .i64 q1h]) ∧ Spec Tryd.prog 74 #[.pointer (some ⟨g_b, g_o, none⟩), .int .i64 q1h] u116 (fun e u117 => e = .returned (.tuple #[]) ∧
 inK .i64 (q1g + 1) ∧ I_3 (q1g + 1) u117 ∧ M_3 (q1g + 1) u117 < M_3 q1g u116)) ∧
 ((decide (q1g < ((l_n : Nat) : Int))) = false → R (.returned (.tuple #[])) u116))) ∧
 ((decide (c = 109)) = false → (((decide (c = 114)) = true → inK .i64 (q0 - 1) ∧
 Spec Tryd.prog 70 #[.slice l_p l_n l_c, .int .i64 1, .int .i64 0] u1 (fun e u118 => ∃ (q1i : Int), e = .returned (.int .i64 q1i) ∧
 ∃ J_1 : Bool → World → Prop, ((((decide (q1i = 0)) = true → J_1 true u118) ∧
 ((decide (q1i = 0)) = false → ∃ (q1j : Int), 1 = szN 1 ∧
 Rd u118 g_b (g_o + 1) ([.int .i64 q1j]) ∧ J_1 (decide (q1j < q1i)) u118))) ∧
 ∀ (q1k : Bool) (u119 : World), J_1 q1k u119 → ((q1k = true →
 ∃ (q1l : Int), 1 = szN 1 ∧
 Rd u119 g_b (g_o + 1) ([.int .i64 q1l]) ∧ (((decide ((q0 - 1) < q1l)) = true →
 1 = szN 1 ∧ Wr u119 g_b (g_o + 7) 1 ∧
 1 = szN 1 ∧ Wr (putCells u119 g_b (g_o + 7) ([.int .i64 (q0 - 1)])) g_b (g_o + 8) 1 ∧
 1 = szN 1 ∧ Wr (putCells (putCells u119 g_b (g_o + 7) ([.int .i64 (q0 - 1)])) g_b (g_o + 8) ([.int .i64 q1l])) g_b (g_o + 3) 1 ∧
 1 = szN 1 ∧ Wr (putCells (putCells (putCells u119 g_b (g_o + 7) ([.int .i64 (q0 - 1)])) g_b (g_o + 8) ([.int .i64 q1l])) g_b (g_o + 3) ([.int .i64 0])) g_b (g_o + 4) 1 ∧
 R (.returned (.tuple #[])) (putCells (putCells (putCells (putCells u119 g_b (g_o + 7) ([.int .i64 (q0 - 1)])) g_b (g_o + 8) ([.int .i64 q1l])) g_b (g_o + 3) ([.int .i64 0])) g_b (g_o + 4) ([.int .i64 0]))) ∧
 ((decide ((q0 - 1) < q1l)) = false → R (.returned (.tuple #[])) u119))) ∧
 (q1k = false → (((decide ((q0 - 1) < q1i)) = true → 1 = szN 1 ∧
 Wr u119 g_b (g_o + 7) 1 ∧ 1 = szN 1 ∧
 Wr (putCells u119 g_b (g_o + 7) ([.int .i64 (q0 - 1)])) g_b (g_o + 8) 1 ∧
 1 = szN 1 ∧ Wr (putCells (putCells u119 g_b (g_o + 7) ([.int .i64 (q0 - 1)])) g_b (g_o + 8) ([.int .i64 q1i])) g_b (g_o + 3) 1 ∧
 1 = szN 1 ∧ Wr (putCells (putCells (putCells u119 g_b (g_o + 7) ([.int .i64 (q0 - 1)])) g_b (g_o + 8) ([.int .i64 q1i])) g_b (g_o + 3) ([.int .i64 0])) g_b (g_o + 4) 1 ∧
 R (.returned (.tuple #[])) (putCells (putCells (putCells (putCells u119 g_b (g_o + 7) ([.int .i64 (q0 - 1)])) g_b (g_o + 8) ([.int .i64 q1i])) g_b (g_o + 3) ([.int .i64 0])) g_b (g_o + 4) ([.int .i64 0]))) ∧
 ((decide ((q0 - 1) < q1i)) = false → R (.returned (.tuple #[])) u119)))))) ∧
 ((decide (c = 114)) = false → R (.returned (.tuple #[])) u1)))))))))))))))))))))))
set_option maxRecDepth 100000 in
theorem vc_grid_command_eq (g_b g_o : Nat) (c : Int) (l_p : Option Addr) (l_n l_c : Nat) (u : World) (R : Ending → World → Prop) : wFunc cx_grid_command Tryd.f56 [.pointer (some ⟨g_b, g_o, none⟩), .int .i64 c, .slice l_p l_n l_c] u R = vc_grid_command g_b g_o c l_p l_n l_c u R := by kernel_rfl
theorem vc_grid_command_spec (g_b g_o : Nat) (c : Int) (l_p : Option Addr) (l_n l_c : Nat) {u : World} {R : Ending → World → Prop} (h : vc_grid_command g_b g_o c l_p l_n l_c u R) : Spec Tryd.prog fn_grid_command #[.pointer (some ⟨g_b, g_o, none⟩), .int .i64 c, .slice l_p l_n l_c] u R := func_spec (C := cx_grid_command) (fn := Tryd.f56) (args := [.pointer (some ⟨g_b, g_o, none⟩), .int .i64 c, .slice l_p l_n l_c]) (ctxOk _ _ _ _ _) Tryd.func56 (vc_grid_command_eq g_b g_o c l_p l_n l_c u R) h

/-- fenestra/grid.picture -/
noncomputable def cx_grid_picture : Ctx := ⟨Tryd.prog, tab, [], [], [], fns, [(3, ⟨[.keep, .keep, .keep, .keep, .cell (.int .i64), .cell (.int .i64), .keep, .junk, .junk, .keep, .keep, .keep, .keep, .keep, .keep, .keep, .keep, .keep, .keep, .keep, .keep, .keep, .keep, .keep, .keep, .keep, .cell (.int .i64), .junk, .junk, .junk, .junk, .junk, .junk, .junk, .junk, .junk, .junk, .junk, .junk, .junk, .junk, .junk, .junk, .junk, .junk, .junk, .junk, .junk, .junk, .junk, .junk, .junk, .junk, .junk, .junk, .junk, .junk, .junk, .junk, .junk, .junk, .junk, .junk, .junk, .junk, .junk, .junk, .junk, .junk, .junk, .junk, .junk, .junk, .junk], []⟩)], []⟩
def vc_grid_picture (g_b g_o : Nat) (s : ByteArray) (u : World) (R : Ending → World → Prop) : Prop :=
 ∃ (q0 : Int), 1 = szN 1 ∧ Rd (drewW u) g_b (g_o + 3) ([.int .i64 q0]) ∧
 ∃ (q1 : Int), 1 = szN 1 ∧ Rd (drewW u) g_b (g_o + 4) ([.int .i64 q1]) ∧
 ∃ (q2 : Int), 1 = szN 1 ∧ Rd (drewW u) g_b (g_o + 0) ([.int .i64 q2]) ∧
 inK .i64 (q2 - 1) ∧ ∃ (I_ : Int → Int → Int → World → Prop) (M_ : Int →
 Int → Int → World → Nat), (I_ q0 (min q1 (q2 - 1)) 0 (drewW u)) ∧
 ∀ (r : Int) (c : Int) (q3 : Int), ∀ u1 : World, I_ r c q3 u1 →
 (((decide (q3 < ((s.size : Nat) : Int))) = true → 0 ≤ q3 ∧ ∃ c1 : UInt8, s.data.toList[q3.toNat]? = some c1 ∧
 inK .i64 ((c1.toNat : Nat) : Int) ∧ (((decide (((c1.toNat : Nat) : Int) = 45)) = true →
 inK .i64 (r + 1) ∧ inK .i64 (q3 + 1) ∧ I_ (r + 1) (min q1 (q2 - 1)) (q3 + 1) u1 ∧
 M_ (r + 1) (min q1 (q2 - 1)) (q3 + 1) u1 < M_ r c q3 u1) ∧
 ((decide (((c1.toNat : Nat) : Int) = 45)) = false → (((decide ((97 : Int) ≤ ((c1.toNat : Nat) : Int))) = true →
 (((decide (((c1.toNat : Nat) : Int) < 105)) = true → ∃ (q4 : Int), 1 = szN 1 ∧
 Rd u1 g_b (g_o + 1) ([.int .i64 q4]) ∧ (((decide (r < q4)) = true →
 ∃ (q5 : Int), 1 = szN 1 ∧ Rd u1 g_b (g_o + 0) ([.int .i64 q5]) ∧
 (((decide (c < q5)) = true → Spec Tryd.prog 44 #[.pointer (some ⟨g_b, g_o, none⟩), .int .i64 r] u1 (fun e u11 => ∃ (q6 : Option Addr) (q7 q8 : Nat), e = .returned (.slice q6 q7 q8) ∧
 inK .i64 (((c1.toNat : Nat) : Int) - 97) ∧ inK .i64 ((((c1.toNat : Nat) : Int) - 97) + 1) ∧
 ∃ b o, q6 = some ⟨b, o, none⟩ ∧ 0 ≤ c ∧ c < ((q7 : Nat) : Int) ∧
 4 = szN 4 ∧
 Wr u11 b (o + c.toNat * 4) 4 ∧ inK .i64 (c + 1) ∧ inK .i64 (q3 + 1) ∧
 I_ r (c + 1) (q3 + 1) (putCells u11 b (o + c.toNat * 4) ([.int .i64 0, .int .i64 0, .int .i64 ((((c1.toNat : Nat) : Int) - 97) + 1), .bool false])) ∧
 M_ r (c + 1) (q3 + 1) (putCells u11 b (o + c.toNat * 4) ([.int .i64 0, .int .i64 0, .int .i64 ((((c1.toNat : Nat) : Int) - 97) + 1), .bool false])) < M_ r c q3 u1)) ∧
 ((decide (c < q5)) = false → inK .i64 (c + 1) ∧ inK .i64 (q3 + 1) ∧
 I_ r (c + 1) (q3 + 1) u1 ∧ M_ r (c + 1) (q3 + 1) u1 < M_ r c q3 u1))) ∧
 ((decide (r < q4)) = false → inK .i64 (c + 1) ∧ inK .i64 (q3 + 1) ∧
 I_ r (c + 1) (q3 + 1) u1 ∧ M_ r (c + 1) (q3 + 1) u1 < M_ r c q3 u1))) ∧
 ((decide (((c1.toNat : Nat) : Int) < 105)) = false → inK .i64 (c + 1) ∧
 inK .i64 (q3 + 1) ∧ I_ r (c + 1) (q3 + 1) u1 ∧ M_ r (c + 1) (q3 + 1) u1 < M_ r c q3 u1))) ∧
 ((decide ((97 : Int) ≤ ((c1.toNat : Nat) : Int))) = false → inK .i64 (c + 1) ∧
 inK .i64 (q3 + 1) ∧ I_ r (c + 1) (q3 + 1) u1 ∧ M_ r (c + 1) (q3 + 1) u1 < M_ r c q3 u1))))) ∧
 ((decide (q3 < ((s.size : Nat) : Int))) = false → R (.returned (.tuple #[])) u1))
set_option maxRecDepth 100000 in
theorem vc_grid_picture_eq (g_b g_o : Nat) (s : ByteArray) (u : World) (R : Ending → World → Prop) : wFunc cx_grid_picture Tryd.f57 [.pointer (some ⟨g_b, g_o, none⟩), .string s] u R = vc_grid_picture g_b g_o s u R := by kernel_rfl
theorem vc_grid_picture_spec (g_b g_o : Nat) (s : ByteArray) {u : World} {R : Ending → World → Prop} (h : vc_grid_picture g_b g_o s u R) : Spec Tryd.prog fn_grid_picture #[.pointer (some ⟨g_b, g_o, none⟩), .string s] u R := func_spec (C := cx_grid_picture) (fn := Tryd.f57) (args := [.pointer (some ⟨g_b, g_o, none⟩), .string s]) (ctxOk _ _ _ _ _) Tryd.func57 (vc_grid_picture_eq g_b g_o s u R) h

/-- fenestra/grid.Do -/
noncomputable def cx_grid_Do : Ctx := ⟨Tryd.prog, tab, [6], [], [], fns, [], []⟩
def vc_grid_Do (g_Wide : Int) (g_High : Int) (g_Cells_p : Option Addr) (g_Cells_n g_Cells_c : Nat) (g_Row : Int) (g_Col : Int) (g_Ink : Int) (g_Bold : Bool) (g_Top : Int) (g_Bottom : Int) (e_Kind : Int) (e_B : Int) (e_Params_p : Option Addr) (e_Params_n e_Params_c : Nat) (e_Payload : ByteArray) (u : World) (R : Ending → World → Prop) : Prop :=
 Spec Tryd.prog 43 #[.agg #[.int .i64 g_Wide, .int .i64 g_High, .slice g_Cells_p g_Cells_n g_Cells_c, .int .i64 g_Row, .int .i64 g_Col, .int .i64 g_Ink, .bool g_Bold, .int .i64 g_Top, .int .i64 g_Bottom]] (allocW (allocW (allocW u hole) hole) hole) (fun e u1 => ∃ (q0 : Bool), e = .returned (.bool q0) ∧
 (((!q0) = true → R (.returned (.tuple #[.agg #[.int .i64 g_Wide, .int .i64 g_High, .slice g_Cells_p g_Cells_n g_Cells_c, .int .i64 g_Row, .int .i64 g_Col, .int .i64 g_Ink, .bool g_Bold, .int .i64 g_Top, .int .i64 g_Bottom], .int .i64 1])) u1) ∧
 ((!q0) = false → 9 = szN 9 ∧
 Wr (allocW u1 (.cells ([.int .i64 0, .int .i64 0, .slice none 0 0, .int .i64 0, .int .i64 0, .int .i64 0, .bool false, .int .i64 0, .int .i64 0] : List Value).toArray 47)) u1.heap.size 0 9 ∧
 Spec Tryd.prog 53 #[.slice g_Cells_p g_Cells_n g_Cells_c] (putCells (allocW u1 (.cells ([.int .i64 0, .int .i64 0, .slice none 0 0, .int .i64 0, .int .i64 0, .int .i64 0, .bool false, .int .i64 0, .int .i64 0] : List Value).toArray 47)) u1.heap.size 0 ([.int .i64 g_Wide, .int .i64 g_High, .slice g_Cells_p g_Cells_n g_Cells_c, .int .i64 g_Row, .int .i64 g_Col, .int .i64 g_Ink, .bool g_Bold, .int .i64 g_Top, .int .i64 g_Bottom])) (fun e u11 => ∃ (q1 : Option Addr) (q2 q3 : Nat), e = .returned (.slice q1 q2 q3) ∧
 1 = szN 1 ∧ Wr u11 u1.heap.size (0 + 2) 1 ∧
 (((decide (e_Kind = 1)) = true → (((decide (e_B < 32)) = true →
 R (.returned (.tuple #[.agg #[.int .i64 g_Wide, .int .i64 g_High, .slice g_Cells_p g_Cells_n g_Cells_c, .int .i64 g_Row, .int .i64 g_Col, .int .i64 g_Ink, .bool g_Bold, .int .i64 g_Top, .int .i64 g_Bottom], .int .i64 6])) (putCells u11 u1.heap.size (0 + 2) ([.slice q1 q2 q3]))) ∧
 ((decide (e_B < 32)) = false → (((decide ((126 : Int) < e_B)) = true →
 R (.returned (.tuple #[.agg #[.int .i64 g_Wide, .int .i64 g_High, .slice g_Cells_p g_Cells_n g_Cells_c, .int .i64 g_Row, .int .i64 g_Col, .int .i64 g_Ink, .bool g_Bold, .int .i64 g_Top, .int .i64 g_Bottom], .int .i64 6])) (putCells u11 u1.heap.size (0 + 2) ([.slice q1 q2 q3]))) ∧
 ((decide ((126 : Int) < e_B)) = false → Spec Tryd.prog 54 #[.pointer (some ⟨u1.heap.size, 0, none⟩), .int .i64 e_B] (putCells u11 u1.heap.size (0 + 2) ([.slice q1 q2 q3])) (fun e u12 => e = .returned (.tuple #[]) ∧
 ∃ (q4 q5 : Int) (q6 : Option Addr) (q7 q8 : Nat) (q9 qa qb : Int) (qc : Bool) (qd qe : Int), 9 = szN 9 ∧
 Rd u12 u1.heap.size 0 ([.int .i64 q4, .int .i64 q5, .slice q6 q7 q8, .int .i64 q9, .int .i64 qa, .int .i64 qb, .bool qc, .int .i64 qd, .int .i64 qe]) ∧
 R (.returned (.tuple #[.agg #[.int .i64 q4, .int .i64 q5, .slice q6 q7 q8, .int .i64 q9, .int .i64 qa, .int .i64 qb, .bool qc, .int .i64 qd, .int .i64 qe], .int .i64 0])) u12)))))) ∧
 ((decide (e_Kind = 1)) = false → (((decide (e_Kind = 2)) = true →
 Spec Tryd.prog 55 #[.pointer (some ⟨u1.heap.size, 0, none⟩), .int .i64 e_B] (putCells u11 u1.heap.size (0 + 2) ([.slice q1 q2 q3])) (fun e u13 => e = .returned (.tuple #[]) ∧
 ∃ (qf qg : Int) (qh : Option Addr) (qi qj : Nat) (qk ql qm : Int) (qn : Bool) (qo qp : Int), 9 = szN 9 ∧
 Rd u13 u1.heap.size 0 ([.int .i64 qf, .int .i64 qg, .slice qh qi qj, .int .i64 qk, .int .i64 ql, .int .i64 qm, .bool qn, .int .i64 qo, .int .i64 qp]) ∧
 R (.returned (.tuple #[.agg #[.int .i64 qf, .int .i64 qg, .slice qh qi qj, .int .i64 qk, .int .i64 ql, .int .i64 qm, .bool qn, .int .i64 qo, .int .i64 qp], .int .i64 0])) u13)) ∧
 ((decide (e_Kind = 2)) = false → (((decide (e_Kind = 3)) = true →
 Spec Tryd.prog 56 #[.pointer (some ⟨u1.heap.size, 0, none⟩), .int .i64 e_B, .slice e_Params_p e_Params_n e_Params_c] (putCells u11 u1.heap.size (0 + 2) ([.slice q1 q2 q3])) (fun e u14 => e = .returned (.tuple #[]) ∧
 ∃ (qq qr : Int) (qs : Option Addr) (qt qu : Nat) (qv qw qx : Int) (qy : Bool) (qz q10 : Int), 9 = szN 9 ∧
 Rd u14 u1.heap.size 0 ([.int .i64 qq, .int .i64 qr, .slice qs qt qu, .int .i64 qv, .int .i64 qw, .int .i64 qx, .bool qy, .int .i64 qz, .int .i64 q10]) ∧
 R (.returned (.tuple #[.agg #[.int .i64 qq, .int .i64 qr, .slice qs qt qu, .int .i64 qv, .int .i64 qw, .int .i64 qx, .bool qy, .int .i64 qz, .int .i64 q10], .int .i64 0])) u14)) ∧
 ((decide (e_Kind = 3)) = false → (((decide (e_Kind = 4)) = true →
 Spec Tryd.prog 57 #[.pointer (some ⟨u1.heap.size, 0, none⟩), .string e_Payload] (putCells u11 u1.heap.size (0 + 2) ([.slice q1 q2 q3])) (fun e u15 => e = .returned (.tuple #[]) ∧
 ∃ (q11 q12 : Int) (q13 : Option Addr) (q14 q15 : Nat) (q16 q17 q18 : Int) (q19 : Bool) (q1a q1b : Int), 9 = szN 9 ∧
 Rd u15 u1.heap.size 0 ([.int .i64 q11, .int .i64 q12, .slice q13 q14 q15, .int .i64 q16, .int .i64 q17, .int .i64 q18, .bool q19, .int .i64 q1a, .int .i64 q1b]) ∧
 R (.returned (.tuple #[.agg #[.int .i64 q11, .int .i64 q12, .slice q13 q14 q15, .int .i64 q16, .int .i64 q17, .int .i64 q18, .bool q19, .int .i64 q1a, .int .i64 q1b], .int .i64 0])) u15)) ∧
 ((decide (e_Kind = 4)) = false → (((decide (e_Kind = 5)) = true →
 Spec Tryd.prog 22 #[.int .i64 g_Wide, .int .i64 g_High] (putCells u11 u1.heap.size (0 + 2) ([.slice q1 q2 q3])) (fun e u16 => ∃ (q1c q1d : Int) (q1e : Option Addr) (q1f q1g : Nat) (q1h q1i q1j : Int) (q1k : Bool) (q1l q1m : Int), e = .returned (.agg #[.int .i64 q1c, .int .i64 q1d, .slice q1e q1f q1g, .int .i64 q1h, .int .i64 q1i, .int .i64 q1j, .bool q1k, .int .i64 q1l, .int .i64 q1m]) ∧
 R (.returned (.tuple #[.agg #[.int .i64 q1c, .int .i64 q1d, .slice q1e q1f q1g, .int .i64 q1h, .int .i64 q1i, .int .i64 q1j, .bool q1k, .int .i64 q1l, .int .i64 q1m], .int .i64 0])) u16)) ∧
 ((decide (e_Kind = 5)) = false → R (.returned (.tuple #[.agg #[.int .i64 g_Wide, .int .i64 g_High, .slice g_Cells_p g_Cells_n g_Cells_c, .int .i64 g_Row, .int .i64 g_Col, .int .i64 g_Ink, .bool g_Bold, .int .i64 g_Top, .int .i64 g_Bottom], .int .i64 2])) (putCells u11 u1.heap.size (0 + 2) ([.slice q1 q2 q3]))))))))))))))))
set_option maxRecDepth 100000 in
theorem vc_grid_Do_eq (g_Wide : Int) (g_High : Int) (g_Cells_p : Option Addr) (g_Cells_n g_Cells_c : Nat) (g_Row : Int) (g_Col : Int) (g_Ink : Int) (g_Bold : Bool) (g_Top : Int) (g_Bottom : Int) (e_Kind : Int) (e_B : Int) (e_Params_p : Option Addr) (e_Params_n e_Params_c : Nat) (e_Payload : ByteArray) (u : World) (R : Ending → World → Prop) : wFunc cx_grid_Do Tryd.f35 [.agg #[.int .i64 g_Wide, .int .i64 g_High, .slice g_Cells_p g_Cells_n g_Cells_c, .int .i64 g_Row, .int .i64 g_Col, .int .i64 g_Ink, .bool g_Bold, .int .i64 g_Top, .int .i64 g_Bottom], .agg #[.int .i64 e_Kind, .int .i64 e_B, .slice e_Params_p e_Params_n e_Params_c, .string e_Payload]] u R = vc_grid_Do g_Wide g_High g_Cells_p g_Cells_n g_Cells_c g_Row g_Col g_Ink g_Bold g_Top g_Bottom e_Kind e_B e_Params_p e_Params_n e_Params_c e_Payload u R := by kernel_rfl
theorem vc_grid_Do_spec (g_Wide : Int) (g_High : Int) (g_Cells_p : Option Addr) (g_Cells_n g_Cells_c : Nat) (g_Row : Int) (g_Col : Int) (g_Ink : Int) (g_Bold : Bool) (g_Top : Int) (g_Bottom : Int) (e_Kind : Int) (e_B : Int) (e_Params_p : Option Addr) (e_Params_n e_Params_c : Nat) (e_Payload : ByteArray) {u : World} {R : Ending → World → Prop} (h : vc_grid_Do g_Wide g_High g_Cells_p g_Cells_n g_Cells_c g_Row g_Col g_Ink g_Bold g_Top g_Bottom e_Kind e_B e_Params_p e_Params_n e_Params_c e_Payload u R) : Spec Tryd.prog fn_grid_Do #[.agg #[.int .i64 g_Wide, .int .i64 g_High, .slice g_Cells_p g_Cells_n g_Cells_c, .int .i64 g_Row, .int .i64 g_Col, .int .i64 g_Ink, .bool g_Bold, .int .i64 g_Top, .int .i64 g_Bottom], .agg #[.int .i64 e_Kind, .int .i64 e_B, .slice e_Params_p e_Params_n e_Params_c, .string e_Payload]] u R := func_spec (C := cx_grid_Do) (fn := Tryd.f35) (args := [.agg #[.int .i64 g_Wide, .int .i64 g_High, .slice g_Cells_p g_Cells_n g_Cells_c, .int .i64 g_Row, .int .i64 g_Col, .int .i64 g_Ink, .bool g_Bold, .int .i64 g_Top, .int .i64 g_Bottom], .agg #[.int .i64 e_Kind, .int .i64 e_B, .slice e_Params_p e_Params_n e_Params_c, .string e_Payload]]) (ctxOk _ _ _ _ _) Tryd.func35 (vc_grid_Do_eq g_Wide g_High g_Cells_p g_Cells_n g_Cells_c g_Row g_Col g_Ink g_Bold g_Top g_Bottom e_Kind e_B e_Params_p e_Params_n e_Params_c e_Payload u R) h

end Go.Proofs.YtkmmphkjmamckabDoor

namespace Go.Proofs.YtkmmphkjmamckabDoor
open Go
set_option linter.all false

/-- fenestra/grid.All -/
noncomputable def cx_grid_All : Ctx := ⟨Tryd.prog, tab, [], [], [], fns, [(2, ⟨[.keep, .keep, .keep, .keep, .keep, .junk, .keep, .junk, .junk, .keep, .keep, .cell (.int .i64), .junk, .junk, .junk, .junk, .junk, .junk, .junk, .junk, .junk, .junk, .junk, .junk, .junk, .junk, .keep], [.cells [.int .i64, .int .i64, .slice, .int .i64, .int .i64, .int .i64, .bool, .int .i64, .int .i64], .cells [.int .i64, .int .i64, .slice, .int .i64, .int .i64, .int .i64, .bool, .int .i64, .int .i64]]⟩)], []⟩
def vc_grid_All (g_Wide : Int) (g_High : Int) (g_Cells_p : Option Addr) (g_Cells_n g_Cells_c : Nat) (g_Row : Int) (g_Col : Int) (g_Ink : Int) (g_Bold : Bool) (g_Top : Int) (g_Bottom : Int) (l_p : Option Addr) (l_n l_c : Nat) (u : World) (R : Ending → World → Prop) : Prop :=
 ∃ (I_ : Int → Int → Int → Option Addr → Nat → Nat → Int → Int →
 Int → Bool → Int → Int → Int → Int → Option Addr → Nat → Nat →
 Int → Int → Int → Bool → Int → Int → World → Prop) (M_ : Int →
 Int → Int → Option Addr → Nat → Nat → Int → Int → Int → Bool →
 Int → Int → Int → Int → Option Addr → Nat → Nat → Int → Int → Int →
 Bool → Int → Int → World → Nat), (I_ 0 g_Wide g_High g_Cells_p g_Cells_n g_Cells_c g_Row g_Col g_Ink g_Bold g_Top g_Bottom 0 0 none 0 0 0 0 0 false 0 0 (allocW (allocW u hole) hole)) ∧
 ∀ (q0 : Int) (g_Wide1 : Int) (g_High1 : Int) (g_Cells_p1 : Option Addr) (g_Cells_n1 g_Cells_c1 : Nat) (g_Row1 : Int) (g_Col1 : Int) (g_Ink1 : Int) (g_Bold1 : Bool) (g_Top1 : Int) (g_Bottom1 : Int) (q1 q2 : Int) (q3 : Option Addr) (q4 q5 : Nat) (q6 q7 q8 : Int) (q9 : Bool) (qa qb : Int), ∀ u1 : World, I_ q0 g_Wide1 g_High1 g_Cells_p1 g_Cells_n1 g_Cells_c1 g_Row1 g_Col1 g_Ink1 g_Bold1 g_Top1 g_Bottom1 q1 q2 q3 q4 q5 q6 q7 q8 q9 qa qb u1 →
 (((decide (q0 < ((l_n : Nat) : Int))) = true → ∃ b o, l_p = some ⟨b, o, none⟩ ∧
 0 ≤ q0 ∧ q0 < ((l_n : Nat) : Int) ∧ ∃ (qc qd : Int) (qe : Option Addr) (qf qg : Nat) (qh : ByteArray), 4 = szN 4 ∧
 Rd u1 b (o + q0.toNat * 4) ([.int .i64 qc, .int .i64 qd, .slice qe qf qg, .string qh]) ∧
 Spec Tryd.prog 35 #[.agg #[.int .i64 g_Wide1, .int .i64 g_High1, .slice g_Cells_p1 g_Cells_n1 g_Cells_c1, .int .i64 g_Row1, .int .i64 g_Col1, .int .i64 g_Ink1, .bool g_Bold1, .int .i64 g_Top1, .int .i64 g_Bottom1], .agg #[.int .i64 qc, .int .i64 qd, .slice qe qf qg, .string qh]] (allocW u1 hole) (fun e u11 => ∃ (qi qj : Int) (qk : Option Addr) (ql qm : Nat) (qn qo qp : Int) (qq : Bool) (qr qs qt : Int), e = .returned (.tuple #[.agg #[.int .i64 qi, .int .i64 qj, .slice qk ql qm, .int .i64 qn, .int .i64 qo, .int .i64 qp, .bool qq, .int .i64 qr, .int .i64 qs], .int .i64 qt]) ∧
 (((!decide (qt = 0)) = true → R (.returned (.tuple #[.agg #[.int .i64 qi, .int .i64 qj, .slice qk ql qm, .int .i64 qn, .int .i64 qo, .int .i64 qp, .bool qq, .int .i64 qr, .int .i64 qs], .int .i64 qt])) u11) ∧
 ((!decide (qt = 0)) = false → inK .i64 (q0 + 1) ∧ I_ (q0 + 1) qi qj qk ql qm qn qo qp qq qr qs q1 q2 q3 q4 q5 q6 q7 q8 q9 qa qb u11 ∧
 M_ (q0 + 1) qi qj qk ql qm qn qo qp qq qr qs q1 q2 q3 q4 q5 q6 q7 q8 q9 qa qb u11 < M_ q0 g_Wide1 g_High1 g_Cells_p1 g_Cells_n1 g_Cells_c1 g_Row1 g_Col1 g_Ink1 g_Bold1 g_Top1 g_Bottom1 q1 q2 q3 q4 q5 q6 q7 q8 q9 qa qb u1)))) ∧
 ((decide (q0 < ((l_n : Nat) : Int))) = false → R (.returned (.tuple #[.agg #[.int .i64 g_Wide1, .int .i64 g_High1, .slice g_Cells_p1 g_Cells_n1 g_Cells_c1, .int .i64 g_Row1, .int .i64 g_Col1, .int .i64 g_Ink1, .bool g_Bold1, .int .i64 g_Top1, .int .i64 g_Bottom1], .int .i64 0])) u1))
set_option maxRecDepth 100000 in
theorem vc_grid_All_eq (g_Wide : Int) (g_High : Int) (g_Cells_p : Option Addr) (g_Cells_n g_Cells_c : Nat) (g_Row : Int) (g_Col : Int) (g_Ink : Int) (g_Bold : Bool) (g_Top : Int) (g_Bottom : Int) (l_p : Option Addr) (l_n l_c : Nat) (u : World) (R : Ending → World → Prop) : wFunc cx_grid_All Tryd.f19 [.agg #[.int .i64 g_Wide, .int .i64 g_High, .slice g_Cells_p g_Cells_n g_Cells_c, .int .i64 g_Row, .int .i64 g_Col, .int .i64 g_Ink, .bool g_Bold, .int .i64 g_Top, .int .i64 g_Bottom], .slice l_p l_n l_c] u R = vc_grid_All g_Wide g_High g_Cells_p g_Cells_n g_Cells_c g_Row g_Col g_Ink g_Bold g_Top g_Bottom l_p l_n l_c u R := by kernel_rfl
theorem vc_grid_All_spec (g_Wide : Int) (g_High : Int) (g_Cells_p : Option Addr) (g_Cells_n g_Cells_c : Nat) (g_Row : Int) (g_Col : Int) (g_Ink : Int) (g_Bold : Bool) (g_Top : Int) (g_Bottom : Int) (l_p : Option Addr) (l_n l_c : Nat) {u : World} {R : Ending → World → Prop} (h : vc_grid_All g_Wide g_High g_Cells_p g_Cells_n g_Cells_c g_Row g_Col g_Ink g_Bold g_Top g_Bottom l_p l_n l_c u R) : Spec Tryd.prog fn_grid_All #[.agg #[.int .i64 g_Wide, .int .i64 g_High, .slice g_Cells_p g_Cells_n g_Cells_c, .int .i64 g_Row, .int .i64 g_Col, .int .i64 g_Ink, .bool g_Bold, .int .i64 g_Top, .int .i64 g_Bottom], .slice l_p l_n l_c] u R := func_spec (C := cx_grid_All) (fn := Tryd.f19) (args := [.agg #[.int .i64 g_Wide, .int .i64 g_High, .slice g_Cells_p g_Cells_n g_Cells_c, .int .i64 g_Row, .int .i64 g_Col, .int .i64 g_Ink, .bool g_Bold, .int .i64 g_Top, .int .i64 g_Bottom], .slice l_p l_n l_c]) (ctxOk _ _ _ _ _) Tryd.func19 (vc_grid_All_eq g_Wide g_High g_Cells_p g_Cells_n g_Cells_c g_Row g_Col g_Ink g_Bold g_Top g_Bottom l_p l_n l_c u R) h

/-- fenestra/grid.Resize -/
noncomputable def cx_grid_Resize : Ctx := ⟨Tryd.prog, tab, [3, 8], [], [], fns, [(5, ⟨[.keep, .keep, .keep, .keep, .keep, .keep, .keep, .keep, .keep, .junk, .keep, .keep, .keep, .keep, .keep, .keep, .keep, .keep, .keep, .keep, .keep, .keep, .cell (.int .i64), .junk, .junk, .junk, .junk, .junk, .junk, .junk, .junk, .keep, .keep, .keep, .keep, .keep, .keep, .keep, .keep, .keep, .keep, .keep, .keep, .keep, .keep, .keep, .keep, .keep, .keep, .keep, .keep, .keep], [.keep]⟩)], []⟩
def vc_grid_Resize (g_Wide : Int) (g_High : Int) (g_Cells_p : Option Addr) (g_Cells_n g_Cells_c : Nat) (g_Row : Int) (g_Col : Int) (g_Ink : Int) (g_Bold : Bool) (g_Top : Int) (g_Bottom : Int) (wide : Int) (high : Int) (u : World) (R : Ending → World → Prop) : Prop :=
 ∃ (q0 q1 : Int) (q2 : Option Addr) (q3 q4 : Nat) (q5 q6 q7 : Int) (q8 : Bool) (q9 qa : Int), 9 = szN 9 ∧
 Rd (allocW (allocW u (.cells ([.int .i64 g_Wide, .int .i64 g_High, .slice g_Cells_p g_Cells_n g_Cells_c, .int .i64 g_Row, .int .i64 g_Col, .int .i64 g_Ink, .bool g_Bold, .int .i64 g_Top, .int .i64 g_Bottom] : List Value).toArray 47)) hole) u.heap.size 0 ([.int .i64 q0, .int .i64 q1, .slice q2 q3 q4, .int .i64 q5, .int .i64 q6, .int .i64 q7, .bool q8, .int .i64 q9, .int .i64 qa]) ∧
 Spec Tryd.prog 43 #[.agg #[.int .i64 q0, .int .i64 q1, .slice q2 q3 q4, .int .i64 q5, .int .i64 q6, .int .i64 q7, .bool q8, .int .i64 q9, .int .i64 qa]] (allocW (allocW u (.cells ([.int .i64 g_Wide, .int .i64 g_High, .slice g_Cells_p g_Cells_n g_Cells_c, .int .i64 g_Row, .int .i64 g_Col, .int .i64 g_Ink, .bool g_Bold, .int .i64 g_Top, .int .i64 g_Bottom] : List Value).toArray 47)) hole) (fun e u1 => ∃ (qb : Bool), e = .returned (.bool qb) ∧
 (((!qb) = true → ∃ (qc qd : Int) (qe : Option Addr) (qf qg : Nat) (qh qi qj : Int) (qk : Bool) (ql qm : Int), 9 = szN 9 ∧
 Rd u1 u.heap.size 0 ([.int .i64 qc, .int .i64 qd, .slice qe qf qg, .int .i64 qh, .int .i64 qi, .int .i64 qj, .bool qk, .int .i64 ql, .int .i64 qm]) ∧
 R (.returned (.tuple #[.agg #[.int .i64 qc, .int .i64 qd, .slice qe qf qg, .int .i64 qh, .int .i64 qi, .int .i64 qj, .bool qk, .int .i64 ql, .int .i64 qm], .int .i64 1])) u1) ∧
 ((!qb) = false → Spec Tryd.prog 22 #[.int .i64 wide, .int .i64 high] u1 (fun e u11 => ∃ (qn qo : Int) (qp : Option Addr) (qq qr : Nat) (qs qt qu : Int) (qv : Bool) (qw qx : Int), e = .returned (.agg #[.int .i64 qn, .int .i64 qo, .slice qp qq qr, .int .i64 qs, .int .i64 qt, .int .i64 qu, .bool qv, .int .i64 qw, .int .i64 qx]) ∧
 9 = szN 9 ∧
 Wr (allocW u11 (.cells ([.int .i64 0, .int .i64 0, .slice none 0 0, .int .i64 0, .int .i64 0, .int .i64 0, .bool false, .int .i64 0, .int .i64 0] : List Value).toArray 47)) u11.heap.size 0 9 ∧
 ∃ (qy : Int), 1 = szN 1 ∧ Rd (putCells (allocW u11 (.cells ([.int .i64 0, .int .i64 0, .slice none 0 0, .int .i64 0, .int .i64 0, .int .i64 0, .bool false, .int .i64 0, .int .i64 0] : List Value).toArray 47)) u11.heap.size 0 ([.int .i64 qn, .int .i64 qo, .slice qp qq qr, .int .i64 qs, .int .i64 qt, .int .i64 qu, .bool qv, .int .i64 qw, .int .i64 qx])) u.heap.size (0 + 1) ([.int .i64 qy]) ∧
 ∃ (qz : Int), 1 = szN 1 ∧ Rd (putCells (allocW u11 (.cells ([.int .i64 0, .int .i64 0, .slice none 0 0, .int .i64 0, .int .i64 0, .int .i64 0, .bool false, .int .i64 0, .int .i64 0] : List Value).toArray 47)) u11.heap.size 0 ([.int .i64 qn, .int .i64 qo, .slice qp qq qr, .int .i64 qs, .int .i64 qt, .int .i64 qu, .bool qv, .int .i64 qw, .int .i64 qx])) u11.heap.size (0 + 1) ([.int .i64 qz]) ∧
 ∃ (I_ : Int → World → Prop) (M_ : Int → World → Nat), ((Loc.mk 47 false ([.int .i64 0, .int .i64 0, .slice none 0 0, .int .i64 0, .int .i64 0, .int .i64 0, .bool false, .int .i64 0, .int .i64 0])) = (Loc.mk 47 false ([.int .i64 0, .int .i64 0, .slice none 0 0, .int .i64 0, .int .i64 0, .int .i64 0, .bool false, .int .i64 0, .int .i64 0])) ∧
 I_ 0 (putCells (allocW u11 (.cells ([.int .i64 0, .int .i64 0, .slice none 0 0, .int .i64 0, .int .i64 0, .int .i64 0, .bool false, .int .i64 0, .int .i64 0] : List Value).toArray 47)) u11.heap.size 0 ([.int .i64 qn, .int .i64 qo, .slice qp qq qr, .int .i64 qs, .int .i64 qt, .int .i64 qu, .bool qv, .int .i64 qw, .int .i64 qx]))) ∧
 ∀ (q10 : Int), (Loc.mk 47 false ([.int .i64 0, .int .i64 0, .slice none 0 0, .int .i64 0, .int .i64 0, .int .i64 0, .bool false, .int .i64 0, .int .i64 0])) = (Loc.mk 47 false ([.int .i64 0, .int .i64 0, .slice none 0 0, .int .i64 0, .int .i64 0, .int .i64 0, .bool false, .int .i64 0, .int .i64 0])) ∧
 ∀ u12 : World, I_ q10 u12 → (((decide (q10 < (min qy qz))) = true →
 Spec Tryd.prog 44 #[.pointer (some ⟨u11.heap.size, 0, none⟩), .int .i64 q10] u12 (fun e u13 => ∃ (q11 : Option Addr) (q12 q13 : Nat), e = .returned (.slice q11 q12 q13) ∧
 Spec Tryd.prog 44 #[.pointer (some ⟨u.heap.size, 0, none⟩), .int .i64 q10] u13 (fun e u14 => ∃ (q14 : Option Addr) (q15 q16 : Nat), e = .returned (.slice q14 q15 q16) ∧
 ∃ cs : List Value, cs.length = min q15 q12 * 4 ∧ Gets u14 q14 cs ∧
 okCells cs True ∧ WrS u14 q11 0 (min q15 q12 * 4) ∧ inK .i64 (q10 + 1) ∧
 (Loc.mk 47 false ([.int .i64 0, .int .i64 0, .slice none 0 0, .int .i64 0, .int .i64 0, .int .i64 0, .bool false, .int .i64 0, .int .i64 0])) = (Loc.mk 47 false ([.int .i64 0, .int .i64 0, .slice none 0 0, .int .i64 0, .int .i64 0, .int .i64 0, .bool false, .int .i64 0, .int .i64 0])) ∧
 I_ (q10 + 1) (putSl u14 q11 0 cs) ∧ (Loc.mk 47 false ([.int .i64 0, .int .i64 0, .slice none 0 0, .int .i64 0, .int .i64 0, .int .i64 0, .bool false, .int .i64 0, .int .i64 0])) = (Loc.mk 47 false ([.int .i64 0, .int .i64 0, .slice none 0 0, .int .i64 0, .int .i64 0, .int .i64 0, .bool false, .int .i64 0, .int .i64 0])) ∧
 M_ (q10 + 1) (putSl u14 q11 0 cs) < M_ q10 u12))) ∧ ((decide (q10 < (min qy qz))) = false →
 ∃ (q17 : Int), 1 = szN 1 ∧ Rd u12 u.heap.size (0 + 3) ([.int .i64 q17]) ∧
 ∃ (q18 : Int), 1 = szN 1 ∧ Rd u12 u11.heap.size (0 + 1) ([.int .i64 q18]) ∧
 inK .i64 (q18 - 1) ∧ ∃ (q19 : Int), 1 = szN 1 ∧
 Rd u12 u.heap.size (0 + 4) ([.int .i64 q19]) ∧ ∃ (q1a : Int), 1 = szN 1 ∧
 Rd u12 u11.heap.size (0 + 0) ([.int .i64 q1a]) ∧ inK .i64 (q1a - 1) ∧
 1 = szN 1 ∧ Wr u12 u11.heap.size (0 + 3) 1 ∧
 1 = szN 1 ∧ Wr (putCells u12 u11.heap.size (0 + 3) ([.int .i64 (min q17 (q18 - 1))])) u11.heap.size (0 + 4) 1 ∧
 ∃ (q1b : Int), 1 = szN 1 ∧ Rd (putCells (putCells u12 u11.heap.size (0 + 3) ([.int .i64 (min q17 (q18 - 1))])) u11.heap.size (0 + 4) ([.int .i64 (min q19 (q1a - 1))])) u.heap.size (0 + 5) ([.int .i64 q1b]) ∧
 ∃ (q1c : Bool), 1 = szN 1 ∧ Rd (putCells (putCells u12 u11.heap.size (0 + 3) ([.int .i64 (min q17 (q18 - 1))])) u11.heap.size (0 + 4) ([.int .i64 (min q19 (q1a - 1))])) u.heap.size (0 + 6) ([.bool q1c]) ∧
 1 = szN 1 ∧ Wr (putCells (putCells u12 u11.heap.size (0 + 3) ([.int .i64 (min q17 (q18 - 1))])) u11.heap.size (0 + 4) ([.int .i64 (min q19 (q1a - 1))])) u11.heap.size (0 + 5) 1 ∧
 1 = szN 1 ∧ Wr (putCells (putCells (putCells u12 u11.heap.size (0 + 3) ([.int .i64 (min q17 (q18 - 1))])) u11.heap.size (0 + 4) ([.int .i64 (min q19 (q1a - 1))])) u11.heap.size (0 + 5) ([.int .i64 q1b])) u11.heap.size (0 + 6) 1 ∧
 ∃ (q1d q1e : Int) (q1f : Option Addr) (q1g q1h : Nat) (q1i q1j q1k : Int) (q1l : Bool) (q1m q1n : Int), 9 = szN 9 ∧
 Rd (putCells (putCells (putCells (putCells u12 u11.heap.size (0 + 3) ([.int .i64 (min q17 (q18 - 1))])) u11.heap.size (0 + 4) ([.int .i64 (min q19 (q1a - 1))])) u11.heap.size (0 + 5) ([.int .i64 q1b])) u11.heap.size (0 + 6) ([.bool q1c])) u11.heap.size 0 ([.int .i64 q1d, .int .i64 q1e, .slice q1f q1g q1h, .int .i64 q1i, .int .i64 q1j, .int .i64 q1k, .bool q1l, .int .i64 q1m, .int .i64 q1n]) ∧
 R (.returned (.tuple #[.agg #[.int .i64 q1d, .int .i64 q1e, .slice q1f q1g q1h, .int .i64 q1i, .int .i64 q1j, .int .i64 q1k, .bool q1l, .int .i64 q1m, .int .i64 q1n], .int .i64 0])) (putCells (putCells (putCells (putCells u12 u11.heap.size (0 + 3) ([.int .i64 (min q17 (q18 - 1))])) u11.heap.size (0 + 4) ([.int .i64 (min q19 (q1a - 1))])) u11.heap.size (0 + 5) ([.int .i64 q1b])) u11.heap.size (0 + 6) ([.bool q1c]))))))))
set_option maxRecDepth 100000 in
theorem vc_grid_Resize_eq (g_Wide : Int) (g_High : Int) (g_Cells_p : Option Addr) (g_Cells_n g_Cells_c : Nat) (g_Row : Int) (g_Col : Int) (g_Ink : Int) (g_Bold : Bool) (g_Top : Int) (g_Bottom : Int) (wide : Int) (high : Int) (u : World) (R : Ending → World → Prop) : wFunc cx_grid_Resize Tryd.f28 [.agg #[.int .i64 g_Wide, .int .i64 g_High, .slice g_Cells_p g_Cells_n g_Cells_c, .int .i64 g_Row, .int .i64 g_Col, .int .i64 g_Ink, .bool g_Bold, .int .i64 g_Top, .int .i64 g_Bottom], .int .i64 wide, .int .i64 high] u R = vc_grid_Resize g_Wide g_High g_Cells_p g_Cells_n g_Cells_c g_Row g_Col g_Ink g_Bold g_Top g_Bottom wide high u R := by kernel_rfl
theorem vc_grid_Resize_spec (g_Wide : Int) (g_High : Int) (g_Cells_p : Option Addr) (g_Cells_n g_Cells_c : Nat) (g_Row : Int) (g_Col : Int) (g_Ink : Int) (g_Bold : Bool) (g_Top : Int) (g_Bottom : Int) (wide : Int) (high : Int) {u : World} {R : Ending → World → Prop} (h : vc_grid_Resize g_Wide g_High g_Cells_p g_Cells_n g_Cells_c g_Row g_Col g_Ink g_Bold g_Top g_Bottom wide high u R) : Spec Tryd.prog fn_grid_Resize #[.agg #[.int .i64 g_Wide, .int .i64 g_High, .slice g_Cells_p g_Cells_n g_Cells_c, .int .i64 g_Row, .int .i64 g_Col, .int .i64 g_Ink, .bool g_Bold, .int .i64 g_Top, .int .i64 g_Bottom], .int .i64 wide, .int .i64 high] u R := func_spec (C := cx_grid_Resize) (fn := Tryd.f28) (args := [.agg #[.int .i64 g_Wide, .int .i64 g_High, .slice g_Cells_p g_Cells_n g_Cells_c, .int .i64 g_Row, .int .i64 g_Col, .int .i64 g_Ink, .bool g_Bold, .int .i64 g_Top, .int .i64 g_Bottom], .int .i64 wide, .int .i64 high]) (ctxOk _ _ _ _ _) Tryd.func28 (vc_grid_Resize_eq g_Wide g_High g_Cells_p g_Cells_n g_Cells_c g_Row g_Col g_Ink g_Bold g_Top g_Bottom wide high u R) h

end Go.Proofs.YtkmmphkjmamckabDoor

