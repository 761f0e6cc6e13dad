import Derived.Test.YtkmmphkjmamckacCtx
namespace Go.Proofs.Ytkmmphkjmamckac
open Go
set_option linter.all false

/-- fenestra/fenestrakeep.lays -/
noncomputable def cx_fenestrakeep_lays : Ctx := ⟨Try.prog, tab, [], [], [], fns, [], []⟩
def vc_fenestrakeep_lays  (u : World) (R : Ending → World → Prop) : Prop :=
    Spec Try.prog 4 #[.agg #[.slice (some (Addr.mk (allocW u (.cells #[.int .i64 0] 3)).heap.size 0 none)) 1 1], .int .i64 0, .int .i64 3, .bool true] (allocW (allocW u (.cells #[.int .i64 0] 3)) (.cells #[.slice (some (Addr.mk u.heap.size 0 none)) 1 1] 33)) (fun e u1 => ∃ (x70q_Columns_p : Option Addr) (x70q_Columns_n x70q_Columns_c : Nat) (x71 : Int), e = .returned (.tuple #[.agg #[.slice x70q_Columns_p x70q_Columns_n x70q_Columns_c], .int .i64 x71]) ∧
          (((decide (x71 = 0)) = true → Spec Try.prog 8 #[.agg #[.slice x70q_Columns_p x70q_Columns_n x70q_Columns_c], .int .i64 3] (allocW u1 hole) (fun e u11 => ∃ (x14 : Bool), e = .returned (.bool x14) ∧
                ((x14 = true → Spec Try.prog 15 #[.agg #[.slice x70q_Columns_p x70q_Columns_n x70q_Columns_c], .int .i64 9, .int .i64 2, .int .i64 3] u11 (fun e u12 => ∃ (x18q_Row : Int) (x18q_Col : Int) (x18q_High : Int) (x18q_Wide : Int), e = .returned (.agg #[.int .i64 x18q_Row, .int .i64 x18q_Col, .int .i64 x18q_High, .int .i64 x18q_Wide]) ∧
            R (.returned (.bool (decide (x18q_Row = 0) && (decide (x18q_Col = 5) && (decide (x18q_High = 2) && (decide (x18q_Wide = 4))))))) u12)) ∧
        (x14 = false → R (.returned (.bool false)) u11)))) ∧ ((decide (x71 = 0)) = false →
  R (.returned (.bool false)) (allocW u1 hole))))
set_option maxRecDepth 100000 in
theorem vc_fenestrakeep_lays_eq  (u : World) (R : Ending → World → Prop) : wFunc cx_fenestrakeep_lays Try.f5 [] u R = vc_fenestrakeep_lays  u R := by kernel_rfl
theorem vc_fenestrakeep_lays_spec  {u : World} {R : Ending → World → Prop} (h : vc_fenestrakeep_lays  u R) : Spec Try.prog fn_fenestrakeep_lays #[] u R := func_spec (C := cx_fenestrakeep_lays) (fn := Try.f5) (args := []) (ctxOk _ _ _ _ _) Try.func5 (vc_fenestrakeep_lays_eq  u R) h

end Go.Proofs.Ytkmmphkjmamckac
