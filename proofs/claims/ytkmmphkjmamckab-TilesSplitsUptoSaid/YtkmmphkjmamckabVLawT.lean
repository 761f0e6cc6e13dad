import Derived.Test.YtkmmphkjmamckabCtx
namespace Go.Proofs.Ytkmmphkjmamckab
open Go
set_option linter.all false

/-- fenestra/fenestralaw.lays -/
noncomputable def cx_fenestralaw_lays : Ctx := ⟨Try.prog, tab, [], [], [], fns, [], []⟩
def vc_fenestralaw_lays  (u : World) (R : Ending → World → Prop) : Prop :=
    Spec Try.prog 41 #[.agg #[.slice (some (Addr.mk (allocW u (.cells #[.int .i64 0] 3)).heap.size 0 none)) 1 1], .int .i64 0, .int .i64 3, .bool true] (allocW (allocW u (.cells #[.int .i64 0] 3)) (.cells #[.slice (some (Addr.mk u.heap.size 0 none)) 1 1] 28)) (fun e u1 => ∃ (x70q_Columns_p : Option Addr) (x70q_Columns_n x70q_Columns_c : Nat) (x71 : Int), e = .returned (.tuple #[.agg #[.slice x70q_Columns_p x70q_Columns_n x70q_Columns_c], .int .i64 x71]) ∧
          (((decide (x71 = 0)) = true → Spec Try.prog 24 #[.agg #[.slice x70q_Columns_p x70q_Columns_n x70q_Columns_c], .int .i64 3] (allocW u1 hole) (fun e u11 => ∃ (x14 : Bool), e = .returned (.bool x14) ∧
                ((x14 = true → Spec Try.prog 19 #[.agg #[.slice x70q_Columns_p x70q_Columns_n x70q_Columns_c], .int .i64 9, .int .i64 2, .int .i64 3] u11 (fun e u12 => ∃ (x18q_Row : Int) (x18q_Col : Int) (x18q_High : Int) (x18q_Wide : Int), e = .returned (.agg #[.int .i64 x18q_Row, .int .i64 x18q_Col, .int .i64 x18q_High, .int .i64 x18q_Wide]) ∧
            R (.returned (.bool (decide (x18q_Row = 0) && (decide (x18q_Col = 5) && (decide (x18q_High = 2) && (decide (x18q_Wide = 4))))))) u12)) ∧
        (x14 = false → R (.returned (.bool false)) u11)))) ∧ ((decide (x71 = 0)) = false →
  R (.returned (.bool false)) (allocW u1 hole))))
set_option maxRecDepth 100000 in
theorem vc_fenestralaw_lays_eq  (u : World) (R : Ending → World → Prop) : wFunc cx_fenestralaw_lays Try.f22 [] u R = vc_fenestralaw_lays  u R := by kernel_rfl
theorem vc_fenestralaw_lays_spec  {u : World} {R : Ending → World → Prop} (h : vc_fenestralaw_lays  u R) : Spec Try.prog fn_fenestralaw_lays #[] u R := func_spec (C := cx_fenestralaw_lays) (fn := Try.f22) (args := []) (ctxOk _ _ _ _ _) Try.func22 (vc_fenestralaw_lays_eq  u R) h

/-- fenestra/fenestralaw.TilesPlaces -/
noncomputable def cx_fenestralaw_TilesPlaces : Ctx := ⟨Try.prog, tab, [], [], [], fns, [], []⟩
def vc_fenestralaw_TilesPlaces (t_Columns_p : Option Addr) (t_Columns_n t_Columns_c : Nat) (wide : Int) (high : Int) (p : Int) (n : Int) (u : World) (R : Ending → World → Prop) : Prop :=
    Spec Try.prog 17 #[.int .i64 wide, .int .i64 n, .int .i64 p] (allocW u hole) (fun e u1 => ∃ (x190 : Int) (x191 : Int), e = .returned (.tuple #[.int .i64 x190, .int .i64 x191]) ∧
      Spec Try.prog 18 #[.int .i64 wide, .int .i64 n, .int .i64 p] u1 (fun e u11 => ∃ (x260 : Int) (x261 : Int), e = .returned (.tuple #[.int .i64 x260, .int .i64 x261]) ∧
              (((decide (x190 = x260)) = true → (((decide (x191 = x261)) = true →
                Spec Try.prog 20 #[.agg #[.slice t_Columns_p t_Columns_n t_Columns_c]] (drewW u11) (fun e u12 => ∃ (x39q_Columns_p : Option Addr) (x39q_Columns_n x39q_Columns_c : Nat), e = .returned (.agg #[.slice x39q_Columns_p x39q_Columns_n x39q_Columns_c]) ∧
                  Spec Try.prog 19 #[.agg #[.slice x39q_Columns_p x39q_Columns_n x39q_Columns_c], .int .i64 wide, .int .i64 high, .int .i64 p] u12 (fun e u13 => ∃ (x43q_Row : Int) (x43q_Col : Int) (x43q_High : Int) (x43q_Wide : Int), e = .returned (.agg #[.int .i64 x43q_Row, .int .i64 x43q_Col, .int .i64 x43q_High, .int .i64 x43q_Wide]) ∧
                    Spec Try.prog 21 #[.agg #[.slice t_Columns_p t_Columns_n t_Columns_c], .int .i64 wide, .int .i64 high, .int .i64 p] u13 (fun e u14 => ∃ (x48q_Row : Int) (x48q_Col : Int) (x48q_High : Int) (x48q_Wide : Int), e = .returned (.agg #[.int .i64 x48q_Row, .int .i64 x48q_Col, .int .i64 x48q_High, .int .i64 x48q_Wide]) ∧
                        (((decide (x43q_Row = x48q_Row) && (decide (x43q_Col = x48q_Col) && (decide (x43q_High = x48q_High) && (decide (x43q_Wide = x48q_Wide))))) = true →
                          Spec Try.prog 22 #[] u14 (fun e u15 => ∃ (x52 : Bool), e = .returned (.bool x52) ∧
                        R (.returned (.bool x52)) u15)) ∧ ((decide (x43q_Row = x48q_Row) && (decide (x43q_Col = x48q_Col) && (decide (x43q_High = x48q_High) && (decide (x43q_Wide = x48q_Wide))))) = false →
              R (.returned (.bool false)) u14)))))) ∧ ((decide (x191 = x261)) = false →
          R (.returned (.bool false)) (drewW u11)))) ∧ ((decide (x190 = x260)) = false →
  R (.returned (.bool false)) (drewW u11)))))
set_option maxRecDepth 100000 in
theorem vc_fenestralaw_TilesPlaces_eq (t_Columns_p : Option Addr) (t_Columns_n t_Columns_c : Nat) (wide : Int) (high : Int) (p : Int) (n : Int) (u : World) (R : Ending → World → Prop) : wFunc cx_fenestralaw_TilesPlaces Try.f6 [.agg #[.slice t_Columns_p t_Columns_n t_Columns_c], .int .i64 wide, .int .i64 high, .int .i64 p, .int .i64 n] u R = vc_fenestralaw_TilesPlaces t_Columns_p t_Columns_n t_Columns_c wide high p n u R := by kernel_rfl
theorem vc_fenestralaw_TilesPlaces_spec (t_Columns_p : Option Addr) (t_Columns_n t_Columns_c : Nat) (wide : Int) (high : Int) (p : Int) (n : Int) {u : World} {R : Ending → World → Prop} (h : vc_fenestralaw_TilesPlaces t_Columns_p t_Columns_n t_Columns_c wide high p n u R) : Spec Try.prog fn_fenestralaw_TilesPlaces #[.agg #[.slice t_Columns_p t_Columns_n t_Columns_c], .int .i64 wide, .int .i64 high, .int .i64 p, .int .i64 n] u R := func_spec (C := cx_fenestralaw_TilesPlaces) (fn := Try.f6) (args := [.agg #[.slice t_Columns_p t_Columns_n t_Columns_c], .int .i64 wide, .int .i64 high, .int .i64 p, .int .i64 n]) (ctxOk _ _ _ _ _) Try.func6 (vc_fenestralaw_TilesPlaces_eq t_Columns_p t_Columns_n t_Columns_c wide high p n u R) h

/-- fenestra/fenestralaw.TilesSplits -/
noncomputable def cx_fenestralaw_TilesSplits : Ctx := ⟨Try.prog, tab, [], [], [], fns, [], []⟩
def vc_fenestralaw_TilesSplits (t_Columns_p : Option Addr) (t_Columns_n t_Columns_c : Nat) (p : Int) (n : Int) (right : Bool) (u : World) (R : Ending → World → Prop) : Prop :=
    Spec Try.prog 20 #[.agg #[.slice t_Columns_p t_Columns_n t_Columns_c]] (allocW u hole) (fun e u1 => ∃ (x19q_Columns_p : Option Addr) (x19q_Columns_n x19q_Columns_c : Nat), e = .returned (.agg #[.slice x19q_Columns_p x19q_Columns_n x19q_Columns_c]) ∧
      Spec Try.prog 41 #[.agg #[.slice x19q_Columns_p x19q_Columns_n x19q_Columns_c], .int .i64 p, .int .i64 n, .bool right] (allocW u1 hole) (fun e u11 => ∃ (x250q_Columns_p : Option Addr) (x250q_Columns_n x250q_Columns_c : Nat) (x251 : Int), e = .returned (.tuple #[.agg #[.slice x250q_Columns_p x250q_Columns_n x250q_Columns_c], .int .i64 x251]) ∧
        Spec Try.prog 42 #[.agg #[.slice t_Columns_p t_Columns_n t_Columns_c], .int .i64 p, .int .i64 n, .bool right] (allocW u11 hole) (fun e u12 => ∃ (x330q_Columns_p : Option Addr) (x330q_Columns_n x330q_Columns_c : Nat) (x331 : Int), e = .returned (.tuple #[.agg #[.slice x330q_Columns_p x330q_Columns_n x330q_Columns_c], .int .i64 x331]) ∧
          Spec Try.prog 43 #[.agg #[.slice x19q_Columns_p x19q_Columns_n x19q_Columns_c], .int .i64 p] (allocW u12 hole) (fun e u13 => ∃ (x390q_Columns_p : Option Addr) (x390q_Columns_n x390q_Columns_c : Nat) (x391 : Int), e = .returned (.tuple #[.agg #[.slice x390q_Columns_p x390q_Columns_n x390q_Columns_c], .int .i64 x391]) ∧
            Spec Try.prog 44 #[.agg #[.slice t_Columns_p t_Columns_n t_Columns_c], .int .i64 p] (allocW u13 hole) (fun e u14 => ∃ (x450q_Columns_p : Option Addr) (x450q_Columns_n x450q_Columns_c : Nat) (x451 : Int), e = .returned (.tuple #[.agg #[.slice x450q_Columns_p x450q_Columns_n x450q_Columns_c], .int .i64 x451]) ∧
              Spec Try.prog 45 #[.agg #[.slice x250q_Columns_p x250q_Columns_n x250q_Columns_c], .agg #[.slice x330q_Columns_p x330q_Columns_n x330q_Columns_c]] (drewW (allocW u14 hole)) (fun e u15 => ∃ (x50 : Bool), e = .returned (.bool x50) ∧
                        ((x50 = true → (((decide (x251 = x331)) = true → Spec Try.prog 45 #[.agg #[.slice x390q_Columns_p x390q_Columns_n x390q_Columns_c], .agg #[.slice x450q_Columns_p x450q_Columns_n x450q_Columns_c]] u15 (fun e u16 => ∃ (x59 : Bool), e = .returned (.bool x59) ∧
                                  ((x59 = true → (((decide (x391 = x451)) = true → Spec Try.prog 46 #[.agg #[.slice x19q_Columns_p x19q_Columns_n x19q_Columns_c]] u16 (fun e u17 => ∃ (x68 : Bool), e = .returned (.bool x68) ∧
                                    Spec Try.prog 47 #[.agg #[.slice t_Columns_p t_Columns_n t_Columns_c]] u17 (fun e u18 => ∃ (x70 : Bool), e = .returned (.bool x70) ∧
                                          (((x68 == x70) = true → Spec Try.prog 24 #[.agg #[.slice x19q_Columns_p x19q_Columns_n x19q_Columns_c], .int .i64 p] u18 (fun e u19 => ∃ (x76 : Bool), e = .returned (.bool x76) ∧
                                            Spec Try.prog 48 #[.agg #[.slice t_Columns_p t_Columns_n t_Columns_c], .int .i64 p] u19 (fun e u110 => ∃ (x79 : Bool), e = .returned (.bool x79) ∧
                                                  (((x76 == x79) = true → Spec Try.prog 45 #[.agg #[.slice x19q_Columns_p x19q_Columns_n x19q_Columns_c], .agg #[.slice t_Columns_p t_Columns_n t_Columns_c]] u110 (fun e u111 => ∃ (x85 : Bool), e = .returned (.bool x85) ∧
                                                        ((x85 = true → Spec Try.prog 22 #[] u111 (fun e u112 => ∃ (x88 : Bool), e = .returned (.bool x88) ∧
                                              R (.returned (.bool x88)) u112)) ∧ (x85 = false → R (.returned (.bool false)) u111)))) ∧
                                      ((x76 == x79) = false → R (.returned (.bool false)) u110))))) ∧
                              ((x68 == x70) = false → R (.returned (.bool false)) u18))))) ∧
                          ((decide (x391 = x451)) = false → R (.returned (.bool false)) u16))) ∧
                      (x59 = false → R (.returned (.bool false)) u16)))) ∧ ((decide (x251 = x331)) = false →
  R (.returned (.bool false)) u15))) ∧ (x50 = false → R (.returned (.bool false)) u15))))))))
set_option maxRecDepth 100000 in
theorem vc_fenestralaw_TilesSplits_eq (t_Columns_p : Option Addr) (t_Columns_n t_Columns_c : Nat) (p : Int) (n : Int) (right : Bool) (u : World) (R : Ending → World → Prop) : wFunc cx_fenestralaw_TilesSplits Try.f12 [.agg #[.slice t_Columns_p t_Columns_n t_Columns_c], .int .i64 p, .int .i64 n, .bool right] u R = vc_fenestralaw_TilesSplits t_Columns_p t_Columns_n t_Columns_c p n right u R := by kernel_rfl
theorem vc_fenestralaw_TilesSplits_spec (t_Columns_p : Option Addr) (t_Columns_n t_Columns_c : Nat) (p : Int) (n : Int) (right : Bool) {u : World} {R : Ending → World → Prop} (h : vc_fenestralaw_TilesSplits t_Columns_p t_Columns_n t_Columns_c p n right u R) : Spec Try.prog fn_fenestralaw_TilesSplits #[.agg #[.slice t_Columns_p t_Columns_n t_Columns_c], .int .i64 p, .int .i64 n, .bool right] u R := func_spec (C := cx_fenestralaw_TilesSplits) (fn := Try.f12) (args := [.agg #[.slice t_Columns_p t_Columns_n t_Columns_c], .int .i64 p, .int .i64 n, .bool right]) (ctxOk _ _ _ _ _) Try.func12 (vc_fenestralaw_TilesSplits_eq t_Columns_p t_Columns_n t_Columns_c p n right u R) h

end Go.Proofs.Ytkmmphkjmamckab
