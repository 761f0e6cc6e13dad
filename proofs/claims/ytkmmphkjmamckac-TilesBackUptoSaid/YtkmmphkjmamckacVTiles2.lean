import Derived.Test.YtkmmphkjmamckacCtx
namespace Go.Proofs.Ytkmmphkjmamckac
open Go
set_option linter.all false

/-- fenestra/tiles.own -/
noncomputable def cx_tiles_own : Ctx := ⟨Try.prog, tab, [], [], [], fns, [(3, ⟨[.keep, .keep, .keep, .keep, .keep, .junk, .keep, .keep, .keep, .cell (.int .i64), .junk, .junk, .junk, .junk, .junk, .junk, .junk, .junk, .junk, .junk, .junk, .keep], [.keep, .keep, .cells [.slice]]⟩)], []⟩
def vc_tiles_own (t_Columns_p : Option Addr) (t_Columns_n t_Columns_c : Nat) (u : World) (R : Ending → World → Prop) : Prop :=
    ∃ (I_ : Int → Option Addr → Nat → Nat → World → Prop) (M_ : Int →
    Option Addr → Nat → Nat → World → Nat), ((Loc.mk 24 false ([.slice t_Columns_p t_Columns_n t_Columns_c])) = (Loc.mk 24 false ([.slice t_Columns_p t_Columns_n t_Columns_c])) ∧
    (Loc.mk 24 false ([.slice none 0 0])) = (Loc.mk 24 false ([.slice none 0 0])) ∧
  I_ 0 none 0 0 (allocW (allocW (allocW u hole) hole) hole)) ∧ ∀ (x9 : Int) (out_Columns_p : Option Addr) (out_Columns_n out_Columns_c : Nat), (Loc.mk 24 false ([.slice t_Columns_p t_Columns_n t_Columns_c])) = (Loc.mk 24 false ([.slice t_Columns_p t_Columns_n t_Columns_c])) ∧
  (Loc.mk 24 false ([.slice none 0 0])) = (Loc.mk 24 false ([.slice none 0 0])) ∧
  ∀ u1 : World, I_ x9 out_Columns_p out_Columns_n out_Columns_c u1 →
      (((decide (x9 < ((t_Columns_n : Nat) : Int))) = true → ∃ b o, t_Columns_p = some ⟨b, o, none⟩ ∧
      0 ≤ x9 ∧ x9 < ((t_Columns_n : Nat) : Int) ∧ ∃ (x12q_p : Option Addr) (x12q_n x12q_c : Nat), 1 = ([.slice x12q_p x12q_n x12q_c] : List Value).length ∧
        Rd u1 b (o + x9.toNat * 1) ([.slice x12q_p x12q_n x12q_c]) ∧ Spec Try.prog 19 #[.slice x12q_p x12q_n x12q_c] (drewW u1) (fun e u11 => ∃ (x16q_p : Option Addr) (x16q_n x16q_c : Nat), e = .returned (.slice x16q_p x16q_n x16q_c) ∧
        ∃ old new : List Value, old.length = out_Columns_n * 1 ∧ Gets (allocW u11 (.cells #[.slice x16q_p x16q_n x16q_c] 33)) out_Columns_p old ∧
        new.length = 1 * 1 ∧ Gets (allocW u11 (.cells #[.slice x16q_p x16q_n x16q_c] 33)) (some (Addr.mk u11.heap.size 0 none)) new ∧
        0 < 24 ∧ (2 * (out_Columns_n + 1) + 192) * 24 ≤ 140737488355328 ∧
        okCells new True ∧ (out_Columns_n + 1 ≤ out_Columns_c → WrS (allocW u11 (.cells #[.slice x16q_p x16q_n x16q_c] 33)) out_Columns_p (out_Columns_n * 1) (1 * 1)) ∧
        ∀ p cap u12, AppR (allocW u11 (.cells #[.slice x16q_p x16q_n x16q_c] 33)) 33 1 [.slice none 0 0] out_Columns_p out_Columns_n out_Columns_c 1 old new p cap u12 →
        inK .i64 (x9 + 1) ∧ (Loc.mk 24 false ([.slice t_Columns_p t_Columns_n t_Columns_c])) = (Loc.mk 24 false ([.slice t_Columns_p t_Columns_n t_Columns_c])) ∧
        (Loc.mk 24 false ([.slice none 0 0])) = (Loc.mk 24 false ([.slice none 0 0])) ∧
        I_ (x9 + 1) p (out_Columns_n + 1) cap u12 ∧ (Loc.mk 24 false ([.slice t_Columns_p t_Columns_n t_Columns_c])) = (Loc.mk 24 false ([.slice t_Columns_p t_Columns_n t_Columns_c])) ∧
        (Loc.mk 24 false ([.slice none 0 0])) = (Loc.mk 24 false ([.slice none 0 0])) ∧
    M_ (x9 + 1) p (out_Columns_n + 1) cap u12 < M_ x9 out_Columns_p out_Columns_n out_Columns_c u1)) ∧
  ((decide (x9 < ((t_Columns_n : Nat) : Int))) = false → R (.returned (.agg #[.slice out_Columns_p out_Columns_n out_Columns_c])) u1))
set_option maxRecDepth 100000 in
theorem vc_tiles_own_eq (t_Columns_p : Option Addr) (t_Columns_n t_Columns_c : Nat) (u : World) (R : Ending → World → Prop) : wFunc cx_tiles_own Try.f12 [.agg #[.slice t_Columns_p t_Columns_n t_Columns_c]] u R = vc_tiles_own t_Columns_p t_Columns_n t_Columns_c u R := by kernel_rfl
theorem vc_tiles_own_spec (t_Columns_p : Option Addr) (t_Columns_n t_Columns_c : Nat) {u : World} {R : Ending → World → Prop} (h : vc_tiles_own t_Columns_p t_Columns_n t_Columns_c u R) : Spec Try.prog fn_tiles_own #[.agg #[.slice t_Columns_p t_Columns_n t_Columns_c]] u R := func_spec (C := cx_tiles_own) (fn := Try.f12) (args := [.agg #[.slice t_Columns_p t_Columns_n t_Columns_c]]) (ctxOk _ _ _ _ _) Try.func12 (vc_tiles_own_eq t_Columns_p t_Columns_n t_Columns_c u R) h

/-- fenestra/tiles.Split -/
noncomputable def cx_tiles_Split : Ctx := ⟨Try.prog, tab, [], [], [], fns, [], []⟩
def vc_tiles_Split (t_Columns_p : Option Addr) (t_Columns_n t_Columns_c : Nat) (p : Int) (n : Int) (right : Bool) (u : World) (R : Ending → World → Prop) : Prop :=
    Spec Try.prog 10 #[.agg #[.slice t_Columns_p t_Columns_n t_Columns_c], .int .i64 p] (allocW (allocW u hole) hole) (fun e u1 => ∃ (x160 : Int) (x161 : Int) (x162 : Bool), e = .returned (.tuple #[.int .i64 x160, .int .i64 x161, .bool x162]) ∧
      Spec Try.prog 7 #[.agg #[.slice t_Columns_p t_Columns_n t_Columns_c]] u1 (fun e u11 => ∃ (x22 : Bool), e = .returned (.bool x22) ∧
        (((!x22) = true → R (.returned (.tuple #[.agg #[.slice t_Columns_p t_Columns_n t_Columns_c], .int .i64 1])) u11) ∧
            ((!x22) = false → Spec Try.prog 11 #[.int .i64 n] u11 (fun e u12 => ∃ (x26 : Bool), e = .returned (.bool x26) ∧
              (((!x26) = true → R (.returned (.tuple #[.agg #[.slice t_Columns_p t_Columns_n t_Columns_c], .int .i64 1])) u12) ∧
                  ((!x26) = false → (((!x162) = true → R (.returned (.tuple #[.agg #[.slice t_Columns_p t_Columns_n t_Columns_c], .int .i64 3])) u12) ∧
                      ((!x162) = false → Spec Try.prog 8 #[.agg #[.slice t_Columns_p t_Columns_n t_Columns_c], .int .i64 n] u12 (fun e u13 => ∃ (x37 : Bool), e = .returned (.bool x37) ∧
                        ((x37 = true → R (.returned (.tuple #[.agg #[.slice t_Columns_p t_Columns_n t_Columns_c], .int .i64 4])) u13) ∧
                              (x37 = false → (((!right) = true → ∃ b o, t_Columns_p = some ⟨b, o, none⟩ ∧
                              0 ≤ x160 ∧ x160 < ((t_Columns_n : Nat) : Int) ∧ ∃ (x47q_p : Option Addr) (x47q_n x47q_c : Nat), 1 = ([.slice x47q_p x47q_n x47q_c] : List Value).length ∧
                              Rd u13 b (o + x160.toNat * 1) ([.slice x47q_p x47q_n x47q_c]) ∧
                                (((decide ((3 : Int) ≤ ((x47q_n : Nat) : Int))) = true → R (.returned (.tuple #[.agg #[.slice t_Columns_p t_Columns_n t_Columns_c], .int .i64 5])) u13) ∧
                                    ((decide ((3 : Int) ≤ ((x47q_n : Nat) : Int))) = false → Spec Try.prog 12 #[.agg #[.slice t_Columns_p t_Columns_n t_Columns_c]] u13 (fun e u14 => ∃ (x53q_Columns_p : Option Addr) (x53q_Columns_n x53q_Columns_c : Nat), e = .returned (.agg #[.slice x53q_Columns_p x53q_Columns_n x53q_Columns_c]) ∧
                                          ((right = true → inK .i64 (x160 + 1) ∧ Spec Try.prog 13 #[.slice x53q_Columns_p x53q_Columns_n x53q_Columns_c, .int .i64 (x160 + 1), .slice (some (Addr.mk (allocW u14 (.cells #[.int .i64 n] 3)).heap.size 0 none)) 1 1] (allocW (allocW u14 (.cells #[.int .i64 n] 3)) (.cells #[.slice (some (Addr.mk u14.heap.size 0 none)) 1 1] 33)) (fun e u15 => ∃ (x62q_p : Option Addr) (x62q_n x62q_c : Nat), e = .returned (.slice x62q_p x62q_n x62q_c) ∧
                                      R (.returned (.tuple #[.agg #[.slice x62q_p x62q_n x62q_c], .int .i64 0])) u15)) ∧
                                        (right = false → ∃ b1 o1, x53q_Columns_p = some ⟨b1, o1, none⟩ ∧
                                        0 ≤ x160 ∧ x160 < ((x53q_Columns_n : Nat) : Int) ∧ ∃ (x71q_p : Option Addr) (x71q_n x71q_c : Nat), 1 = ([.slice x71q_p x71q_n x71q_c] : List Value).length ∧
                                        Rd (drewW u14) b1 (o1 + x160.toNat * 1) ([.slice x71q_p x71q_n x71q_c]) ∧
                                        inK .i64 (x161 + 1) ∧ Rd (allocW (drewW u14) (.cells #[.int .i64 n] 3)) b1 (o1 + x160.toNat * 1) ([.slice x71q_p x71q_n x71q_c]) ∧
                                          Spec Try.prog 14 #[.slice x71q_p x71q_n x71q_c, .int .i64 (x161 + 1), .slice (some (Addr.mk (drewW u14).heap.size 0 none)) 1 1] (allocW (drewW u14) (.cells #[.int .i64 n] 3)) (fun e u16 => ∃ (x76q_p : Option Addr) (x76q_n x76q_c : Nat), e = .returned (.slice x76q_p x76q_n x76q_c) ∧
                                          ∃ b2 o2, x53q_Columns_p = some ⟨b2, o2, none⟩ ∧ 0 ≤ x160 ∧ x160 < ((x53q_Columns_n : Nat) : Int) ∧
                                          1 = ([.slice x76q_p x76q_n x76q_c] : List Value).length ∧ Wr u16 b2 (o2 + x160.toNat * 1) 1 ∧
                            R (.returned (.tuple #[.agg #[.slice x53q_Columns_p x53q_Columns_n x53q_Columns_c], .int .i64 0])) (putCells u16 b2 (o2 + x160.toNat * 1) ([.slice x76q_p x76q_n x76q_c]))))))))) ∧
                                ((!right) = false → Spec Try.prog 12 #[.agg #[.slice t_Columns_p t_Columns_n t_Columns_c]] u13 (fun e u17 => ∃ (x53q_Columns_p1 : Option Addr) (x53q_Columns_n1 x53q_Columns_c1 : Nat), e = .returned (.agg #[.slice x53q_Columns_p1 x53q_Columns_n1 x53q_Columns_c1]) ∧
                                      ((right = true → inK .i64 (x160 + 1) ∧ Spec Try.prog 13 #[.slice x53q_Columns_p1 x53q_Columns_n1 x53q_Columns_c1, .int .i64 (x160 + 1), .slice (some (Addr.mk (allocW u17 (.cells #[.int .i64 n] 3)).heap.size 0 none)) 1 1] (allocW (allocW u17 (.cells #[.int .i64 n] 3)) (.cells #[.slice (some (Addr.mk u17.heap.size 0 none)) 1 1] 33)) (fun e u18 => ∃ (x62q_p1 : Option Addr) (x62q_n1 x62q_c1 : Nat), e = .returned (.slice x62q_p1 x62q_n1 x62q_c1) ∧
                                  R (.returned (.tuple #[.agg #[.slice x62q_p1 x62q_n1 x62q_c1], .int .i64 0])) u18)) ∧
                                    (right = false → ∃ b3 o3, x53q_Columns_p1 = some ⟨b3, o3, none⟩ ∧
                                    0 ≤ x160 ∧ x160 < ((x53q_Columns_n1 : Nat) : Int) ∧ ∃ (x71q_p1 : Option Addr) (x71q_n1 x71q_c1 : Nat), 1 = ([.slice x71q_p1 x71q_n1 x71q_c1] : List Value).length ∧
                                    Rd (drewW u17) b3 (o3 + x160.toNat * 1) ([.slice x71q_p1 x71q_n1 x71q_c1]) ∧
                                    inK .i64 (x161 + 1) ∧ Rd (allocW (drewW u17) (.cells #[.int .i64 n] 3)) b3 (o3 + x160.toNat * 1) ([.slice x71q_p1 x71q_n1 x71q_c1]) ∧
                                      Spec Try.prog 14 #[.slice x71q_p1 x71q_n1 x71q_c1, .int .i64 (x161 + 1), .slice (some (Addr.mk (drewW u17).heap.size 0 none)) 1 1] (allocW (drewW u17) (.cells #[.int .i64 n] 3)) (fun e u19 => ∃ (x76q_p1 : Option Addr) (x76q_n1 x76q_c1 : Nat), e = .returned (.slice x76q_p1 x76q_n1 x76q_c1) ∧
                                      ∃ b4 o4, x53q_Columns_p1 = some ⟨b4, o4, none⟩ ∧ 0 ≤ x160 ∧ x160 < ((x53q_Columns_n1 : Nat) : Int) ∧
                                      1 = ([.slice x76q_p1 x76q_n1 x76q_c1] : List Value).length ∧ Wr u19 b4 (o4 + x160.toNat * 1) 1 ∧
  R (.returned (.tuple #[.agg #[.slice x53q_Columns_p1 x53q_Columns_n1 x53q_Columns_c1], .int .i64 0])) (putCells u19 b4 (o4 + x160.toNat * 1) ([.slice x76q_p1 x76q_n1 x76q_c1]))))))))))))))))))))
set_option maxRecDepth 100000 in
theorem vc_tiles_Split_eq (t_Columns_p : Option Addr) (t_Columns_n t_Columns_c : Nat) (p : Int) (n : Int) (right : Bool) (u : World) (R : Ending → World → Prop) : wFunc cx_tiles_Split Try.f4 [.agg #[.slice t_Columns_p t_Columns_n t_Columns_c], .int .i64 p, .int .i64 n, .bool right] u R = vc_tiles_Split t_Columns_p t_Columns_n t_Columns_c p n right u R := by kernel_rfl
theorem vc_tiles_Split_spec (t_Columns_p : Option Addr) (t_Columns_n t_Columns_c : Nat) (p : Int) (n : Int) (right : Bool) {u : World} {R : Ending → World → Prop} (h : vc_tiles_Split t_Columns_p t_Columns_n t_Columns_c p n right u R) : Spec Try.prog fn_tiles_Split #[.agg #[.slice t_Columns_p t_Columns_n t_Columns_c], .int .i64 p, .int .i64 n, .bool right] u R := func_spec (C := cx_tiles_Split) (fn := Try.f4) (args := [.agg #[.slice t_Columns_p t_Columns_n t_Columns_c], .int .i64 p, .int .i64 n, .bool right]) (ctxOk _ _ _ _ _) Try.func4 (vc_tiles_Split_eq t_Columns_p t_Columns_n t_Columns_c p n right u R) h

/-- fenestra/tiles.Kill -/
noncomputable def cx_tiles_Kill : Ctx := ⟨Try.prog, tab, [], [], [], fns, [], []⟩
def vc_tiles_Kill (t_Columns_p : Option Addr) (t_Columns_n t_Columns_c : Nat) (p : Int) (u : World) (R : Ending → World → Prop) : Prop :=
    Spec Try.prog 10 #[.agg #[.slice t_Columns_p t_Columns_n t_Columns_c], .int .i64 p] (allocW (allocW u hole) hole) (fun e u1 => ∃ (x120 : Int) (x121 : Int) (x122 : Bool), e = .returned (.tuple #[.int .i64 x120, .int .i64 x121, .bool x122]) ∧
      Spec Try.prog 7 #[.agg #[.slice t_Columns_p t_Columns_n t_Columns_c]] u1 (fun e u11 => ∃ (x18 : Bool), e = .returned (.bool x18) ∧
        (((!x18) = true → R (.returned (.tuple #[.agg #[.slice t_Columns_p t_Columns_n t_Columns_c], .int .i64 1])) u11) ∧
            ((!x18) = false → (((!x122) = true → R (.returned (.tuple #[.agg #[.slice t_Columns_p t_Columns_n t_Columns_c], .int .i64 3])) u11) ∧
                  ((!x122) = false → (((decide (((t_Columns_n : Nat) : Int) = 1)) = true →
                  ∃ b o, t_Columns_p = some ⟨b, o, none⟩ ∧ 0 ≤ (0 : Int) ∧ (0 : Int) < ((t_Columns_n : Nat) : Int) ∧
                  ∃ (x34q_p : Option Addr) (x34q_n x34q_c : Nat), 1 = ([.slice x34q_p x34q_n x34q_c] : List Value).length ∧
                  Rd u11 b (o + (0 : Int).toNat * 1) ([.slice x34q_p x34q_n x34q_c]) ∧
                    (((decide (((x34q_n : Nat) : Int) = 1)) = true → R (.returned (.tuple #[.agg #[.slice t_Columns_p t_Columns_n t_Columns_c], .int .i64 5])) u11) ∧
                        ((decide (((x34q_n : Nat) : Int) = 1)) = false → Spec Try.prog 12 #[.agg #[.slice t_Columns_p t_Columns_n t_Columns_c]] u11 (fun e u12 => ∃ (x40q_Columns_p : Option Addr) (x40q_Columns_n x40q_Columns_c : Nat), e = .returned (.agg #[.slice x40q_Columns_p x40q_Columns_n x40q_Columns_c]) ∧
                        ∃ b1 o1, x40q_Columns_p = some ⟨b1, o1, none⟩ ∧ 0 ≤ x120 ∧ x120 < ((x40q_Columns_n : Nat) : Int) ∧
                        ∃ (x48q_p : Option Addr) (x48q_n x48q_c : Nat), 1 = ([.slice x48q_p x48q_n x48q_c] : List Value).length ∧
                        Rd (drewW u12) b1 (o1 + x120.toNat * 1) ([.slice x48q_p x48q_n x48q_c]) ∧
                          inK .i64 (x121 + 1) ∧ Spec Try.prog 16 #[.slice x48q_p x48q_n x48q_c, .int .i64 x121, .int .i64 (x121 + 1)] (drewW u12) (fun e u13 => ∃ (x52q_p : Option Addr) (x52q_n x52q_c : Nat), e = .returned (.slice x52q_p x52q_n x52q_c) ∧
                          ∃ b2 o2, x40q_Columns_p = some ⟨b2, o2, none⟩ ∧ 0 ≤ x120 ∧ x120 < ((x40q_Columns_n : Nat) : Int) ∧
                          1 = ([.slice x52q_p x52q_n x52q_c] : List Value).length ∧ Wr u13 b2 (o2 + x120.toNat * 1) 1 ∧
                          ∃ b3 o3, x40q_Columns_p = some ⟨b3, o3, none⟩ ∧ 0 ≤ x120 ∧ x120 < ((x40q_Columns_n : Nat) : Int) ∧
                          ∃ (x58q_p : Option Addr) (x58q_n x58q_c : Nat), 1 = ([.slice x58q_p x58q_n x58q_c] : List Value).length ∧
                          Rd (putCells u13 b2 (o2 + x120.toNat * 1) ([.slice x52q_p x52q_n x52q_c])) b3 (o3 + x120.toNat * 1) ([.slice x58q_p x58q_n x58q_c]) ∧
                              (((decide (((x58q_n : Nat) : Int) = 0)) = true → inK .i64 (x120 + 1) ∧
                                Spec Try.prog 17 #[.slice x40q_Columns_p x40q_Columns_n x40q_Columns_c, .int .i64 x120, .int .i64 (x120 + 1)] (putCells u13 b2 (o2 + x120.toNat * 1) ([.slice x52q_p x52q_n x52q_c])) (fun e u14 => ∃ (x66q_p : Option Addr) (x66q_n x66q_c : Nat), e = .returned (.slice x66q_p x66q_n x66q_c) ∧
                            R (.returned (.tuple #[.agg #[.slice x66q_p x66q_n x66q_c], .int .i64 0])) u14)) ∧
                ((decide (((x58q_n : Nat) : Int) = 0)) = false → R (.returned (.tuple #[.agg #[.slice x40q_Columns_p x40q_Columns_n x40q_Columns_c], .int .i64 0])) (putCells u13 b2 (o2 + x120.toNat * 1) ([.slice x52q_p x52q_n x52q_c]))))))))) ∧
                    ((decide (((t_Columns_n : Nat) : Int) = 1)) = false → Spec Try.prog 12 #[.agg #[.slice t_Columns_p t_Columns_n t_Columns_c]] u11 (fun e u15 => ∃ (x40q_Columns_p1 : Option Addr) (x40q_Columns_n1 x40q_Columns_c1 : Nat), e = .returned (.agg #[.slice x40q_Columns_p1 x40q_Columns_n1 x40q_Columns_c1]) ∧
                    ∃ b4 o4, x40q_Columns_p1 = some ⟨b4, o4, none⟩ ∧ 0 ≤ x120 ∧ x120 < ((x40q_Columns_n1 : Nat) : Int) ∧
                    ∃ (x48q_p1 : Option Addr) (x48q_n1 x48q_c1 : Nat), 1 = ([.slice x48q_p1 x48q_n1 x48q_c1] : List Value).length ∧
                    Rd (drewW u15) b4 (o4 + x120.toNat * 1) ([.slice x48q_p1 x48q_n1 x48q_c1]) ∧
                      inK .i64 (x121 + 1) ∧ Spec Try.prog 16 #[.slice x48q_p1 x48q_n1 x48q_c1, .int .i64 x121, .int .i64 (x121 + 1)] (drewW u15) (fun e u16 => ∃ (x52q_p1 : Option Addr) (x52q_n1 x52q_c1 : Nat), e = .returned (.slice x52q_p1 x52q_n1 x52q_c1) ∧
                      ∃ b5 o5, x40q_Columns_p1 = some ⟨b5, o5, none⟩ ∧ 0 ≤ x120 ∧ x120 < ((x40q_Columns_n1 : Nat) : Int) ∧
                      1 = ([.slice x52q_p1 x52q_n1 x52q_c1] : List Value).length ∧ Wr u16 b5 (o5 + x120.toNat * 1) 1 ∧
                      ∃ b6 o6, x40q_Columns_p1 = some ⟨b6, o6, none⟩ ∧ 0 ≤ x120 ∧ x120 < ((x40q_Columns_n1 : Nat) : Int) ∧
                      ∃ (x58q_p1 : Option Addr) (x58q_n1 x58q_c1 : Nat), 1 = ([.slice x58q_p1 x58q_n1 x58q_c1] : List Value).length ∧
                      Rd (putCells u16 b5 (o5 + x120.toNat * 1) ([.slice x52q_p1 x52q_n1 x52q_c1])) b6 (o6 + x120.toNat * 1) ([.slice x58q_p1 x58q_n1 x58q_c1]) ∧
                          (((decide (((x58q_n1 : Nat) : Int) = 0)) = true → inK .i64 (x120 + 1) ∧
                            Spec Try.prog 17 #[.slice x40q_Columns_p1 x40q_Columns_n1 x40q_Columns_c1, .int .i64 x120, .int .i64 (x120 + 1)] (putCells u16 b5 (o5 + x120.toNat * 1) ([.slice x52q_p1 x52q_n1 x52q_c1])) (fun e u17 => ∃ (x66q_p1 : Option Addr) (x66q_n1 x66q_c1 : Nat), e = .returned (.slice x66q_p1 x66q_n1 x66q_c1) ∧
                        R (.returned (.tuple #[.agg #[.slice x66q_p1 x66q_n1 x66q_c1], .int .i64 0])) u17)) ∧
  ((decide (((x58q_n1 : Nat) : Int) = 0)) = false → R (.returned (.tuple #[.agg #[.slice x40q_Columns_p1 x40q_Columns_n1 x40q_Columns_c1], .int .i64 0])) (putCells u16 b5 (o5 + x120.toNat * 1) ([.slice x52q_p1 x52q_n1 x52q_c1]))))))))))))))
set_option maxRecDepth 100000 in
theorem vc_tiles_Kill_eq (t_Columns_p : Option Addr) (t_Columns_n t_Columns_c : Nat) (p : Int) (u : World) (R : Ending → World → Prop) : wFunc cx_tiles_Kill Try.f6 [.agg #[.slice t_Columns_p t_Columns_n t_Columns_c], .int .i64 p] u R = vc_tiles_Kill t_Columns_p t_Columns_n t_Columns_c p u R := by kernel_rfl
theorem vc_tiles_Kill_spec (t_Columns_p : Option Addr) (t_Columns_n t_Columns_c : Nat) (p : Int) {u : World} {R : Ending → World → Prop} (h : vc_tiles_Kill t_Columns_p t_Columns_n t_Columns_c p u R) : Spec Try.prog fn_tiles_Kill #[.agg #[.slice t_Columns_p t_Columns_n t_Columns_c], .int .i64 p] u R := func_spec (C := cx_tiles_Kill) (fn := Try.f6) (args := [.agg #[.slice t_Columns_p t_Columns_n t_Columns_c], .int .i64 p]) (ctxOk _ _ _ _ _) Try.func6 (vc_tiles_Kill_eq t_Columns_p t_Columns_n t_Columns_c p u R) h

end Go.Proofs.Ytkmmphkjmamckac
