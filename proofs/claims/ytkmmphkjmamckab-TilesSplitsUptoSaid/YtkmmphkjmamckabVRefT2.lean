import Derived.Test.YtkmmphkjmamckabCtx
namespace Go.Proofs.Ytkmmphkjmamckab
open Go
set_option linter.all false

/-- fenestra/fenestraref.CopyTiles -/
noncomputable def cx_fenestraref_CopyTiles : Ctx := ⟨Try.prog, tab, [], [], [], fns, [(3, ⟨[.keep, .keep, .keep, .keep, .keep, .junk, .keep, .keep, .keep, .cell (.int .i64), .junk, .junk, .junk, .junk, .junk, .junk, .junk, .junk, .junk, .junk, .junk, .keep], [.keep, .keep, .cells [.slice]]⟩)], []⟩
def vc_fenestraref_CopyTiles (t_Columns_p : Option Addr) (t_Columns_n t_Columns_c : Nat) (u : World) (R : Ending → World → Prop) : Prop :=
    ∃ (I_ : Int → Option Addr → Nat → Nat → World → Prop) (M_ : Int →
    Option Addr → Nat → Nat → World → Nat), ((Loc.mk 41 false ([.slice t_Columns_p t_Columns_n t_Columns_c])) = (Loc.mk 41 false ([.slice t_Columns_p t_Columns_n t_Columns_c])) ∧
    (Loc.mk 41 false ([.slice none 0 0])) = (Loc.mk 41 false ([.slice none 0 0])) ∧
  I_ 0 none 0 0 (allocW (allocW (allocW u hole) hole) hole)) ∧ ∀ (x9 : Int) (out_Columns_p : Option Addr) (out_Columns_n out_Columns_c : Nat), (Loc.mk 41 false ([.slice t_Columns_p t_Columns_n t_Columns_c])) = (Loc.mk 41 false ([.slice t_Columns_p t_Columns_n t_Columns_c])) ∧
  (Loc.mk 41 false ([.slice none 0 0])) = (Loc.mk 41 false ([.slice none 0 0])) ∧
  ∀ u1 : World, I_ x9 out_Columns_p out_Columns_n out_Columns_c u1 →
      (((decide (x9 < ((t_Columns_n : Nat) : Int))) = true → ∃ b o, t_Columns_p = some ⟨b, o, none⟩ ∧
      0 ≤ x9 ∧ x9 < ((t_Columns_n : Nat) : Int) ∧ ∃ (x12q_p : Option Addr) (x12q_n x12q_c : Nat), 1 = ([.slice x12q_p x12q_n x12q_c] : List Value).length ∧
      Rd u1 b (o + x9.toNat * 1) ([.slice x12q_p x12q_n x12q_c]) ∧ ∃ old new : List Value, old.length = 0 * 1 ∧
      Gets (drewW u1) none old ∧ new.length = x12q_n * 1 ∧ Gets (drewW u1) x12q_p new ∧
      0 < 8 ∧ (2 * (0 + x12q_n) + 192) * 8 ≤ 140737488355328 ∧ okCells new True ∧
      (0 + x12q_n ≤ 0 → WrS (drewW u1) none (0 * 1) (x12q_n * 1)) ∧ ∀ p cap u11, AppR (drewW u1) 3 1 [.int .i64 0] none 0 0 x12q_n old new p cap u11 →
      ∃ old1 new1 : List Value, old1.length = out_Columns_n * 1 ∧ Gets (allocW u11 (.cells #[.slice p (0 + x12q_n) cap] 28)) out_Columns_p old1 ∧
      new1.length = 1 * 1 ∧ Gets (allocW u11 (.cells #[.slice p (0 + x12q_n) cap] 28)) (some (Addr.mk u11.heap.size 0 none)) new1 ∧
      0 < 24 ∧ (2 * (out_Columns_n + 1) + 192) * 24 ≤ 140737488355328 ∧
      okCells new1 True ∧ (out_Columns_n + 1 ≤ out_Columns_c → WrS (allocW u11 (.cells #[.slice p (0 + x12q_n) cap] 28)) out_Columns_p (out_Columns_n * 1) (1 * 1)) ∧
      ∀ p1 cap1 u12, AppR (allocW u11 (.cells #[.slice p (0 + x12q_n) cap] 28)) 28 1 [.slice none 0 0] out_Columns_p out_Columns_n out_Columns_c 1 old1 new1 p1 cap1 u12 →
      inK .i64 (x9 + 1) ∧ (Loc.mk 41 false ([.slice t_Columns_p t_Columns_n t_Columns_c])) = (Loc.mk 41 false ([.slice t_Columns_p t_Columns_n t_Columns_c])) ∧
      (Loc.mk 41 false ([.slice none 0 0])) = (Loc.mk 41 false ([.slice none 0 0])) ∧
      I_ (x9 + 1) p1 (out_Columns_n + 1) cap1 u12 ∧ (Loc.mk 41 false ([.slice t_Columns_p t_Columns_n t_Columns_c])) = (Loc.mk 41 false ([.slice t_Columns_p t_Columns_n t_Columns_c])) ∧
      (Loc.mk 41 false ([.slice none 0 0])) = (Loc.mk 41 false ([.slice none 0 0])) ∧
    M_ (x9 + 1) p1 (out_Columns_n + 1) cap1 u12 < M_ x9 out_Columns_p out_Columns_n out_Columns_c u1) ∧
  ((decide (x9 < ((t_Columns_n : Nat) : Int))) = false → R (.returned (.agg #[.slice out_Columns_p out_Columns_n out_Columns_c])) u1))
set_option maxRecDepth 100000 in
theorem vc_fenestraref_CopyTiles_eq (t_Columns_p : Option Addr) (t_Columns_n t_Columns_c : Nat) (u : World) (R : Ending → World → Prop) : wFunc cx_fenestraref_CopyTiles Try.f20 [.agg #[.slice t_Columns_p t_Columns_n t_Columns_c]] u R = vc_fenestraref_CopyTiles t_Columns_p t_Columns_n t_Columns_c u R := by kernel_rfl
theorem vc_fenestraref_CopyTiles_spec (t_Columns_p : Option Addr) (t_Columns_n t_Columns_c : Nat) {u : World} {R : Ending → World → Prop} (h : vc_fenestraref_CopyTiles t_Columns_p t_Columns_n t_Columns_c u R) : Spec Try.prog fn_fenestraref_CopyTiles #[.agg #[.slice t_Columns_p t_Columns_n t_Columns_c]] u R := func_spec (C := cx_fenestraref_CopyTiles) (fn := Try.f20) (args := [.agg #[.slice t_Columns_p t_Columns_n t_Columns_c]]) (ctxOk _ _ _ _ _) Try.func20 (vc_fenestraref_CopyTiles_eq t_Columns_p t_Columns_n t_Columns_c u R) h

/-- fenestra/fenestraref.SameTiles -/
noncomputable def cx_fenestraref_SameTiles : Ctx := ⟨Try.prog, tab, [], [], [], fns, [(4, ⟨[.keep, .keep, .keep, .keep, .junk, .junk, .keep, .keep, .keep, .keep, .keep, .keep, .keep, .keep, .keep, .keep, .cell (.int .i64), .junk, .junk, .junk, .junk, .junk, .junk, .junk, .junk, .junk, .junk, .junk, .junk, .junk, .junk, .junk], [.keep, .keep]⟩)], []⟩
def vc_fenestraref_SameTiles (a_Columns_p : Option Addr) (a_Columns_n a_Columns_c : Nat) (b_Columns_p : Option Addr) (b_Columns_n b_Columns_c : Nat) (u : World) (R : Ending → World → Prop) : Prop :=
      (((!decide (((a_Columns_n : Nat) : Int) = ((b_Columns_n : Nat) : Int))) = true →
      R (.returned (.bool false)) (allocW (allocW u hole) hole)) ∧ ((!decide (((a_Columns_n : Nat) : Int) = ((b_Columns_n : Nat) : Int))) = false →
        ∃ (I_ : Int → World → Prop) (M_ : Int → World → Nat), ((Loc.mk 41 false ([.slice a_Columns_p a_Columns_n a_Columns_c])) = (Loc.mk 41 false ([.slice a_Columns_p a_Columns_n a_Columns_c])) ∧
        (Loc.mk 41 false ([.slice b_Columns_p b_Columns_n b_Columns_c])) = (Loc.mk 41 false ([.slice b_Columns_p b_Columns_n b_Columns_c])) ∧
      I_ 0 (allocW (allocW u hole) hole)) ∧ ∀ (x16 : Int), (Loc.mk 41 false ([.slice a_Columns_p a_Columns_n a_Columns_c])) = (Loc.mk 41 false ([.slice a_Columns_p a_Columns_n a_Columns_c])) ∧
      (Loc.mk 41 false ([.slice b_Columns_p b_Columns_n b_Columns_c])) = (Loc.mk 41 false ([.slice b_Columns_p b_Columns_n b_Columns_c])) ∧
          ∀ u1 : World, I_ x16 u1 → (((decide (x16 < ((a_Columns_n : Nat) : Int))) = true →
          ∃ b o, a_Columns_p = some ⟨b, o, none⟩ ∧ 0 ≤ x16 ∧ x16 < ((a_Columns_n : Nat) : Int) ∧
          ∃ (x23q_p : Option Addr) (x23q_n x23q_c : Nat), 1 = ([.slice x23q_p x23q_n x23q_c] : List Value).length ∧
          Rd (drewW u1) b (o + x16.toNat * 1) ([.slice x23q_p x23q_n x23q_c]) ∧
          ∃ b1 o1, b_Columns_p = some ⟨b1, o1, none⟩ ∧ 0 ≤ x16 ∧ x16 < ((b_Columns_n : Nat) : Int) ∧
          ∃ (x28q_p : Option Addr) (x28q_n x28q_c : Nat), 1 = ([.slice x28q_p x28q_n x28q_c] : List Value).length ∧
          Rd (drewW u1) b1 (o1 + x16.toNat * 1) ([.slice x28q_p x28q_n x28q_c]) ∧
            Spec Try.prog 71 #[.slice x23q_p x23q_n x23q_c, .slice x28q_p x28q_n x28q_c] (drewW u1) (fun e u11 => ∃ (x29 : Bool), e = .returned (.bool x29) ∧
                (((!x29) = true → R (.returned (.bool false)) u11) ∧ ((!x29) = false →
                inK .i64 (x16 + 1) ∧ (Loc.mk 41 false ([.slice a_Columns_p a_Columns_n a_Columns_c])) = (Loc.mk 41 false ([.slice a_Columns_p a_Columns_n a_Columns_c])) ∧
                (Loc.mk 41 false ([.slice b_Columns_p b_Columns_n b_Columns_c])) = (Loc.mk 41 false ([.slice b_Columns_p b_Columns_n b_Columns_c])) ∧
                I_ (x16 + 1) u11 ∧ (Loc.mk 41 false ([.slice a_Columns_p a_Columns_n a_Columns_c])) = (Loc.mk 41 false ([.slice a_Columns_p a_Columns_n a_Columns_c])) ∧
                (Loc.mk 41 false ([.slice b_Columns_p b_Columns_n b_Columns_c])) = (Loc.mk 41 false ([.slice b_Columns_p b_Columns_n b_Columns_c])) ∧
          M_ (x16 + 1) u11 < M_ x16 u1)))) ∧ ((decide (x16 < ((a_Columns_n : Nat) : Int))) = false →
  R (.returned (.bool true)) u1))))
set_option maxRecDepth 100000 in
theorem vc_fenestraref_SameTiles_eq (a_Columns_p : Option Addr) (a_Columns_n a_Columns_c : Nat) (b_Columns_p : Option Addr) (b_Columns_n b_Columns_c : Nat) (u : World) (R : Ending → World → Prop) : wFunc cx_fenestraref_SameTiles Try.f45 [.agg #[.slice a_Columns_p a_Columns_n a_Columns_c], .agg #[.slice b_Columns_p b_Columns_n b_Columns_c]] u R = vc_fenestraref_SameTiles a_Columns_p a_Columns_n a_Columns_c b_Columns_p b_Columns_n b_Columns_c u R := by kernel_rfl
theorem vc_fenestraref_SameTiles_spec (a_Columns_p : Option Addr) (a_Columns_n a_Columns_c : Nat) (b_Columns_p : Option Addr) (b_Columns_n b_Columns_c : Nat) {u : World} {R : Ending → World → Prop} (h : vc_fenestraref_SameTiles a_Columns_p a_Columns_n a_Columns_c b_Columns_p b_Columns_n b_Columns_c u R) : Spec Try.prog fn_fenestraref_SameTiles #[.agg #[.slice a_Columns_p a_Columns_n a_Columns_c], .agg #[.slice b_Columns_p b_Columns_n b_Columns_c]] u R := func_spec (C := cx_fenestraref_SameTiles) (fn := Try.f45) (args := [.agg #[.slice a_Columns_p a_Columns_n a_Columns_c], .agg #[.slice b_Columns_p b_Columns_n b_Columns_c]]) (ctxOk _ _ _ _ _) Try.func45 (vc_fenestraref_SameTiles_eq a_Columns_p a_Columns_n a_Columns_c b_Columns_p b_Columns_n b_Columns_c u R) h

/-- fenestra/fenestraref.HasPane -/
noncomputable def cx_fenestraref_HasPane : Ctx := ⟨Try.prog, tab, [], [], [], fns, [(2, ⟨[.keep, .keep, .keep, .keep, .junk, .keep, .junk, .keep, .keep, .keep, .cell (.int .i64), .junk, .junk, .junk, .junk, .junk, .junk, .junk], [.keep]⟩)], []⟩
def vc_fenestraref_HasPane (t_Columns_p : Option Addr) (t_Columns_n t_Columns_c : Nat) (p : Int) (u : World) (R : Ending → World → Prop) : Prop :=
    Spec Try.prog 70 #[.agg #[.slice t_Columns_p t_Columns_n t_Columns_c]] (allocW u hole) (fun e u1 => ∃ (x8q_p : Option Addr) (x8q_n x8q_c : Nat), e = .returned (.slice x8q_p x8q_n x8q_c) ∧
      ∃ (I_ : Int → World → Prop) (M_ : Int → World → Nat), ((Loc.mk 41 false ([.slice t_Columns_p t_Columns_n t_Columns_c])) = (Loc.mk 41 false ([.slice t_Columns_p t_Columns_n t_Columns_c])) ∧
    I_ 0 u1) ∧ ∀ (x10 : Int), (Loc.mk 41 false ([.slice t_Columns_p t_Columns_n t_Columns_c])) = (Loc.mk 41 false ([.slice t_Columns_p t_Columns_n t_Columns_c])) ∧
        ∀ u11 : World, I_ x10 u11 → (((decide (x10 < ((x8q_n : Nat) : Int))) = true →
        ∃ b o, x8q_p = some ⟨b, o, none⟩ ∧ 0 ≤ x10 ∧ x10 < ((x8q_n : Nat) : Int) ∧
        ∃ (x13 : Int), 1 = ([.int .i64 x13] : List Value).length ∧ Rd u11 b (o + x10.toNat * 1) ([.int .i64 x13]) ∧
          (((decide (p = x13)) = true → R (.returned (.bool true)) u11) ∧
            ((decide (p = x13)) = false → inK .i64 (x10 + 1) ∧ (Loc.mk 41 false ([.slice t_Columns_p t_Columns_n t_Columns_c])) = (Loc.mk 41 false ([.slice t_Columns_p t_Columns_n t_Columns_c])) ∧
            I_ (x10 + 1) u11 ∧ (Loc.mk 41 false ([.slice t_Columns_p t_Columns_n t_Columns_c])) = (Loc.mk 41 false ([.slice t_Columns_p t_Columns_n t_Columns_c])) ∧
        M_ (x10 + 1) u11 < M_ x10 u11))) ∧ ((decide (x10 < ((x8q_n : Nat) : Int))) = false →
  R (.returned (.bool false)) u11)))
set_option maxRecDepth 100000 in
theorem vc_fenestraref_HasPane_eq (t_Columns_p : Option Addr) (t_Columns_n t_Columns_c : Nat) (p : Int) (u : World) (R : Ending → World → Prop) : wFunc cx_fenestraref_HasPane Try.f48 [.agg #[.slice t_Columns_p t_Columns_n t_Columns_c], .int .i64 p] u R = vc_fenestraref_HasPane t_Columns_p t_Columns_n t_Columns_c p u R := by kernel_rfl
theorem vc_fenestraref_HasPane_spec (t_Columns_p : Option Addr) (t_Columns_n t_Columns_c : Nat) (p : Int) {u : World} {R : Ending → World → Prop} (h : vc_fenestraref_HasPane t_Columns_p t_Columns_n t_Columns_c p u R) : Spec Try.prog fn_fenestraref_HasPane #[.agg #[.slice t_Columns_p t_Columns_n t_Columns_c], .int .i64 p] u R := func_spec (C := cx_fenestraref_HasPane) (fn := Try.f48) (args := [.agg #[.slice t_Columns_p t_Columns_n t_Columns_c], .int .i64 p]) (ctxOk _ _ _ _ _) Try.func48 (vc_fenestraref_HasPane_eq t_Columns_p t_Columns_n t_Columns_c p u R) h

/-- fenestra/fenestraref.SplitTiles -/
noncomputable def cx_fenestraref_SplitTiles : Ctx := ⟨Try.prog, tab, [], [], [], fns, [(9, ⟨[.keep, .keep, .keep, .keep, .keep, .keep, .keep, .keep, .keep, .junk, .keep, .keep, .junk, .junk, .junk, .keep, .junk, .keep, .keep, .keep, .keep, .keep, .keep, .keep, .keep, .keep, .keep, .keep, .keep, .keep, .keep, .keep, .keep, .keep, .keep, .keep, .keep, .keep, .cell (.int .i64), .junk, .junk, .junk, .junk, .junk, .junk, .junk, .junk, .junk, .junk, .junk, .junk, .junk, .junk, .junk, .junk, .junk, .junk, .junk, .junk, .junk, .junk, .junk, .junk, .junk, .junk, .junk, .junk, .junk, .junk, .junk, .junk, .junk, .junk, .junk, .junk, .junk, .junk, .junk, .junk, .junk, .junk, .junk, .junk, .junk, .keep], [.keep, .cells [.slice], .cells [.slice]]⟩), (14, ⟨[.keep, .keep, .keep, .keep, .keep, .keep, .keep, .keep, .keep, .keep, .keep, .keep, .keep, .cell .slice, .cell .bool, .keep, .junk, .keep, .keep, .keep, .keep, .keep, .keep, .keep, .keep, .keep, .keep, .keep, .keep, .keep, .keep, .keep, .keep, .keep, .keep, .keep, .keep, .keep, .keep, .keep, .keep, .keep, .keep, .keep, .cell (.int .i64), .junk, .junk, .junk, .junk, .junk, .junk, .junk, .junk, .junk, .junk, .junk, .junk, .junk, .junk, .junk, .junk, .junk, .keep, .keep, .keep, .keep, .keep, .keep, .keep, .keep, .keep, .keep, .keep, .keep, .keep, .keep, .keep, .keep, .keep, .keep, .keep, .keep, .keep, .keep, .keep], [.keep, .keep, .keep]⟩)], []⟩
def vc_fenestraref_SplitTiles (t_Columns_p : Option Addr) (t_Columns_n t_Columns_c : Nat) (p : Int) (n : Int) (right : Bool) (u : World) (R : Ending → World → Prop) : Prop :=
    Spec Try.prog 47 #[.agg #[.slice t_Columns_p t_Columns_n t_Columns_c]] (allocW (allocW u hole) hole) (fun e u1 => ∃ (x18 : Bool), e = .returned (.bool x18) ∧
      (((!x18) = true → R (.returned (.tuple #[.agg #[.slice t_Columns_p t_Columns_n t_Columns_c], .int .i64 1])) u1) ∧
          ((!x18) = false → Spec Try.prog 67 #[.int .i64 n] u1 (fun e u11 => ∃ (x22 : Bool), e = .returned (.bool x22) ∧
            (((!x22) = true → R (.returned (.tuple #[.agg #[.slice t_Columns_p t_Columns_n t_Columns_c], .int .i64 1])) u11) ∧
                ((!x22) = false → Spec Try.prog 48 #[.agg #[.slice t_Columns_p t_Columns_n t_Columns_c], .int .i64 p] u11 (fun e u12 => ∃ (x28 : Bool), e = .returned (.bool x28) ∧
                  (((!x28) = true → R (.returned (.tuple #[.agg #[.slice t_Columns_p t_Columns_n t_Columns_c], .int .i64 3])) u12) ∧
                      ((!x28) = false → Spec Try.prog 48 #[.agg #[.slice t_Columns_p t_Columns_n t_Columns_c], .int .i64 n] u12 (fun e u13 => ∃ (x33 : Bool), e = .returned (.bool x33) ∧
                        ((x33 = true → R (.returned (.tuple #[.agg #[.slice t_Columns_p t_Columns_n t_Columns_c], .int .i64 4])) u13) ∧
                            (x33 = false → ∃ (I_ : Int → Option Addr → Nat → Nat → Option Addr →
                            Nat → Nat → World → Prop) (M_ : Int → Option Addr → Nat → Nat →
                            Option Addr → Nat → Nat → World → Nat), ((Loc.mk 41 false ([.slice t_Columns_p t_Columns_n t_Columns_c])) = (Loc.mk 41 false ([.slice t_Columns_p t_Columns_n t_Columns_c])) ∧
                          I_ 0 none 0 0 none 0 0 (allocW u13 hole)) ∧ ∀ (x38 : Int) (x8q_Columns_p : Option Addr) (x8q_Columns_n x8q_Columns_c : Nat) (out_Columns_p : Option Addr) (out_Columns_n out_Columns_c : Nat), (Loc.mk 41 false ([.slice t_Columns_p t_Columns_n t_Columns_c])) = (Loc.mk 41 false ([.slice t_Columns_p t_Columns_n t_Columns_c])) ∧
                          ∀ u14 : World, I_ x38 x8q_Columns_p x8q_Columns_n x8q_Columns_c out_Columns_p out_Columns_n out_Columns_c u14 →
                              (((decide (x38 < ((t_Columns_n : Nat) : Int))) = true → ∃ b o, t_Columns_p = some ⟨b, o, none⟩ ∧
                              0 ≤ x38 ∧ x38 < ((t_Columns_n : Nat) : Int) ∧ ∃ (x41q_p : Option Addr) (x41q_n x41q_c : Nat), 1 = ([.slice x41q_p x41q_n x41q_c] : List Value).length ∧
                              Rd u14 b (o + x38.toNat * 1) ([.slice x41q_p x41q_n x41q_c]) ∧
                                ∃ (I_1 : Option Addr → Nat → Nat → Bool → Int → World → Prop) (M_1 : Option Addr →
                                Nat → Nat → Bool → Int → World → Nat), ((Loc.mk 41 false ([.slice t_Columns_p t_Columns_n t_Columns_c])) = (Loc.mk 41 false ([.slice t_Columns_p t_Columns_n t_Columns_c])) ∧
                                (Loc.mk 41 false ([.slice x8q_Columns_p x8q_Columns_n x8q_Columns_c])) = (Loc.mk 41 false ([.slice x8q_Columns_p x8q_Columns_n x8q_Columns_c])) ∧
                                (Loc.mk 41 false ([.slice out_Columns_p out_Columns_n out_Columns_c])) = (Loc.mk 41 false ([.slice out_Columns_p out_Columns_n out_Columns_c])) ∧
                              I_1 none 0 0 false 0 u14) ∧ ∀ (col_p : Option Addr) (col_n col_c : Nat) (here : Bool) (x44 : Int), (Loc.mk 41 false ([.slice t_Columns_p t_Columns_n t_Columns_c])) = (Loc.mk 41 false ([.slice t_Columns_p t_Columns_n t_Columns_c])) ∧
                              (Loc.mk 41 false ([.slice x8q_Columns_p x8q_Columns_n x8q_Columns_c])) = (Loc.mk 41 false ([.slice x8q_Columns_p x8q_Columns_n x8q_Columns_c])) ∧
                              (Loc.mk 41 false ([.slice out_Columns_p out_Columns_n out_Columns_c])) = (Loc.mk 41 false ([.slice out_Columns_p out_Columns_n out_Columns_c])) ∧
                                  ∀ u15 : World, I_1 col_p col_n col_c here x44 u15 → (((decide (x44 < ((x41q_n : Nat) : Int))) = true →
                                  ∃ b1 o1, x41q_p = some ⟨b1, o1, none⟩ ∧ 0 ≤ x44 ∧ x44 < ((x41q_n : Nat) : Int) ∧
                                  ∃ (x47 : Int), 1 = ([.int .i64 x47] : List Value).length ∧ Rd u15 b1 (o1 + x44.toNat * 1) ([.int .i64 x47]) ∧
                                  ∃ old new : List Value, old.length = col_n * 1 ∧ Gets (allocW u15 (.cells #[.int .i64 x47] 3)) col_p old ∧
                                  new.length = 1 * 1 ∧ Gets (allocW u15 (.cells #[.int .i64 x47] 3)) (some (Addr.mk u15.heap.size 0 none)) new ∧
                                  0 < 8 ∧ (2 * (col_n + 1) + 192) * 8 ≤ 140737488355328 ∧ okCells new True ∧
                                  (col_n + 1 ≤ col_c → WrS (allocW u15 (.cells #[.int .i64 x47] 3)) col_p (col_n * 1) (1 * 1)) ∧
                                  ∀ p1 cap u16, AppR (allocW u15 (.cells #[.int .i64 x47] 3)) 3 1 [.int .i64 0] col_p col_n col_c 1 old new p1 cap u16 →
                                          (((decide (x47 = p)) = true → (((!right) = true → ∃ old1 new1 : List Value, old1.length = (col_n + 1) * 1 ∧
                                          Gets (allocW u16 (.cells #[.int .i64 n] 3)) p1 old1 ∧ new1.length = 1 * 1 ∧
                                          Gets (allocW u16 (.cells #[.int .i64 n] 3)) (some (Addr.mk u16.heap.size 0 none)) new1 ∧
                                          0 < 8 ∧ (2 * ((col_n + 1) + 1) + 192) * 8 ≤ 140737488355328 ∧ okCells new1 True ∧
                                          ((col_n + 1) + 1 ≤ cap → WrS (allocW u16 (.cells #[.int .i64 n] 3)) p1 ((col_n + 1) * 1) (1 * 1)) ∧
                                          ∀ p2 cap1 u17, AppR (allocW u16 (.cells #[.int .i64 n] 3)) 3 1 [.int .i64 0] p1 (col_n + 1) cap 1 old1 new1 p2 cap1 u17 →
                                          inK .i64 (x44 + 1) ∧ (Loc.mk 41 false ([.slice t_Columns_p t_Columns_n t_Columns_c])) = (Loc.mk 41 false ([.slice t_Columns_p t_Columns_n t_Columns_c])) ∧
                                          (Loc.mk 41 false ([.slice x8q_Columns_p x8q_Columns_n x8q_Columns_c])) = (Loc.mk 41 false ([.slice x8q_Columns_p x8q_Columns_n x8q_Columns_c])) ∧
                                          (Loc.mk 41 false ([.slice out_Columns_p out_Columns_n out_Columns_c])) = (Loc.mk 41 false ([.slice out_Columns_p out_Columns_n out_Columns_c])) ∧
                                          I_1 p2 ((col_n + 1) + 1) cap1 true (x44 + 1) u17 ∧ (Loc.mk 41 false ([.slice t_Columns_p t_Columns_n t_Columns_c])) = (Loc.mk 41 false ([.slice t_Columns_p t_Columns_n t_Columns_c])) ∧
                                          (Loc.mk 41 false ([.slice x8q_Columns_p x8q_Columns_n x8q_Columns_c])) = (Loc.mk 41 false ([.slice x8q_Columns_p x8q_Columns_n x8q_Columns_c])) ∧
                                          (Loc.mk 41 false ([.slice out_Columns_p out_Columns_n out_Columns_c])) = (Loc.mk 41 false ([.slice out_Columns_p out_Columns_n out_Columns_c])) ∧
                                        M_1 p2 ((col_n + 1) + 1) cap1 true (x44 + 1) u17 < M_1 col_p col_n col_c here x44 u15) ∧
                                          ((!right) = false → inK .i64 (x44 + 1) ∧ (Loc.mk 41 false ([.slice t_Columns_p t_Columns_n t_Columns_c])) = (Loc.mk 41 false ([.slice t_Columns_p t_Columns_n t_Columns_c])) ∧
                                          (Loc.mk 41 false ([.slice x8q_Columns_p x8q_Columns_n x8q_Columns_c])) = (Loc.mk 41 false ([.slice x8q_Columns_p x8q_Columns_n x8q_Columns_c])) ∧
                                          (Loc.mk 41 false ([.slice out_Columns_p out_Columns_n out_Columns_c])) = (Loc.mk 41 false ([.slice out_Columns_p out_Columns_n out_Columns_c])) ∧
                                          I_1 p1 (col_n + 1) cap true (x44 + 1) u16 ∧ (Loc.mk 41 false ([.slice t_Columns_p t_Columns_n t_Columns_c])) = (Loc.mk 41 false ([.slice t_Columns_p t_Columns_n t_Columns_c])) ∧
                                          (Loc.mk 41 false ([.slice x8q_Columns_p x8q_Columns_n x8q_Columns_c])) = (Loc.mk 41 false ([.slice x8q_Columns_p x8q_Columns_n x8q_Columns_c])) ∧
                                          (Loc.mk 41 false ([.slice out_Columns_p out_Columns_n out_Columns_c])) = (Loc.mk 41 false ([.slice out_Columns_p out_Columns_n out_Columns_c])) ∧
                                    M_1 p1 (col_n + 1) cap true (x44 + 1) u16 < M_1 col_p col_n col_c here x44 u15))) ∧
                                      ((decide (x47 = p)) = false → inK .i64 (x44 + 1) ∧ (Loc.mk 41 false ([.slice t_Columns_p t_Columns_n t_Columns_c])) = (Loc.mk 41 false ([.slice t_Columns_p t_Columns_n t_Columns_c])) ∧
                                      (Loc.mk 41 false ([.slice x8q_Columns_p x8q_Columns_n x8q_Columns_c])) = (Loc.mk 41 false ([.slice x8q_Columns_p x8q_Columns_n x8q_Columns_c])) ∧
                                      (Loc.mk 41 false ([.slice out_Columns_p out_Columns_n out_Columns_c])) = (Loc.mk 41 false ([.slice out_Columns_p out_Columns_n out_Columns_c])) ∧
                                      I_1 p1 (col_n + 1) cap here (x44 + 1) u16 ∧ (Loc.mk 41 false ([.slice t_Columns_p t_Columns_n t_Columns_c])) = (Loc.mk 41 false ([.slice t_Columns_p t_Columns_n t_Columns_c])) ∧
                                      (Loc.mk 41 false ([.slice x8q_Columns_p x8q_Columns_n x8q_Columns_c])) = (Loc.mk 41 false ([.slice x8q_Columns_p x8q_Columns_n x8q_Columns_c])) ∧
                                      (Loc.mk 41 false ([.slice out_Columns_p out_Columns_n out_Columns_c])) = (Loc.mk 41 false ([.slice out_Columns_p out_Columns_n out_Columns_c])) ∧
                                M_1 p1 (col_n + 1) cap here (x44 + 1) u16 < M_1 col_p col_n col_c here x44 u15))) ∧
                                      ((decide (x44 < ((x41q_n : Nat) : Int))) = false → (((decide ((3 : Int) < ((col_n : Nat) : Int))) = true →
                                    R (.returned (.tuple #[.agg #[.slice t_Columns_p t_Columns_n t_Columns_c], .int .i64 5])) u15) ∧
                                      ((decide ((3 : Int) < ((col_n : Nat) : Int))) = false → ∃ old2 new2 : List Value, old2.length = out_Columns_n * 1 ∧
                                      Gets (allocW u15 (.cells #[.slice col_p col_n col_c] 28)) out_Columns_p old2 ∧
                                      new2.length = 1 * 1 ∧ Gets (allocW u15 (.cells #[.slice col_p col_n col_c] 28)) (some (Addr.mk u15.heap.size 0 none)) new2 ∧
                                      0 < 24 ∧ (2 * (out_Columns_n + 1) + 192) * 24 ≤ 140737488355328 ∧
                                      okCells new2 True ∧ (out_Columns_n + 1 ≤ out_Columns_c → WrS (allocW u15 (.cells #[.slice col_p col_n col_c] 28)) out_Columns_p (out_Columns_n * 1) (1 * 1)) ∧
                                      ∀ p3 cap2 u18, AppR (allocW u15 (.cells #[.slice col_p col_n col_c] 28)) 28 1 [.slice none 0 0] out_Columns_p out_Columns_n out_Columns_c 1 old2 new2 p3 cap2 u18 →
                                              ((here = true → ((right = true → ∃ old3 new3 : List Value, old3.length = (out_Columns_n + 1) * 1 ∧
                                              Gets (allocW (allocW u18 (.cells #[.int .i64 n] 3)) (.cells #[.slice (some (Addr.mk u18.heap.size 0 none)) 1 1] 28)) p3 old3 ∧
                                              new3.length = 1 * 1 ∧ Gets (allocW (allocW u18 (.cells #[.int .i64 n] 3)) (.cells #[.slice (some (Addr.mk u18.heap.size 0 none)) 1 1] 28)) (some (Addr.mk (allocW u18 (.cells #[.int .i64 n] 3)).heap.size 0 none)) new3 ∧
                                              0 < 24 ∧ (2 * ((out_Columns_n + 1) + 1) + 192) * 24 ≤ 140737488355328 ∧
                                              okCells new3 True ∧ ((out_Columns_n + 1) + 1 ≤ cap2 → WrS (allocW (allocW u18 (.cells #[.int .i64 n] 3)) (.cells #[.slice (some (Addr.mk u18.heap.size 0 none)) 1 1] 28)) p3 ((out_Columns_n + 1) * 1) (1 * 1)) ∧
                                              ∀ p4 cap3 u19, AppR (allocW (allocW u18 (.cells #[.int .i64 n] 3)) (.cells #[.slice (some (Addr.mk u18.heap.size 0 none)) 1 1] 28)) 28 1 [.slice none 0 0] p3 (out_Columns_n + 1) cap2 1 old3 new3 p4 cap3 u19 →
                                              inK .i64 (x38 + 1) ∧ (Loc.mk 41 false ([.slice t_Columns_p t_Columns_n t_Columns_c])) = (Loc.mk 41 false ([.slice t_Columns_p t_Columns_n t_Columns_c])) ∧
                                              I_ (x38 + 1) x8q_Columns_p x8q_Columns_n x8q_Columns_c p4 ((out_Columns_n + 1) + 1) cap3 u19 ∧
                                              (Loc.mk 41 false ([.slice t_Columns_p t_Columns_n t_Columns_c])) = (Loc.mk 41 false ([.slice t_Columns_p t_Columns_n t_Columns_c])) ∧
                                            M_ (x38 + 1) x8q_Columns_p x8q_Columns_n x8q_Columns_c p4 ((out_Columns_n + 1) + 1) cap3 u19 < M_ x38 x8q_Columns_p x8q_Columns_n x8q_Columns_c out_Columns_p out_Columns_n out_Columns_c u14) ∧
                                              (right = false → inK .i64 (x38 + 1) ∧ (Loc.mk 41 false ([.slice t_Columns_p t_Columns_n t_Columns_c])) = (Loc.mk 41 false ([.slice t_Columns_p t_Columns_n t_Columns_c])) ∧
                                              I_ (x38 + 1) x8q_Columns_p x8q_Columns_n x8q_Columns_c p3 (out_Columns_n + 1) cap2 u18 ∧
                                              (Loc.mk 41 false ([.slice t_Columns_p t_Columns_n t_Columns_c])) = (Loc.mk 41 false ([.slice t_Columns_p t_Columns_n t_Columns_c])) ∧
                                        M_ (x38 + 1) x8q_Columns_p x8q_Columns_n x8q_Columns_c p3 (out_Columns_n + 1) cap2 u18 < M_ x38 x8q_Columns_p x8q_Columns_n x8q_Columns_c out_Columns_p out_Columns_n out_Columns_c u14))) ∧
                                          (here = false → inK .i64 (x38 + 1) ∧ (Loc.mk 41 false ([.slice t_Columns_p t_Columns_n t_Columns_c])) = (Loc.mk 41 false ([.slice t_Columns_p t_Columns_n t_Columns_c])) ∧
                                          I_ (x38 + 1) x8q_Columns_p x8q_Columns_n x8q_Columns_c p3 (out_Columns_n + 1) cap2 u18 ∧
                                          (Loc.mk 41 false ([.slice t_Columns_p t_Columns_n t_Columns_c])) = (Loc.mk 41 false ([.slice t_Columns_p t_Columns_n t_Columns_c])) ∧
                            M_ (x38 + 1) x8q_Columns_p x8q_Columns_n x8q_Columns_c p3 (out_Columns_n + 1) cap2 u18 < M_ x38 x8q_Columns_p x8q_Columns_n x8q_Columns_c out_Columns_p out_Columns_n out_Columns_c u14))))))) ∧
  ((decide (x38 < ((t_Columns_n : Nat) : Int))) = false → R (.returned (.tuple #[.agg #[.slice out_Columns_p out_Columns_n out_Columns_c], .int .i64 0])) u14))))))))))))))
set_option maxRecDepth 100000 in
theorem vc_fenestraref_SplitTiles_eq (t_Columns_p : Option Addr) (t_Columns_n t_Columns_c : Nat) (p : Int) (n : Int) (right : Bool) (u : World) (R : Ending → World → Prop) : wFunc cx_fenestraref_SplitTiles Try.f42 [.agg #[.slice t_Columns_p t_Columns_n t_Columns_c], .int .i64 p, .int .i64 n, .bool right] u R = vc_fenestraref_SplitTiles t_Columns_p t_Columns_n t_Columns_c p n right u R := by kernel_rfl
theorem vc_fenestraref_SplitTiles_spec (t_Columns_p : Option Addr) (t_Columns_n t_Columns_c : Nat) (p : Int) (n : Int) (right : Bool) {u : World} {R : Ending → World → Prop} (h : vc_fenestraref_SplitTiles t_Columns_p t_Columns_n t_Columns_c p n right u R) : Spec Try.prog fn_fenestraref_SplitTiles #[.agg #[.slice t_Columns_p t_Columns_n t_Columns_c], .int .i64 p, .int .i64 n, .bool right] u R := func_spec (C := cx_fenestraref_SplitTiles) (fn := Try.f42) (args := [.agg #[.slice t_Columns_p t_Columns_n t_Columns_c], .int .i64 p, .int .i64 n, .bool right]) (ctxOk _ _ _ _ _) Try.func42 (vc_fenestraref_SplitTiles_eq t_Columns_p t_Columns_n t_Columns_c p n right u R) h

/-- fenestra/fenestraref.KillPane -/
noncomputable def cx_fenestraref_KillPane : Ctx := ⟨Try.prog, tab, [], [], [], fns, [(9, ⟨[.keep, .keep, .keep, .keep, .keep, .keep, .keep, .keep, .junk, .junk, .keep, .junk, .keep, .keep, .keep, .keep, .keep, .keep, .keep, .keep, .keep, .keep, .keep, .keep, .keep, .keep, .keep, .keep, .keep, .cell (.int .i64), .junk, .junk, .junk, .junk, .junk, .junk, .junk, .junk, .junk, .junk, .junk, .junk, .junk, .junk, .junk, .junk, .junk, .junk, .junk, .junk, .junk, .junk, .junk, .junk, .junk, .junk, .junk, .keep], [.keep, .keep, .cells [.slice]]⟩), (13, ⟨[.keep, .keep, .keep, .keep, .keep, .keep, .keep, .keep, .keep, .cell .slice, .keep, .junk, .keep, .keep, .keep, .keep, .keep, .keep, .keep, .keep, .keep, .keep, .keep, .keep, .keep, .keep, .keep, .keep, .keep, .keep, .keep, .keep, .keep, .keep, .keep, .cell (.int .i64), .junk, .junk, .junk, .junk, .junk, .junk, .junk, .junk, .junk, .junk, .junk, .keep, .keep, .keep, .keep, .keep, .keep, .keep, .keep, .keep, .keep, .keep], [.keep, .keep, .keep]⟩)], []⟩
def vc_fenestraref_KillPane (t_Columns_p : Option Addr) (t_Columns_n t_Columns_c : Nat) (p : Int) (u : World) (R : Ending → World → Prop) : Prop :=
    Spec Try.prog 47 #[.agg #[.slice t_Columns_p t_Columns_n t_Columns_c]] (allocW (allocW u hole) hole) (fun e u1 => ∃ (x13 : Bool), e = .returned (.bool x13) ∧
      (((!x13) = true → R (.returned (.tuple #[.agg #[.slice t_Columns_p t_Columns_n t_Columns_c], .int .i64 1])) u1) ∧
          ((!x13) = false → Spec Try.prog 48 #[.agg #[.slice t_Columns_p t_Columns_n t_Columns_c], .int .i64 p] u1 (fun e u11 => ∃ (x18 : Bool), e = .returned (.bool x18) ∧
            (((!x18) = true → R (.returned (.tuple #[.agg #[.slice t_Columns_p t_Columns_n t_Columns_c], .int .i64 3])) u11) ∧
                ((!x18) = false → Spec Try.prog 70 #[.agg #[.slice t_Columns_p t_Columns_n t_Columns_c]] u11 (fun e u12 => ∃ (x22q_p : Option Addr) (x22q_n x22q_c : Nat), e = .returned (.slice x22q_p x22q_n x22q_c) ∧
                  (((decide (((x22q_n : Nat) : Int) = 1)) = true → R (.returned (.tuple #[.agg #[.slice t_Columns_p t_Columns_n t_Columns_c], .int .i64 5])) u12) ∧
                      ((decide (((x22q_n : Nat) : Int) = 1)) = false → ∃ (I_ : Int →
                      Option Addr → Nat → Nat → World → Prop) (M_ : Int → Option Addr →
                      Nat → Nat → World → Nat), ((Loc.mk 41 false ([.slice t_Columns_p t_Columns_n t_Columns_c])) = (Loc.mk 41 false ([.slice t_Columns_p t_Columns_n t_Columns_c])) ∧
                      (Loc.mk 41 false ([.slice none 0 0])) = (Loc.mk 41 false ([.slice none 0 0])) ∧
                    I_ 0 none 0 0 (allocW u12 hole)) ∧ ∀ (x29 : Int) (out_Columns_p : Option Addr) (out_Columns_n out_Columns_c : Nat), (Loc.mk 41 false ([.slice t_Columns_p t_Columns_n t_Columns_c])) = (Loc.mk 41 false ([.slice t_Columns_p t_Columns_n t_Columns_c])) ∧
                    (Loc.mk 41 false ([.slice none 0 0])) = (Loc.mk 41 false ([.slice none 0 0])) ∧
                    ∀ u13 : World, I_ x29 out_Columns_p out_Columns_n out_Columns_c u13 →
                        (((decide (x29 < ((t_Columns_n : Nat) : Int))) = true → ∃ b o, t_Columns_p = some ⟨b, o, none⟩ ∧
                        0 ≤ x29 ∧ x29 < ((t_Columns_n : Nat) : Int) ∧ ∃ (x32q_p : Option Addr) (x32q_n x32q_c : Nat), 1 = ([.slice x32q_p x32q_n x32q_c] : List Value).length ∧
                        Rd u13 b (o + x29.toNat * 1) ([.slice x32q_p x32q_n x32q_c]) ∧
                          ∃ (I_1 : Option Addr → Nat → Nat → Int → World → Prop) (M_1 : Option Addr →
                          Nat → Nat → Int → World → Nat), ((Loc.mk 41 false ([.slice t_Columns_p t_Columns_n t_Columns_c])) = (Loc.mk 41 false ([.slice t_Columns_p t_Columns_n t_Columns_c])) ∧
                          (Loc.mk 41 false ([.slice none 0 0])) = (Loc.mk 41 false ([.slice none 0 0])) ∧
                          (Loc.mk 41 false ([.slice out_Columns_p out_Columns_n out_Columns_c])) = (Loc.mk 41 false ([.slice out_Columns_p out_Columns_n out_Columns_c])) ∧
                        I_1 none 0 0 0 u13) ∧ ∀ (col_p : Option Addr) (col_n col_c : Nat) (x35 : Int), (Loc.mk 41 false ([.slice t_Columns_p t_Columns_n t_Columns_c])) = (Loc.mk 41 false ([.slice t_Columns_p t_Columns_n t_Columns_c])) ∧
                        (Loc.mk 41 false ([.slice none 0 0])) = (Loc.mk 41 false ([.slice none 0 0])) ∧
                        (Loc.mk 41 false ([.slice out_Columns_p out_Columns_n out_Columns_c])) = (Loc.mk 41 false ([.slice out_Columns_p out_Columns_n out_Columns_c])) ∧
                            ∀ u14 : World, I_1 col_p col_n col_c x35 u14 → (((decide (x35 < ((x32q_n : Nat) : Int))) = true →
                            ∃ b1 o1, x32q_p = some ⟨b1, o1, none⟩ ∧ 0 ≤ x35 ∧ x35 < ((x32q_n : Nat) : Int) ∧
                            ∃ (x38 : Int), 1 = ([.int .i64 x38] : List Value).length ∧ Rd u14 b1 (o1 + x35.toNat * 1) ([.int .i64 x38]) ∧
                                (((!decide (x38 = p)) = true → ∃ old new : List Value, old.length = col_n * 1 ∧
                                Gets (allocW u14 (.cells #[.int .i64 x38] 3)) col_p old ∧ new.length = 1 * 1 ∧
                                Gets (allocW u14 (.cells #[.int .i64 x38] 3)) (some (Addr.mk u14.heap.size 0 none)) new ∧
                                0 < 8 ∧ (2 * (col_n + 1) + 192) * 8 ≤ 140737488355328 ∧ okCells new True ∧
                                (col_n + 1 ≤ col_c → WrS (allocW u14 (.cells #[.int .i64 x38] 3)) col_p (col_n * 1) (1 * 1)) ∧
                                ∀ p1 cap u15, AppR (allocW u14 (.cells #[.int .i64 x38] 3)) 3 1 [.int .i64 0] col_p col_n col_c 1 old new p1 cap u15 →
                                inK .i64 (x35 + 1) ∧ (Loc.mk 41 false ([.slice t_Columns_p t_Columns_n t_Columns_c])) = (Loc.mk 41 false ([.slice t_Columns_p t_Columns_n t_Columns_c])) ∧
                                (Loc.mk 41 false ([.slice none 0 0])) = (Loc.mk 41 false ([.slice none 0 0])) ∧
                                (Loc.mk 41 false ([.slice out_Columns_p out_Columns_n out_Columns_c])) = (Loc.mk 41 false ([.slice out_Columns_p out_Columns_n out_Columns_c])) ∧
                                I_1 p1 (col_n + 1) cap (x35 + 1) u15 ∧ (Loc.mk 41 false ([.slice t_Columns_p t_Columns_n t_Columns_c])) = (Loc.mk 41 false ([.slice t_Columns_p t_Columns_n t_Columns_c])) ∧
                                (Loc.mk 41 false ([.slice none 0 0])) = (Loc.mk 41 false ([.slice none 0 0])) ∧
                                (Loc.mk 41 false ([.slice out_Columns_p out_Columns_n out_Columns_c])) = (Loc.mk 41 false ([.slice out_Columns_p out_Columns_n out_Columns_c])) ∧
                              M_1 p1 (col_n + 1) cap (x35 + 1) u15 < M_1 col_p col_n col_c x35 u14) ∧
                                ((!decide (x38 = p)) = false → inK .i64 (x35 + 1) ∧ (Loc.mk 41 false ([.slice t_Columns_p t_Columns_n t_Columns_c])) = (Loc.mk 41 false ([.slice t_Columns_p t_Columns_n t_Columns_c])) ∧
                                (Loc.mk 41 false ([.slice none 0 0])) = (Loc.mk 41 false ([.slice none 0 0])) ∧
                                (Loc.mk 41 false ([.slice out_Columns_p out_Columns_n out_Columns_c])) = (Loc.mk 41 false ([.slice out_Columns_p out_Columns_n out_Columns_c])) ∧
                                I_1 col_p col_n col_c (x35 + 1) u14 ∧ (Loc.mk 41 false ([.slice t_Columns_p t_Columns_n t_Columns_c])) = (Loc.mk 41 false ([.slice t_Columns_p t_Columns_n t_Columns_c])) ∧
                                (Loc.mk 41 false ([.slice none 0 0])) = (Loc.mk 41 false ([.slice none 0 0])) ∧
                                (Loc.mk 41 false ([.slice out_Columns_p out_Columns_n out_Columns_c])) = (Loc.mk 41 false ([.slice out_Columns_p out_Columns_n out_Columns_c])) ∧
                          M_1 col_p col_n col_c (x35 + 1) u14 < M_1 col_p col_n col_c x35 u14))) ∧
                                ((decide (x35 < ((x32q_n : Nat) : Int))) = false → (((decide ((0 : Int) < ((col_n : Nat) : Int))) = true →
                                ∃ old1 new1 : List Value, old1.length = out_Columns_n * 1 ∧ Gets (allocW u14 (.cells #[.slice col_p col_n col_c] 28)) out_Columns_p old1 ∧
                                new1.length = 1 * 1 ∧ Gets (allocW u14 (.cells #[.slice col_p col_n col_c] 28)) (some (Addr.mk u14.heap.size 0 none)) new1 ∧
                                0 < 24 ∧ (2 * (out_Columns_n + 1) + 192) * 24 ≤ 140737488355328 ∧
                                okCells new1 True ∧ (out_Columns_n + 1 ≤ out_Columns_c → WrS (allocW u14 (.cells #[.slice col_p col_n col_c] 28)) out_Columns_p (out_Columns_n * 1) (1 * 1)) ∧
                                ∀ p2 cap1 u16, AppR (allocW u14 (.cells #[.slice col_p col_n col_c] 28)) 28 1 [.slice none 0 0] out_Columns_p out_Columns_n out_Columns_c 1 old1 new1 p2 cap1 u16 →
                                inK .i64 (x29 + 1) ∧ (Loc.mk 41 false ([.slice t_Columns_p t_Columns_n t_Columns_c])) = (Loc.mk 41 false ([.slice t_Columns_p t_Columns_n t_Columns_c])) ∧
                                (Loc.mk 41 false ([.slice none 0 0])) = (Loc.mk 41 false ([.slice none 0 0])) ∧
                                I_ (x29 + 1) p2 (out_Columns_n + 1) cap1 u16 ∧ (Loc.mk 41 false ([.slice t_Columns_p t_Columns_n t_Columns_c])) = (Loc.mk 41 false ([.slice t_Columns_p t_Columns_n t_Columns_c])) ∧
                                (Loc.mk 41 false ([.slice none 0 0])) = (Loc.mk 41 false ([.slice none 0 0])) ∧
                              M_ (x29 + 1) p2 (out_Columns_n + 1) cap1 u16 < M_ x29 out_Columns_p out_Columns_n out_Columns_c u13) ∧
                                ((decide ((0 : Int) < ((col_n : Nat) : Int))) = false → inK .i64 (x29 + 1) ∧
                                (Loc.mk 41 false ([.slice t_Columns_p t_Columns_n t_Columns_c])) = (Loc.mk 41 false ([.slice t_Columns_p t_Columns_n t_Columns_c])) ∧
                                (Loc.mk 41 false ([.slice none 0 0])) = (Loc.mk 41 false ([.slice none 0 0])) ∧
                                I_ (x29 + 1) out_Columns_p out_Columns_n out_Columns_c u14 ∧ (Loc.mk 41 false ([.slice t_Columns_p t_Columns_n t_Columns_c])) = (Loc.mk 41 false ([.slice t_Columns_p t_Columns_n t_Columns_c])) ∧
                                (Loc.mk 41 false ([.slice none 0 0])) = (Loc.mk 41 false ([.slice none 0 0])) ∧
                      M_ (x29 + 1) out_Columns_p out_Columns_n out_Columns_c u14 < M_ x29 out_Columns_p out_Columns_n out_Columns_c u13))))) ∧
  ((decide (x29 < ((t_Columns_n : Nat) : Int))) = false → R (.returned (.tuple #[.agg #[.slice out_Columns_p out_Columns_n out_Columns_c], .int .i64 0])) u13)))))))))))
set_option maxRecDepth 100000 in
theorem vc_fenestraref_KillPane_eq (t_Columns_p : Option Addr) (t_Columns_n t_Columns_c : Nat) (p : Int) (u : World) (R : Ending → World → Prop) : wFunc cx_fenestraref_KillPane Try.f44 [.agg #[.slice t_Columns_p t_Columns_n t_Columns_c], .int .i64 p] u R = vc_fenestraref_KillPane t_Columns_p t_Columns_n t_Columns_c p u R := by kernel_rfl
theorem vc_fenestraref_KillPane_spec (t_Columns_p : Option Addr) (t_Columns_n t_Columns_c : Nat) (p : Int) {u : World} {R : Ending → World → Prop} (h : vc_fenestraref_KillPane t_Columns_p t_Columns_n t_Columns_c p u R) : Spec Try.prog fn_fenestraref_KillPane #[.agg #[.slice t_Columns_p t_Columns_n t_Columns_c], .int .i64 p] u R := func_spec (C := cx_fenestraref_KillPane) (fn := Try.f44) (args := [.agg #[.slice t_Columns_p t_Columns_n t_Columns_c], .int .i64 p]) (ctxOk _ _ _ _ _) Try.func44 (vc_fenestraref_KillPane_eq t_Columns_p t_Columns_n t_Columns_c p u R) h

end Go.Proofs.Ytkmmphkjmamckab
