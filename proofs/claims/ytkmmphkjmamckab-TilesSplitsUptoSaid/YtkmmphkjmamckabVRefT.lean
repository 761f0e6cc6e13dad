import Derived.Test.YtkmmphkjmamckabCtx
namespace Go.Proofs.Ytkmmphkjmamckab
open Go
set_option linter.all false

/-- fenestra/fenestraref.isPane -/
noncomputable def cx_fenestraref_isPane : Ctx := ⟨Try.prog, tab, [], [], [], fns, [], []⟩
def vc_fenestraref_isPane (p : Int) (u : World) (R : Ending → World → Prop) : Prop :=
    (((decide ((0 : Int) ≤ p)) = true → R (.returned (.bool (decide (p < 6)))) u) ∧
  ((decide ((0 : Int) ≤ p)) = false → R (.returned (.bool false)) u))
set_option maxRecDepth 100000 in
theorem vc_fenestraref_isPane_eq (p : Int) (u : World) (R : Ending → World → Prop) : wFunc cx_fenestraref_isPane Try.f67 [.int .i64 p] u R = vc_fenestraref_isPane p u R := by kernel_rfl
theorem vc_fenestraref_isPane_spec (p : Int) {u : World} {R : Ending → World → Prop} (h : vc_fenestraref_isPane p u R) : Spec Try.prog fn_fenestraref_isPane #[.int .i64 p] u R := func_spec (C := cx_fenestraref_isPane) (fn := Try.f67) (args := [.int .i64 p]) (ctxOk _ _ _ _ _) Try.func67 (vc_fenestraref_isPane_eq p u R) h

/-- fenestra/fenestraref.all -/
noncomputable def cx_fenestraref_all : Ctx := ⟨Try.prog, tab, [], [], [], fns, [(3, ⟨[.keep, .keep, .keep, .cell .slice, .keep, .junk, .keep, .keep, .keep, .cell (.int .i64), .junk, .junk, .junk, .junk, .junk, .junk, .junk, .keep], [.keep]⟩)], []⟩
def vc_fenestraref_all (t_Columns_p : Option Addr) (t_Columns_n t_Columns_c : Nat) (u : World) (R : Ending → World → Prop) : Prop :=
    ∃ (I_ : Option Addr → Nat → Nat → Int → World → Prop) (M_ : Option Addr →
    Nat → Nat → Int → World → Nat), ((Loc.mk 41 false ([.slice t_Columns_p t_Columns_n t_Columns_c])) = (Loc.mk 41 false ([.slice t_Columns_p t_Columns_n t_Columns_c])) ∧
  I_ none 0 0 0 (allocW u hole)) ∧ ∀ (l_p : Option Addr) (l_n l_c : Nat) (x9 : Int), (Loc.mk 41 false ([.slice t_Columns_p t_Columns_n t_Columns_c])) = (Loc.mk 41 false ([.slice t_Columns_p t_Columns_n t_Columns_c])) ∧
      ∀ u1 : World, I_ l_p l_n l_c x9 u1 → (((decide (x9 < ((t_Columns_n : Nat) : Int))) = true →
      ∃ b o, t_Columns_p = some ⟨b, o, none⟩ ∧ 0 ≤ x9 ∧ x9 < ((t_Columns_n : Nat) : Int) ∧
      ∃ (x12q_p : Option Addr) (x12q_n x12q_c : Nat), 1 = ([.slice x12q_p x12q_n x12q_c] : List Value).length ∧
      Rd u1 b (o + x9.toNat * 1) ([.slice x12q_p x12q_n x12q_c]) ∧ ∃ old new : List Value, old.length = l_n * 1 ∧
      Gets u1 l_p old ∧ new.length = x12q_n * 1 ∧ Gets u1 x12q_p new ∧
      0 < 8 ∧ (2 * (l_n + x12q_n) + 192) * 8 ≤ 140737488355328 ∧ okCells new True ∧
      (l_n + x12q_n ≤ l_c → WrS u1 l_p (l_n * 1) (x12q_n * 1)) ∧ ∀ p cap u11, AppR u1 3 1 [.int .i64 0] l_p l_n l_c x12q_n old new p cap u11 →
      inK .i64 (x9 + 1) ∧ (Loc.mk 41 false ([.slice t_Columns_p t_Columns_n t_Columns_c])) = (Loc.mk 41 false ([.slice t_Columns_p t_Columns_n t_Columns_c])) ∧
      I_ p (l_n + x12q_n) cap (x9 + 1) u11 ∧ (Loc.mk 41 false ([.slice t_Columns_p t_Columns_n t_Columns_c])) = (Loc.mk 41 false ([.slice t_Columns_p t_Columns_n t_Columns_c])) ∧
    M_ p (l_n + x12q_n) cap (x9 + 1) u11 < M_ l_p l_n l_c x9 u1) ∧
  ((decide (x9 < ((t_Columns_n : Nat) : Int))) = false → R (.returned (.slice l_p l_n l_c)) u1))
set_option maxRecDepth 100000 in
theorem vc_fenestraref_all_eq (t_Columns_p : Option Addr) (t_Columns_n t_Columns_c : Nat) (u : World) (R : Ending → World → Prop) : wFunc cx_fenestraref_all Try.f70 [.agg #[.slice t_Columns_p t_Columns_n t_Columns_c]] u R = vc_fenestraref_all t_Columns_p t_Columns_n t_Columns_c u R := by kernel_rfl
theorem vc_fenestraref_all_spec (t_Columns_p : Option Addr) (t_Columns_n t_Columns_c : Nat) {u : World} {R : Ending → World → Prop} (h : vc_fenestraref_all t_Columns_p t_Columns_n t_Columns_c u R) : Spec Try.prog fn_fenestraref_all #[.agg #[.slice t_Columns_p t_Columns_n t_Columns_c]] u R := func_spec (C := cx_fenestraref_all) (fn := Try.f70) (args := [.agg #[.slice t_Columns_p t_Columns_n t_Columns_c]]) (ctxOk _ _ _ _ _) Try.func70 (vc_fenestraref_all_eq t_Columns_p t_Columns_n t_Columns_c u R) h

/-- fenestra/fenestraref.GoodTiles -/
noncomputable def cx_fenestraref_GoodTiles : Ctx := ⟨Try.prog, tab, [], [], [], fns, [(2, ⟨[.keep, .keep, .junk, .keep, .junk, .keep, .keep, .keep, .keep, .keep, .keep, .keep, .keep, .cell (.int .i64), .junk, .junk, .junk, .junk, .junk, .junk, .junk, .junk, .junk, .junk, .junk, .junk, .keep, .keep, .keep, .keep, .keep, .keep, .keep, .keep, .keep, .keep, .keep, .keep, .keep, .keep, .keep, .keep, .keep, .keep, .keep, .keep, .keep, .keep, .keep, .keep, .keep, .keep, .keep, .keep], [.keep]⟩), (9, ⟨[.keep, .keep, .junk, .keep, .keep, .keep, .junk, .junk, .keep, .junk, .keep, .keep, .keep, .keep, .keep, .keep, .keep, .keep, .keep, .keep, .keep, .keep, .keep, .keep, .keep, .keep, .keep, .keep, .keep, .keep, .cell (.int .i64), .junk, .junk, .junk, .junk, .junk, .junk, .junk, .junk, .junk, .junk, .junk, .junk, .junk, .junk, .junk, .junk, .junk, .junk, .junk, .junk, .keep, .keep, .keep], [.keep]⟩), (14, ⟨[.keep, .keep, .junk, .keep, .keep, .keep, .keep, .keep, .keep, .junk, .keep, .keep, .keep, .keep, .keep, .keep, .keep, .keep, .keep, .keep, .keep, .keep, .keep, .keep, .keep, .keep, .keep, .keep, .keep, .keep, .keep, .keep, .keep, .keep, .keep, .keep, .keep, .keep, .keep, .keep, .keep, .keep, .cell (.int .i64), .junk, .junk, .junk, .junk, .junk, .junk, .junk, .keep, .keep, .keep, .keep], [.keep]⟩)], []⟩
def vc_fenestraref_GoodTiles (t_Columns_p : Option Addr) (t_Columns_n t_Columns_c : Nat) (u : World) (R : Ending → World → Prop) : Prop :=
    ∃ (I_ : Int → World → Prop) (M_ : Int → World → Nat), ((Loc.mk 41 false ([.slice t_Columns_p t_Columns_n t_Columns_c])) = (Loc.mk 41 false ([.slice t_Columns_p t_Columns_n t_Columns_c])) ∧
  I_ 0 (allocW u hole)) ∧ ∀ (x13 : Int), (Loc.mk 41 false ([.slice t_Columns_p t_Columns_n t_Columns_c])) = (Loc.mk 41 false ([.slice t_Columns_p t_Columns_n t_Columns_c])) ∧
      ∀ u1 : World, I_ x13 u1 → (((decide (x13 < ((t_Columns_n : Nat) : Int))) = true →
      ∃ b o, t_Columns_p = some ⟨b, o, none⟩ ∧ 0 ≤ x13 ∧ x13 < ((t_Columns_n : Nat) : Int) ∧
      ∃ (x16q_p : Option Addr) (x16q_n x16q_c : Nat), 1 = ([.slice x16q_p x16q_n x16q_c] : List Value).length ∧
          Rd u1 b (o + x13.toNat * 1) ([.slice x16q_p x16q_n x16q_c]) ∧ (((decide (((x16q_n : Nat) : Int) < 1)) = true →
          R (.returned (.bool false)) u1) ∧ ((decide (((x16q_n : Nat) : Int) < 1)) = false →
            (((decide ((3 : Int) < ((x16q_n : Nat) : Int))) = true → R (.returned (.bool false)) u1) ∧
              ((decide ((3 : Int) < ((x16q_n : Nat) : Int))) = false → inK .i64 (x13 + 1) ∧
              (Loc.mk 41 false ([.slice t_Columns_p t_Columns_n t_Columns_c])) = (Loc.mk 41 false ([.slice t_Columns_p t_Columns_n t_Columns_c])) ∧
              I_ (x13 + 1) u1 ∧ (Loc.mk 41 false ([.slice t_Columns_p t_Columns_n t_Columns_c])) = (Loc.mk 41 false ([.slice t_Columns_p t_Columns_n t_Columns_c])) ∧
      M_ (x13 + 1) u1 < M_ x13 u1))))) ∧ ((decide (x13 < ((t_Columns_n : Nat) : Int))) = false →
        Spec Try.prog 70 #[.agg #[.slice t_Columns_p t_Columns_n t_Columns_c]] u1 (fun e u11 => ∃ (x27q_p : Option Addr) (x27q_n x27q_c : Nat), e = .returned (.slice x27q_p x27q_n x27q_c) ∧
          ∃ (I_1 : Int → World → Prop) (M_1 : Int → World → Nat), ((Loc.mk 41 false ([.slice t_Columns_p t_Columns_n t_Columns_c])) = (Loc.mk 41 false ([.slice t_Columns_p t_Columns_n t_Columns_c])) ∧
        I_1 0 u11) ∧ ∀ (x30 : Int), (Loc.mk 41 false ([.slice t_Columns_p t_Columns_n t_Columns_c])) = (Loc.mk 41 false ([.slice t_Columns_p t_Columns_n t_Columns_c])) ∧
            ∀ u12 : World, I_1 x30 u12 → (((decide (x30 < ((x27q_n : Nat) : Int))) = true →
            ∃ b1 o1, x27q_p = some ⟨b1, o1, none⟩ ∧ 0 ≤ x30 ∧ x30 < ((x27q_n : Nat) : Int) ∧
            ∃ (x34 : Int), 1 = ([.int .i64 x34] : List Value).length ∧ Rd u12 b1 (o1 + x30.toNat * 1) ([.int .i64 x34]) ∧
              Spec Try.prog 67 #[.int .i64 x34] u12 (fun e u13 => ∃ (x36 : Bool), e = .returned (.bool x36) ∧
                  (((!x36) = true → R (.returned (.bool false)) u13) ∧ ((!x36) = false →
                  0 ≤ (0 : Int) ∧ (0 : Int) ≤ x30 ∧ x30 ≤ ((x27q_c : Nat) : Int) ∧
                    ∃ (I_2 : Int → World → Prop) (M_2 : Int → World → Nat), ((Loc.mk 41 false ([.slice t_Columns_p t_Columns_n t_Columns_c])) = (Loc.mk 41 false ([.slice t_Columns_p t_Columns_n t_Columns_c])) ∧
                  I_2 0 u13) ∧ ∀ (x42 : Int), (Loc.mk 41 false ([.slice t_Columns_p t_Columns_n t_Columns_c])) = (Loc.mk 41 false ([.slice t_Columns_p t_Columns_n t_Columns_c])) ∧
                      ∀ u14 : World, I_2 x42 u14 → (((decide (x42 < ((x30.toNat - (0 : Int).toNat : Nat) : Int))) = true →
                      ∃ b2 o2, (if x27q_c = (0 : Int).toNat then x27q_p else Option.map (fun a => Addr.add a ((0 : Int).toNat * 1)) x27q_p) = some ⟨b2, o2, none⟩ ∧
                      0 ≤ x42 ∧ x42 < ((x30.toNat - (0 : Int).toNat : Nat) : Int) ∧ ∃ (x45 : Int), 1 = ([.int .i64 x45] : List Value).length ∧
                          Rd u14 b2 (o2 + x42.toNat * 1) ([.int .i64 x45]) ∧ (((decide (x34 = x45)) = true →
                          R (.returned (.bool false)) u14) ∧ ((decide (x34 = x45)) = false →
                          inK .i64 (x42 + 1) ∧ (Loc.mk 41 false ([.slice t_Columns_p t_Columns_n t_Columns_c])) = (Loc.mk 41 false ([.slice t_Columns_p t_Columns_n t_Columns_c])) ∧
                          I_2 (x42 + 1) u14 ∧ (Loc.mk 41 false ([.slice t_Columns_p t_Columns_n t_Columns_c])) = (Loc.mk 41 false ([.slice t_Columns_p t_Columns_n t_Columns_c])) ∧
                      M_2 (x42 + 1) u14 < M_2 x42 u14))) ∧ ((decide (x42 < ((x30.toNat - (0 : Int).toNat : Nat) : Int))) = false →
                      inK .i64 (x30 + 1) ∧ (Loc.mk 41 false ([.slice t_Columns_p t_Columns_n t_Columns_c])) = (Loc.mk 41 false ([.slice t_Columns_p t_Columns_n t_Columns_c])) ∧
                      I_1 (x30 + 1) u14 ∧ (Loc.mk 41 false ([.slice t_Columns_p t_Columns_n t_Columns_c])) = (Loc.mk 41 false ([.slice t_Columns_p t_Columns_n t_Columns_c])) ∧
            M_1 (x30 + 1) u14 < M_1 x30 u12)))))) ∧ ((decide (x30 < ((x27q_n : Nat) : Int))) = false →
  R (.returned (.bool (decide ((0 : Int) < ((x27q_n : Nat) : Int))))) u12)))))
set_option maxRecDepth 100000 in
theorem vc_fenestraref_GoodTiles_eq (t_Columns_p : Option Addr) (t_Columns_n t_Columns_c : Nat) (u : World) (R : Ending → World → Prop) : wFunc cx_fenestraref_GoodTiles Try.f47 [.agg #[.slice t_Columns_p t_Columns_n t_Columns_c]] u R = vc_fenestraref_GoodTiles t_Columns_p t_Columns_n t_Columns_c u R := by kernel_rfl
theorem vc_fenestraref_GoodTiles_spec (t_Columns_p : Option Addr) (t_Columns_n t_Columns_c : Nat) {u : World} {R : Ending → World → Prop} (h : vc_fenestraref_GoodTiles t_Columns_p t_Columns_n t_Columns_c u R) : Spec Try.prog fn_fenestraref_GoodTiles #[.agg #[.slice t_Columns_p t_Columns_n t_Columns_c]] u R := func_spec (C := cx_fenestraref_GoodTiles) (fn := Try.f47) (args := [.agg #[.slice t_Columns_p t_Columns_n t_Columns_c]]) (ctxOk _ _ _ _ _) Try.func47 (vc_fenestraref_GoodTiles_eq t_Columns_p t_Columns_n t_Columns_c u R) h

/-- fenestra/fenestraref.ShareOf -/
noncomputable def cx_fenestraref_ShareOf : Ctx := ⟨Try.prog, tab, [], [], [], fns, [(6, ⟨[.keep, .keep, .keep, .keep, .keep, .keep, .junk, .junk, .keep, .cell (.int .i64), .cell (.int .i64), .junk, .keep, .keep, .keep, .keep, .keep, .keep, .keep, .keep, .keep, .keep, .keep, .keep, .keep, .keep, .keep, .keep, .keep, .keep, .keep, .keep, .keep, .keep, .keep, .keep, .keep, .keep, .keep, .keep, .keep, .keep, .junk, .junk, .junk, .junk, .junk, .junk, .junk, .junk, .junk, .junk, .junk, .junk, .junk, .junk, .junk, .junk, .junk, .junk, .junk, .junk, .junk], []⟩)], []⟩
def vc_fenestraref_ShareOf (length : Int) (n : Int) (k : Int) (u : World) (R : Ending → World → Prop) : Prop :=
    (((decide (n < 1)) = true → R (.returned (.tuple #[.int .i64 0, .int .i64 0])) u) ∧
          ((decide (n < 1)) = false → (((decide ((6 : Int) < n)) = true →
          R (.returned (.tuple #[.int .i64 0, .int .i64 0])) u) ∧ ((decide ((6 : Int) < n)) = false →
            (((decide (k < 0)) = true → R (.returned (.tuple #[.int .i64 0, .int .i64 0])) u) ∧
                ((decide (k < 0)) = false → (((decide (n ≤ k)) = true → R (.returned (.tuple #[.int .i64 0, .int .i64 0])) u) ∧
                  ((decide (n ≤ k)) = false → inK .i64 (2 * n) ∧ inK .i64 ((2 * n) - 1) ∧
                    (((decide (length < ((2 * n) - 1))) = true → R (.returned (.tuple #[.int .i64 0, .int .i64 0])) u) ∧
                          ((decide (length < ((2 * n) - 1))) = false → (((decide ((24 : Int) < length)) = true →
                          R (.returned (.tuple #[.int .i64 0, .int .i64 0])) u) ∧ ((decide ((24 : Int) < length)) = false →
                            inK .i64 (length - n) ∧ inK .i64 ((length - n) + 1) ∧ ∃ (I_ : Int →
                          Int → World → Prop) (M_ : Int → Int → World → Nat), (I_ 0 0 u) ∧
                          ∀ (at_ : Int) (i : Int), ∀ u1 : World, I_ at_ i u1 → 0 ≤ ((length - n) + 1) ∧
                          0 < n ∧ inK .i64 ((length - n) + 1) ∧ 0 ≤ ((length - n) + 1) ∧
                              0 < n ∧ (((decide (i < (((length - n) + 1) % n))) = true → inK .i64 ((((length - n) + 1) / n) + 1) ∧
                                (((decide (i = k)) = true → R (.returned (.tuple #[.int .i64 at_, .int .i64 ((((length - n) + 1) / n) + 1)])) u1) ∧
                                  ((decide (i = k)) = false → inK .i64 (((((length - n) + 1) / n) + 1) + 1) ∧
                                  inK .i64 (at_ + (((((length - n) + 1) / n) + 1) + 1)) ∧ inK .i64 (i + 1) ∧
                            I_ (at_ + (((((length - n) + 1) / n) + 1) + 1)) (i + 1) u1 ∧ M_ (at_ + (((((length - n) + 1) / n) + 1) + 1)) (i + 1) u1 < M_ at_ i u1))) ∧
                                  ((decide (i < (((length - n) + 1) % n))) = false → (((decide (i = k)) = true →
                                R (.returned (.tuple #[.int .i64 at_, .int .i64 (((length - n) + 1) / n)])) u1) ∧
                                  ((decide (i = k)) = false → inK .i64 ((((length - n) + 1) / n) + 1) ∧
                                  inK .i64 (at_ + ((((length - n) + 1) / n) + 1)) ∧ inK .i64 (i + 1) ∧
  I_ (at_ + ((((length - n) + 1) / n) + 1)) (i + 1) u1 ∧ M_ (at_ + ((((length - n) + 1) / n) + 1)) (i + 1) u1 < M_ at_ i u1))))))))))))))))
set_option maxRecDepth 100000 in
theorem vc_fenestraref_ShareOf_eq (length : Int) (n : Int) (k : Int) (u : World) (R : Ending → World → Prop) : wFunc cx_fenestraref_ShareOf Try.f18 [.int .i64 length, .int .i64 n, .int .i64 k] u R = vc_fenestraref_ShareOf length n k u R := by kernel_rfl
theorem vc_fenestraref_ShareOf_spec (length : Int) (n : Int) (k : Int) {u : World} {R : Ending → World → Prop} (h : vc_fenestraref_ShareOf length n k u R) : Spec Try.prog fn_fenestraref_ShareOf #[.int .i64 length, .int .i64 n, .int .i64 k] u R := func_spec (C := cx_fenestraref_ShareOf) (fn := Try.f18) (args := [.int .i64 length, .int .i64 n, .int .i64 k]) (ctxOk _ _ _ _ _) Try.func18 (vc_fenestraref_ShareOf_eq length n k u R) h

/-- fenestra/fenestraref.PlaceOf -/
noncomputable def cx_fenestraref_PlaceOf : Ctx := ⟨Try.prog, tab, [], [], [], fns, [(4, ⟨[.keep, .keep, .keep, .keep, .keep, .keep, .keep, .keep, .keep, .junk, .junk, .junk, .junk, .junk, .junk, .junk, .junk, .keep, .keep, .keep, .keep, .keep, .keep, .keep, .cell (.int .i64), .junk, .junk, .junk, .junk, .junk, .junk, .junk, .junk, .junk, .junk, .junk, .junk, .junk, .junk, .junk, .junk, .junk, .junk, .junk, .junk, .junk, .junk, .junk, .junk, .junk, .junk, .junk, .junk, .junk, .junk, .junk, .junk, .junk, .junk, .junk, .junk, .junk, .junk, .junk, .junk, .junk, .junk, .junk, .junk, .keep], [.keep, .cells [.int .i64, .int .i64, .int .i64, .int .i64]]⟩), (7, ⟨[.keep, .keep, .keep, .keep, .keep, .keep, .keep, .keep, .keep, .keep, .keep, .junk, .junk, .junk, .junk, .junk, .junk, .keep, .keep, .keep, .keep, .keep, .keep, .keep, .keep, .keep, .keep, .keep, .keep, .keep, .keep, .cell (.int .i64), .junk, .junk, .junk, .junk, .junk, .junk, .junk, .junk, .junk, .junk, .junk, .junk, .junk, .junk, .junk, .junk, .junk, .junk, .junk, .junk, .junk, .junk, .junk, .junk, .junk, .junk, .junk, .junk, .junk, .junk, .junk, .junk, .junk, .junk, .junk, .junk, .keep, .keep], [.keep, .cells [.int .i64, .int .i64, .int .i64, .int .i64]]⟩)], []⟩
def vc_fenestraref_PlaceOf (t_Columns_p : Option Addr) (t_Columns_n t_Columns_c : Nat) (wide : Int) (high : Int) (p : Int) (u : World) (R : Ending → World → Prop) : Prop :=
    Spec Try.prog 47 #[.agg #[.slice t_Columns_p t_Columns_n t_Columns_c]] (allocW (allocW u hole) hole) (fun e u1 => ∃ (x18 : Bool), e = .returned (.bool x18) ∧
      (((!x18) = true → R (.returned (.agg #[.int .i64 0, .int .i64 0, .int .i64 0, .int .i64 0])) u1) ∧
          ((!x18) = false → ∃ (I_ : Int → Int → Int → Int → Int → World →
          Prop) (M_ : Int → Int → Int → Int → Int → World → Nat), ((Loc.mk 41 false ([.slice t_Columns_p t_Columns_n t_Columns_c])) = (Loc.mk 41 false ([.slice t_Columns_p t_Columns_n t_Columns_c])) ∧
        I_ 0 0 0 0 0 u1) ∧ ∀ (x24 : Int) (x8q_Row : Int) (x8q_Col : Int) (x8q_High : Int) (x8q_Wide : Int), (Loc.mk 41 false ([.slice t_Columns_p t_Columns_n t_Columns_c])) = (Loc.mk 41 false ([.slice t_Columns_p t_Columns_n t_Columns_c])) ∧
            ∀ u11 : World, I_ x24 x8q_Row x8q_Col x8q_High x8q_Wide u11 → (((decide (x24 < ((t_Columns_n : Nat) : Int))) = true →
            ∃ b o, t_Columns_p = some ⟨b, o, none⟩ ∧ 0 ≤ x24 ∧ x24 < ((t_Columns_n : Nat) : Int) ∧
            ∃ (x28q_p : Option Addr) (x28q_n x28q_c : Nat), 1 = ([.slice x28q_p x28q_n x28q_c] : List Value).length ∧
            Rd u11 b (o + x24.toNat * 1) ([.slice x28q_p x28q_n x28q_c]) ∧
              ∃ (I_1 : Int → Int → Int → Int → Int → World → Prop) (M_1 : Int →
              Int → Int → Int → Int → World → Nat), ((Loc.mk 41 false ([.slice t_Columns_p t_Columns_n t_Columns_c])) = (Loc.mk 41 false ([.slice t_Columns_p t_Columns_n t_Columns_c])) ∧
            I_1 0 x8q_Row x8q_Col x8q_High x8q_Wide u11) ∧ ∀ (x31 : Int) (x8q_Row1 : Int) (x8q_Col1 : Int) (x8q_High1 : Int) (x8q_Wide1 : Int), (Loc.mk 41 false ([.slice t_Columns_p t_Columns_n t_Columns_c])) = (Loc.mk 41 false ([.slice t_Columns_p t_Columns_n t_Columns_c])) ∧
            ∀ u12 : World, I_1 x31 x8q_Row1 x8q_Col1 x8q_High1 x8q_Wide1 u12 →
                (((decide (x31 < ((x28q_n : Nat) : Int))) = true → ∃ b1 o1, x28q_p = some ⟨b1, o1, none⟩ ∧
                0 ≤ x31 ∧ x31 < ((x28q_n : Nat) : Int) ∧ ∃ (x35 : Int), 1 = ([.int .i64 x35] : List Value).length ∧
                    Rd u12 b1 (o1 + x31.toNat * 1) ([.int .i64 x35]) ∧ (((!decide (x35 = p)) = true →
                    inK .i64 (x31 + 1) ∧ (Loc.mk 41 false ([.slice t_Columns_p t_Columns_n t_Columns_c])) = (Loc.mk 41 false ([.slice t_Columns_p t_Columns_n t_Columns_c])) ∧
                    I_1 (x31 + 1) x8q_Row1 x8q_Col1 x8q_High1 x8q_Wide1 u12 ∧ (Loc.mk 41 false ([.slice t_Columns_p t_Columns_n t_Columns_c])) = (Loc.mk 41 false ([.slice t_Columns_p t_Columns_n t_Columns_c])) ∧
                  M_1 (x31 + 1) x8q_Row1 x8q_Col1 x8q_High1 x8q_Wide1 u12 < M_1 x31 x8q_Row1 x8q_Col1 x8q_High1 x8q_Wide1 u12) ∧
                      ((!decide (x35 = p)) = false → Spec Try.prog 18 #[.int .i64 wide, .int .i64 ((t_Columns_n : Nat) : Int), .int .i64 x24] u12 (fun e u13 => ∃ (x450 : Int) (x451 : Int), e = .returned (.tuple #[.int .i64 x450, .int .i64 x451]) ∧
                        Spec Try.prog 18 #[.int .i64 high, .int .i64 ((x28q_n : Nat) : Int), .int .i64 x31] u13 (fun e u14 => ∃ (x530 : Int) (x531 : Int), e = .returned (.tuple #[.int .i64 x530, .int .i64 x531]) ∧
                                (((decide ((0 : Int) < x451)) = true → (((decide ((0 : Int) < x531)) = true →
                              R (.returned (.agg #[.int .i64 x530, .int .i64 x450, .int .i64 x531, .int .i64 x451])) u14) ∧
                                ((decide ((0 : Int) < x531)) = false → inK .i64 (x31 + 1) ∧ (Loc.mk 41 false ([.slice t_Columns_p t_Columns_n t_Columns_c])) = (Loc.mk 41 false ([.slice t_Columns_p t_Columns_n t_Columns_c])) ∧
                                I_1 (x31 + 1) x8q_Row1 x8q_Col1 x8q_High1 x8q_Wide1 u14 ∧ (Loc.mk 41 false ([.slice t_Columns_p t_Columns_n t_Columns_c])) = (Loc.mk 41 false ([.slice t_Columns_p t_Columns_n t_Columns_c])) ∧
                          M_1 (x31 + 1) x8q_Row1 x8q_Col1 x8q_High1 x8q_Wide1 u14 < M_1 x31 x8q_Row1 x8q_Col1 x8q_High1 x8q_Wide1 u12))) ∧
                            ((decide ((0 : Int) < x451)) = false → inK .i64 (x31 + 1) ∧ (Loc.mk 41 false ([.slice t_Columns_p t_Columns_n t_Columns_c])) = (Loc.mk 41 false ([.slice t_Columns_p t_Columns_n t_Columns_c])) ∧
                            I_1 (x31 + 1) x8q_Row1 x8q_Col1 x8q_High1 x8q_Wide1 u14 ∧ (Loc.mk 41 false ([.slice t_Columns_p t_Columns_n t_Columns_c])) = (Loc.mk 41 false ([.slice t_Columns_p t_Columns_n t_Columns_c])) ∧
              M_1 (x31 + 1) x8q_Row1 x8q_Col1 x8q_High1 x8q_Wide1 u14 < M_1 x31 x8q_Row1 x8q_Col1 x8q_High1 x8q_Wide1 u12))))))) ∧
                ((decide (x31 < ((x28q_n : Nat) : Int))) = false → inK .i64 (x24 + 1) ∧
                (Loc.mk 41 false ([.slice t_Columns_p t_Columns_n t_Columns_c])) = (Loc.mk 41 false ([.slice t_Columns_p t_Columns_n t_Columns_c])) ∧
                I_ (x24 + 1) x8q_Row1 x8q_Col1 x8q_High1 x8q_Wide1 u12 ∧ (Loc.mk 41 false ([.slice t_Columns_p t_Columns_n t_Columns_c])) = (Loc.mk 41 false ([.slice t_Columns_p t_Columns_n t_Columns_c])) ∧
          M_ (x24 + 1) x8q_Row1 x8q_Col1 x8q_High1 x8q_Wide1 u12 < M_ x24 x8q_Row x8q_Col x8q_High x8q_Wide u11))) ∧
  ((decide (x24 < ((t_Columns_n : Nat) : Int))) = false → R (.returned (.agg #[.int .i64 0, .int .i64 0, .int .i64 0, .int .i64 0])) u11)))))
set_option maxRecDepth 100000 in
theorem vc_fenestraref_PlaceOf_eq (t_Columns_p : Option Addr) (t_Columns_n t_Columns_c : Nat) (wide : Int) (high : Int) (p : Int) (u : World) (R : Ending → World → Prop) : wFunc cx_fenestraref_PlaceOf Try.f21 [.agg #[.slice t_Columns_p t_Columns_n t_Columns_c], .int .i64 wide, .int .i64 high, .int .i64 p] u R = vc_fenestraref_PlaceOf t_Columns_p t_Columns_n t_Columns_c wide high p u R := by kernel_rfl
theorem vc_fenestraref_PlaceOf_spec (t_Columns_p : Option Addr) (t_Columns_n t_Columns_c : Nat) (wide : Int) (high : Int) (p : Int) {u : World} {R : Ending → World → Prop} (h : vc_fenestraref_PlaceOf t_Columns_p t_Columns_n t_Columns_c wide high p u R) : Spec Try.prog fn_fenestraref_PlaceOf #[.agg #[.slice t_Columns_p t_Columns_n t_Columns_c], .int .i64 wide, .int .i64 high, .int .i64 p] u R := func_spec (C := cx_fenestraref_PlaceOf) (fn := Try.f21) (args := [.agg #[.slice t_Columns_p t_Columns_n t_Columns_c], .int .i64 wide, .int .i64 high, .int .i64 p]) (ctxOk _ _ _ _ _) Try.func21 (vc_fenestraref_PlaceOf_eq t_Columns_p t_Columns_n t_Columns_c wide high p u R) h

end Go.Proofs.Ytkmmphkjmamckab
