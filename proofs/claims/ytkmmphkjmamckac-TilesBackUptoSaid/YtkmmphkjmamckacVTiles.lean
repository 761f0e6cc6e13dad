import Derived.Test.YtkmmphkjmamckacCtx
namespace Go.Proofs.Ytkmmphkjmamckac
open Go
set_option linter.all false

/-- fenestra/tiles.pane -/
noncomputable def cx_tiles_pane : Ctx := ⟨Try.prog, tab, [], [], [], fns, [], []⟩
def vc_tiles_pane (p : Int) (u : World) (R : Ending → World → Prop) : Prop :=
    (((decide ((0 : Int) ≤ p)) = true → R (.returned (.bool (decide (p < 6)))) u) ∧
  ((decide ((0 : Int) ≤ p)) = false → R (.returned (.bool false)) u))
set_option maxRecDepth 100000 in
theorem vc_tiles_pane_eq (p : Int) (u : World) (R : Ending → World → Prop) : wFunc cx_tiles_pane Try.f11 [.int .i64 p] u R = vc_tiles_pane p u R := by kernel_rfl
theorem vc_tiles_pane_spec (p : Int) {u : World} {R : Ending → World → Prop} (h : vc_tiles_pane p u R) : Spec Try.prog fn_tiles_pane #[.int .i64 p] u R := func_spec (C := cx_tiles_pane) (fn := Try.f11) (args := [.int .i64 p]) (ctxOk _ _ _ _ _) Try.func11 (vc_tiles_pane_eq p u R) h

/-- fenestra/tiles.Good -/
noncomputable def cx_tiles_Good : Ctx := ⟨Try.prog, tab, [], [], [3], fns, [(3, ⟨[.keep, .keep, .junk, .keep, .keep, .junk, .keep, .junk, .keep, .keep, .keep, .cell (.int .i64), .junk, .junk, .junk, .junk, .junk, .junk, .junk, .junk, .junk, .junk, .junk, .junk, .junk, .junk, .junk, .junk, .junk, .junk, .junk, .junk, .junk, .junk, .junk, .junk, .junk, .junk, .junk, .junk, .junk, .keep, .keep, .keep, .keep], [.keep, .opq]⟩), (8, ⟨[.keep, .keep, .junk, .keep, .keep, .keep, .keep, .junk, .keep, .keep, .keep, .keep, .keep, .keep, .keep, .keep, .keep, .keep, .keep, .keep, .keep, .keep, .keep, .keep, .keep, .cell (.int .i64), .junk, .junk, .junk, .junk, .junk, .junk, .junk, .junk, .junk, .junk, .junk, .junk, .junk, .junk, .keep, .keep, .keep, .keep, .keep], [.keep, .opq]⟩)], []⟩
def vc_tiles_Good (t_Columns_p : Option Addr) (t_Columns_n t_Columns_c : Nat) (u : World) (R : Ending → World → Prop) : Prop :=
    ∃ (I_ : Int → List Value → World → Prop) (M_ : Int → List Value →
    World → Nat), ((Loc.mk 24 false ([.slice t_Columns_p t_Columns_n t_Columns_c])) = (Loc.mk 24 false ([.slice t_Columns_p t_Columns_n t_Columns_c])) ∧
  I_ 0 ([.bool false, .bool false, .bool false, .bool false, .bool false, .bool false]) (allocW (allocW u hole) hole)) ∧
  ∀ (x11 : Int) (seen : List Value), (Loc.mk 24 false ([.slice t_Columns_p t_Columns_n t_Columns_c])) = (Loc.mk 24 false ([.slice t_Columns_p t_Columns_n t_Columns_c])) ∧
      ∀ u1 : World, I_ x11 seen u1 → (((decide (x11 < ((t_Columns_n : Nat) : Int))) = true →
      ∃ b o, t_Columns_p = some ⟨b, o, none⟩ ∧ 0 ≤ x11 ∧ x11 < ((t_Columns_n : Nat) : Int) ∧
      ∃ (x14q_p : Option Addr) (x14q_n x14q_c : Nat), 1 = ([.slice x14q_p x14q_n x14q_c] : List Value).length ∧
          Rd u1 b (o + x11.toNat * 1) ([.slice x14q_p x14q_n x14q_c]) ∧ (((decide (((x14q_n : Nat) : Int) = 0)) = true →
          R (.returned (.bool false)) u1) ∧ ((decide (((x14q_n : Nat) : Int) = 0)) = false →
            (((decide ((3 : Int) < ((x14q_n : Nat) : Int))) = true → R (.returned (.bool false)) u1) ∧
                ((decide ((3 : Int) < ((x14q_n : Nat) : Int))) = false → ∃ (I_1 : Int →
                List Value → World → Prop) (M_1 : Int → List Value → World → Nat), ((Loc.mk 24 false ([.slice t_Columns_p t_Columns_n t_Columns_c])) = (Loc.mk 24 false ([.slice t_Columns_p t_Columns_n t_Columns_c])) ∧
              I_1 0 seen u1) ∧ ∀ (x25 : Int) (seen1 : List Value), (Loc.mk 24 false ([.slice t_Columns_p t_Columns_n t_Columns_c])) = (Loc.mk 24 false ([.slice t_Columns_p t_Columns_n t_Columns_c])) ∧
                  ∀ u11 : World, I_1 x25 seen1 u11 → (((decide (x25 < ((x14q_n : Nat) : Int))) = true →
                  ∃ b1 o1, x14q_p = some ⟨b1, o1, none⟩ ∧ 0 ≤ x25 ∧ x25 < ((x14q_n : Nat) : Int) ∧
                  ∃ (x28 : Int), 1 = ([.int .i64 x28] : List Value).length ∧ Rd u11 b1 (o1 + x25.toNat * 1) ([.int .i64 x28]) ∧
                    Spec Try.prog 11 #[.int .i64 x28] u11 (fun e u12 => ∃ (x30 : Bool), e = .returned (.bool x30) ∧
                        (((!x30) = true → R (.returned (.bool false)) u12) ∧ ((!x30) = false →
                        0 ≤ x28 ∧ x28 < ((6 : Nat) : Int) ∧ ∃ (x35 : Bool), takeN seen1 (0 + x28.toNat * 1) 1 = some [.bool x35] ∧
                            ((x35 = true → R (.returned (.bool false)) u12) ∧ (x35 = false →
                            0 ≤ x28 ∧ x28 < ((6 : Nat) : Int) ∧ 1 = ([.bool true] : List Value).length ∧
                            ∃ cs, putN seen1 (0 + x28.toNat * 1) ([.bool true]) = some cs ∧
                            inK .i64 (x25 + 1) ∧ (Loc.mk 24 false ([.slice t_Columns_p t_Columns_n t_Columns_c])) = (Loc.mk 24 false ([.slice t_Columns_p t_Columns_n t_Columns_c])) ∧
                            I_1 (x25 + 1) cs u12 ∧ (Loc.mk 24 false ([.slice t_Columns_p t_Columns_n t_Columns_c])) = (Loc.mk 24 false ([.slice t_Columns_p t_Columns_n t_Columns_c])) ∧
                  M_1 (x25 + 1) cs u12 < M_1 x25 seen1 u11)))))) ∧ ((decide (x25 < ((x14q_n : Nat) : Int))) = false →
                  inK .i64 (x11 + 1) ∧ (Loc.mk 24 false ([.slice t_Columns_p t_Columns_n t_Columns_c])) = (Loc.mk 24 false ([.slice t_Columns_p t_Columns_n t_Columns_c])) ∧
                  I_ (x11 + 1) seen1 u11 ∧ (Loc.mk 24 false ([.slice t_Columns_p t_Columns_n t_Columns_c])) = (Loc.mk 24 false ([.slice t_Columns_p t_Columns_n t_Columns_c])) ∧
      M_ (x11 + 1) seen1 u11 < M_ x11 seen u1))))))) ∧ ((decide (x11 < ((t_Columns_n : Nat) : Int))) = false →
  R (.returned (.bool (decide ((0 : Int) < ((t_Columns_n : Nat) : Int))))) u1))
set_option maxRecDepth 100000 in
theorem vc_tiles_Good_eq (t_Columns_p : Option Addr) (t_Columns_n t_Columns_c : Nat) (u : World) (R : Ending → World → Prop) : wFunc cx_tiles_Good Try.f7 [.agg #[.slice t_Columns_p t_Columns_n t_Columns_c]] u R = vc_tiles_Good t_Columns_p t_Columns_n t_Columns_c u R := by kernel_rfl
theorem vc_tiles_Good_spec (t_Columns_p : Option Addr) (t_Columns_n t_Columns_c : Nat) {u : World} {R : Ending → World → Prop} (h : vc_tiles_Good t_Columns_p t_Columns_n t_Columns_c u R) : Spec Try.prog fn_tiles_Good #[.agg #[.slice t_Columns_p t_Columns_n t_Columns_c]] u R := func_spec (C := cx_tiles_Good) (fn := Try.f7) (args := [.agg #[.slice t_Columns_p t_Columns_n t_Columns_c]]) (ctxOk _ _ _ _ _) Try.func7 (vc_tiles_Good_eq t_Columns_p t_Columns_n t_Columns_c u R) h

/-- fenestra/tiles.find -/
noncomputable def cx_tiles_find : Ctx := ⟨Try.prog, tab, [], [], [], fns, [(2, ⟨[.keep, .keep, .keep, .keep, .junk, .junk, .junk, .junk, .junk, .junk, .keep, .keep, .keep, .cell (.int .i64), .junk, .junk, .junk, .junk, .junk, .junk, .junk, .junk, .junk, .junk, .junk, .junk], [.keep]⟩)], []⟩
def vc_tiles_find (t_Columns_p : Option Addr) (t_Columns_n t_Columns_c : Nat) (p : Int) (u : World) (R : Ending → World → Prop) : Prop :=
    ∃ (I_ : Int → World → Prop) (M_ : Int → World → Nat), ((Loc.mk 24 false ([.slice t_Columns_p t_Columns_n t_Columns_c])) = (Loc.mk 24 false ([.slice t_Columns_p t_Columns_n t_Columns_c])) ∧
  I_ 0 (allocW u hole)) ∧ ∀ (x13 : Int), (Loc.mk 24 false ([.slice t_Columns_p t_Columns_n t_Columns_c])) = (Loc.mk 24 false ([.slice t_Columns_p t_Columns_n t_Columns_c])) ∧
      ∀ u1 : World, I_ x13 u1 → (((decide (x13 < ((t_Columns_n : Nat) : Int))) = true →
      ∃ b o, t_Columns_p = some ⟨b, o, none⟩ ∧ 0 ≤ x13 ∧ x13 < ((t_Columns_n : Nat) : Int) ∧
      ∃ (x17q_p : Option Addr) (x17q_n x17q_c : Nat), 1 = ([.slice x17q_p x17q_n x17q_c] : List Value).length ∧
        Rd u1 b (o + x13.toNat * 1) ([.slice x17q_p x17q_n x17q_c]) ∧ Spec Try.prog 18 #[.slice x17q_p x17q_n x17q_c, .int .i64 p] u1 (fun e u11 => ∃ (x20 : Int), e = .returned (.int .i64 x20) ∧
          (((decide ((0 : Int) ≤ x20)) = true → R (.returned (.tuple #[.int .i64 x13, .int .i64 x20, .bool true])) u11) ∧
            ((decide ((0 : Int) ≤ x20)) = false → inK .i64 (x13 + 1) ∧ (Loc.mk 24 false ([.slice t_Columns_p t_Columns_n t_Columns_c])) = (Loc.mk 24 false ([.slice t_Columns_p t_Columns_n t_Columns_c])) ∧
            I_ (x13 + 1) u11 ∧ (Loc.mk 24 false ([.slice t_Columns_p t_Columns_n t_Columns_c])) = (Loc.mk 24 false ([.slice t_Columns_p t_Columns_n t_Columns_c])) ∧
      M_ (x13 + 1) u11 < M_ x13 u1)))) ∧ ((decide (x13 < ((t_Columns_n : Nat) : Int))) = false →
  R (.returned (.tuple #[.int .i64 0, .int .i64 0, .bool false])) u1))
set_option maxRecDepth 100000 in
theorem vc_tiles_find_eq (t_Columns_p : Option Addr) (t_Columns_n t_Columns_c : Nat) (p : Int) (u : World) (R : Ending → World → Prop) : wFunc cx_tiles_find Try.f10 [.agg #[.slice t_Columns_p t_Columns_n t_Columns_c], .int .i64 p] u R = vc_tiles_find t_Columns_p t_Columns_n t_Columns_c p u R := by kernel_rfl
theorem vc_tiles_find_spec (t_Columns_p : Option Addr) (t_Columns_n t_Columns_c : Nat) (p : Int) {u : World} {R : Ending → World → Prop} (h : vc_tiles_find t_Columns_p t_Columns_n t_Columns_c p u R) : Spec Try.prog fn_tiles_find #[.agg #[.slice t_Columns_p t_Columns_n t_Columns_c], .int .i64 p] u R := func_spec (C := cx_tiles_find) (fn := Try.f10) (args := [.agg #[.slice t_Columns_p t_Columns_n t_Columns_c], .int .i64 p]) (ctxOk _ _ _ _ _) Try.func10 (vc_tiles_find_eq t_Columns_p t_Columns_n t_Columns_c p u R) h

/-- fenestra/tiles.Has -/
noncomputable def cx_tiles_Has : Ctx := ⟨Try.prog, tab, [], [], [], fns, [], []⟩
def vc_tiles_Has (t_Columns_p : Option Addr) (t_Columns_n t_Columns_c : Nat) (p : Int) (u : World) (R : Ending → World → Prop) : Prop :=
    Spec Try.prog 10 #[.agg #[.slice t_Columns_p t_Columns_n t_Columns_c], .int .i64 p] (allocW u hole) (fun e u1 => ∃ (x110 : Int) (x111 : Int) (x112 : Bool), e = .returned (.tuple #[.int .i64 x110, .int .i64 x111, .bool x112]) ∧
  R (.returned (.bool x112)) u1)
set_option maxRecDepth 100000 in
theorem vc_tiles_Has_eq (t_Columns_p : Option Addr) (t_Columns_n t_Columns_c : Nat) (p : Int) (u : World) (R : Ending → World → Prop) : wFunc cx_tiles_Has Try.f8 [.agg #[.slice t_Columns_p t_Columns_n t_Columns_c], .int .i64 p] u R = vc_tiles_Has t_Columns_p t_Columns_n t_Columns_c p u R := by kernel_rfl
theorem vc_tiles_Has_spec (t_Columns_p : Option Addr) (t_Columns_n t_Columns_c : Nat) (p : Int) {u : World} {R : Ending → World → Prop} (h : vc_tiles_Has t_Columns_p t_Columns_n t_Columns_c p u R) : Spec Try.prog fn_tiles_Has #[.agg #[.slice t_Columns_p t_Columns_n t_Columns_c], .int .i64 p] u R := func_spec (C := cx_tiles_Has) (fn := Try.f8) (args := [.agg #[.slice t_Columns_p t_Columns_n t_Columns_c], .int .i64 p]) (ctxOk _ _ _ _ _) Try.func8 (vc_tiles_Has_eq t_Columns_p t_Columns_n t_Columns_c p u R) h

/-- fenestra/tiles.Share -/
noncomputable def cx_tiles_Share : Ctx := ⟨Try.prog, tab, [], [], [], fns, [], []⟩
def vc_tiles_Share (length : Int) (n : Int) (k : Int) (u : World) (R : Ending → World → Prop) : Prop :=
    (((decide (n < 1)) = true → R (.returned (.tuple #[.int .i64 0, .int .i64 0])) u) ∧
          ((decide (n < 1)) = false → (((decide ((6 : Int) < n)) = true →
          R (.returned (.tuple #[.int .i64 0, .int .i64 0])) u) ∧ ((decide ((6 : Int) < n)) = false →
            (((decide (k < 0)) = true → R (.returned (.tuple #[.int .i64 0, .int .i64 0])) u) ∧
                ((decide (k < 0)) = false → (((decide (n ≤ k)) = true → R (.returned (.tuple #[.int .i64 0, .int .i64 0])) u) ∧
                    ((decide (n ≤ k)) = false → (((decide (length < 0)) = true → R (.returned (.tuple #[.int .i64 0, .int .i64 0])) u) ∧
                          ((decide (length < 0)) = false → (((decide ((24 : Int) < length)) = true →
                          R (.returned (.tuple #[.int .i64 0, .int .i64 0])) u) ∧ ((decide ((24 : Int) < length)) = false →
                              inK .i64 (n - 1) ∧ inK .i64 (length - (n - 1)) ∧ (((decide ((length - (n - 1)) < n)) = true →
                              R (.returned (.tuple #[.int .i64 0, .int .i64 0])) u) ∧ ((decide ((length - (n - 1)) < n)) = false →
                              0 ≤ (length - (n - 1)) ∧ 0 < n ∧ inK .i64 (length - (n - 1)) ∧
                              0 ≤ (length - (n - 1)) ∧ 0 < n ∧ inK .i64 (((length - (n - 1)) / n) + 1) ∧
                              inK .i64 (k * (((length - (n - 1)) / n) + 1)) ∧ inK .i64 ((k * (((length - (n - 1)) / n) + 1)) + (min k ((length - (n - 1)) % n))) ∧
                                  (((decide (k < ((length - (n - 1)) % n))) = true → inK .i64 (((length - (n - 1)) / n) + 1) ∧
                                R (.returned (.tuple #[.int .i64 ((k * (((length - (n - 1)) / n) + 1)) + (min k ((length - (n - 1)) % n))), .int .i64 (((length - (n - 1)) / n) + 1)])) (drewW u)) ∧
  ((decide (k < ((length - (n - 1)) % n))) = false → R (.returned (.tuple #[.int .i64 ((k * (((length - (n - 1)) / n) + 1)) + (min k ((length - (n - 1)) % n))), .int .i64 ((length - (n - 1)) / n)])) (drewW u)))))))))))))))))
set_option maxRecDepth 100000 in
theorem vc_tiles_Share_eq (length : Int) (n : Int) (k : Int) (u : World) (R : Ending → World → Prop) : wFunc cx_tiles_Share Try.f24 [.int .i64 length, .int .i64 n, .int .i64 k] u R = vc_tiles_Share length n k u R := by kernel_rfl
theorem vc_tiles_Share_spec (length : Int) (n : Int) (k : Int) {u : World} {R : Ending → World → Prop} (h : vc_tiles_Share length n k u R) : Spec Try.prog fn_tiles_Share #[.int .i64 length, .int .i64 n, .int .i64 k] u R := func_spec (C := cx_tiles_Share) (fn := Try.f24) (args := [.int .i64 length, .int .i64 n, .int .i64 k]) (ctxOk _ _ _ _ _) Try.func24 (vc_tiles_Share_eq length n k u R) h

/-- fenestra/tiles.Where -/
noncomputable def cx_tiles_Where : Ctx := ⟨Try.prog, tab, [], [], [], fns, [], []⟩
def vc_tiles_Where (t_Columns_p : Option Addr) (t_Columns_n t_Columns_c : Nat) (wide : Int) (high : Int) (p : Int) (u : World) (R : Ending → World → Prop) : Prop :=
    Spec Try.prog 10 #[.agg #[.slice t_Columns_p t_Columns_n t_Columns_c], .int .i64 p] (allocW (allocW u hole) hole) (fun e u1 => ∃ (x190 : Int) (x191 : Int) (x192 : Bool), e = .returned (.tuple #[.int .i64 x190, .int .i64 x191, .bool x192]) ∧
      (((!x192) = true → R (.returned (.agg #[.int .i64 0, .int .i64 0, .int .i64 0, .int .i64 0])) u1) ∧
          ((!x192) = false → Spec Try.prog 7 #[.agg #[.slice t_Columns_p t_Columns_n t_Columns_c]] u1 (fun e u11 => ∃ (x27 : Bool), e = .returned (.bool x27) ∧
            (((!x27) = true → R (.returned (.agg #[.int .i64 0, .int .i64 0, .int .i64 0, .int .i64 0])) u11) ∧
                ((!x27) = false → Spec Try.prog 24 #[.int .i64 wide, .int .i64 ((t_Columns_n : Nat) : Int), .int .i64 x190] u11 (fun e u12 => ∃ (x370 : Int) (x371 : Int), e = .returned (.tuple #[.int .i64 x370, .int .i64 x371]) ∧
                ∃ b o, t_Columns_p = some ⟨b, o, none⟩ ∧ 0 ≤ x190 ∧ x190 < ((t_Columns_n : Nat) : Int) ∧
                ∃ (x46q_p : Option Addr) (x46q_n x46q_c : Nat), 1 = ([.slice x46q_p x46q_n x46q_c] : List Value).length ∧
                Rd u12 b (o + x190.toNat * 1) ([.slice x46q_p x46q_n x46q_c]) ∧
                  Spec Try.prog 24 #[.int .i64 high, .int .i64 ((x46q_n : Nat) : Int), .int .i64 x191] u12 (fun e u13 => ∃ (x490 : Int) (x491 : Int), e = .returned (.tuple #[.int .i64 x490, .int .i64 x491]) ∧
                    (((decide (x371 = 0)) = true → R (.returned (.agg #[.int .i64 0, .int .i64 0, .int .i64 0, .int .i64 0])) u13) ∧
                        ((decide (x371 = 0)) = false → (((decide (x491 = 0)) = true → R (.returned (.agg #[.int .i64 0, .int .i64 0, .int .i64 0, .int .i64 0])) u13) ∧
  ((decide (x491 = 0)) = false → R (.returned (.agg #[.int .i64 x490, .int .i64 x370, .int .i64 x491, .int .i64 x371])) u13))))))))))))
set_option maxRecDepth 100000 in
theorem vc_tiles_Where_eq (t_Columns_p : Option Addr) (t_Columns_n t_Columns_c : Nat) (wide : Int) (high : Int) (p : Int) (u : World) (R : Ending → World → Prop) : wFunc cx_tiles_Where Try.f15 [.agg #[.slice t_Columns_p t_Columns_n t_Columns_c], .int .i64 wide, .int .i64 high, .int .i64 p] u R = vc_tiles_Where t_Columns_p t_Columns_n t_Columns_c wide high p u R := by kernel_rfl
theorem vc_tiles_Where_spec (t_Columns_p : Option Addr) (t_Columns_n t_Columns_c : Nat) (wide : Int) (high : Int) (p : Int) {u : World} {R : Ending → World → Prop} (h : vc_tiles_Where t_Columns_p t_Columns_n t_Columns_c wide high p u R) : Spec Try.prog fn_tiles_Where #[.agg #[.slice t_Columns_p t_Columns_n t_Columns_c], .int .i64 wide, .int .i64 high, .int .i64 p] u R := func_spec (C := cx_tiles_Where) (fn := Try.f15) (args := [.agg #[.slice t_Columns_p t_Columns_n t_Columns_c], .int .i64 wide, .int .i64 high, .int .i64 p]) (ctxOk _ _ _ _ _) Try.func15 (vc_tiles_Where_eq t_Columns_p t_Columns_n t_Columns_c wide high p u R) h

/-- slices.Index[[]int,int] -/
noncomputable def cx_slices_Index_int_int : Ctx := ⟨Try.prog, tab, [], [], [], fns, [(2, ⟨[.keep, .keep, .keep, .keep, .junk, .junk, .keep, .keep, .cell (.int .i64), .junk, .junk, .junk, .junk, .junk, .junk, .junk, .junk, .junk, .junk], []⟩)], []⟩
def vc_slices_Index_int_int (s_p : Option Addr) (s_n s_c : Nat) (v : Int) (u : World) (R : Ending → World → Prop) : Prop :=
  ∃ (I_ : Int → World → Prop) (M_ : Int → World → Nat), (I_ 0 u) ∧
      ∀ (x8 : Int), ∀ u1 : World, I_ x8 u1 → (((decide (x8 < ((s_n : Nat) : Int))) = true →
      ∃ b o, s_p = some ⟨b, o, none⟩ ∧ 0 ≤ x8 ∧ x8 < ((s_n : Nat) : Int) ∧
      ∃ (x15 : Int), 1 = ([.int .i64 x15] : List Value).length ∧ Rd u1 b (o + x8.toNat * 1) ([.int .i64 x15]) ∧
        (((decide (v = x15)) = true → R (.returned (.int .i64 x8)) u1) ∧
          ((decide (v = x15)) = false → inK .i64 (x8 + 1) ∧ I_ (x8 + 1) u1 ∧
      M_ (x8 + 1) u1 < M_ x8 u1))) ∧ ((decide (x8 < ((s_n : Nat) : Int))) = false →
  R (.returned (.int .i64 (-1))) u1))
set_option maxRecDepth 100000 in
theorem vc_slices_Index_int_int_eq (s_p : Option Addr) (s_n s_c : Nat) (v : Int) (u : World) (R : Ending → World → Prop) : wFunc cx_slices_Index_int_int Try.f18 [.slice s_p s_n s_c, .int .i64 v] u R = vc_slices_Index_int_int s_p s_n s_c v u R := by kernel_rfl
theorem vc_slices_Index_int_int_spec (s_p : Option Addr) (s_n s_c : Nat) (v : Int) {u : World} {R : Ending → World → Prop} (h : vc_slices_Index_int_int s_p s_n s_c v u R) : Spec Try.prog fn_slices_Index_int_int #[.slice s_p s_n s_c, .int .i64 v] u R := func_spec (C := cx_slices_Index_int_int) (fn := Try.f18) (args := [.slice s_p s_n s_c, .int .i64 v]) (ctxOk _ _ _ _ _) Try.func18 (vc_slices_Index_int_int_eq s_p s_n s_c v u R) h

end Go.Proofs.Ytkmmphkjmamckac
