/-
  Texts that belong together, joined: VPaint, VServer, VServer2, VServer4, VServer5, VDoC.
-/
import Derived.Test.YtkmmphkjmamckabDoorCtx
namespace Go.Proofs.YtkmmphkjmamckabDoor
open Go
set_option linter.all false

/-- fenestra/paint.sign -/
noncomputable def cx_paint_sign : Ctx := ⟨Tryd.prog, tab, [], [], [], fns, [], []⟩
def vc_paint_sign (c : Int) (u : World) (R : Ending → World → Prop) : Prop :=
 R (.returned (.agg #[.int .i64 c, .int .i64 0, .int .i64 0, .bool false])) (allocW u hole)
set_option maxRecDepth 100000 in
theorem vc_paint_sign_eq (c : Int) (u : World) (R : Ending → World → Prop) : wFunc cx_paint_sign Tryd.f61 [.int .i64 c] u R = vc_paint_sign c u R := by kernel_rfl
theorem vc_paint_sign_spec (c : Int) {u : World} {R : Ending → World → Prop} (h : vc_paint_sign c u R) : Spec Tryd.prog fn_paint_sign #[.int .i64 c] u R := func_spec (C := cx_paint_sign) (fn := Tryd.f61) (args := [.int .i64 c]) (ctxOk _ _ _ _ _) Tryd.func61 (vc_paint_sign_eq c u R) h

/-- fenestra/paint.Cell -/
noncomputable def cx_paint_Cell : Ctx := ⟨Tryd.prog, tab, [], [], [3], fns, [(4, ⟨[.keep, .keep, .keep, .keep, .keep, .keep, .keep, .junk, .junk, .keep, .keep, .keep, .keep, .keep, .keep, .keep, .keep, .keep, .keep, .keep, .keep, .keep, .keep, .keep, .keep, .keep, .keep, .keep, .keep, .keep, .keep, .cell (.int .i64), .junk, .junk, .junk, .junk, .junk, .junk, .junk, .junk, .junk, .junk, .junk, .junk, .junk, .junk, .junk, .junk, .junk, .junk, .junk, .junk, .junk, .junk, .junk, .junk, .junk, .junk, .junk, .junk, .junk, .junk, .junk, .junk, .junk, .junk, .junk, .junk, .junk, .junk, .junk, .junk, .junk, .junk, .junk, .junk, .junk, .junk, .junk, .junk, .junk, .junk, .junk, .junk, .keep, .keep, .keep, .keep, .keep, .keep, .keep, .keep, .keep, .keep, .keep, .keep, .keep, .keep, .keep, .keep, .keep, .keep, .keep, .keep, .keep, .keep, .keep, .keep, .keep, .keep, .keep, .keep, .keep, .keep, .keep], [.keep, .cells [.int .i64, .int .i64, .int .i64, .bool]]⟩), (11, ⟨[.keep, .keep, .keep, .keep, .keep, .keep, .keep, .keep, .keep, .junk, .junk, .junk, .keep, .keep, .keep, .keep, .keep, .keep, .keep, .keep, .keep, .keep, .keep, .keep, .keep, .keep, .keep, .keep, .keep, .keep, .keep, .keep, .keep, .keep, .keep, .keep, .keep, .keep, .keep, .keep, .keep, .keep, .keep, .keep, .keep, .keep, .keep, .keep, .keep, .keep, .keep, .keep, .keep, .keep, .keep, .keep, .keep, .keep, .keep, .keep, .keep, .keep, .keep, .keep, .keep, .keep, .keep, .keep, .keep, .keep, .keep, .keep, .keep, .keep, .keep, .keep, .keep, .keep, .keep, .keep, .keep, .keep, .keep, .keep, .keep, .keep, .keep, .keep, .keep, .cell (.int .i64), .junk, .junk, .junk, .junk, .junk, .junk, .junk, .junk, .junk, .junk, .junk, .junk, .junk, .junk, .junk, .junk, .junk, .junk, .junk, .junk, .junk, .junk, .junk, .junk, .keep], [.keep, .cells [.int .i64, .int .i64, .int .i64, .bool]]⟩)], []⟩
def vc_paint_Cell (v : List Value) (row : Int) (col : Int) (u : World) (R : Ending → World → Prop) : Prop :=
 (((decide (row < 0)) = true → Spec Tryd.prog 61 #[.int .i64 46] (allocW (allocW u hole) hole) (fun e u1 => ∃ (q0 q1 q2 : Int) (q3 : Bool), e = .returned (.agg #[.int .i64 q0, .int .i64 q1, .int .i64 q2, .bool q3]) ∧
 R (.returned (.agg #[.int .i64 q0, .int .i64 q1, .int .i64 q2, .bool q3])) u1)) ∧
 ((decide (row < 0)) = false → (((decide (col < 0)) = true → Spec Tryd.prog 61 #[.int .i64 46] (allocW (allocW u hole) hole) (fun e u11 => ∃ (q4 q5 q6 : Int) (q7 : Bool), e = .returned (.agg #[.int .i64 q4, .int .i64 q5, .int .i64 q6, .bool q7]) ∧
 R (.returned (.agg #[.int .i64 q4, .int .i64 q5, .int .i64 q6, .bool q7])) u11)) ∧
 ((decide (col < 0)) = false → ∃ (q8 : Int), takeN v 56 1 = some [.int .i64 q8] ∧
 (((decide (q8 ≤ row)) = true → Spec Tryd.prog 61 #[.int .i64 46] (allocW (allocW u hole) hole) (fun e u12 => ∃ (q9 qa qb : Int) (qc : Bool), e = .returned (.agg #[.int .i64 q9, .int .i64 qa, .int .i64 qb, .bool qc]) ∧
 R (.returned (.agg #[.int .i64 q9, .int .i64 qa, .int .i64 qb, .bool qc])) u12)) ∧
 ((decide (q8 ≤ row)) = false → ∃ (qd : Int), takeN v 55 1 = some [.int .i64 qd] ∧
 (((decide (qd ≤ col)) = true → Spec Tryd.prog 61 #[.int .i64 46] (allocW (allocW u hole) hole) (fun e u13 => ∃ (qe qf qg : Int) (qh : Bool), e = .returned (.agg #[.int .i64 qe, .int .i64 qf, .int .i64 qg, .bool qh]) ∧
 R (.returned (.agg #[.int .i64 qe, .int .i64 qf, .int .i64 qg, .bool qh])) u13)) ∧
 ((decide (qd ≤ col)) = false → ∃ (I_ : Int → Int → Int → Int →
 Bool → World → Prop) (M_ : Int → Int → Int → Int → Bool → World →
 Nat), ((Loc.mk 57 true v) = (Loc.mk 57 true v) ∧ I_ 0 0 0 0 false (allocW (allocW u hole) hole)) ∧
 ∀ (qi qj qk ql : Int) (qm : Bool), (Loc.mk 57 true v) = (Loc.mk 57 true v) ∧
 ∀ u14 : World, I_ qi qj qk ql qm u14 → (((decide (qi < 6)) = true →
 ∃ (qn : Option Addr) (qo qp : Nat), takeN v 0 1 = some [.slice qn qo qp] ∧
 ∃ (qq : Int), takeN v 55 1 = some [.int .i64 qq] ∧ ∃ (qr : Int), takeN v 56 1 = some [.int .i64 qr] ∧
 Spec Tryd.prog 27 #[.agg #[.slice qn qo qp], .int .i64 qq, .int .i64 qr, .int .i64 qi] u14 (fun e u15 => ∃ (qs qt qu qv : Int), e = .returned (.agg #[.int .i64 qs, .int .i64 qt, .int .i64 qu, .int .i64 qv]) ∧
 (((decide (qs ≤ row)) = true → inK .i64 (qs + qu) ∧
 (((decide (row < (qs + qu))) = true → (((decide (qt ≤ col)) = true →
 inK .i64 (qt + qv) ∧ (((decide (col < (qt + qv))) = true →
 0 ≤ qi ∧ qi < ((6 : Nat) : Int) ∧ ∃ (qw qx : Int) (qy : Option Addr) (qz q10 : Nat) (q11 q12 q13 : Int) (q14 : Bool) (q15 q16 : Int), takeN v (1 + qi.toNat * 9) 9 = some [.int .i64 qw, .int .i64 qx, .slice qy qz q10, .int .i64 q11, .int .i64 q12, .int .i64 q13, .bool q14, .int .i64 q15, .int .i64 q16] ∧
 inK .i64 (row - qs) ∧ inK .i64 (col - qt) ∧ Spec Tryd.prog 58 #[.agg #[.int .i64 qw, .int .i64 qx, .slice qy qz q10, .int .i64 q11, .int .i64 q12, .int .i64 q13, .bool q14, .int .i64 q15, .int .i64 q16], .int .i64 (row - qs), .int .i64 (col - qt)] (drewW (allocW u15 hole)) (fun e u16 => ∃ (q17 q18 q19 : Int) (q1a : Bool), e = .returned (.agg #[.int .i64 q17, .int .i64 q18, .int .i64 q19, .bool q1a]) ∧
 R (.returned (.agg #[.int .i64 q17, .int .i64 q18, .int .i64 q19, .bool q1a])) u16)) ∧
 ((decide (col < (qt + qv))) = false → inK .i64 (qi + 1) ∧
 (Loc.mk 57 true v) = (Loc.mk 57 true v) ∧ I_ (qi + 1) qj qk ql qm (allocW u15 hole) ∧
 (Loc.mk 57 true v) = (Loc.mk 57 true v) ∧ M_ (qi + 1) qj qk ql qm (allocW u15 hole) < M_ qi qj qk ql qm u14))) ∧
 ((decide (qt ≤ col)) = false → inK .i64 (qi + 1) ∧ (Loc.mk 57 true v) = (Loc.mk 57 true v) ∧
 I_ (qi + 1) qj qk ql qm (allocW u15 hole) ∧
 (Loc.mk 57 true v) = (Loc.mk 57 true v) ∧ M_ (qi + 1) qj qk ql qm (allocW u15 hole) < M_ qi qj qk ql qm u14))) ∧
 ((decide (row < (qs + qu))) = false → inK .i64 (qi + 1) ∧
 (Loc.mk 57 true v) = (Loc.mk 57 true v) ∧ I_ (qi + 1) qj qk ql qm (allocW u15 hole) ∧
 (Loc.mk 57 true v) = (Loc.mk 57 true v) ∧ M_ (qi + 1) qj qk ql qm (allocW u15 hole) < M_ qi qj qk ql qm u14))) ∧
 ((decide (qs ≤ row)) = false → inK .i64 (qi + 1) ∧ (Loc.mk 57 true v) = (Loc.mk 57 true v) ∧
 I_ (qi + 1) qj qk ql qm (allocW u15 hole) ∧
 (Loc.mk 57 true v) = (Loc.mk 57 true v) ∧ M_ (qi + 1) qj qk ql qm (allocW u15 hole) < M_ qi qj qk ql qm u14)))) ∧
 ((decide (qi < 6)) = false → ∃ (q1b : Option Addr) (q1c q1d : Nat), takeN v 0 1 = some [.slice q1b q1c q1d] ∧
 inK .i64 (((q1c : Nat) : Int) - 1) ∧ ∃ (I_1 : Int → Int → Int →
 Int → Bool → World → Prop) (M_1 : Int → Int → Int → Int → Bool →
 World → Nat), ((Loc.mk 57 true v) = (Loc.mk 57 true v) ∧ I_1 0 qj qk ql qm u14) ∧
 ∀ (q1e q1f q1g q1h : Int) (q1i : Bool), (Loc.mk 57 true v) = (Loc.mk 57 true v) ∧
 ∀ u17 : World, I_1 q1e q1f q1g q1h q1i u17 →
 (((decide (q1e < (((q1c : Nat) : Int) - 1))) = true → ∃ (q1j : Int), takeN v 55 1 = some [.int .i64 q1j] ∧
 ∃ (q1k : Option Addr) (q1l q1m : Nat), takeN v 0 1 = some [.slice q1k q1l q1m] ∧
 Spec Tryd.prog 42 #[.int .i64 q1j, .int .i64 ((q1l : Nat) : Int), .int .i64 q1e] u17 (fun e u18 => ∃ (q1n q1o : Int), e = .returned (.tuple #[.int .i64 q1n, .int .i64 q1o]) ∧
 (((decide ((0 : Int) < q1o)) = true → inK .i64 (q1n + q1o) ∧
 (((decide (col = (q1n + q1o))) = true → Spec Tryd.prog 61 #[.int .i64 124] u18 (fun e u19 => ∃ (q1p q1q q1r : Int) (q1s : Bool), e = .returned (.agg #[.int .i64 q1p, .int .i64 q1q, .int .i64 q1r, .bool q1s]) ∧
 R (.returned (.agg #[.int .i64 q1p, .int .i64 q1q, .int .i64 q1r, .bool q1s])) u19)) ∧
 ((decide (col = (q1n + q1o))) = false → inK .i64 (q1e + 1) ∧
 (Loc.mk 57 true v) = (Loc.mk 57 true v) ∧ I_1 (q1e + 1) q1f q1g q1h q1i u18 ∧
 (Loc.mk 57 true v) = (Loc.mk 57 true v) ∧ M_1 (q1e + 1) q1f q1g q1h q1i u18 < M_1 q1e q1f q1g q1h q1i u17))) ∧
 ((decide ((0 : Int) < q1o)) = false → inK .i64 (q1e + 1) ∧ (Loc.mk 57 true v) = (Loc.mk 57 true v) ∧
 I_1 (q1e + 1) q1f q1g q1h q1i u18 ∧ (Loc.mk 57 true v) = (Loc.mk 57 true v) ∧
 M_1 (q1e + 1) q1f q1g q1h q1i u18 < M_1 q1e q1f q1g q1h q1i u17)))) ∧
 ((decide (q1e < (((q1c : Nat) : Int) - 1))) = false → Spec Tryd.prog 61 #[.int .i64 45] u17 (fun e u110 => ∃ (q1t q1u q1v : Int) (q1w : Bool), e = .returned (.agg #[.int .i64 q1t, .int .i64 q1u, .int .i64 q1v, .bool q1w]) ∧
 R (.returned (.agg #[.int .i64 q1t, .int .i64 q1u, .int .i64 q1v, .bool q1w])) u110)))))))))))))
set_option maxRecDepth 100000 in
theorem vc_paint_Cell_eq (v : List Value) (row : Int) (col : Int) (u : World) (R : Ending → World → Prop) : wFunc cx_paint_Cell Tryd.f40 [.agg v.toArray, .int .i64 row, .int .i64 col] u R = vc_paint_Cell v row col u R := by kernel_rfl
theorem vc_paint_Cell_spec (v : List Value) (row : Int) (col : Int) {u : World} {R : Ending → World → Prop} (h : vc_paint_Cell v row col u R) : Spec Tryd.prog fn_paint_Cell #[.agg v.toArray, .int .i64 row, .int .i64 col] u R := func_spec (C := cx_paint_Cell) (fn := Tryd.f40) (args := [.agg v.toArray, .int .i64 row, .int .i64 col]) (ctxOk _ _ _ _ _) Tryd.func40 (vc_paint_Cell_eq v row col u R) h

/-- fenestra/paint.Status -/
noncomputable def cx_paint_Status : Ctx := ⟨Tryd.prog, tab, [], [], [], fns, [(3, ⟨[.keep, .keep, .keep, .keep, .keep, .cell (.int .i64), .keep, .junk, .keep, .junk, .keep, .keep, .keep, .keep, .cell (.int .i64), .junk, .junk, .junk, .junk, .junk, .junk, .junk, .junk, .junk, .junk, .junk, .junk, .junk, .junk, .junk, .junk, .junk, .junk, .junk, .junk, .junk, .junk, .junk, .junk, .junk, .junk, .keep], [.keep, .cells [.int .i64, .int .i64, .int .i64, .bool]]⟩), (6, ⟨[.keep, .keep, .keep, .keep, .keep, .cell (.int .i64), .keep, .keep, .keep, .junk, .keep, .keep, .keep, .keep, .keep, .keep, .keep, .keep, .keep, .keep, .cell (.int .i64), .junk, .junk, .junk, .junk, .junk, .junk, .junk, .junk, .junk, .junk, .junk, .junk, .junk, .junk, .junk, .junk, .junk, .junk, .junk, .keep, .keep], [.keep, .cells [.int .i64, .int .i64, .int .i64, .bool]]⟩)], []⟩
def vc_paint_Status (v : List Value) (col : Int) (u : World) (R : Ending → World → Prop) : Prop :=
 ∃ (q0 : Option Addr) (q1 q2 : Nat), takeN v 0 1 = some [.slice q0 q1 q2] ∧
 ∃ (I_ : Int → Int → Int → Int → Int → Bool → World → Prop) (M_ : Int →
 Int → Int → Int → Int → Bool → World → Nat), ((Loc.mk 57 true v) = (Loc.mk 57 true v) ∧
 I_ 0 0 0 0 0 false (allocW (allocW u hole) hole)) ∧ ∀ (k : Int) (q3 q4 q5 q6 : Int) (q7 : Bool), (Loc.mk 57 true v) = (Loc.mk 57 true v) ∧
 ∀ u1 : World, I_ k q3 q4 q5 q6 q7 u1 → (((decide (q3 < ((q1 : Nat) : Int))) = true →
 ∃ b o, q0 = some ⟨b, o, none⟩ ∧ 0 ≤ q3 ∧ q3 < ((q1 : Nat) : Int) ∧
 ∃ (q8 : Option Addr) (q9 qa : Nat), 1 = szN 1 ∧
 Rd u1 b (o + q3.toNat * 1) ([.slice q8 q9 qa]) ∧ ∃ (I_1 : Int →
 Int → Int → Int → Int → Bool → World → Prop) (M_1 : Int → Int →
 Int → Int → Int → Bool → World → Nat), ((Loc.mk 57 true v) = (Loc.mk 57 true v) ∧
 I_1 k 0 q4 q5 q6 q7 u1) ∧ ∀ (k1 : Int) (qb qc qd qe : Int) (qf : Bool), (Loc.mk 57 true v) = (Loc.mk 57 true v) ∧
 ∀ u11 : World, I_1 k1 qb qc qd qe qf u11 →
 (((decide (qb < ((q9 : Nat) : Int))) = true → ∃ b1 o1, q8 = some ⟨b1, o1, none⟩ ∧
 0 ≤ qb ∧ qb < ((q9 : Nat) : Int) ∧ ∃ (qg : Int), 1 = szN 1 ∧
 Rd u11 b1 (o1 + qb.toNat * 1) ([.int .i64 qg]) ∧ inK .i64 (2 * k1) ∧
 (((decide (col = (2 * k1))) = true → inK .i64 (48 + (max (0 : Int) (min qg 9))) ∧
 ∃ (qh : Int), takeN v 57 1 = some [.int .i64 qh] ∧ R (.returned (.agg #[.int .i64 (48 + (max (0 : Int) (min qg 9))), .int .i64 0, .int .i64 0, .bool (decide (qg = qh))])) u11) ∧
 ((decide (col = (2 * k1))) = false → inK .i64 (k1 + 1) ∧ inK .i64 (qb + 1) ∧
 (Loc.mk 57 true v) = (Loc.mk 57 true v) ∧ I_1 (k1 + 1) (qb + 1) qc qd qe qf u11 ∧
 (Loc.mk 57 true v) = (Loc.mk 57 true v) ∧ M_1 (k1 + 1) (qb + 1) qc qd qe qf u11 < M_1 k1 qb qc qd qe qf u11))) ∧
 ((decide (qb < ((q9 : Nat) : Int))) = false → inK .i64 (q3 + 1) ∧
 (Loc.mk 57 true v) = (Loc.mk 57 true v) ∧ I_ k1 (q3 + 1) qc qd qe qf u11 ∧
 (Loc.mk 57 true v) = (Loc.mk 57 true v) ∧ M_ k1 (q3 + 1) qc qd qe qf u11 < M_ k q3 q4 q5 q6 q7 u1))) ∧
 ((decide (q3 < ((q1 : Nat) : Int))) = false → Spec Tryd.prog 61 #[.int .i64 32] u1 (fun e u12 => ∃ (qi qj qk : Int) (ql : Bool), e = .returned (.agg #[.int .i64 qi, .int .i64 qj, .int .i64 qk, .bool ql]) ∧
 R (.returned (.agg #[.int .i64 qi, .int .i64 qj, .int .i64 qk, .bool ql])) u12)))
set_option maxRecDepth 100000 in
theorem vc_paint_Status_eq (v : List Value) (col : Int) (u : World) (R : Ending → World → Prop) : wFunc cx_paint_Status Tryd.f39 [.agg v.toArray, .int .i64 col] u R = vc_paint_Status v col u R := by kernel_rfl
theorem vc_paint_Status_spec (v : List Value) (col : Int) {u : World} {R : Ending → World → Prop} (h : vc_paint_Status v col u R) : Spec Tryd.prog fn_paint_Status #[.agg v.toArray, .int .i64 col] u R := func_spec (C := cx_paint_Status) (fn := Tryd.f39) (args := [.agg v.toArray, .int .i64 col]) (ctxOk _ _ _ _ _) Tryd.func39 (vc_paint_Status_eq v col u R) h

/-- fenestra/paint.Screen -/
noncomputable def cx_paint_Screen : Ctx := ⟨Tryd.prog, tab, [], [], [3], fns, [(3, ⟨[.keep, .keep, .keep, .keep, .keep, .keep, .keep, .keep, .junk, .junk, .keep, .keep, .keep, .keep, .keep, .keep, .keep, .cell (.int .i64), .junk, .junk, .junk, .junk, .junk, .junk, .junk, .junk, .junk, .junk, .junk, .junk, .junk, .junk, .junk, .junk, .junk, .junk, .junk, .junk, .junk, .junk, .junk, .junk, .junk, .junk, .junk, .junk, .junk, .junk, .junk, .junk, .junk, .junk, .junk, .junk, .junk, .junk, .junk, .keep, .keep, .keep, .keep, .keep, .keep, .keep, .keep, .keep, .keep, .keep, .keep, .keep, .keep, .keep, .keep, .keep, .keep, .keep, .keep, .keep, .keep, .keep, .keep, .keep, .keep, .keep, .keep, .keep, .keep, .keep, .keep, .keep, .keep, .keep, .keep, .keep, .keep, .keep, .keep, .keep, .keep, .keep, .keep, .keep, .keep, .keep, .keep, .keep, .keep, .keep, .keep, .keep, .keep, .keep, .keep, .keep], [.keep, .keep, .keep]⟩), (6, ⟨[.keep, .keep, .keep, .keep, .keep, .keep, .keep, .keep, .keep, .junk, .keep, .keep, .keep, .keep, .keep, .keep, .keep, .keep, .keep, .keep, .keep, .keep, .cell (.int .i64), .junk, .junk, .junk, .junk, .junk, .junk, .junk, .junk, .junk, .junk, .junk, .junk, .junk, .junk, .junk, .junk, .junk, .junk, .junk, .junk, .junk, .junk, .junk, .junk, .junk, .junk, .junk, .junk, .junk, .junk, .junk, .junk, .junk, .keep, .keep, .keep, .keep, .keep, .keep, .keep, .keep, .keep, .keep, .keep, .keep, .keep, .keep, .keep, .keep, .keep, .keep, .keep, .keep, .keep, .keep, .keep, .keep, .keep, .keep, .keep, .keep, .keep, .keep, .keep, .keep, .keep, .keep, .keep, .keep, .keep, .keep, .keep, .keep, .keep, .keep, .keep, .keep, .keep, .keep, .keep, .keep, .keep, .keep, .keep, .keep, .keep, .keep, .keep, .keep, .keep, .keep], [.keep, .keep, .keep]⟩)], []⟩
def vc_paint_Screen (v : List Value) (wide : Int) (high : Int) (u : World) (R : Ending → World → Prop) : Prop :=
 Spec Tryd.prog 22 #[.int .i64 wide, .int .i64 high] (allocW (allocW u hole) hole) (fun e u1 => ∃ (q0 q1 : Int) (q2 : Option Addr) (q3 q4 : Nat) (q5 q6 q7 : Int) (q8 : Bool) (q9 qa : Int), e = .returned (.agg #[.int .i64 q0, .int .i64 q1, .slice q2 q3 q4, .int .i64 q5, .int .i64 q6, .int .i64 q7, .bool q8, .int .i64 q9, .int .i64 qa]) ∧
 ∃ (I_ : Int → World → Prop) (M_ : Int → World → Nat), ((Loc.mk 57 true v) = (Loc.mk 57 true v) ∧
 (Loc.mk 47 false ([.int .i64 0, .int .i64 0, .slice none 0 0, .int .i64 0, .int .i64 0, .int .i64 0, .bool false, .int .i64 0, .int .i64 0])) = (Loc.mk 47 false ([.int .i64 0, .int .i64 0, .slice none 0 0, .int .i64 0, .int .i64 0, .int .i64 0, .bool false, .int .i64 0, .int .i64 0])) ∧
 (Loc.mk 47 false ([.int .i64 q0, .int .i64 q1, .slice q2 q3 q4, .int .i64 q5, .int .i64 q6, .int .i64 q7, .bool q8, .int .i64 q9, .int .i64 qa])) = (Loc.mk 47 false ([.int .i64 q0, .int .i64 q1, .slice q2 q3 q4, .int .i64 q5, .int .i64 q6, .int .i64 q7, .bool q8, .int .i64 q9, .int .i64 qa])) ∧
 I_ 0 (allocW u1 hole)) ∧ ∀ (qb : Int), (Loc.mk 57 true v) = (Loc.mk 57 true v) ∧
 (Loc.mk 47 false ([.int .i64 0, .int .i64 0, .slice none 0 0, .int .i64 0, .int .i64 0, .int .i64 0, .bool false, .int .i64 0, .int .i64 0])) = (Loc.mk 47 false ([.int .i64 0, .int .i64 0, .slice none 0 0, .int .i64 0, .int .i64 0, .int .i64 0, .bool false, .int .i64 0, .int .i64 0])) ∧
 (Loc.mk 47 false ([.int .i64 q0, .int .i64 q1, .slice q2 q3 q4, .int .i64 q5, .int .i64 q6, .int .i64 q7, .bool q8, .int .i64 q9, .int .i64 qa])) = (Loc.mk 47 false ([.int .i64 q0, .int .i64 q1, .slice q2 q3 q4, .int .i64 q5, .int .i64 q6, .int .i64 q7, .bool q8, .int .i64 q9, .int .i64 qa])) ∧
 ∀ u11 : World, I_ qb u11 → (((decide (qb < q1)) = true →
 ∃ (I_1 : Int → World → Prop) (M_1 : Int → World → Nat), ((Loc.mk 57 true v) = (Loc.mk 57 true v) ∧
 (Loc.mk 47 false ([.int .i64 0, .int .i64 0, .slice none 0 0, .int .i64 0, .int .i64 0, .int .i64 0, .bool false, .int .i64 0, .int .i64 0])) = (Loc.mk 47 false ([.int .i64 0, .int .i64 0, .slice none 0 0, .int .i64 0, .int .i64 0, .int .i64 0, .bool false, .int .i64 0, .int .i64 0])) ∧
 (Loc.mk 47 false ([.int .i64 q0, .int .i64 q1, .slice q2 q3 q4, .int .i64 q5, .int .i64 q6, .int .i64 q7, .bool q8, .int .i64 q9, .int .i64 qa])) = (Loc.mk 47 false ([.int .i64 q0, .int .i64 q1, .slice q2 q3 q4, .int .i64 q5, .int .i64 q6, .int .i64 q7, .bool q8, .int .i64 q9, .int .i64 qa])) ∧
 I_1 0 u11) ∧ ∀ (qc : Int), (Loc.mk 57 true v) = (Loc.mk 57 true v) ∧
 (Loc.mk 47 false ([.int .i64 0, .int .i64 0, .slice none 0 0, .int .i64 0, .int .i64 0, .int .i64 0, .bool false, .int .i64 0, .int .i64 0])) = (Loc.mk 47 false ([.int .i64 0, .int .i64 0, .slice none 0 0, .int .i64 0, .int .i64 0, .int .i64 0, .bool false, .int .i64 0, .int .i64 0])) ∧
 (Loc.mk 47 false ([.int .i64 q0, .int .i64 q1, .slice q2 q3 q4, .int .i64 q5, .int .i64 q6, .int .i64 q7, .bool q8, .int .i64 q9, .int .i64 qa])) = (Loc.mk 47 false ([.int .i64 q0, .int .i64 q1, .slice q2 q3 q4, .int .i64 q5, .int .i64 q6, .int .i64 q7, .bool q8, .int .i64 q9, .int .i64 qa])) ∧
 ∀ u12 : World, I_1 qc u12 → (((decide (qc < q0)) = true →
 inK .i64 (q1 - 1) ∧ (((decide (qb = (q1 - 1))) = true →
 inK .i64 (qb * q0) ∧ inK .i64 ((qb * q0) + qc) ∧
 takeN v 0 58 = some v ∧ Spec Tryd.prog 39 #[.agg v.toArray, .int .i64 qc] (drewW u12) (fun e u13 => ∃ (qd qe qf : Int) (qg : Bool), e = .returned (.agg #[.int .i64 qd, .int .i64 qe, .int .i64 qf, .bool qg]) ∧
 ∃ b o, q2 = some ⟨b, o, none⟩ ∧ 0 ≤ ((qb * q0) + qc) ∧
 ((qb * q0) + qc) < ((q3 : Nat) : Int) ∧ 4 = szN 4 ∧
 Wr u13 b (o + ((qb * q0) + qc).toNat * 4) 4 ∧ inK .i64 (qc + 1) ∧
 (Loc.mk 57 true v) = (Loc.mk 57 true v) ∧ (Loc.mk 47 false ([.int .i64 0, .int .i64 0, .slice none 0 0, .int .i64 0, .int .i64 0, .int .i64 0, .bool false, .int .i64 0, .int .i64 0])) = (Loc.mk 47 false ([.int .i64 0, .int .i64 0, .slice none 0 0, .int .i64 0, .int .i64 0, .int .i64 0, .bool false, .int .i64 0, .int .i64 0])) ∧
 (Loc.mk 47 false ([.int .i64 q0, .int .i64 q1, .slice q2 q3 q4, .int .i64 q5, .int .i64 q6, .int .i64 q7, .bool q8, .int .i64 q9, .int .i64 qa])) = (Loc.mk 47 false ([.int .i64 q0, .int .i64 q1, .slice q2 q3 q4, .int .i64 q5, .int .i64 q6, .int .i64 q7, .bool q8, .int .i64 q9, .int .i64 qa])) ∧
 I_1 (qc + 1) (putCells u13 b (o + ((qb * q0) + qc).toNat * 4) ([.int .i64 qd, .int .i64 qe, .int .i64 qf, .bool qg])) ∧
 (Loc.mk 57 true v) = (Loc.mk 57 true v) ∧ (Loc.mk 47 false ([.int .i64 0, .int .i64 0, .slice none 0 0, .int .i64 0, .int .i64 0, .int .i64 0, .bool false, .int .i64 0, .int .i64 0])) = (Loc.mk 47 false ([.int .i64 0, .int .i64 0, .slice none 0 0, .int .i64 0, .int .i64 0, .int .i64 0, .bool false, .int .i64 0, .int .i64 0])) ∧
 (Loc.mk 47 false ([.int .i64 q0, .int .i64 q1, .slice q2 q3 q4, .int .i64 q5, .int .i64 q6, .int .i64 q7, .bool q8, .int .i64 q9, .int .i64 qa])) = (Loc.mk 47 false ([.int .i64 q0, .int .i64 q1, .slice q2 q3 q4, .int .i64 q5, .int .i64 q6, .int .i64 q7, .bool q8, .int .i64 q9, .int .i64 qa])) ∧
 M_1 (qc + 1) (putCells u13 b (o + ((qb * q0) + qc).toNat * 4) ([.int .i64 qd, .int .i64 qe, .int .i64 qf, .bool qg])) < M_1 qc u12)) ∧
 ((decide (qb = (q1 - 1))) = false → inK .i64 (qb * q0) ∧
 inK .i64 ((qb * q0) + qc) ∧ takeN v 0 58 = some v ∧ Spec Tryd.prog 40 #[.agg v.toArray, .int .i64 qb, .int .i64 qc] (drewW u12) (fun e u14 => ∃ (qh qi qj : Int) (qk : Bool), e = .returned (.agg #[.int .i64 qh, .int .i64 qi, .int .i64 qj, .bool qk]) ∧
 ∃ b1 o1, q2 = some ⟨b1, o1, none⟩ ∧ 0 ≤ ((qb * q0) + qc) ∧
 ((qb * q0) + qc) < ((q3 : Nat) : Int) ∧ 4 = szN 4 ∧
 Wr u14 b1 (o1 + ((qb * q0) + qc).toNat * 4) 4 ∧ inK .i64 (qc + 1) ∧
 (Loc.mk 57 true v) = (Loc.mk 57 true v) ∧ (Loc.mk 47 false ([.int .i64 0, .int .i64 0, .slice none 0 0, .int .i64 0, .int .i64 0, .int .i64 0, .bool false, .int .i64 0, .int .i64 0])) = (Loc.mk 47 false ([.int .i64 0, .int .i64 0, .slice none 0 0, .int .i64 0, .int .i64 0, .int .i64 0, .bool false, .int .i64 0, .int .i64 0])) ∧
 (Loc.mk 47 false ([.int .i64 q0, .int .i64 q1, .slice q2 q3 q4, .int .i64 q5, .int .i64 q6, .int .i64 q7, .bool q8, .int .i64 q9, .int .i64 qa])) = (Loc.mk 47 false ([.int .i64 q0, .int .i64 q1, .slice q2 q3 q4, .int .i64 q5, .int .i64 q6, .int .i64 q7, .bool q8, .int .i64 q9, .int .i64 qa])) ∧
 I_1 (qc + 1) (putCells u14 b1 (o1 + ((qb * q0) + qc).toNat * 4) ([.int .i64 qh, .int .i64 qi, .int .i64 qj, .bool qk])) ∧
 (Loc.mk 57 true v) = (Loc.mk 57 true v) ∧ (Loc.mk 47 false ([.int .i64 0, .int .i64 0, .slice none 0 0, .int .i64 0, .int .i64 0, .int .i64 0, .bool false, .int .i64 0, .int .i64 0])) = (Loc.mk 47 false ([.int .i64 0, .int .i64 0, .slice none 0 0, .int .i64 0, .int .i64 0, .int .i64 0, .bool false, .int .i64 0, .int .i64 0])) ∧
 (Loc.mk 47 false ([.int .i64 q0, .int .i64 q1, .slice q2 q3 q4, .int .i64 q5, .int .i64 q6, .int .i64 q7, .bool q8, .int .i64 q9, .int .i64 qa])) = (Loc.mk 47 false ([.int .i64 q0, .int .i64 q1, .slice q2 q3 q4, .int .i64 q5, .int .i64 q6, .int .i64 q7, .bool q8, .int .i64 q9, .int .i64 qa])) ∧
 M_1 (qc + 1) (putCells u14 b1 (o1 + ((qb * q0) + qc).toNat * 4) ([.int .i64 qh, .int .i64 qi, .int .i64 qj, .bool qk])) < M_1 qc u12)))) ∧
 ((decide (qc < q0)) = false → inK .i64 (qb + 1) ∧ (Loc.mk 57 true v) = (Loc.mk 57 true v) ∧
 (Loc.mk 47 false ([.int .i64 0, .int .i64 0, .slice none 0 0, .int .i64 0, .int .i64 0, .int .i64 0, .bool false, .int .i64 0, .int .i64 0])) = (Loc.mk 47 false ([.int .i64 0, .int .i64 0, .slice none 0 0, .int .i64 0, .int .i64 0, .int .i64 0, .bool false, .int .i64 0, .int .i64 0])) ∧
 (Loc.mk 47 false ([.int .i64 q0, .int .i64 q1, .slice q2 q3 q4, .int .i64 q5, .int .i64 q6, .int .i64 q7, .bool q8, .int .i64 q9, .int .i64 qa])) = (Loc.mk 47 false ([.int .i64 q0, .int .i64 q1, .slice q2 q3 q4, .int .i64 q5, .int .i64 q6, .int .i64 q7, .bool q8, .int .i64 q9, .int .i64 qa])) ∧
 I_ (qb + 1) u12 ∧ (Loc.mk 57 true v) = (Loc.mk 57 true v) ∧ (Loc.mk 47 false ([.int .i64 0, .int .i64 0, .slice none 0 0, .int .i64 0, .int .i64 0, .int .i64 0, .bool false, .int .i64 0, .int .i64 0])) = (Loc.mk 47 false ([.int .i64 0, .int .i64 0, .slice none 0 0, .int .i64 0, .int .i64 0, .int .i64 0, .bool false, .int .i64 0, .int .i64 0])) ∧
 (Loc.mk 47 false ([.int .i64 q0, .int .i64 q1, .slice q2 q3 q4, .int .i64 q5, .int .i64 q6, .int .i64 q7, .bool q8, .int .i64 q9, .int .i64 qa])) = (Loc.mk 47 false ([.int .i64 q0, .int .i64 q1, .slice q2 q3 q4, .int .i64 q5, .int .i64 q6, .int .i64 q7, .bool q8, .int .i64 q9, .int .i64 qa])) ∧
 M_ (qb + 1) u12 < M_ qb u11))) ∧ ((decide (qb < q1)) = false →
 ∃ (ql : Int), takeN v 57 1 = some [.int .i64 ql] ∧ (((decide (ql < 0)) = true →
 R (.returned (.agg #[.int .i64 q0, .int .i64 q1, .slice q2 q3 q4, .int .i64 q5, .int .i64 q6, .int .i64 q7, .bool q8, .int .i64 q9, .int .i64 qa])) u11) ∧
 ((decide (ql < 0)) = false → ∃ (qm : Int), takeN v 57 1 = some [.int .i64 qm] ∧
 (((decide ((6 : Int) ≤ qm)) = true → R (.returned (.agg #[.int .i64 q0, .int .i64 q1, .slice q2 q3 q4, .int .i64 q5, .int .i64 q6, .int .i64 q7, .bool q8, .int .i64 q9, .int .i64 qa])) u11) ∧
 ((decide ((6 : Int) ≤ qm)) = false → ∃ (qn : Option Addr) (qo qp : Nat), takeN v 0 1 = some [.slice qn qo qp] ∧
 ∃ (qq : Int), takeN v 55 1 = some [.int .i64 qq] ∧ ∃ (qr : Int), takeN v 56 1 = some [.int .i64 qr] ∧
 ∃ (qs : Int), takeN v 57 1 = some [.int .i64 qs] ∧ ∃ (qt : Int), takeN v 57 1 = some [.int .i64 qt] ∧
 0 ≤ qt ∧ qt < ((6 : Nat) : Int) ∧ ∃ (qu qv : Int) (qw : Option Addr) (qx qy : Nat) (qz q10 q11 : Int) (q12 : Bool) (q13 q14 : Int), takeN v (1 + qt.toNat * 9) 9 = some [.int .i64 qu, .int .i64 qv, .slice qw qx qy, .int .i64 qz, .int .i64 q10, .int .i64 q11, .bool q12, .int .i64 q13, .int .i64 q14] ∧
 ((Spec Tryd.prog 27 #[.agg #[.slice qn qo qp], .int .i64 qq, .int .i64 qr, .int .i64 qs] (drewW u11) (fun e u15 => ∃ (q15 q16 q17 q18 : Int), e = .returned (.agg #[.int .i64 q15, .int .i64 q16, .int .i64 q17, .int .i64 q18]) ∧
 (((((decide ((0 : Int) < q18)) = true → inK .i64 (q17 - 1) ∧
 inK .i64 (q15 + (min qz (q17 - 1))) ∧ inK .i64 (q1 - 1) ∧
 inK .i64 (q18 - 1) ∧ inK .i64 (q16 + (min q10 (q18 - 1))) ∧
 inK .i64 (q0 - 1) ∧ R (.returned (.agg #[.int .i64 q0, .int .i64 q1, .slice q2 q3 q4, .int .i64 (max (0 : Int) (min (q15 + (min qz (q17 - 1))) (q1 - 1))), .int .i64 (max (0 : Int) (min (q16 + (min q10 (q18 - 1))) (q0 - 1))), .int .i64 q7, .bool q8, .int .i64 q9, .int .i64 qa])) (allocW (allocW u15 hole) hole)) ∧
 ((decide ((0 : Int) < q18)) = false → R (.returned (.agg #[.int .i64 q0, .int .i64 q1, .slice q2 q3 q4, .int .i64 q5, .int .i64 q6, .int .i64 q7, .bool q8, .int .i64 q9, .int .i64 qa])) (allocW (allocW u15 hole) hole)))) ∧
 ((((decide ((0 : Int) < q18)) = true → inK .i64 (q17 - 1) ∧
 inK .i64 (q15 + (min qz (q17 - 1))) ∧ inK .i64 (q1 - 1) ∧
 inK .i64 (q18 - 1) ∧ inK .i64 (q16 + (min q10 (q18 - 1))) ∧
 inK .i64 (q0 - 1) ∧ R (.returned (.agg #[.int .i64 q0, .int .i64 q1, .slice q2 q3 q4, .int .i64 (max (0 : Int) (min (q15 + (min qz (q17 - 1))) (q1 - 1))), .int .i64 (max (0 : Int) (min (q16 + (min q10 (q18 - 1))) (q0 - 1))), .int .i64 q7, .bool q8, .int .i64 q9, .int .i64 qa])) (allocW (allocW u15 hole) hole)) ∧
 ((decide ((0 : Int) < q18)) = false → R (.returned (.agg #[.int .i64 q0, .int .i64 q1, .slice q2 q3 q4, .int .i64 q5, .int .i64 q6, .int .i64 q7, .bool q8, .int .i64 q9, .int .i64 qa])) (allocW (allocW u15 hole) hole))))))) ∧
 (((Spec Tryd.prog 27 #[.agg #[.slice qn qo qp], .int .i64 qq, .int .i64 qr, .int .i64 qs] (allocW (drewW u11) hole) (fun e u16 => ∃ (q19 q1a q1b q1c : Int), e = .returned (.agg #[.int .i64 q19, .int .i64 q1a, .int .i64 q1b, .int .i64 q1c]) ∧
 (((decide ((0 : Int) < q1c)) = true → inK .i64 (q1b - 1) ∧
 inK .i64 (q19 + (min qz (q1b - 1))) ∧ inK .i64 (q1 - 1) ∧
 inK .i64 (q1c - 1) ∧ inK .i64 (q1a + (min q10 (q1c - 1))) ∧
 inK .i64 (q0 - 1) ∧ R (.returned (.agg #[.int .i64 q0, .int .i64 q1, .slice q2 q3 q4, .int .i64 (max (0 : Int) (min (q19 + (min qz (q1b - 1))) (q1 - 1))), .int .i64 (max (0 : Int) (min (q1a + (min q10 (q1c - 1))) (q0 - 1))), .int .i64 q7, .bool q8, .int .i64 q9, .int .i64 qa])) (allocW u16 hole)) ∧
 ((decide ((0 : Int) < q1c)) = false → R (.returned (.agg #[.int .i64 q0, .int .i64 q1, .slice q2 q3 q4, .int .i64 q5, .int .i64 q6, .int .i64 q7, .bool q8, .int .i64 q9, .int .i64 qa])) (allocW u16 hole))))) ∧
 (Spec Tryd.prog 27 #[.agg #[.slice qn qo qp], .int .i64 qq, .int .i64 qr, .int .i64 qs] (allocW (allocW (drewW u11) hole) hole) (fun e u17 => ∃ (q1d q1e q1f q1g : Int), e = .returned (.agg #[.int .i64 q1d, .int .i64 q1e, .int .i64 q1f, .int .i64 q1g]) ∧
 (((decide ((0 : Int) < q1g)) = true → inK .i64 (q1f - 1) ∧
 inK .i64 (q1d + (min qz (q1f - 1))) ∧ inK .i64 (q1 - 1) ∧
 inK .i64 (q1g - 1) ∧ inK .i64 (q1e + (min q10 (q1g - 1))) ∧
 inK .i64 (q0 - 1) ∧ R (.returned (.agg #[.int .i64 q0, .int .i64 q1, .slice q2 q3 q4, .int .i64 (max (0 : Int) (min (q1d + (min qz (q1f - 1))) (q1 - 1))), .int .i64 (max (0 : Int) (min (q1e + (min q10 (q1g - 1))) (q0 - 1))), .int .i64 q7, .bool q8, .int .i64 q9, .int .i64 qa])) u17) ∧
 ((decide ((0 : Int) < q1g)) = false → R (.returned (.agg #[.int .i64 q0, .int .i64 q1, .slice q2 q3 q4, .int .i64 q5, .int .i64 q6, .int .i64 q7, .bool q8, .int .i64 q9, .int .i64 qa])) u17)))))) ∧
 (((Spec Tryd.prog 27 #[.agg #[.slice qn qo qp], .int .i64 qq, .int .i64 qr, .int .i64 qs] (allocW (drewW u11) hole) (fun e u18 => ∃ (q1h q1i q1j q1k : Int), e = .returned (.agg #[.int .i64 q1h, .int .i64 q1i, .int .i64 q1j, .int .i64 q1k]) ∧
 (((decide ((0 : Int) < q1k)) = true → inK .i64 (q1j - 1) ∧
 inK .i64 (q1h + (min qz (q1j - 1))) ∧ inK .i64 (q1 - 1) ∧
 inK .i64 (q1k - 1) ∧ inK .i64 (q1i + (min q10 (q1k - 1))) ∧
 inK .i64 (q0 - 1) ∧ R (.returned (.agg #[.int .i64 q0, .int .i64 q1, .slice q2 q3 q4, .int .i64 (max (0 : Int) (min (q1h + (min qz (q1j - 1))) (q1 - 1))), .int .i64 (max (0 : Int) (min (q1i + (min q10 (q1k - 1))) (q0 - 1))), .int .i64 q7, .bool q8, .int .i64 q9, .int .i64 qa])) (allocW u18 hole)) ∧
 ((decide ((0 : Int) < q1k)) = false → R (.returned (.agg #[.int .i64 q0, .int .i64 q1, .slice q2 q3 q4, .int .i64 q5, .int .i64 q6, .int .i64 q7, .bool q8, .int .i64 q9, .int .i64 qa])) (allocW u18 hole))))) ∧
 (Spec Tryd.prog 27 #[.agg #[.slice qn qo qp], .int .i64 qq, .int .i64 qr, .int .i64 qs] (allocW (allocW (drewW u11) hole) hole) (fun e u19 => ∃ (q1l q1m q1n q1o : Int), e = .returned (.agg #[.int .i64 q1l, .int .i64 q1m, .int .i64 q1n, .int .i64 q1o]) ∧
 (((decide ((0 : Int) < q1o)) = true → inK .i64 (q1n - 1) ∧
 inK .i64 (q1l + (min qz (q1n - 1))) ∧ inK .i64 (q1 - 1) ∧
 inK .i64 (q1o - 1) ∧ inK .i64 (q1m + (min q10 (q1o - 1))) ∧
 inK .i64 (q0 - 1) ∧ R (.returned (.agg #[.int .i64 q0, .int .i64 q1, .slice q2 q3 q4, .int .i64 (max (0 : Int) (min (q1l + (min qz (q1n - 1))) (q1 - 1))), .int .i64 (max (0 : Int) (min (q1m + (min q10 (q1o - 1))) (q0 - 1))), .int .i64 q7, .bool q8, .int .i64 q9, .int .i64 qa])) u19) ∧
 ((decide ((0 : Int) < q1o)) = false → R (.returned (.agg #[.int .i64 q0, .int .i64 q1, .slice q2 q3 q4, .int .i64 q5, .int .i64 q6, .int .i64 q7, .bool q8, .int .i64 q9, .int .i64 qa])) u19))))))))))))))
set_option maxRecDepth 100000 in
theorem vc_paint_Screen_eq (v : List Value) (wide : Int) (high : Int) (u : World) (R : Ending → World → Prop) : wFunc cx_paint_Screen Tryd.f24 [.agg v.toArray, .int .i64 wide, .int .i64 high] u R = vc_paint_Screen v wide high u R := by kernel_rfl
theorem vc_paint_Screen_spec (v : List Value) (wide : Int) (high : Int) {u : World} {R : Ending → World → Prop} (h : vc_paint_Screen v wide high u R) : Spec Tryd.prog fn_paint_Screen #[.agg v.toArray, .int .i64 wide, .int .i64 high] u R := func_spec (C := cx_paint_Screen) (fn := Tryd.f24) (args := [.agg v.toArray, .int .i64 wide, .int .i64 high]) (ctxOk _ _ _ _ _) Tryd.func24 (vc_paint_Screen_eq v wide high u R) h

end Go.Proofs.YtkmmphkjmamckabDoor

namespace Go.Proofs.YtkmmphkjmamckabDoor
open Go
set_option linter.all false

/-- fenestra/server.New -/
noncomputable def cx_server_New : Ctx := ⟨Tryd.prog, tab, [7], [], [], fns, [], []⟩
def vc_server_New  (u : World) (R : Ending → World → Prop) : Prop :=
 Spec Tryd.prog 13 #[.pointer (some ⟨(allocW (allocW u (.cells #[.int .i64 0] 3)) (.cells #[.slice (some (Addr.mk u.heap.size 0 none)) 1 1] 42)).heap.size, 0, none⟩)] (allocW (allocW (allocW u (.cells #[.int .i64 0] 3)) (.cells #[.slice (some (Addr.mk u.heap.size 0 none)) 1 1] 42)) (.cells ([.slice (some (Addr.mk (allocW u (.cells #[.int .i64 0] 3)).heap.size 0 none)) 1 1, .int .i64 0, .int .i64 0, .slice none 0 0, .int .i64 0, .int .i64 0, .int .i64 0, .bool false, .int .i64 0, .int .i64 0, .int .i64 0, .int .i64 0, .slice none 0 0, .int .i64 0, .int .i64 0, .int .i64 0, .bool false, .int .i64 0, .int .i64 0, .int .i64 0, .int .i64 0, .slice none 0 0, .int .i64 0, .int .i64 0, .int .i64 0, .bool false, .int .i64 0, .int .i64 0, .int .i64 0, .int .i64 0, .slice none 0 0, .int .i64 0, .int .i64 0, .int .i64 0, .bool false, .int .i64 0, .int .i64 0, .int .i64 0, .int .i64 0, .slice none 0 0, .int .i64 0, .int .i64 0, .int .i64 0, .bool false, .int .i64 0, .int .i64 0, .int .i64 0, .int .i64 0, .slice none 0 0, .int .i64 0, .int .i64 0, .int .i64 0, .bool false, .int .i64 0, .int .i64 0, .int .i64 20, .int .i64 7, .int .i64 0, .int .i64 0, .slice none 0 0, .string (ByteArray.mk #[]), .bool false, .int .i64 0, .slice none 0 0, .string (ByteArray.mk #[]), .bool false, .int .i64 0, .slice none 0 0, .string (ByteArray.mk #[]), .bool false, .int .i64 0, .slice none 0 0, .string (ByteArray.mk #[]), .bool false, .int .i64 0, .slice none 0 0, .string (ByteArray.mk #[]), .bool false, .int .i64 0, .slice none 0 0, .string (ByteArray.mk #[]), .bool false, .bool false, .int .i64 0, .int .i64 0, .slice none 0 0, .int .i64 0, .int .i64 0, .int .i64 0, .bool false, .int .i64 0, .int .i64 0, .string (ByteArray.mk #[]), .bool false, .bool false, .int .i64 0, .int .i64 0, .slice none 0 0, .int .i64 0, .int .i64 0, .int .i64 0, .bool false, .int .i64 0, .int .i64 0, .string (ByteArray.mk #[]), .bool false, .bool false, .int .i64 0, .int .i64 0, .slice none 0 0, .int .i64 0, .int .i64 0, .int .i64 0, .bool false, .int .i64 0, .int .i64 0, .string (ByteArray.mk #[]), .bool false, .int .i64 0] : List Value).toArray 63)) (fun e u1 => e = .returned (.tuple #[]) ∧
 R (.returned (.pointer (some ⟨(allocW (allocW u (.cells #[.int .i64 0] 3)) (.cells #[.slice (some (Addr.mk u.heap.size 0 none)) 1 1] 42)).heap.size, 0, none⟩))) u1)
set_option maxRecDepth 100000 in
theorem vc_server_New_eq  (u : World) (R : Ending → World → Prop) : wFunc cx_server_New Tryd.f7 [] u R = vc_server_New  u R := by kernel_rfl
theorem vc_server_New_spec  {u : World} {R : Ending → World → Prop} (h : vc_server_New  u R) : Spec Tryd.prog fn_server_New #[] u R := func_spec (C := cx_server_New) (fn := Tryd.f7) (args := []) (ctxOk _ _ _ _ _) Tryd.func7 (vc_server_New_eq  u R) h

/-- (*fenestra/server.Server).fit -/
noncomputable def cx_server_Server_fit : Ctx := ⟨Tryd.prog, tab, [], [], [], fns, [(1, ⟨[.keep, .keep, .junk, .junk, .junk, .junk, .junk, .cell (.int .i64), .junk, .junk, .junk, .junk, .junk, .junk, .junk, .junk, .junk, .junk, .junk, .junk, .junk, .junk, .junk, .junk, .junk, .junk, .junk, .junk, .junk, .junk, .junk, .junk, .junk, .junk, .junk, .junk, .junk, .junk, .junk, .junk, .junk, .junk, .junk, .junk, .junk, .junk, .junk, .junk, .junk, .junk, .junk, .junk, .junk, .junk, .junk, .junk, .junk, .junk, .junk, .junk, .junk, .junk, .junk, .junk, .junk, .junk, .junk, .junk, .junk, .junk, .junk, .junk, .junk, .junk, .junk, .junk, .junk, .junk, .junk, .junk, .junk, .junk, .junk, .junk, .junk, .junk, .junk, .junk, .junk, .junk, .junk, .junk, .junk, .junk], []⟩)], []⟩
def vc_server_Server_fit (s_b s_o : Nat) (u : World) (R : Ending → World → Prop) : Prop :=
 ∃ (I_ : Int → World → Prop) (M_ : Int → World → Nat), (I_ 0 u) ∧
 ∀ (q0 : Int), ∀ u1 : World, I_ q0 u1 → (((decide (q0 < 6)) = true →
 ∃ (q1 : Option Addr) (q2 q3 : Nat), 1 = szN 1 ∧
 Rd u1 s_b (s_o + 0 + 0) ([.slice q1 q2 q3]) ∧
 Spec Tryd.prog 17 #[.agg #[.slice q1 q2 q3], .int .i64 q0] u1 (fun e u11 => ∃ (q4 : Bool), e = .returned (.bool q4) ∧
 (((!q4) = true → 0 ≤ q0 ∧ q0 < ((6 : Nat) : Int) ∧ 9 = szN 9 ∧
 Wr (drewW u11) s_b (s_o + 0 + 1 + q0.toNat * 9) 9 ∧ 0 ≤ q0 ∧ q0 < ((6 : Nat) : Int) ∧
 4 = ([.int .i64 0, .slice none 0 0, .string (ByteArray.mk #[]), .bool false] : List Value).length ∧
 Wr (putCells (drewW u11) s_b (s_o + 0 + 1 + q0.toNat * 9) ([.int .i64 0, .int .i64 0, .slice none 0 0, .int .i64 0, .int .i64 0, .int .i64 0, .bool false, .int .i64 0, .int .i64 0])) s_b (s_o + 58 + q0.toNat * 4) 4 ∧
 inK .i64 (q0 + 1) ∧ I_ (q0 + 1) (putCells (putCells (drewW u11) s_b (s_o + 0 + 1 + q0.toNat * 9) ([.int .i64 0, .int .i64 0, .slice none 0 0, .int .i64 0, .int .i64 0, .int .i64 0, .bool false, .int .i64 0, .int .i64 0])) s_b (s_o + 58 + q0.toNat * 4) ([.int .i64 0, .slice none 0 0, .string (ByteArray.mk #[]), .bool false])) ∧
 M_ (q0 + 1) (putCells (putCells (drewW u11) s_b (s_o + 0 + 1 + q0.toNat * 9) ([.int .i64 0, .int .i64 0, .slice none 0 0, .int .i64 0, .int .i64 0, .int .i64 0, .bool false, .int .i64 0, .int .i64 0])) s_b (s_o + 58 + q0.toNat * 4) ([.int .i64 0, .slice none 0 0, .string (ByteArray.mk #[]), .bool false])) < M_ q0 u1) ∧
 ((!q4) = false → ∃ (q5 : Option Addr) (q6 q7 : Nat), 1 = szN 1 ∧
 Rd (drewW u11) s_b (s_o + 0 + 0) ([.slice q5 q6 q7]) ∧
 ∃ (q8 : Int), 1 = szN 1 ∧ Rd (drewW u11) s_b (s_o + 0 + 55) ([.int .i64 q8]) ∧
 ∃ (q9 : Int), 1 = szN 1 ∧ Rd (drewW u11) s_b (s_o + 0 + 56) ([.int .i64 q9]) ∧
 ((Spec Tryd.prog 27 #[.agg #[.slice q5 q6 q7], .int .i64 q8, .int .i64 q9, .int .i64 q0] (drewW u11) (fun e u12 => ∃ (qa qb qc qd : Int), e = .returned (.agg #[.int .i64 qa, .int .i64 qb, .int .i64 qc, .int .i64 qd]) ∧
 Rd (allocW u12 hole) s_b (s_o + 0 + 56) ([.int .i64 q9]) ∧ Rd (allocW u12 hole) s_b (s_o + 0 + 55) ([.int .i64 q8]) ∧
 Rd (allocW u12 hole) s_b (s_o + 0 + 0) ([.slice q5 q6 q7]) ∧
 0 ≤ q0 ∧ q0 < ((6 : Nat) : Int) ∧ ∃ (qe qf : Int) (qg : Option Addr) (qh qi : Nat) (qj qk ql : Int) (qm : Bool) (qn qo : Int), 9 = szN 9 ∧
 Rd (drewW (allocW u12 hole)) s_b (s_o + 0 + 1 + q0.toNat * 9) ([.int .i64 qe, .int .i64 qf, .slice qg qh qi, .int .i64 qj, .int .i64 qk, .int .i64 ql, .bool qm, .int .i64 qn, .int .i64 qo]) ∧
 (((decide (qe = 0)) = true → Spec Tryd.prog 22 #[.int .i64 (max (1 : Int) qd), .int .i64 (max (1 : Int) qc)] (allocW (drewW (allocW u12 hole)) hole) (fun e u13 => ∃ (qp qq : Int) (qr : Option Addr) (qs qt : Nat) (qu qv qw : Int) (qx : Bool) (qy qz : Int), e = .returned (.agg #[.int .i64 qp, .int .i64 qq, .slice qr qs qt, .int .i64 qu, .int .i64 qv, .int .i64 qw, .bool qx, .int .i64 qy, .int .i64 qz]) ∧
 0 ≤ q0 ∧ q0 < ((6 : Nat) : Int) ∧ 9 = szN 9 ∧
 Wr (drewW u13) s_b (s_o + 0 + 1 + q0.toNat * 9) 9 ∧ inK .i64 (q0 + 1) ∧
 I_ (q0 + 1) (putCells (drewW u13) s_b (s_o + 0 + 1 + q0.toNat * 9) ([.int .i64 qp, .int .i64 qq, .slice qr qs qt, .int .i64 qu, .int .i64 qv, .int .i64 qw, .bool qx, .int .i64 qy, .int .i64 qz])) ∧
 M_ (q0 + 1) (putCells (drewW u13) s_b (s_o + 0 + 1 + q0.toNat * 9) ([.int .i64 qp, .int .i64 qq, .slice qr qs qt, .int .i64 qu, .int .i64 qv, .int .i64 qw, .bool qx, .int .i64 qy, .int .i64 qz])) < M_ q0 u1)) ∧
 ((decide (qe = 0)) = false → (((!decide (qe = (max (1 : Int) qd))) = true →
 Spec Tryd.prog 28 #[.agg #[.int .i64 qe, .int .i64 qf, .slice qg qh qi, .int .i64 qj, .int .i64 qk, .int .i64 ql, .bool qm, .int .i64 qn, .int .i64 qo], .int .i64 (max (1 : Int) qd), .int .i64 (max (1 : Int) qc)] (allocW (drewW (allocW u12 hole)) hole) (fun e u14 => ∃ (q10 q11 : Int) (q12 : Option Addr) (q13 q14 : Nat) (q15 q16 q17 : Int) (q18 : Bool) (q19 q1a q1b : Int), e = .returned (.tuple #[.agg #[.int .i64 q10, .int .i64 q11, .slice q12 q13 q14, .int .i64 q15, .int .i64 q16, .int .i64 q17, .bool q18, .int .i64 q19, .int .i64 q1a], .int .i64 q1b]) ∧
 0 ≤ q0 ∧ q0 < ((6 : Nat) : Int) ∧ 9 = szN 9 ∧
 Wr (drewW u14) s_b (s_o + 0 + 1 + q0.toNat * 9) 9 ∧ inK .i64 (q0 + 1) ∧
 I_ (q0 + 1) (putCells (drewW u14) s_b (s_o + 0 + 1 + q0.toNat * 9) ([.int .i64 q10, .int .i64 q11, .slice q12 q13 q14, .int .i64 q15, .int .i64 q16, .int .i64 q17, .bool q18, .int .i64 q19, .int .i64 q1a])) ∧
 M_ (q0 + 1) (putCells (drewW u14) s_b (s_o + 0 + 1 + q0.toNat * 9) ([.int .i64 q10, .int .i64 q11, .slice q12 q13 q14, .int .i64 q15, .int .i64 q16, .int .i64 q17, .bool q18, .int .i64 q19, .int .i64 q1a])) < M_ q0 u1)) ∧
 ((!decide (qe = (max (1 : Int) qd))) = false → (((!decide (qf = (max (1 : Int) qc))) = true →
 Spec Tryd.prog 28 #[.agg #[.int .i64 qe, .int .i64 qf, .slice qg qh qi, .int .i64 qj, .int .i64 qk, .int .i64 ql, .bool qm, .int .i64 qn, .int .i64 qo], .int .i64 (max (1 : Int) qd), .int .i64 (max (1 : Int) qc)] (allocW (drewW (allocW u12 hole)) hole) (fun e u15 => ∃ (q1c q1d : Int) (q1e : Option Addr) (q1f q1g : Nat) (q1h q1i q1j : Int) (q1k : Bool) (q1l q1m q1n : Int), e = .returned (.tuple #[.agg #[.int .i64 q1c, .int .i64 q1d, .slice q1e q1f q1g, .int .i64 q1h, .int .i64 q1i, .int .i64 q1j, .bool q1k, .int .i64 q1l, .int .i64 q1m], .int .i64 q1n]) ∧
 0 ≤ q0 ∧ q0 < ((6 : Nat) : Int) ∧ 9 = szN 9 ∧
 Wr (drewW u15) s_b (s_o + 0 + 1 + q0.toNat * 9) 9 ∧ inK .i64 (q0 + 1) ∧
 I_ (q0 + 1) (putCells (drewW u15) s_b (s_o + 0 + 1 + q0.toNat * 9) ([.int .i64 q1c, .int .i64 q1d, .slice q1e q1f q1g, .int .i64 q1h, .int .i64 q1i, .int .i64 q1j, .bool q1k, .int .i64 q1l, .int .i64 q1m])) ∧
 M_ (q0 + 1) (putCells (drewW u15) s_b (s_o + 0 + 1 + q0.toNat * 9) ([.int .i64 q1c, .int .i64 q1d, .slice q1e q1f q1g, .int .i64 q1h, .int .i64 q1i, .int .i64 q1j, .bool q1k, .int .i64 q1l, .int .i64 q1m])) < M_ q0 u1)) ∧
 ((!decide (qf = (max (1 : Int) qc))) = false → 0 ≤ q0 ∧
 q0 < ((6 : Nat) : Int) ∧ 9 = szN 9 ∧
 Wr (drewW (allocW (drewW (allocW u12 hole)) hole)) s_b (s_o + 0 + 1 + q0.toNat * 9) 9 ∧
 inK .i64 (q0 + 1) ∧ I_ (q0 + 1) (putCells (drewW (allocW (drewW (allocW u12 hole)) hole)) s_b (s_o + 0 + 1 + q0.toNat * 9) ([.int .i64 qe, .int .i64 qf, .slice qg qh qi, .int .i64 qj, .int .i64 qk, .int .i64 ql, .bool qm, .int .i64 qn, .int .i64 qo])) ∧
 M_ (q0 + 1) (putCells (drewW (allocW (drewW (allocW u12 hole)) hole)) s_b (s_o + 0 + 1 + q0.toNat * 9) ([.int .i64 qe, .int .i64 qf, .slice qg qh qi, .int .i64 qj, .int .i64 qk, .int .i64 ql, .bool qm, .int .i64 qn, .int .i64 qo])) < M_ q0 u1)))))))) ∧
 (Rd (allocW (drewW u11) hole) s_b (s_o + 0 + 56) ([.int .i64 q9]) ∧
 Rd (allocW (drewW u11) hole) s_b (s_o + 0 + 55) ([.int .i64 q8]) ∧
 Rd (allocW (drewW u11) hole) s_b (s_o + 0 + 0) ([.slice q5 q6 q7]) ∧
 Spec Tryd.prog 27 #[.agg #[.slice q5 q6 q7], .int .i64 q8, .int .i64 q9, .int .i64 q0] (allocW (drewW u11) hole) (fun e u16 => ∃ (q1o q1p q1q q1r : Int), e = .returned (.agg #[.int .i64 q1o, .int .i64 q1p, .int .i64 q1q, .int .i64 q1r]) ∧
 0 ≤ q0 ∧ q0 < ((6 : Nat) : Int) ∧ ∃ (q1s q1t : Int) (q1u : Option Addr) (q1v q1w : Nat) (q1x q1y q1z : Int) (q20 : Bool) (q21 q22 : Int), 9 = szN 9 ∧
 Rd (drewW u16) s_b (s_o + 0 + 1 + q0.toNat * 9) ([.int .i64 q1s, .int .i64 q1t, .slice q1u q1v q1w, .int .i64 q1x, .int .i64 q1y, .int .i64 q1z, .bool q20, .int .i64 q21, .int .i64 q22]) ∧
 (((decide (q1s = 0)) = true → Spec Tryd.prog 22 #[.int .i64 (max (1 : Int) q1r), .int .i64 (max (1 : Int) q1q)] (allocW (drewW u16) hole) (fun e u17 => ∃ (q23 q24 : Int) (q25 : Option Addr) (q26 q27 : Nat) (q28 q29 q2a : Int) (q2b : Bool) (q2c q2d : Int), e = .returned (.agg #[.int .i64 q23, .int .i64 q24, .slice q25 q26 q27, .int .i64 q28, .int .i64 q29, .int .i64 q2a, .bool q2b, .int .i64 q2c, .int .i64 q2d]) ∧
 0 ≤ q0 ∧ q0 < ((6 : Nat) : Int) ∧ 9 = szN 9 ∧
 Wr (drewW u17) s_b (s_o + 0 + 1 + q0.toNat * 9) 9 ∧ inK .i64 (q0 + 1) ∧
 I_ (q0 + 1) (putCells (drewW u17) s_b (s_o + 0 + 1 + q0.toNat * 9) ([.int .i64 q23, .int .i64 q24, .slice q25 q26 q27, .int .i64 q28, .int .i64 q29, .int .i64 q2a, .bool q2b, .int .i64 q2c, .int .i64 q2d])) ∧
 M_ (q0 + 1) (putCells (drewW u17) s_b (s_o + 0 + 1 + q0.toNat * 9) ([.int .i64 q23, .int .i64 q24, .slice q25 q26 q27, .int .i64 q28, .int .i64 q29, .int .i64 q2a, .bool q2b, .int .i64 q2c, .int .i64 q2d])) < M_ q0 u1)) ∧
 ((decide (q1s = 0)) = false → (((!decide (q1s = (max (1 : Int) q1r))) = true →
 Spec Tryd.prog 28 #[.agg #[.int .i64 q1s, .int .i64 q1t, .slice q1u q1v q1w, .int .i64 q1x, .int .i64 q1y, .int .i64 q1z, .bool q20, .int .i64 q21, .int .i64 q22], .int .i64 (max (1 : Int) q1r), .int .i64 (max (1 : Int) q1q)] (allocW (drewW u16) hole) (fun e u18 => ∃ (q2e q2f : Int) (q2g : Option Addr) (q2h q2i : Nat) (q2j q2k q2l : Int) (q2m : Bool) (q2n q2o q2p : Int), e = .returned (.tuple #[.agg #[.int .i64 q2e, .int .i64 q2f, .slice q2g q2h q2i, .int .i64 q2j, .int .i64 q2k, .int .i64 q2l, .bool q2m, .int .i64 q2n, .int .i64 q2o], .int .i64 q2p]) ∧
 0 ≤ q0 ∧ q0 < ((6 : Nat) : Int) ∧ 9 = szN 9 ∧
 Wr (drewW u18) s_b (s_o + 0 + 1 + q0.toNat * 9) 9 ∧ inK .i64 (q0 + 1) ∧
 I_ (q0 + 1) (putCells (drewW u18) s_b (s_o + 0 + 1 + q0.toNat * 9) ([.int .i64 q2e, .int .i64 q2f, .slice q2g q2h q2i, .int .i64 q2j, .int .i64 q2k, .int .i64 q2l, .bool q2m, .int .i64 q2n, .int .i64 q2o])) ∧
 M_ (q0 + 1) (putCells (drewW u18) s_b (s_o + 0 + 1 + q0.toNat * 9) ([.int .i64 q2e, .int .i64 q2f, .slice q2g q2h q2i, .int .i64 q2j, .int .i64 q2k, .int .i64 q2l, .bool q2m, .int .i64 q2n, .int .i64 q2o])) < M_ q0 u1)) ∧
 ((!decide (q1s = (max (1 : Int) q1r))) = false →
 (((!decide (q1t = (max (1 : Int) q1q))) = true →
 Spec Tryd.prog 28 #[.agg #[.int .i64 q1s, .int .i64 q1t, .slice q1u q1v q1w, .int .i64 q1x, .int .i64 q1y, .int .i64 q1z, .bool q20, .int .i64 q21, .int .i64 q22], .int .i64 (max (1 : Int) q1r), .int .i64 (max (1 : Int) q1q)] (allocW (drewW u16) hole) (fun e u19 => ∃ (q2q q2r : Int) (q2s : Option Addr) (q2t q2u : Nat) (q2v q2w q2x : Int) (q2y : Bool) (q2z q30 q31 : Int), e = .returned (.tuple #[.agg #[.int .i64 q2q, .int .i64 q2r, .slice q2s q2t q2u, .int .i64 q2v, .int .i64 q2w, .int .i64 q2x, .bool q2y, .int .i64 q2z, .int .i64 q30], .int .i64 q31]) ∧
 0 ≤ q0 ∧ q0 < ((6 : Nat) : Int) ∧ 9 = szN 9 ∧
 Wr (drewW u19) s_b (s_o + 0 + 1 + q0.toNat * 9) 9 ∧ inK .i64 (q0 + 1) ∧
 I_ (q0 + 1) (putCells (drewW u19) s_b (s_o + 0 + 1 + q0.toNat * 9) ([.int .i64 q2q, .int .i64 q2r, .slice q2s q2t q2u, .int .i64 q2v, .int .i64 q2w, .int .i64 q2x, .bool q2y, .int .i64 q2z, .int .i64 q30])) ∧
 M_ (q0 + 1) (putCells (drewW u19) s_b (s_o + 0 + 1 + q0.toNat * 9) ([.int .i64 q2q, .int .i64 q2r, .slice q2s q2t q2u, .int .i64 q2v, .int .i64 q2w, .int .i64 q2x, .bool q2y, .int .i64 q2z, .int .i64 q30])) < M_ q0 u1)) ∧
 ((!decide (q1t = (max (1 : Int) q1q))) = false →
 0 ≤ q0 ∧ q0 < ((6 : Nat) : Int) ∧ 9 = szN 9 ∧
 Wr (drewW (allocW (drewW u16) hole)) s_b (s_o + 0 + 1 + q0.toNat * 9) 9 ∧
 inK .i64 (q0 + 1) ∧ I_ (q0 + 1) (putCells (drewW (allocW (drewW u16) hole)) s_b (s_o + 0 + 1 + q0.toNat * 9) ([.int .i64 q1s, .int .i64 q1t, .slice q1u q1v q1w, .int .i64 q1x, .int .i64 q1y, .int .i64 q1z, .bool q20, .int .i64 q21, .int .i64 q22])) ∧
 M_ (q0 + 1) (putCells (drewW (allocW (drewW u16) hole)) s_b (s_o + 0 + 1 + q0.toNat * 9) ([.int .i64 q1s, .int .i64 q1t, .slice q1u q1v q1w, .int .i64 q1x, .int .i64 q1y, .int .i64 q1z, .bool q20, .int .i64 q21, .int .i64 q22])) < M_ q0 u1))))))))))))) ∧
 ((decide (q0 < 6)) = false → R (.returned (.tuple #[])) u1))
set_option maxRecDepth 100000 in
theorem vc_server_Server_fit_eq (s_b s_o : Nat) (u : World) (R : Ending → World → Prop) : wFunc cx_server_Server_fit Tryd.f13 [.pointer (some ⟨s_b, s_o, none⟩)] u R = vc_server_Server_fit s_b s_o u R := by kernel_rfl
theorem vc_server_Server_fit_spec (s_b s_o : Nat) {u : World} {R : Ending → World → Prop} (h : vc_server_Server_fit s_b s_o u R) : Spec Tryd.prog fn_server_Server_fit #[.pointer (some ⟨s_b, s_o, none⟩)] u R := func_spec (C := cx_server_Server_fit) (fn := Tryd.f13) (args := [.pointer (some ⟨s_b, s_o, none⟩)]) (ctxOk _ _ _ _ _) Tryd.func13 (vc_server_Server_fit_eq s_b s_o u R) h

end Go.Proofs.YtkmmphkjmamckabDoor

namespace Go.Proofs.YtkmmphkjmamckabDoor
open Go
set_option linter.all false

/-- (*fenestra/server.Server).View -/
noncomputable def cx_server_Server_View : Ctx := ⟨Tryd.prog, tab, [], [], [3], fns, [(6, ⟨[.keep, .keep, .keep, .keep, .keep, .junk, .keep, .keep, .keep, .keep, .keep, .keep, .keep, .keep, .keep, .keep, .keep, .keep, .keep, .keep, .keep, .keep, .keep, .cell (.int .i64), .junk, .junk, .junk, .junk, .junk, .junk, .junk, .junk, .junk, .junk, .junk, .junk, .junk, .keep, .keep, .keep, .keep, .keep, .keep, .keep, .keep, .keep, .keep, .keep, .keep, .keep, .keep, .keep], [.keep, .opq]⟩), (11, ⟨[.keep, .keep, .keep, .keep, .keep, .keep, .junk, .keep, .keep, .keep, .keep, .keep, .keep, .keep, .keep, .keep, .keep, .keep, .keep, .keep, .keep, .keep, .keep, .keep, .keep, .keep, .keep, .keep, .keep, .keep, .keep, .keep, .keep, .keep, .keep, .keep, .keep, .cell (.int .i64), .junk, .junk, .junk, .junk, .junk, .junk, .junk, .junk, .junk, .junk, .junk, .junk, .junk, .keep], [.keep, .opq]⟩)], []⟩
def vc_server_Server_View (s_b s_o : Nat) (u : World) (R : Ending → World → Prop) : Prop :=
 (((Option.isNone (some (Addr.mk s_b s_o none))) = true → 58 = szN 58 ∧
 ∃ cs, putN ([.slice none 0 0, .int .i64 0, .int .i64 0, .slice none 0 0, .int .i64 0, .int .i64 0, .int .i64 0, .bool false, .int .i64 0, .int .i64 0, .int .i64 0, .int .i64 0, .slice none 0 0, .int .i64 0, .int .i64 0, .int .i64 0, .bool false, .int .i64 0, .int .i64 0, .int .i64 0, .int .i64 0, .slice none 0 0, .int .i64 0, .int .i64 0, .int .i64 0, .bool false, .int .i64 0, .int .i64 0, .int .i64 0, .int .i64 0, .slice none 0 0, .int .i64 0, .int .i64 0, .int .i64 0, .bool false, .int .i64 0, .int .i64 0, .int .i64 0, .int .i64 0, .slice none 0 0, .int .i64 0, .int .i64 0, .int .i64 0, .bool false, .int .i64 0, .int .i64 0, .int .i64 0, .int .i64 0, .slice none 0 0, .int .i64 0, .int .i64 0, .int .i64 0, .bool false, .int .i64 0, .int .i64 0, .int .i64 0, .int .i64 0, .int .i64 0]) 0 ([.slice none 0 0, .int .i64 0, .int .i64 0, .slice none 0 0, .int .i64 0, .int .i64 0, .int .i64 0, .bool false, .int .i64 0, .int .i64 0, .int .i64 0, .int .i64 0, .slice none 0 0, .int .i64 0, .int .i64 0, .int .i64 0, .bool false, .int .i64 0, .int .i64 0, .int .i64 0, .int .i64 0, .slice none 0 0, .int .i64 0, .int .i64 0, .int .i64 0, .bool false, .int .i64 0, .int .i64 0, .int .i64 0, .int .i64 0, .slice none 0 0, .int .i64 0, .int .i64 0, .int .i64 0, .bool false, .int .i64 0, .int .i64 0, .int .i64 0, .int .i64 0, .slice none 0 0, .int .i64 0, .int .i64 0, .int .i64 0, .bool false, .int .i64 0, .int .i64 0, .int .i64 0, .int .i64 0, .slice none 0 0, .int .i64 0, .int .i64 0, .int .i64 0, .bool false, .int .i64 0, .int .i64 0, .int .i64 0, .int .i64 0, .int .i64 0]) = some cs ∧
 takeN cs 0 58 = some cs ∧ R (.returned (.agg cs.toArray)) (allocW u hole)) ∧
 ((Option.isNone (some (Addr.mk s_b s_o none))) = false → ∃ (q0 : List Value), 58 = q0.length ∧
 Rd (allocW u hole) s_b (s_o + 0) q0 ∧ 58 = q0.length ∧ okCells q0 (∃ cs1, putN ([.slice none 0 0, .int .i64 0, .int .i64 0, .slice none 0 0, .int .i64 0, .int .i64 0, .int .i64 0, .bool false, .int .i64 0, .int .i64 0, .int .i64 0, .int .i64 0, .slice none 0 0, .int .i64 0, .int .i64 0, .int .i64 0, .bool false, .int .i64 0, .int .i64 0, .int .i64 0, .int .i64 0, .slice none 0 0, .int .i64 0, .int .i64 0, .int .i64 0, .bool false, .int .i64 0, .int .i64 0, .int .i64 0, .int .i64 0, .slice none 0 0, .int .i64 0, .int .i64 0, .int .i64 0, .bool false, .int .i64 0, .int .i64 0, .int .i64 0, .int .i64 0, .slice none 0 0, .int .i64 0, .int .i64 0, .int .i64 0, .bool false, .int .i64 0, .int .i64 0, .int .i64 0, .int .i64 0, .slice none 0 0, .int .i64 0, .int .i64 0, .int .i64 0, .bool false, .int .i64 0, .int .i64 0, .int .i64 0, .int .i64 0, .int .i64 0]) 0 q0 = some cs1 ∧
 1 = szN 1 ∧ ∃ cs2, putN cs1 0 ([.slice none 0 0]) = some cs2 ∧
 ∃ (q1 : Option Addr) (q2 q3 : Nat), 1 = szN 1 ∧
 Rd (allocW (allocW u hole) hole) s_b (s_o + 0 + 0 + 0) ([.slice q1 q2 q3]) ∧
 ∃ (I_ : Int → List Value → World → Prop) (M_ : Int → List Value →
 World → Nat), ((Loc.mk 57 true ([.slice none 0 0, .int .i64 0, .int .i64 0, .slice none 0 0, .int .i64 0, .int .i64 0, .int .i64 0, .bool false, .int .i64 0, .int .i64 0, .int .i64 0, .int .i64 0, .slice none 0 0, .int .i64 0, .int .i64 0, .int .i64 0, .bool false, .int .i64 0, .int .i64 0, .int .i64 0, .int .i64 0, .slice none 0 0, .int .i64 0, .int .i64 0, .int .i64 0, .bool false, .int .i64 0, .int .i64 0, .int .i64 0, .int .i64 0, .slice none 0 0, .int .i64 0, .int .i64 0, .int .i64 0, .bool false, .int .i64 0, .int .i64 0, .int .i64 0, .int .i64 0, .slice none 0 0, .int .i64 0, .int .i64 0, .int .i64 0, .bool false, .int .i64 0, .int .i64 0, .int .i64 0, .int .i64 0, .slice none 0 0, .int .i64 0, .int .i64 0, .int .i64 0, .bool false, .int .i64 0, .int .i64 0, .int .i64 0, .int .i64 0, .int .i64 0])) = (Loc.mk 57 true ([.slice none 0 0, .int .i64 0, .int .i64 0, .slice none 0 0, .int .i64 0, .int .i64 0, .int .i64 0, .bool false, .int .i64 0, .int .i64 0, .int .i64 0, .int .i64 0, .slice none 0 0, .int .i64 0, .int .i64 0, .int .i64 0, .bool false, .int .i64 0, .int .i64 0, .int .i64 0, .int .i64 0, .slice none 0 0, .int .i64 0, .int .i64 0, .int .i64 0, .bool false, .int .i64 0, .int .i64 0, .int .i64 0, .int .i64 0, .slice none 0 0, .int .i64 0, .int .i64 0, .int .i64 0, .bool false, .int .i64 0, .int .i64 0, .int .i64 0, .int .i64 0, .slice none 0 0, .int .i64 0, .int .i64 0, .int .i64 0, .bool false, .int .i64 0, .int .i64 0, .int .i64 0, .int .i64 0, .slice none 0 0, .int .i64 0, .int .i64 0, .int .i64 0, .bool false, .int .i64 0, .int .i64 0, .int .i64 0, .int .i64 0, .int .i64 0])) ∧
 I_ 0 cs2 (allocW (allocW u hole) hole)) ∧ ∀ (q4 : Int) (v : List Value), (Loc.mk 57 true ([.slice none 0 0, .int .i64 0, .int .i64 0, .slice none 0 0, .int .i64 0, .int .i64 0, .int .i64 0, .bool false, .int .i64 0, .int .i64 0, .int .i64 0, .int .i64 0, .slice none 0 0, .int .i64 0, .int .i64 0, .int .i64 0, .bool false, .int .i64 0, .int .i64 0, .int .i64 0, .int .i64 0, .slice none 0 0, .int .i64 0, .int .i64 0, .int .i64 0, .bool false, .int .i64 0, .int .i64 0, .int .i64 0, .int .i64 0, .slice none 0 0, .int .i64 0, .int .i64 0, .int .i64 0, .bool false, .int .i64 0, .int .i64 0, .int .i64 0, .int .i64 0, .slice none 0 0, .int .i64 0, .int .i64 0, .int .i64 0, .bool false, .int .i64 0, .int .i64 0, .int .i64 0, .int .i64 0, .slice none 0 0, .int .i64 0, .int .i64 0, .int .i64 0, .bool false, .int .i64 0, .int .i64 0, .int .i64 0, .int .i64 0, .int .i64 0])) = (Loc.mk 57 true ([.slice none 0 0, .int .i64 0, .int .i64 0, .slice none 0 0, .int .i64 0, .int .i64 0, .int .i64 0, .bool false, .int .i64 0, .int .i64 0, .int .i64 0, .int .i64 0, .slice none 0 0, .int .i64 0, .int .i64 0, .int .i64 0, .bool false, .int .i64 0, .int .i64 0, .int .i64 0, .int .i64 0, .slice none 0 0, .int .i64 0, .int .i64 0, .int .i64 0, .bool false, .int .i64 0, .int .i64 0, .int .i64 0, .int .i64 0, .slice none 0 0, .int .i64 0, .int .i64 0, .int .i64 0, .bool false, .int .i64 0, .int .i64 0, .int .i64 0, .int .i64 0, .slice none 0 0, .int .i64 0, .int .i64 0, .int .i64 0, .bool false, .int .i64 0, .int .i64 0, .int .i64 0, .int .i64 0, .slice none 0 0, .int .i64 0, .int .i64 0, .int .i64 0, .bool false, .int .i64 0, .int .i64 0, .int .i64 0, .int .i64 0, .int .i64 0])) ∧
 ∀ u1 : World, I_ q4 v u1 → (((decide (q4 < ((q2 : Nat) : Int))) = true →
 ∃ b o, q1 = some ⟨b, o, none⟩ ∧ 0 ≤ q4 ∧ q4 < ((q2 : Nat) : Int) ∧
 ∃ (q5 : Option Addr) (q6 q7 : Nat), 1 = szN 1 ∧
 Rd u1 b (o + q4.toNat * 1) ([.slice q5 q6 q7]) ∧ ∃ (q8 : Option Addr) (q9 qa : Nat), takeN v 0 1 = some [.slice q8 q9 qa] ∧
 ∃ old new : List Value, old.length = 0 * 1 ∧ Gets (drewW u1) none old ∧
 new.length = q6 * 1 ∧ Gets (drewW u1) q5 new ∧ 0 < 8 ∧
 (2 * (0 + q6) + 192) * 8 ≤ 140737488355328 ∧ okCells new True ∧
 (0 + q6 ≤ 0 → WrS (drewW u1) none (0 * 1) (q6 * 1)) ∧ ∀ p cap u11, AppR (drewW u1) 3 1 [.int .i64 0] none 0 0 q6 old new p cap u11 →
 ∃ old1 new1 : List Value, old1.length = q9 * 1 ∧ Gets (allocW u11 (.cells #[.slice p (0 + q6) cap] 42)) q8 old1 ∧
 new1.length = 1 * 1 ∧ Gets (allocW u11 (.cells #[.slice p (0 + q6) cap] 42)) (some (Addr.mk u11.heap.size 0 none)) new1 ∧
 0 < 24 ∧ (2 * (q9 + 1) + 192) * 24 ≤ 140737488355328 ∧ okCells new1 True ∧
 (q9 + 1 ≤ qa → WrS (allocW u11 (.cells #[.slice p (0 + q6) cap] 42)) q8 (q9 * 1) (1 * 1)) ∧
 ∀ p1 cap1 u12, AppR (allocW u11 (.cells #[.slice p (0 + q6) cap] 42)) 42 1 [.slice none 0 0] q8 q9 qa 1 old1 new1 p1 cap1 u12 →
 1 = szN 1 ∧ ∃ cs3, putN v 0 ([.slice p1 (q9 + 1) cap1]) = some cs3 ∧
 inK .i64 (q4 + 1) ∧ (Loc.mk 57 true ([.slice none 0 0, .int .i64 0, .int .i64 0, .slice none 0 0, .int .i64 0, .int .i64 0, .int .i64 0, .bool false, .int .i64 0, .int .i64 0, .int .i64 0, .int .i64 0, .slice none 0 0, .int .i64 0, .int .i64 0, .int .i64 0, .bool false, .int .i64 0, .int .i64 0, .int .i64 0, .int .i64 0, .slice none 0 0, .int .i64 0, .int .i64 0, .int .i64 0, .bool false, .int .i64 0, .int .i64 0, .int .i64 0, .int .i64 0, .slice none 0 0, .int .i64 0, .int .i64 0, .int .i64 0, .bool false, .int .i64 0, .int .i64 0, .int .i64 0, .int .i64 0, .slice none 0 0, .int .i64 0, .int .i64 0, .int .i64 0, .bool false, .int .i64 0, .int .i64 0, .int .i64 0, .int .i64 0, .slice none 0 0, .int .i64 0, .int .i64 0, .int .i64 0, .bool false, .int .i64 0, .int .i64 0, .int .i64 0, .int .i64 0, .int .i64 0])) = (Loc.mk 57 true ([.slice none 0 0, .int .i64 0, .int .i64 0, .slice none 0 0, .int .i64 0, .int .i64 0, .int .i64 0, .bool false, .int .i64 0, .int .i64 0, .int .i64 0, .int .i64 0, .slice none 0 0, .int .i64 0, .int .i64 0, .int .i64 0, .bool false, .int .i64 0, .int .i64 0, .int .i64 0, .int .i64 0, .slice none 0 0, .int .i64 0, .int .i64 0, .int .i64 0, .bool false, .int .i64 0, .int .i64 0, .int .i64 0, .int .i64 0, .slice none 0 0, .int .i64 0, .int .i64 0, .int .i64 0, .bool false, .int .i64 0, .int .i64 0, .int .i64 0, .int .i64 0, .slice none 0 0, .int .i64 0, .int .i64 0, .int .i64 0, .bool false, .int .i64 0, .int .i64 0, .int .i64 0, .int .i64 0, .slice none 0 0, .int .i64 0, .int .i64 0, .int .i64 0, .bool false, .int .i64 0, .int .i64 0, .int .i64 0, .int .i64 0, .int .i64 0])) ∧
 I_ (q4 + 1) cs3 u12 ∧ (Loc.mk 57 true ([.slice none 0 0, .int .i64 0, .int .i64 0, .slice none 0 0, .int .i64 0, .int .i64 0, .int .i64 0, .bool false, .int .i64 0, .int .i64 0, .int .i64 0, .int .i64 0, .slice none 0 0, .int .i64 0, .int .i64 0, .int .i64 0, .bool false, .int .i64 0, .int .i64 0, .int .i64 0, .int .i64 0, .slice none 0 0, .int .i64 0, .int .i64 0, .int .i64 0, .bool false, .int .i64 0, .int .i64 0, .int .i64 0, .int .i64 0, .slice none 0 0, .int .i64 0, .int .i64 0, .int .i64 0, .bool false, .int .i64 0, .int .i64 0, .int .i64 0, .int .i64 0, .slice none 0 0, .int .i64 0, .int .i64 0, .int .i64 0, .bool false, .int .i64 0, .int .i64 0, .int .i64 0, .int .i64 0, .slice none 0 0, .int .i64 0, .int .i64 0, .int .i64 0, .bool false, .int .i64 0, .int .i64 0, .int .i64 0, .int .i64 0, .int .i64 0])) = (Loc.mk 57 true ([.slice none 0 0, .int .i64 0, .int .i64 0, .slice none 0 0, .int .i64 0, .int .i64 0, .int .i64 0, .bool false, .int .i64 0, .int .i64 0, .int .i64 0, .int .i64 0, .slice none 0 0, .int .i64 0, .int .i64 0, .int .i64 0, .bool false, .int .i64 0, .int .i64 0, .int .i64 0, .int .i64 0, .slice none 0 0, .int .i64 0, .int .i64 0, .int .i64 0, .bool false, .int .i64 0, .int .i64 0, .int .i64 0, .int .i64 0, .slice none 0 0, .int .i64 0, .int .i64 0, .int .i64 0, .bool false, .int .i64 0, .int .i64 0, .int .i64 0, .int .i64 0, .slice none 0 0, .int .i64 0, .int .i64 0, .int .i64 0, .bool false, .int .i64 0, .int .i64 0, .int .i64 0, .int .i64 0, .slice none 0 0, .int .i64 0, .int .i64 0, .int .i64 0, .bool false, .int .i64 0, .int .i64 0, .int .i64 0, .int .i64 0, .int .i64 0])) ∧
 M_ (q4 + 1) cs3 u12 < M_ q4 v u1) ∧ ((decide (q4 < ((q2 : Nat) : Int))) = false →
 ∃ (I_1 : Int → List Value → World → Prop) (M_1 : Int → List Value →
 World → Nat), ((Loc.mk 57 true ([.slice none 0 0, .int .i64 0, .int .i64 0, .slice none 0 0, .int .i64 0, .int .i64 0, .int .i64 0, .bool false, .int .i64 0, .int .i64 0, .int .i64 0, .int .i64 0, .slice none 0 0, .int .i64 0, .int .i64 0, .int .i64 0, .bool false, .int .i64 0, .int .i64 0, .int .i64 0, .int .i64 0, .slice none 0 0, .int .i64 0, .int .i64 0, .int .i64 0, .bool false, .int .i64 0, .int .i64 0, .int .i64 0, .int .i64 0, .slice none 0 0, .int .i64 0, .int .i64 0, .int .i64 0, .bool false, .int .i64 0, .int .i64 0, .int .i64 0, .int .i64 0, .slice none 0 0, .int .i64 0, .int .i64 0, .int .i64 0, .bool false, .int .i64 0, .int .i64 0, .int .i64 0, .int .i64 0, .slice none 0 0, .int .i64 0, .int .i64 0, .int .i64 0, .bool false, .int .i64 0, .int .i64 0, .int .i64 0, .int .i64 0, .int .i64 0])) = (Loc.mk 57 true ([.slice none 0 0, .int .i64 0, .int .i64 0, .slice none 0 0, .int .i64 0, .int .i64 0, .int .i64 0, .bool false, .int .i64 0, .int .i64 0, .int .i64 0, .int .i64 0, .slice none 0 0, .int .i64 0, .int .i64 0, .int .i64 0, .bool false, .int .i64 0, .int .i64 0, .int .i64 0, .int .i64 0, .slice none 0 0, .int .i64 0, .int .i64 0, .int .i64 0, .bool false, .int .i64 0, .int .i64 0, .int .i64 0, .int .i64 0, .slice none 0 0, .int .i64 0, .int .i64 0, .int .i64 0, .bool false, .int .i64 0, .int .i64 0, .int .i64 0, .int .i64 0, .slice none 0 0, .int .i64 0, .int .i64 0, .int .i64 0, .bool false, .int .i64 0, .int .i64 0, .int .i64 0, .int .i64 0, .slice none 0 0, .int .i64 0, .int .i64 0, .int .i64 0, .bool false, .int .i64 0, .int .i64 0, .int .i64 0, .int .i64 0, .int .i64 0])) ∧
 I_1 0 v u1) ∧ ∀ (qb : Int) (v1 : List Value), (Loc.mk 57 true ([.slice none 0 0, .int .i64 0, .int .i64 0, .slice none 0 0, .int .i64 0, .int .i64 0, .int .i64 0, .bool false, .int .i64 0, .int .i64 0, .int .i64 0, .int .i64 0, .slice none 0 0, .int .i64 0, .int .i64 0, .int .i64 0, .bool false, .int .i64 0, .int .i64 0, .int .i64 0, .int .i64 0, .slice none 0 0, .int .i64 0, .int .i64 0, .int .i64 0, .bool false, .int .i64 0, .int .i64 0, .int .i64 0, .int .i64 0, .slice none 0 0, .int .i64 0, .int .i64 0, .int .i64 0, .bool false, .int .i64 0, .int .i64 0, .int .i64 0, .int .i64 0, .slice none 0 0, .int .i64 0, .int .i64 0, .int .i64 0, .bool false, .int .i64 0, .int .i64 0, .int .i64 0, .int .i64 0, .slice none 0 0, .int .i64 0, .int .i64 0, .int .i64 0, .bool false, .int .i64 0, .int .i64 0, .int .i64 0, .int .i64 0, .int .i64 0])) = (Loc.mk 57 true ([.slice none 0 0, .int .i64 0, .int .i64 0, .slice none 0 0, .int .i64 0, .int .i64 0, .int .i64 0, .bool false, .int .i64 0, .int .i64 0, .int .i64 0, .int .i64 0, .slice none 0 0, .int .i64 0, .int .i64 0, .int .i64 0, .bool false, .int .i64 0, .int .i64 0, .int .i64 0, .int .i64 0, .slice none 0 0, .int .i64 0, .int .i64 0, .int .i64 0, .bool false, .int .i64 0, .int .i64 0, .int .i64 0, .int .i64 0, .slice none 0 0, .int .i64 0, .int .i64 0, .int .i64 0, .bool false, .int .i64 0, .int .i64 0, .int .i64 0, .int .i64 0, .slice none 0 0, .int .i64 0, .int .i64 0, .int .i64 0, .bool false, .int .i64 0, .int .i64 0, .int .i64 0, .int .i64 0, .slice none 0 0, .int .i64 0, .int .i64 0, .int .i64 0, .bool false, .int .i64 0, .int .i64 0, .int .i64 0, .int .i64 0, .int .i64 0])) ∧
 ∀ u13 : World, I_1 qb v1 u13 → (((decide (qb < 6)) = true → 0 ≤ qb ∧
 qb < ((6 : Nat) : Int) ∧ ∃ (qc : Option Addr) (qd qe : Nat), takeN v1 (1 + qb.toNat * 9 + 2) 1 = some [.slice qc qd qe] ∧
 ∃ old2 new2 : List Value, old2.length = 0 * 4 ∧ Gets u13 none old2 ∧
 new2.length = qd * 4 ∧ Gets u13 qc new2 ∧ 0 < 32 ∧ (2 * (0 + qd) + 192) * 32 ≤ 140737488355328 ∧
 okCells new2 True ∧ (0 + qd ≤ 0 → WrS u13 none (0 * 4) (qd * 4)) ∧
 ∀ p2 cap2 u14, AppR u13 101 4 [.int .i64 0, .int .i64 0, .int .i64 0, .bool false] none 0 0 qd old2 new2 p2 cap2 u14 →
 0 ≤ qb ∧ qb < ((6 : Nat) : Int) ∧ 1 = szN 1 ∧
 ∃ cs4, putN v1 (1 + qb.toNat * 9 + 2) ([.slice p2 (0 + qd) cap2]) = some cs4 ∧
 inK .i64 (qb + 1) ∧ (Loc.mk 57 true ([.slice none 0 0, .int .i64 0, .int .i64 0, .slice none 0 0, .int .i64 0, .int .i64 0, .int .i64 0, .bool false, .int .i64 0, .int .i64 0, .int .i64 0, .int .i64 0, .slice none 0 0, .int .i64 0, .int .i64 0, .int .i64 0, .bool false, .int .i64 0, .int .i64 0, .int .i64 0, .int .i64 0, .slice none 0 0, .int .i64 0, .int .i64 0, .int .i64 0, .bool false, .int .i64 0, .int .i64 0, .int .i64 0, .int .i64 0, .slice none 0 0, .int .i64 0, .int .i64 0, .int .i64 0, .bool false, .int .i64 0, .int .i64 0, .int .i64 0, .int .i64 0, .slice none 0 0, .int .i64 0, .int .i64 0, .int .i64 0, .bool false, .int .i64 0, .int .i64 0, .int .i64 0, .int .i64 0, .slice none 0 0, .int .i64 0, .int .i64 0, .int .i64 0, .bool false, .int .i64 0, .int .i64 0, .int .i64 0, .int .i64 0, .int .i64 0])) = (Loc.mk 57 true ([.slice none 0 0, .int .i64 0, .int .i64 0, .slice none 0 0, .int .i64 0, .int .i64 0, .int .i64 0, .bool false, .int .i64 0, .int .i64 0, .int .i64 0, .int .i64 0, .slice none 0 0, .int .i64 0, .int .i64 0, .int .i64 0, .bool false, .int .i64 0, .int .i64 0, .int .i64 0, .int .i64 0, .slice none 0 0, .int .i64 0, .int .i64 0, .int .i64 0, .bool false, .int .i64 0, .int .i64 0, .int .i64 0, .int .i64 0, .slice none 0 0, .int .i64 0, .int .i64 0, .int .i64 0, .bool false, .int .i64 0, .int .i64 0, .int .i64 0, .int .i64 0, .slice none 0 0, .int .i64 0, .int .i64 0, .int .i64 0, .bool false, .int .i64 0, .int .i64 0, .int .i64 0, .int .i64 0, .slice none 0 0, .int .i64 0, .int .i64 0, .int .i64 0, .bool false, .int .i64 0, .int .i64 0, .int .i64 0, .int .i64 0, .int .i64 0])) ∧
 I_1 (qb + 1) cs4 u14 ∧ (Loc.mk 57 true ([.slice none 0 0, .int .i64 0, .int .i64 0, .slice none 0 0, .int .i64 0, .int .i64 0, .int .i64 0, .bool false, .int .i64 0, .int .i64 0, .int .i64 0, .int .i64 0, .slice none 0 0, .int .i64 0, .int .i64 0, .int .i64 0, .bool false, .int .i64 0, .int .i64 0, .int .i64 0, .int .i64 0, .slice none 0 0, .int .i64 0, .int .i64 0, .int .i64 0, .bool false, .int .i64 0, .int .i64 0, .int .i64 0, .int .i64 0, .slice none 0 0, .int .i64 0, .int .i64 0, .int .i64 0, .bool false, .int .i64 0, .int .i64 0, .int .i64 0, .int .i64 0, .slice none 0 0, .int .i64 0, .int .i64 0, .int .i64 0, .bool false, .int .i64 0, .int .i64 0, .int .i64 0, .int .i64 0, .slice none 0 0, .int .i64 0, .int .i64 0, .int .i64 0, .bool false, .int .i64 0, .int .i64 0, .int .i64 0, .int .i64 0, .int .i64 0])) = (Loc.mk 57 true ([.slice none 0 0, .int .i64 0, .int .i64 0, .slice none 0 0, .int .i64 0, .int .i64 0, .int .i64 0, .bool false, .int .i64 0, .int .i64 0, .int .i64 0, .int .i64 0, .slice none 0 0, .int .i64 0, .int .i64 0, .int .i64 0, .bool false, .int .i64 0, .int .i64 0, .int .i64 0, .int .i64 0, .slice none 0 0, .int .i64 0, .int .i64 0, .int .i64 0, .bool false, .int .i64 0, .int .i64 0, .int .i64 0, .int .i64 0, .slice none 0 0, .int .i64 0, .int .i64 0, .int .i64 0, .bool false, .int .i64 0, .int .i64 0, .int .i64 0, .int .i64 0, .slice none 0 0, .int .i64 0, .int .i64 0, .int .i64 0, .bool false, .int .i64 0, .int .i64 0, .int .i64 0, .int .i64 0, .slice none 0 0, .int .i64 0, .int .i64 0, .int .i64 0, .bool false, .int .i64 0, .int .i64 0, .int .i64 0, .int .i64 0, .int .i64 0])) ∧
 M_1 (qb + 1) cs4 u14 < M_1 qb v1 u13) ∧ ((decide (qb < 6)) = false →
 takeN v1 0 58 = some v1 ∧ 58 = v1.length ∧ okCells v1 (∃ cs5, putN ([.slice none 0 0, .int .i64 0, .int .i64 0, .slice none 0 0, .int .i64 0, .int .i64 0, .int .i64 0, .bool false, .int .i64 0, .int .i64 0, .int .i64 0, .int .i64 0, .slice none 0 0, .int .i64 0, .int .i64 0, .int .i64 0, .bool false, .int .i64 0, .int .i64 0, .int .i64 0, .int .i64 0, .slice none 0 0, .int .i64 0, .int .i64 0, .int .i64 0, .bool false, .int .i64 0, .int .i64 0, .int .i64 0, .int .i64 0, .slice none 0 0, .int .i64 0, .int .i64 0, .int .i64 0, .bool false, .int .i64 0, .int .i64 0, .int .i64 0, .int .i64 0, .slice none 0 0, .int .i64 0, .int .i64 0, .int .i64 0, .bool false, .int .i64 0, .int .i64 0, .int .i64 0, .int .i64 0, .slice none 0 0, .int .i64 0, .int .i64 0, .int .i64 0, .bool false, .int .i64 0, .int .i64 0, .int .i64 0, .int .i64 0, .int .i64 0]) 0 v1 = some cs5 ∧
 takeN cs5 0 58 = some cs5 ∧ R (.returned (.agg cs5.toArray)) u13))))))))
set_option maxRecDepth 100000 in
theorem vc_server_Server_View_eq (s_b s_o : Nat) (u : World) (R : Ending → World → Prop) : wFunc cx_server_Server_View Tryd.f25 [.pointer (some ⟨s_b, s_o, none⟩)] u R = vc_server_Server_View s_b s_o u R := by kernel_rfl
theorem vc_server_Server_View_spec (s_b s_o : Nat) {u : World} {R : Ending → World → Prop} (h : vc_server_Server_View s_b s_o u R) : Spec Tryd.prog fn_server_Server_View #[.pointer (some ⟨s_b, s_o, none⟩)] u R := func_spec (C := cx_server_Server_View) (fn := Tryd.f25) (args := [.pointer (some ⟨s_b, s_o, none⟩)]) (ctxOk _ _ _ _ _) Tryd.func25 (vc_server_Server_View_eq s_b s_o u R) h

/-- (*fenestra/server.Server).Client -/
noncomputable def cx_server_Server_Client : Ctx := ⟨Tryd.prog, tab, [], [], [], fns, [], []⟩
def vc_server_Server_Client (s_b s_o : Nat) (i : Int) (u : World) (R : Ending → World → Prop) : Prop :=
 (((Option.isNone (some (Addr.mk s_b s_o none))) = true → R (.returned (.tuple #[.string (ByteArray.mk #[]), .bool false, .bool false])) u) ∧
 ((Option.isNone (some (Addr.mk s_b s_o none))) = false → (((decide (i < 0)) = true →
 R (.returned (.tuple #[.string (ByteArray.mk #[]), .bool false, .bool false])) u) ∧
 ((decide (i < 0)) = false → (((decide ((3 : Int) ≤ i)) = true →
 R (.returned (.tuple #[.string (ByteArray.mk #[]), .bool false, .bool false])) u) ∧
 ((decide ((3 : Int) ≤ i)) = false → 0 ≤ i ∧ i < ((3 : Nat) : Int) ∧
 ∃ (q0 : Bool), 1 = szN 1 ∧ Rd u s_b (s_o + 82 + i.toNat * 12 + 0) ([.bool q0]) ∧
 (((!q0) = true → R (.returned (.tuple #[.string (ByteArray.mk #[]), .bool false, .bool false])) u) ∧
 ((!q0) = false → 0 ≤ i ∧ i < ((3 : Nat) : Int) ∧ ∃ (q1 : ByteArray), 1 = szN 1 ∧
 Rd (drewW u) s_b (s_o + 82 + i.toNat * 12 + 10) ([.string q1]) ∧
 0 ≤ i ∧ i < ((3 : Nat) : Int) ∧ ∃ (q2 : Bool), 1 = szN 1 ∧
 Rd (drewW u) s_b (s_o + 82 + i.toNat * 12 + 11) ([.bool q2]) ∧
 R (.returned (.tuple #[.string q1, .bool q2, .bool true])) (drewW u)))))))))
set_option maxRecDepth 100000 in
theorem vc_server_Server_Client_eq (s_b s_o : Nat) (i : Int) (u : World) (R : Ending → World → Prop) : wFunc cx_server_Server_Client Tryd.f11 [.pointer (some ⟨s_b, s_o, none⟩), .int .i64 i] u R = vc_server_Server_Client s_b s_o i u R := by kernel_rfl
theorem vc_server_Server_Client_spec (s_b s_o : Nat) (i : Int) {u : World} {R : Ending → World → Prop} (h : vc_server_Server_Client s_b s_o i u R) : Spec Tryd.prog fn_server_Server_Client #[.pointer (some ⟨s_b, s_o, none⟩), .int .i64 i] u R := func_spec (C := cx_server_Server_Client) (fn := Tryd.f11) (args := [.pointer (some ⟨s_b, s_o, none⟩), .int .i64 i]) (ctxOk _ _ _ _ _) Tryd.func11 (vc_server_Server_Client_eq s_b s_o i u R) h

end Go.Proofs.YtkmmphkjmamckabDoor

namespace Go.Proofs.YtkmmphkjmamckabDoor
open Go
set_option linter.all false

/-- (*fenestra/server.Server).split -/
noncomputable def cx_server_Server_split : Ctx := ⟨Tryd.prog, tab, [], [], [], fns, [(2, ⟨[.keep, .keep, .keep, .keep, .keep, .junk, .junk, .junk, .cell (.int .i64), .junk, .junk, .junk, .junk, .junk, .junk, .junk, .junk, .junk, .junk, .junk, .junk, .junk, .junk, .junk, .junk, .junk, .junk, .junk, .junk, .junk, .junk, .junk, .junk, .junk, .junk, .junk, .junk, .junk, .junk, .junk, .junk, .junk, .junk, .junk, .junk, .junk, .junk, .junk, .junk, .junk, .junk, .junk, .keep], [.keep, .cells [.int .i64, .int .i64, .str]]⟩)], []⟩
def vc_server_Server_split (s_b s_o : Nat) (a_Kind : Int) (a_P : Int) (a_N : Int) (a_M : Int) (a_Bytes : ByteArray) (u : World) (R : Ending → World → Prop) : Prop :=
 ∃ (I_ : Int → Int → Int → ByteArray → World → Prop) (M_ : Int →
 Int → Int → ByteArray → World → Nat), ((Loc.mk 34 false ([.int .i64 a_Kind, .int .i64 a_P, .int .i64 a_N, .int .i64 a_M, .string a_Bytes])) = (Loc.mk 34 false ([.int .i64 a_Kind, .int .i64 a_P, .int .i64 a_N, .int .i64 a_M, .string a_Bytes])) ∧
 I_ 0 0 0 (ByteArray.mk #[]) (allocW (allocW u hole) hole)) ∧ ∀ (q0 q1 q2 : Int) (q3 : ByteArray), (Loc.mk 34 false ([.int .i64 a_Kind, .int .i64 a_P, .int .i64 a_N, .int .i64 a_M, .string a_Bytes])) = (Loc.mk 34 false ([.int .i64 a_Kind, .int .i64 a_P, .int .i64 a_N, .int .i64 a_M, .string a_Bytes])) ∧
 ∀ u1 : World, I_ q0 q1 q2 q3 u1 → (((decide (q0 < 6)) = true →
 ∃ (q4 : Option Addr) (q5 q6 : Nat), 1 = szN 1 ∧
 Rd u1 s_b (s_o + 0 + 0) ([.slice q4 q5 q6]) ∧
 Spec Tryd.prog 17 #[.agg #[.slice q4 q5 q6], .int .i64 q0] u1 (fun e u11 => ∃ (q7 : Bool), e = .returned (.bool q7) ∧
 ((q7 = true → inK .i64 (q0 + 1) ∧ (Loc.mk 34 false ([.int .i64 a_Kind, .int .i64 a_P, .int .i64 a_N, .int .i64 a_M, .string a_Bytes])) = (Loc.mk 34 false ([.int .i64 a_Kind, .int .i64 a_P, .int .i64 a_N, .int .i64 a_M, .string a_Bytes])) ∧
 I_ (q0 + 1) q1 q2 q3 u11 ∧ (Loc.mk 34 false ([.int .i64 a_Kind, .int .i64 a_P, .int .i64 a_N, .int .i64 a_M, .string a_Bytes])) = (Loc.mk 34 false ([.int .i64 a_Kind, .int .i64 a_P, .int .i64 a_N, .int .i64 a_M, .string a_Bytes])) ∧
 M_ (q0 + 1) q1 q2 q3 u11 < M_ q0 q1 q2 q3 u1) ∧
 (q7 = false → ∃ (q8 : Option Addr) (q9 qa : Nat), 1 = szN 1 ∧
 Rd (drewW u11) s_b (s_o + 0 + 0) ([.slice q8 q9 qa]) ∧
 ((Spec Tryd.prog 29 #[.agg #[.slice q8 q9 qa], .int .i64 a_P, .int .i64 q0, .bool (decide (a_N = 1))] (drewW u11) (fun e u12 => ∃ (qb : Option Addr) (qc qd : Nat) (qe : Int), e = .returned (.tuple #[.agg #[.slice qb qc qd], .int .i64 qe]) ∧
 Rd (allocW u12 hole) s_b (s_o + 0 + 0) ([.slice q8 q9 qa]) ∧
 (((!decide (qe = 0)) = true → R (.returned (.agg #[.int .i64 qe, .int .i64 0, .string (ByteArray.mk #[])])) (allocW u12 hole)) ∧
 ((!decide (qe = 0)) = false → 1 = szN 1 ∧
 Wr (allocW u12 hole) s_b (s_o + 0 + 0) 1 ∧ 1 = szN 1 ∧
 Wr (putCells (allocW u12 hole) s_b (s_o + 0 + 0) ([.slice qb qc qd])) s_b (s_o + 0 + 57) 1 ∧
 Spec Tryd.prog 13 #[.pointer (some ⟨s_b, s_o, none⟩)] (putCells (putCells (allocW u12 hole) s_b (s_o + 0 + 0) ([.slice qb qc qd])) s_b (s_o + 0 + 57) ([.int .i64 q0])) (fun e u13 => e = .returned (.tuple #[]) ∧
 R (.returned (.agg #[.int .i64 0, .int .i64 q0, .string (ByteArray.mk #[])])) u13))))) ∧
 (Rd (allocW (drewW u11) hole) s_b (s_o + 0 + 0) ([.slice q8 q9 qa]) ∧
 Spec Tryd.prog 29 #[.agg #[.slice q8 q9 qa], .int .i64 a_P, .int .i64 q0, .bool (decide (a_N = 1))] (allocW (drewW u11) hole) (fun e u14 => ∃ (qf : Option Addr) (qg qh : Nat) (qi : Int), e = .returned (.tuple #[.agg #[.slice qf qg qh], .int .i64 qi]) ∧
 (((!decide (qi = 0)) = true → R (.returned (.agg #[.int .i64 qi, .int .i64 0, .string (ByteArray.mk #[])])) u14) ∧
 ((!decide (qi = 0)) = false → 1 = szN 1 ∧
 Wr u14 s_b (s_o + 0 + 0) 1 ∧ 1 = szN 1 ∧
 Wr (putCells u14 s_b (s_o + 0 + 0) ([.slice qf qg qh])) s_b (s_o + 0 + 57) 1 ∧
 Spec Tryd.prog 13 #[.pointer (some ⟨s_b, s_o, none⟩)] (putCells (putCells u14 s_b (s_o + 0 + 0) ([.slice qf qg qh])) s_b (s_o + 0 + 57) ([.int .i64 q0])) (fun e u15 => e = .returned (.tuple #[]) ∧
 R (.returned (.agg #[.int .i64 0, .int .i64 q0, .string (ByteArray.mk #[])])) u15)))))))))) ∧
 ((decide (q0 < 6)) = false → R (.returned (.agg #[.int .i64 5, .int .i64 0, .string (ByteArray.mk #[])])) u1))
set_option maxRecDepth 100000 in
theorem vc_server_Server_split_eq (s_b s_o : Nat) (a_Kind : Int) (a_P : Int) (a_N : Int) (a_M : Int) (a_Bytes : ByteArray) (u : World) (R : Ending → World → Prop) : wFunc cx_server_Server_split Tryd.f15 [.pointer (some ⟨s_b, s_o, none⟩), .agg #[.int .i64 a_Kind, .int .i64 a_P, .int .i64 a_N, .int .i64 a_M, .string a_Bytes]] u R = vc_server_Server_split s_b s_o a_Kind a_P a_N a_M a_Bytes u R := by kernel_rfl
theorem vc_server_Server_split_spec (s_b s_o : Nat) (a_Kind : Int) (a_P : Int) (a_N : Int) (a_M : Int) (a_Bytes : ByteArray) {u : World} {R : Ending → World → Prop} (h : vc_server_Server_split s_b s_o a_Kind a_P a_N a_M a_Bytes u R) : Spec Tryd.prog fn_server_Server_split #[.pointer (some ⟨s_b, s_o, none⟩), .agg #[.int .i64 a_Kind, .int .i64 a_P, .int .i64 a_N, .int .i64 a_M, .string a_Bytes]] u R := func_spec (C := cx_server_Server_split) (fn := Tryd.f15) (args := [.pointer (some ⟨s_b, s_o, none⟩), .agg #[.int .i64 a_Kind, .int .i64 a_P, .int .i64 a_N, .int .i64 a_M, .string a_Bytes]]) (ctxOk _ _ _ _ _) Tryd.func15 (vc_server_Server_split_eq s_b s_o a_Kind a_P a_N a_M a_Bytes u R) h

/-- (*fenestra/server.Server).kill -/
noncomputable def cx_server_Server_kill : Ctx := ⟨Tryd.prog, tab, [], [], [], fns, [], []⟩
def vc_server_Server_kill (s_b s_o : Nat) (p : Int) (u : World) (R : Ending → World → Prop) : Prop :=
 ∃ (q0 : Option Addr) (q1 q2 : Nat), 1 = szN 1 ∧
 Rd u s_b (s_o + 0 + 0) ([.slice q0 q1 q2]) ∧
 Spec Tryd.prog 30 #[.agg #[.slice q0 q1 q2], .int .i64 p] u (fun e u1 => ∃ (q3 : Option Addr) (q4 q5 : Nat) (q6 : Int), e = .returned (.tuple #[.agg #[.slice q3 q4 q5], .int .i64 q6]) ∧
 (((!decide (q6 = 0)) = true → R (.returned (.int .i64 q6)) (allocW u1 hole)) ∧
 ((!decide (q6 = 0)) = false → 1 = szN 1 ∧
 Wr (allocW u1 hole) s_b (s_o + 0 + 0) 1 ∧ ∃ (q7 : Int), 1 = szN 1 ∧
 Rd (putCells (allocW u1 hole) s_b (s_o + 0 + 0) ([.slice q3 q4 q5])) s_b (s_o + 0 + 57) ([.int .i64 q7]) ∧
 (((decide (q7 = p)) = true → ∃ b o, q3 = some ⟨b, o, none⟩ ∧
 0 ≤ (0 : Int) ∧ (0 : Int) < ((q4 : Nat) : Int) ∧ ∃ (q8 : Option Addr) (q9 qa : Nat), 1 = szN 1 ∧
 Rd (putCells (allocW u1 hole) s_b (s_o + 0 + 0) ([.slice q3 q4 q5])) b (o + (0 : Int).toNat * 1) ([.slice q8 q9 qa]) ∧
 ∃ b1 o1, q8 = some ⟨b1, o1, none⟩ ∧ 0 ≤ (0 : Int) ∧ (0 : Int) < ((q9 : Nat) : Int) ∧
 ∃ (qb : Int), 1 = szN 1 ∧ Rd (putCells (allocW u1 hole) s_b (s_o + 0 + 0) ([.slice q3 q4 q5])) b1 (o1 + (0 : Int).toNat * 1) ([.int .i64 qb]) ∧
 1 = szN 1 ∧ Wr (putCells (allocW u1 hole) s_b (s_o + 0 + 0) ([.slice q3 q4 q5])) s_b (s_o + 0 + 57) 1 ∧
 Spec Tryd.prog 13 #[.pointer (some ⟨s_b, s_o, none⟩)] (putCells (putCells (allocW u1 hole) s_b (s_o + 0 + 0) ([.slice q3 q4 q5])) s_b (s_o + 0 + 57) ([.int .i64 qb])) (fun e u11 => e = .returned (.tuple #[]) ∧
 R (.returned (.int .i64 0)) u11)) ∧ ((decide (q7 = p)) = false →
 Spec Tryd.prog 13 #[.pointer (some ⟨s_b, s_o, none⟩)] (putCells (allocW u1 hole) s_b (s_o + 0 + 0) ([.slice q3 q4 q5])) (fun e u12 => e = .returned (.tuple #[]) ∧
 R (.returned (.int .i64 0)) u12))))))
set_option maxRecDepth 100000 in
theorem vc_server_Server_kill_eq (s_b s_o : Nat) (p : Int) (u : World) (R : Ending → World → Prop) : wFunc cx_server_Server_kill Tryd.f16 [.pointer (some ⟨s_b, s_o, none⟩), .int .i64 p] u R = vc_server_Server_kill s_b s_o p u R := by kernel_rfl
theorem vc_server_Server_kill_spec (s_b s_o : Nat) (p : Int) {u : World} {R : Ending → World → Prop} (h : vc_server_Server_kill s_b s_o p u R) : Spec Tryd.prog fn_server_Server_kill #[.pointer (some ⟨s_b, s_o, none⟩), .int .i64 p] u R := func_spec (C := cx_server_Server_kill) (fn := Tryd.f16) (args := [.pointer (some ⟨s_b, s_o, none⟩), .int .i64 p]) (ctxOk _ _ _ _ _) Tryd.func16 (vc_server_Server_kill_eq s_b s_o p u R) h

end Go.Proofs.YtkmmphkjmamckabDoor

namespace Go.Proofs.YtkmmphkjmamckabDoor
open Go
set_option linter.all false

/-- (*fenestra/server.Server).visit -/
noncomputable def cx_server_Server_visit : Ctx := ⟨Tryd.prog, tab, [], [], [], fns, [], []⟩
def vc_server_Server_visit (s_b s_o : Nat) (a_Kind : Int) (a_P : Int) (a_N : Int) (a_M : Int) (a_Bytes : ByteArray) (u : World) (R : Ending → World → Prop) : Prop :=
 (((decide (a_P < 0)) = true → R (.returned (.agg #[.int .i64 3, .int .i64 0, .string (ByteArray.mk #[])])) (allocW (allocW u hole) hole)) ∧
 ((decide (a_P < 0)) = false → (((decide ((3 : Int) ≤ a_P)) = true →
 R (.returned (.agg #[.int .i64 3, .int .i64 0, .string (ByteArray.mk #[])])) (allocW (allocW u hole) hole)) ∧
 ((decide ((3 : Int) ≤ a_P)) = false → 0 ≤ a_P ∧ a_P < ((3 : Nat) : Int) ∧
 (((decide (a_Kind = 6)) = true → ∃ (q0 : Bool), 1 = szN 1 ∧
 Rd (drewW (allocW (allocW u hole) hole)) s_b (s_o + 82 + a_P.toNat * 12 + 0) ([.bool q0]) ∧
 ((q0 = true → R (.returned (.agg #[.int .i64 4, .int .i64 0, .string (ByteArray.mk #[])])) (drewW (allocW (allocW u hole) hole))) ∧
 (q0 = false → (((decide (a_Kind = 6)) = true → (((decide (a_N < 1)) = true →
 R (.returned (.agg #[.int .i64 1, .int .i64 0, .string (ByteArray.mk #[])])) (drewW (allocW (allocW u hole) hole))) ∧
 ((decide (a_N < 1)) = false → (((decide ((24 : Int) < a_N)) = true →
 R (.returned (.agg #[.int .i64 1, .int .i64 0, .string (ByteArray.mk #[])])) (drewW (allocW (allocW u hole) hole))) ∧
 ((decide ((24 : Int) < a_N)) = false → (((decide (a_M < 1)) = true →
 R (.returned (.agg #[.int .i64 1, .int .i64 0, .string (ByteArray.mk #[])])) (drewW (allocW (allocW u hole) hole))) ∧
 ((decide (a_M < 1)) = false → (((decide ((10 : Int) < a_M)) = true →
 R (.returned (.agg #[.int .i64 1, .int .i64 0, .string (ByteArray.mk #[])])) (drewW (allocW (allocW u hole) hole))) ∧
 ((decide ((10 : Int) < a_M)) = false → Spec Tryd.prog 22 #[.int .i64 a_N, .int .i64 a_M] (drewW (allocW (allocW u hole) hole)) (fun e u1 => ∃ (q1 q2 : Int) (q3 : Option Addr) (q4 q5 : Nat) (q6 q7 q8 : Int) (q9 : Bool) (qa qb : Int), e = .returned (.agg #[.int .i64 q1, .int .i64 q2, .slice q3 q4 q5, .int .i64 q6, .int .i64 q7, .int .i64 q8, .bool q9, .int .i64 qa, .int .i64 qb]) ∧
 12 = ([.bool true, .int .i64 q1, .int .i64 q2, .slice q3 q4 q5, .int .i64 q6, .int .i64 q7, .int .i64 q8, .bool q9, .int .i64 qa, .int .i64 qb, .string (ByteArray.mk #[]), .bool true] : List Value).length ∧
 Wr u1 s_b (s_o + 82 + a_P.toNat * 12) 12 ∧ R (.returned (.agg #[.int .i64 0, .int .i64 0, .string (ByteArray.mk #[])])) (putCells u1 s_b (s_o + 82 + a_P.toNat * 12) ([.bool true, .int .i64 q1, .int .i64 q2, .slice q3 q4 q5, .int .i64 q6, .int .i64 q7, .int .i64 q8, .bool q9, .int .i64 qa, .int .i64 qb, .string (ByteArray.mk #[]), .bool true])))))))))))) ∧
 ((decide (a_Kind = 6)) = false → ∃ (qc : Bool), 1 = szN 1 ∧
 Rd (drewW (allocW (allocW u hole) hole)) s_b (s_o + 82 + a_P.toNat * 12 + 0) ([.bool qc]) ∧
 (((!qc) = true → R (.returned (.agg #[.int .i64 3, .int .i64 0, .string (ByteArray.mk #[])])) (drewW (allocW (allocW u hole) hole))) ∧
 ((!qc) = false → (((decide (a_Kind = 7)) = true → 12 = ([.bool false, .int .i64 0, .int .i64 0, .slice none 0 0, .int .i64 0, .int .i64 0, .int .i64 0, .bool false, .int .i64 0, .int .i64 0, .string (ByteArray.mk #[]), .bool false] : List Value).length ∧
 Wr (drewW (allocW (allocW u hole) hole)) s_b (s_o + 82 + a_P.toNat * 12) 12 ∧
 R (.returned (.agg #[.int .i64 0, .int .i64 0, .string (ByteArray.mk #[])])) (putCells (drewW (allocW (allocW u hole) hole)) s_b (s_o + 82 + a_P.toNat * 12) ([.bool false, .int .i64 0, .int .i64 0, .slice none 0 0, .int .i64 0, .int .i64 0, .int .i64 0, .bool false, .int .i64 0, .int .i64 0, .string (ByteArray.mk #[]), .bool false]))) ∧
 ((decide (a_Kind = 7)) = false → ∃ (qd : ByteArray), 1 = szN 1 ∧
 Rd (drewW (drewW (allocW (allocW u hole) hole))) s_b (s_o + 82 + a_P.toNat * 12 + 10) ([.string qd]) ∧
 ∃ (qe : ByteArray), 1 = szN 1 ∧
 Rd (drewW (drewW (allocW (allocW u hole) hole))) s_b (s_o + 82 + a_P.toNat * 12 + 10) ([.string qe]) ∧
 0 ≤ (0 : Int) ∧ (0 : Int) ≤ (max (0 : Int) (min a_N ((qd.size : Nat) : Int))) ∧
 (max (0 : Int) (min a_N ((qd.size : Nat) : Int))) ≤ ((qe.size : Nat) : Int) ∧
 ∃ (qf : ByteArray), 1 = szN 1 ∧
 Rd (drewW (drewW (allocW (allocW u hole) hole))) s_b (s_o + 82 + a_P.toNat * 12 + 10) ([.string qf]) ∧
 0 ≤ (max (0 : Int) (min a_N ((qd.size : Nat) : Int))) ∧ (max (0 : Int) (min a_N ((qd.size : Nat) : Int))) ≤ ((qf.size : Nat) : Int) ∧
 ((qf.size : Nat) : Int) ≤ ((qf.size : Nat) : Int) ∧ 1 = szN 1 ∧
 Wr (drewW (drewW (allocW (allocW u hole) hole))) s_b (s_o + 82 + a_P.toNat * 12 + 10) 1 ∧
 R (.returned (.agg #[.int .i64 0, .int .i64 (max (0 : Int) (min a_N ((qd.size : Nat) : Int))), .string (qe.extract (0 : Int).toNat (max (0 : Int) (min a_N ((qd.size : Nat) : Int))).toNat)])) (putCells (drewW (drewW (allocW (allocW u hole) hole))) s_b (s_o + 82 + a_P.toNat * 12 + 10) ([.string (qf.extract (max (0 : Int) (min a_N ((qd.size : Nat) : Int))).toNat ((qf.size : Nat) : Int).toNat)]))))))))))) ∧
 ((decide (a_Kind = 6)) = false → (((decide (a_Kind = 6)) = true →
 (((decide (a_N < 1)) = true → R (.returned (.agg #[.int .i64 1, .int .i64 0, .string (ByteArray.mk #[])])) (drewW (allocW (allocW u hole) hole))) ∧
 ((decide (a_N < 1)) = false → (((decide ((24 : Int) < a_N)) = true →
 R (.returned (.agg #[.int .i64 1, .int .i64 0, .string (ByteArray.mk #[])])) (drewW (allocW (allocW u hole) hole))) ∧
 ((decide ((24 : Int) < a_N)) = false → (((decide (a_M < 1)) = true →
 R (.returned (.agg #[.int .i64 1, .int .i64 0, .string (ByteArray.mk #[])])) (drewW (allocW (allocW u hole) hole))) ∧
 ((decide (a_M < 1)) = false → (((decide ((10 : Int) < a_M)) = true →
 R (.returned (.agg #[.int .i64 1, .int .i64 0, .string (ByteArray.mk #[])])) (drewW (allocW (allocW u hole) hole))) ∧
 ((decide ((10 : Int) < a_M)) = false → Spec Tryd.prog 22 #[.int .i64 a_N, .int .i64 a_M] (drewW (allocW (allocW u hole) hole)) (fun e u11 => ∃ (qg qh : Int) (qi : Option Addr) (qj qk : Nat) (ql qm qn : Int) (qo : Bool) (qp qq : Int), e = .returned (.agg #[.int .i64 qg, .int .i64 qh, .slice qi qj qk, .int .i64 ql, .int .i64 qm, .int .i64 qn, .bool qo, .int .i64 qp, .int .i64 qq]) ∧
 12 = ([.bool true, .int .i64 qg, .int .i64 qh, .slice qi qj qk, .int .i64 ql, .int .i64 qm, .int .i64 qn, .bool qo, .int .i64 qp, .int .i64 qq, .string (ByteArray.mk #[]), .bool true] : List Value).length ∧
 Wr u11 s_b (s_o + 82 + a_P.toNat * 12) 12 ∧ R (.returned (.agg #[.int .i64 0, .int .i64 0, .string (ByteArray.mk #[])])) (putCells u11 s_b (s_o + 82 + a_P.toNat * 12) ([.bool true, .int .i64 qg, .int .i64 qh, .slice qi qj qk, .int .i64 ql, .int .i64 qm, .int .i64 qn, .bool qo, .int .i64 qp, .int .i64 qq, .string (ByteArray.mk #[]), .bool true])))))))))))) ∧
 ((decide (a_Kind = 6)) = false → ∃ (qr : Bool), 1 = szN 1 ∧
 Rd (drewW (allocW (allocW u hole) hole)) s_b (s_o + 82 + a_P.toNat * 12 + 0) ([.bool qr]) ∧
 (((!qr) = true → R (.returned (.agg #[.int .i64 3, .int .i64 0, .string (ByteArray.mk #[])])) (drewW (allocW (allocW u hole) hole))) ∧
 ((!qr) = false → (((decide (a_Kind = 7)) = true → 12 = ([.bool false, .int .i64 0, .int .i64 0, .slice none 0 0, .int .i64 0, .int .i64 0, .int .i64 0, .bool false, .int .i64 0, .int .i64 0, .string (ByteArray.mk #[]), .bool false] : List Value).length ∧
 Wr (drewW (allocW (allocW u hole) hole)) s_b (s_o + 82 + a_P.toNat * 12) 12 ∧
 R (.returned (.agg #[.int .i64 0, .int .i64 0, .string (ByteArray.mk #[])])) (putCells (drewW (allocW (allocW u hole) hole)) s_b (s_o + 82 + a_P.toNat * 12) ([.bool false, .int .i64 0, .int .i64 0, .slice none 0 0, .int .i64 0, .int .i64 0, .int .i64 0, .bool false, .int .i64 0, .int .i64 0, .string (ByteArray.mk #[]), .bool false]))) ∧
 ((decide (a_Kind = 7)) = false → ∃ (qs : ByteArray), 1 = szN 1 ∧
 Rd (drewW (drewW (allocW (allocW u hole) hole))) s_b (s_o + 82 + a_P.toNat * 12 + 10) ([.string qs]) ∧
 ∃ (qt : ByteArray), 1 = szN 1 ∧
 Rd (drewW (drewW (allocW (allocW u hole) hole))) s_b (s_o + 82 + a_P.toNat * 12 + 10) ([.string qt]) ∧
 0 ≤ (0 : Int) ∧ (0 : Int) ≤ (max (0 : Int) (min a_N ((qs.size : Nat) : Int))) ∧
 (max (0 : Int) (min a_N ((qs.size : Nat) : Int))) ≤ ((qt.size : Nat) : Int) ∧
 ∃ (qu : ByteArray), 1 = szN 1 ∧
 Rd (drewW (drewW (allocW (allocW u hole) hole))) s_b (s_o + 82 + a_P.toNat * 12 + 10) ([.string qu]) ∧
 0 ≤ (max (0 : Int) (min a_N ((qs.size : Nat) : Int))) ∧ (max (0 : Int) (min a_N ((qs.size : Nat) : Int))) ≤ ((qu.size : Nat) : Int) ∧
 ((qu.size : Nat) : Int) ≤ ((qu.size : Nat) : Int) ∧ 1 = szN 1 ∧
 Wr (drewW (drewW (allocW (allocW u hole) hole))) s_b (s_o + 82 + a_P.toNat * 12 + 10) 1 ∧
 R (.returned (.agg #[.int .i64 0, .int .i64 (max (0 : Int) (min a_N ((qs.size : Nat) : Int))), .string (qt.extract (0 : Int).toNat (max (0 : Int) (min a_N ((qs.size : Nat) : Int))).toNat)])) (putCells (drewW (drewW (allocW (allocW u hole) hole))) s_b (s_o + 82 + a_P.toNat * 12 + 10) ([.string (qu.extract (max (0 : Int) (min a_N ((qs.size : Nat) : Int))).toNat ((qu.size : Nat) : Int).toNat)]))))))))))))))
set_option maxRecDepth 100000 in
theorem vc_server_Server_visit_eq (s_b s_o : Nat) (a_Kind : Int) (a_P : Int) (a_N : Int) (a_M : Int) (a_Bytes : ByteArray) (u : World) (R : Ending → World → Prop) : wFunc cx_server_Server_visit Tryd.f21 [.pointer (some ⟨s_b, s_o, none⟩), .agg #[.int .i64 a_Kind, .int .i64 a_P, .int .i64 a_N, .int .i64 a_M, .string a_Bytes]] u R = vc_server_Server_visit s_b s_o a_Kind a_P a_N a_M a_Bytes u R := by kernel_rfl
theorem vc_server_Server_visit_spec (s_b s_o : Nat) (a_Kind : Int) (a_P : Int) (a_N : Int) (a_M : Int) (a_Bytes : ByteArray) {u : World} {R : Ending → World → Prop} (h : vc_server_Server_visit s_b s_o a_Kind a_P a_N a_M a_Bytes u R) : Spec Tryd.prog fn_server_Server_visit #[.pointer (some ⟨s_b, s_o, none⟩), .agg #[.int .i64 a_Kind, .int .i64 a_P, .int .i64 a_N, .int .i64 a_M, .string a_Bytes]] u R := func_spec (C := cx_server_Server_visit) (fn := Tryd.f21) (args := [.pointer (some ⟨s_b, s_o, none⟩), .agg #[.int .i64 a_Kind, .int .i64 a_P, .int .i64 a_N, .int .i64 a_M, .string a_Bytes]]) (ctxOk _ _ _ _ _) Tryd.func21 (vc_server_Server_visit_eq s_b s_o a_Kind a_P a_N a_M a_Bytes u R) h

end Go.Proofs.YtkmmphkjmamckabDoor

namespace Go.Proofs.YtkmmphkjmamckabDoor
open Go
set_option linter.all false

/-- (*fenestra/server.Server).Do$1 -/
noncomputable def cx_server_Server_Do_c1 : Ctx := ⟨Tryd.prog, tab, [], [], [], fns, [], []⟩
def vc_server_Server_Do_c1 (e_ : Int) (u : World) (R : Ending → World → Prop) : Prop :=
 R (.returned (.agg #[.int .i64 e_, .int .i64 0, .string (ByteArray.mk #[])])) (allocW u hole)
set_option maxRecDepth 100000 in
theorem vc_server_Server_Do_c1_eq (e_ : Int) (u : World) (R : Ending → World → Prop) : wFunc cx_server_Server_Do_c1 Tryd.f14 [.int .i64 e_] u R = vc_server_Server_Do_c1 e_ u R := by kernel_rfl
theorem vc_server_Server_Do_c1_spec (e_ : Int) {u : World} {R : Ending → World → Prop} (h : vc_server_Server_Do_c1 e_ u R) : Spec Tryd.prog fn_server_Server_Do_c1 #[.int .i64 e_] u R := func_spec (C := cx_server_Server_Do_c1) (fn := Tryd.f14) (args := [.int .i64 e_]) (ctxOk _ _ _ _ _) Tryd.func14 (vc_server_Server_Do_c1_eq e_ u R) h

end Go.Proofs.YtkmmphkjmamckabDoor

