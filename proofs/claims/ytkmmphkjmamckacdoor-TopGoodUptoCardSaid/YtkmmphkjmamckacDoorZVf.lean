/-
  Texts that belong together, joined: VTop, VTopS, VTopW, VPlayQ.
-/
import Derived.Test.YtkmmphkjmamckacDoorCtx
namespace Go.Proofs.YtkmmphkjmamckacDoor
open Go
set_option linter.all false

/-- fenestra/fenestratop.alive -/
noncomputable def cx_fenestratop_alive : Ctx := ⟨Tryd.prog, tab, [], [], [], fns, [], []⟩
def vc_fenestratop_alive  (u : World) (R : Ending → World → Prop) : Prop :=
 Spec Tryd.prog 29 #[] u (fun e u1 => ∃ (q0 q1 : Nat), e = .returned (.pointer (some ⟨q0, q1, none⟩)) ∧
 (((Option.isNone (some (Addr.mk q0 q1 none))) = true → R (.returned (.bool false)) u1) ∧
 ((Option.isNone (some (Addr.mk q0 q1 none))) = false → Spec Tryd.prog 21 #[.pointer (some ⟨q0, q1, none⟩), .agg #[.int .i64 6, .int .i64 1, .int .i64 10, .int .i64 3, .string (ByteArray.mk #[])]] u1 (fun e u11 => ∃ (q2 q3 : Int) (q4 : ByteArray), e = .returned (.agg #[.int .i64 q2, .int .i64 q3, .string q4]) ∧
 Spec Tryd.prog 21 #[.pointer (some ⟨q0, q1, none⟩), .agg #[.int .i64 3, .int .i64 0, .int .i64 0, .int .i64 0, .string (ByteArray.mk #[120])]] (allocW u11 hole) (fun e u12 => ∃ (q5 q6 : Int) (q7 : ByteArray), e = .returned (.agg #[.int .i64 q5, .int .i64 q6, .string q7]) ∧
 Spec Tryd.prog 21 #[.pointer (some ⟨q0, q1, none⟩), .agg #[.int .i64 8, .int .i64 0, .int .i64 0, .int .i64 0, .string (ByteArray.mk #[])]] (allocW u12 hole) (fun e u13 => ∃ (q8 q9 : Int) (qa : ByteArray), e = .returned (.agg #[.int .i64 q8, .int .i64 q9, .string qa]) ∧
 Spec Tryd.prog 20 #[.pointer (some ⟨q0, q1, none⟩), .int .i64 1] (allocW u13 hole) (fun e u14 => ∃ (qb : ByteArray) (qc qd : Bool), e = .returned (.tuple #[.string qb, .bool qc, .bool qd]) ∧
 (((decide (q2 = 0)) = true → (((decide (q5 = 0)) = true →
 (((decide (q8 = 0)) = true → (((decide ((0 : Int) < ((qb.size : Nat) : Int))) = true →
 (((!qc) = true → R (.returned (.bool qd)) u14) ∧ ((!qc) = false →
 R (.returned (.bool false)) u14))) ∧ ((decide ((0 : Int) < ((qb.size : Nat) : Int))) = false →
 R (.returned (.bool false)) u14))) ∧ ((decide (q8 = 0)) = false →
 R (.returned (.bool false)) u14))) ∧ ((decide (q5 = 0)) = false →
 R (.returned (.bool false)) u14))) ∧ ((decide (q2 = 0)) = false →
 R (.returned (.bool false)) u14)))))))))
set_option maxRecDepth 100000 in
theorem vc_fenestratop_alive_eq  (u : World) (R : Ending → World → Prop) : wFunc cx_fenestratop_alive Tryd.f28 [] u R = vc_fenestratop_alive  u R := by kernel_rfl
theorem vc_fenestratop_alive_spec  {u : World} {R : Ending → World → Prop} (h : vc_fenestratop_alive  u R) : Spec Tryd.prog fn_fenestratop_alive #[] u R := func_spec (C := cx_fenestratop_alive) (fn := Tryd.f28) (args := []) (ctxOk _ _ _ _ _) Tryd.func28 (vc_fenestratop_alive_eq  u R) h

/-- fenestra/fenestratop.quiet -/
noncomputable def cx_fenestratop_quiet : Ctx := ⟨Tryd.prog, tab, [], [], [], fns, [], []⟩
def vc_fenestratop_quiet (x0q_b x0q_o : Nat) (x1q_b x1q_o : Nat) (x2q_Kind : Int) (x2q_P : Int) (x2q_N : Int) (x2q_M : Int) (x2q_Bytes : ByteArray) (x3q_Code : Int) (x3q_N : Int) (x3q_Out : ByteArray) (u : World) (R : Ending → World → Prop) : Prop :=
 R (.returned (.bool true)) (allocW (allocW u hole) hole)
set_option maxRecDepth 100000 in
theorem vc_fenestratop_quiet_eq (x0q_b x0q_o : Nat) (x1q_b x1q_o : Nat) (x2q_Kind : Int) (x2q_P : Int) (x2q_N : Int) (x2q_M : Int) (x2q_Bytes : ByteArray) (x3q_Code : Int) (x3q_N : Int) (x3q_Out : ByteArray) (u : World) (R : Ending → World → Prop) : wFunc cx_fenestratop_quiet Tryd.f25 [.pointer (some ⟨x0q_b, x0q_o, none⟩), .pointer (some ⟨x1q_b, x1q_o, none⟩), .agg #[.int .i64 x2q_Kind, .int .i64 x2q_P, .int .i64 x2q_N, .int .i64 x2q_M, .string x2q_Bytes], .agg #[.int .i64 x3q_Code, .int .i64 x3q_N, .string x3q_Out]] u R = vc_fenestratop_quiet x0q_b x0q_o x1q_b x1q_o x2q_Kind x2q_P x2q_N x2q_M x2q_Bytes x3q_Code x3q_N x3q_Out u R := by kernel_rfl
theorem vc_fenestratop_quiet_spec (x0q_b x0q_o : Nat) (x1q_b x1q_o : Nat) (x2q_Kind : Int) (x2q_P : Int) (x2q_N : Int) (x2q_M : Int) (x2q_Bytes : ByteArray) (x3q_Code : Int) (x3q_N : Int) (x3q_Out : ByteArray) {u : World} {R : Ending → World → Prop} (h : vc_fenestratop_quiet x0q_b x0q_o x1q_b x1q_o x2q_Kind x2q_P x2q_N x2q_M x2q_Bytes x3q_Code x3q_N x3q_Out u R) : Spec Tryd.prog fn_fenestratop_quiet #[.pointer (some ⟨x0q_b, x0q_o, none⟩), .pointer (some ⟨x1q_b, x1q_o, none⟩), .agg #[.int .i64 x2q_Kind, .int .i64 x2q_P, .int .i64 x2q_N, .int .i64 x2q_M, .string x2q_Bytes], .agg #[.int .i64 x3q_Code, .int .i64 x3q_N, .string x3q_Out]] u R := func_spec (C := cx_fenestratop_quiet) (fn := Tryd.f25) (args := [.pointer (some ⟨x0q_b, x0q_o, none⟩), .pointer (some ⟨x1q_b, x1q_o, none⟩), .agg #[.int .i64 x2q_Kind, .int .i64 x2q_P, .int .i64 x2q_N, .int .i64 x2q_M, .string x2q_Bytes], .agg #[.int .i64 x3q_Code, .int .i64 x3q_N, .string x3q_Out]]) (ctxOk _ _ _ _ _) Tryd.func25 (vc_fenestratop_quiet_eq x0q_b x0q_o x1q_b x1q_o x2q_Kind x2q_P x2q_N x2q_M x2q_Bytes x3q_Code x3q_N x3q_Out u R) h

/-- (*fenestra/fenestratop.terminal).get -/
noncomputable def cx_fenestratop_terminal_get : Ctx := ⟨Tryd.prog, tab, [], [], [], fns, [], []⟩
def vc_fenestratop_terminal_get (t_b t_o : Nat) (s : ByteArray) (u : World) (R : Ending → World → Prop) : Prop :=
 ∃ (q0 : Int) (q1 : Option Addr) (q2 q3 : Nat) (q4 : ByteArray) (q5 : Bool), 4 = szN 4 ∧
 Rd u t_b (t_o + 0) ([.int .i64 q0, .slice q1 q2 q3, .string q4, .bool q5]) ∧
 Spec Tryd.prog 45 #[.agg #[.int .i64 q0, .slice q1 q2 q3, .string q4, .bool q5], .string s] u (fun e u1 => ∃ (q6 : Int) (q7 : Option Addr) (q8 q9 : Nat) (qa : ByteArray) (qb : Bool) (qc : Option Addr) (qd qe : Nat) (qf : Int), e = .returned (.tuple #[.agg #[.int .i64 q6, .slice q7 q8 q9, .string qa, .bool qb], .slice qc qd qe, .int .i64 qf]) ∧
 ∃ (qg qh : Int) (qi : Option Addr) (qj qk : Nat) (ql qm qn : Int) (qo : Bool) (qp qq : Int), 9 = szN 9 ∧
 Rd (allocW u1 hole) t_b (t_o + 4) ([.int .i64 qg, .int .i64 qh, .slice qi qj qk, .int .i64 ql, .int .i64 qm, .int .i64 qn, .bool qo, .int .i64 qp, .int .i64 qq]) ∧
 Spec Tryd.prog 46 #[.agg #[.int .i64 qg, .int .i64 qh, .slice qi qj qk, .int .i64 ql, .int .i64 qm, .int .i64 qn, .bool qo, .int .i64 qp, .int .i64 qq], .slice qc qd qe] (allocW u1 hole) (fun e u11 => ∃ (qr qs : Int) (qt : Option Addr) (qu qv : Nat) (qw qx qy : Int) (qz : Bool) (q10 q11 q12 : Int), e = .returned (.tuple #[.agg #[.int .i64 qr, .int .i64 qs, .slice qt qu qv, .int .i64 qw, .int .i64 qx, .int .i64 qy, .bool qz, .int .i64 q10, .int .i64 q11], .int .i64 q12]) ∧
 4 = szN 4 ∧
 Wr (drewW (allocW u11 hole)) t_b (t_o + 0) 4 ∧ 9 = szN 9 ∧
 Wr (putCells (drewW (allocW u11 hole)) t_b (t_o + 0) ([.int .i64 q6, .slice q7 q8 q9, .string qa, .bool qb])) t_b (t_o + 4) 9 ∧
 (((decide (qf = 0)) = true → R (.returned (.bool (decide (q12 = 0)))) (putCells (putCells (drewW (allocW u11 hole)) t_b (t_o + 0) ([.int .i64 q6, .slice q7 q8 q9, .string qa, .bool qb])) t_b (t_o + 4) ([.int .i64 qr, .int .i64 qs, .slice qt qu qv, .int .i64 qw, .int .i64 qx, .int .i64 qy, .bool qz, .int .i64 q10, .int .i64 q11]))) ∧
 ((decide (qf = 0)) = false → R (.returned (.bool false)) (putCells (putCells (drewW (allocW u11 hole)) t_b (t_o + 0) ([.int .i64 q6, .slice q7 q8 q9, .string qa, .bool qb])) t_b (t_o + 4) ([.int .i64 qr, .int .i64 qs, .slice qt qu qv, .int .i64 qw, .int .i64 qx, .int .i64 qy, .bool qz, .int .i64 q10, .int .i64 q11]))))))
set_option maxRecDepth 100000 in
theorem vc_fenestratop_terminal_get_eq (t_b t_o : Nat) (s : ByteArray) (u : World) (R : Ending → World → Prop) : wFunc cx_fenestratop_terminal_get Tryd.f26 [.pointer (some ⟨t_b, t_o, none⟩), .string s] u R = vc_fenestratop_terminal_get t_b t_o s u R := by kernel_rfl
theorem vc_fenestratop_terminal_get_spec (t_b t_o : Nat) (s : ByteArray) {u : World} {R : Ending → World → Prop} (h : vc_fenestratop_terminal_get t_b t_o s u R) : Spec Tryd.prog fn_fenestratop_terminal_get #[.pointer (some ⟨t_b, t_o, none⟩), .string s] u R := func_spec (C := cx_fenestratop_terminal_get) (fn := Tryd.f26) (args := [.pointer (some ⟨t_b, t_o, none⟩), .string s]) (ctxOk _ _ _ _ _) Tryd.func26 (vc_fenestratop_terminal_get_eq t_b t_o s u R) h

end Go.Proofs.YtkmmphkjmamckacDoor

namespace Go.Proofs.YtkmmphkjmamckacDoor
open Go
set_option linter.all false

/-- fenestra/fenestratop.same -/
noncomputable def cx_fenestratop_same : Ctx := ⟨Tryd.prog, tab, [], [], [], fns, [(2, ⟨[.keep, .keep, .keep, .keep, .junk, .junk, .junk, .junk, .junk, .junk, .junk, .junk, .cell (.int .i64), .junk, .junk, .junk, .junk, .junk, .junk, .junk, .junk, .junk, .junk, .junk, .junk, .junk, .junk, .junk, .junk, .junk, .junk, .junk, .junk, .junk, .junk, .junk, .junk, .junk, .junk, .junk, .junk, .junk, .junk, .keep, .keep, .keep, .keep, .keep], []⟩)], []⟩
def vc_fenestratop_same (a_b a_o : Nat) (b_b b_o : Nat) (u : World) (R : Ending → World → Prop) : Prop :=
 ∃ (I_ : Int → World → Prop) (M_ : Int → World → Nat), (I_ 0 u) ∧
 ∀ (q0 : Int), ∀ u1 : World, I_ q0 u1 → (((decide (q0 < 3)) = true →
 Spec Tryd.prog 20 #[.pointer (some ⟨a_b, a_o, none⟩), .int .i64 q0] u1 (fun e u11 => ∃ (q1 : ByteArray) (q2 q3 : Bool), e = .returned (.tuple #[.string q1, .bool q2, .bool q3]) ∧
 Spec Tryd.prog 20 #[.pointer (some ⟨b_b, b_o, none⟩), .int .i64 q0] u11 (fun e u12 => ∃ (q4 : ByteArray) (q5 q6 : Bool), e = .returned (.tuple #[.string q4, .bool q5, .bool q6]) ∧
 (((!decide (q1.data.toList = q4.data.toList)) = true → R (.returned (.bool false)) u12) ∧
 ((!decide (q1.data.toList = q4.data.toList)) = false → (((!(q2 == q5)) = true →
 R (.returned (.bool false)) u12) ∧ ((!(q2 == q5)) = false →
 (((!(q3 == q6)) = true → R (.returned (.bool false)) u12) ∧
 ((!(q3 == q6)) = false → inK .i64 (q0 + 1) ∧ I_ (q0 + 1) u12 ∧
 M_ (q0 + 1) u12 < M_ q0 u1))))))))) ∧ ((decide (q0 < 3)) = false →
 Spec Tryd.prog 23 #[.pointer (some ⟨a_b, a_o, none⟩)] u1 (fun e u13 => ∃ (q7 : List Value), e = .returned (.agg q7.toArray) ∧
 Spec Tryd.prog 23 #[.pointer (some ⟨b_b, b_o, none⟩)] u13 (fun e u14 => ∃ (q8 : List Value), e = .returned (.agg q8.toArray) ∧
 Spec Tryd.prog 31 #[.agg q7.toArray, .agg q8.toArray] u14 (fun e u15 => ∃ (q9 : Bool), e = .returned (.bool q9) ∧
 R (.returned (.bool q9)) u15)))))
set_option maxRecDepth 100000 in
theorem vc_fenestratop_same_eq (a_b a_o : Nat) (b_b b_o : Nat) (u : World) (R : Ending → World → Prop) : wFunc cx_fenestratop_same Tryd.f30 [.pointer (some ⟨a_b, a_o, none⟩), .pointer (some ⟨b_b, b_o, none⟩)] u R = vc_fenestratop_same a_b a_o b_b b_o u R := by kernel_rfl
theorem vc_fenestratop_same_spec (a_b a_o : Nat) (b_b b_o : Nat) {u : World} {R : Ending → World → Prop} (h : vc_fenestratop_same a_b a_o b_b b_o u R) : Spec Tryd.prog fn_fenestratop_same #[.pointer (some ⟨a_b, a_o, none⟩), .pointer (some ⟨b_b, b_o, none⟩)] u R := func_spec (C := cx_fenestratop_same) (fn := Tryd.f30) (args := [.pointer (some ⟨a_b, a_o, none⟩), .pointer (some ⟨b_b, b_o, none⟩)]) (ctxOk _ _ _ _ _) Tryd.func30 (vc_fenestratop_same_eq a_b a_o b_b b_o u R) h

/-- fenestra/fenestratop.sameCells -/
noncomputable def cx_fenestratop_sameCells : Ctx := ⟨Tryd.prog, tab, [], [], [], fns, [(4, ⟨[.keep, .keep, .keep, .keep, .junk, .junk, .keep, .keep, .keep, .keep, .keep, .keep, .keep, .keep, .keep, .keep, .keep, .keep, .keep, .keep, .keep, .keep, .keep, .keep, .keep, .keep, .keep, .keep, .keep, .keep, .cell (.int .i64), .junk, .junk, .junk, .junk, .junk, .junk, .junk, .junk, .junk, .junk, .junk, .junk, .junk, .junk], [.keep, .keep]⟩)], []⟩
def vc_fenestratop_sameCells (a_Wide : Int) (a_High : Int) (a_Cells_p : Option Addr) (a_Cells_n a_Cells_c : Nat) (a_Row : Int) (a_Col : Int) (a_Ink : Int) (a_Bold : Bool) (a_Top : Int) (a_Bottom : Int) (b_Wide : Int) (b_High : Int) (b_Cells_p : Option Addr) (b_Cells_n b_Cells_c : Nat) (b_Row : Int) (b_Col : Int) (b_Ink : Int) (b_Bold : Bool) (b_Top : Int) (b_Bottom : Int) (u : World) (R : Ending → World → Prop) : Prop :=
 (((!decide (a_Wide = b_Wide)) = true → R (.returned (.bool false)) (allocW (allocW u hole) hole)) ∧
 ((!decide (a_Wide = b_Wide)) = false → (((!decide (a_High = b_High)) = true →
 R (.returned (.bool false)) (allocW (allocW u hole) hole)) ∧ ((!decide (a_High = b_High)) = false →
 (((!decide (((a_Cells_n : Nat) : Int) = ((b_Cells_n : Nat) : Int))) = true →
 R (.returned (.bool false)) (allocW (allocW u hole) hole)) ∧ ((!decide (((a_Cells_n : Nat) : Int) = ((b_Cells_n : Nat) : Int))) = false →
 ∃ (I_ : Int → World → Prop) (M_ : Int → World → Nat), ((Loc.mk 24 false ([.int .i64 a_Wide, .int .i64 a_High, .slice a_Cells_p a_Cells_n a_Cells_c, .int .i64 a_Row, .int .i64 a_Col, .int .i64 a_Ink, .bool a_Bold, .int .i64 a_Top, .int .i64 a_Bottom])) = (Loc.mk 24 false ([.int .i64 a_Wide, .int .i64 a_High, .slice a_Cells_p a_Cells_n a_Cells_c, .int .i64 a_Row, .int .i64 a_Col, .int .i64 a_Ink, .bool a_Bold, .int .i64 a_Top, .int .i64 a_Bottom])) ∧
 (Loc.mk 24 false ([.int .i64 b_Wide, .int .i64 b_High, .slice b_Cells_p b_Cells_n b_Cells_c, .int .i64 b_Row, .int .i64 b_Col, .int .i64 b_Ink, .bool b_Bold, .int .i64 b_Top, .int .i64 b_Bottom])) = (Loc.mk 24 false ([.int .i64 b_Wide, .int .i64 b_High, .slice b_Cells_p b_Cells_n b_Cells_c, .int .i64 b_Row, .int .i64 b_Col, .int .i64 b_Ink, .bool b_Bold, .int .i64 b_Top, .int .i64 b_Bottom])) ∧
 I_ 0 (allocW (allocW u hole) hole)) ∧ ∀ (q0 : Int), (Loc.mk 24 false ([.int .i64 a_Wide, .int .i64 a_High, .slice a_Cells_p a_Cells_n a_Cells_c, .int .i64 a_Row, .int .i64 a_Col, .int .i64 a_Ink, .bool a_Bold, .int .i64 a_Top, .int .i64 a_Bottom])) = (Loc.mk 24 false ([.int .i64 a_Wide, .int .i64 a_High, .slice a_Cells_p a_Cells_n a_Cells_c, .int .i64 a_Row, .int .i64 a_Col, .int .i64 a_Ink, .bool a_Bold, .int .i64 a_Top, .int .i64 a_Bottom])) ∧
 (Loc.mk 24 false ([.int .i64 b_Wide, .int .i64 b_High, .slice b_Cells_p b_Cells_n b_Cells_c, .int .i64 b_Row, .int .i64 b_Col, .int .i64 b_Ink, .bool b_Bold, .int .i64 b_Top, .int .i64 b_Bottom])) = (Loc.mk 24 false ([.int .i64 b_Wide, .int .i64 b_High, .slice b_Cells_p b_Cells_n b_Cells_c, .int .i64 b_Row, .int .i64 b_Col, .int .i64 b_Ink, .bool b_Bold, .int .i64 b_Top, .int .i64 b_Bottom])) ∧
 ∀ u1 : World, I_ q0 u1 → (((decide (q0 < ((a_Cells_n : Nat) : Int))) = true →
 ∃ b o, a_Cells_p = some ⟨b, o, none⟩ ∧ 0 ≤ q0 ∧ q0 < ((a_Cells_n : Nat) : Int) ∧
 ∃ (q1 q2 q3 : Int) (q4 : Bool), 4 = szN 4 ∧
 Rd (drewW u1) b (o + q0.toNat * 4) ([.int .i64 q1, .int .i64 q2, .int .i64 q3, .bool q4]) ∧
 ∃ b1 o1, b_Cells_p = some ⟨b1, o1, none⟩ ∧ 0 ≤ q0 ∧ q0 < ((b_Cells_n : Nat) : Int) ∧
 ∃ (q5 q6 q7 : Int) (q8 : Bool), 4 = szN 4 ∧
 Rd (drewW u1) b1 (o1 + q0.toNat * 4) ([.int .i64 q5, .int .i64 q6, .int .i64 q7, .bool q8]) ∧
 (((!(decide (q1 = q5) && (decide (q2 = q6) && (decide (q3 = q7) && (q4 == q8))))) = true →
 R (.returned (.bool false)) (drewW u1)) ∧ ((!(decide (q1 = q5) && (decide (q2 = q6) && (decide (q3 = q7) && (q4 == q8))))) = false →
 inK .i64 (q0 + 1) ∧ (Loc.mk 24 false ([.int .i64 a_Wide, .int .i64 a_High, .slice a_Cells_p a_Cells_n a_Cells_c, .int .i64 a_Row, .int .i64 a_Col, .int .i64 a_Ink, .bool a_Bold, .int .i64 a_Top, .int .i64 a_Bottom])) = (Loc.mk 24 false ([.int .i64 a_Wide, .int .i64 a_High, .slice a_Cells_p a_Cells_n a_Cells_c, .int .i64 a_Row, .int .i64 a_Col, .int .i64 a_Ink, .bool a_Bold, .int .i64 a_Top, .int .i64 a_Bottom])) ∧
 (Loc.mk 24 false ([.int .i64 b_Wide, .int .i64 b_High, .slice b_Cells_p b_Cells_n b_Cells_c, .int .i64 b_Row, .int .i64 b_Col, .int .i64 b_Ink, .bool b_Bold, .int .i64 b_Top, .int .i64 b_Bottom])) = (Loc.mk 24 false ([.int .i64 b_Wide, .int .i64 b_High, .slice b_Cells_p b_Cells_n b_Cells_c, .int .i64 b_Row, .int .i64 b_Col, .int .i64 b_Ink, .bool b_Bold, .int .i64 b_Top, .int .i64 b_Bottom])) ∧
 I_ (q0 + 1) (drewW u1) ∧ (Loc.mk 24 false ([.int .i64 a_Wide, .int .i64 a_High, .slice a_Cells_p a_Cells_n a_Cells_c, .int .i64 a_Row, .int .i64 a_Col, .int .i64 a_Ink, .bool a_Bold, .int .i64 a_Top, .int .i64 a_Bottom])) = (Loc.mk 24 false ([.int .i64 a_Wide, .int .i64 a_High, .slice a_Cells_p a_Cells_n a_Cells_c, .int .i64 a_Row, .int .i64 a_Col, .int .i64 a_Ink, .bool a_Bold, .int .i64 a_Top, .int .i64 a_Bottom])) ∧
 (Loc.mk 24 false ([.int .i64 b_Wide, .int .i64 b_High, .slice b_Cells_p b_Cells_n b_Cells_c, .int .i64 b_Row, .int .i64 b_Col, .int .i64 b_Ink, .bool b_Bold, .int .i64 b_Top, .int .i64 b_Bottom])) = (Loc.mk 24 false ([.int .i64 b_Wide, .int .i64 b_High, .slice b_Cells_p b_Cells_n b_Cells_c, .int .i64 b_Row, .int .i64 b_Col, .int .i64 b_Ink, .bool b_Bold, .int .i64 b_Top, .int .i64 b_Bottom])) ∧
 M_ (q0 + 1) (drewW u1) < M_ q0 u1))) ∧ ((decide (q0 < ((a_Cells_n : Nat) : Int))) = false →
 R (.returned (.bool true)) u1))))))))
set_option maxRecDepth 100000 in
theorem vc_fenestratop_sameCells_eq (a_Wide : Int) (a_High : Int) (a_Cells_p : Option Addr) (a_Cells_n a_Cells_c : Nat) (a_Row : Int) (a_Col : Int) (a_Ink : Int) (a_Bold : Bool) (a_Top : Int) (a_Bottom : Int) (b_Wide : Int) (b_High : Int) (b_Cells_p : Option Addr) (b_Cells_n b_Cells_c : Nat) (b_Row : Int) (b_Col : Int) (b_Ink : Int) (b_Bold : Bool) (b_Top : Int) (b_Bottom : Int) (u : World) (R : Ending → World → Prop) : wFunc cx_fenestratop_sameCells Tryd.f57 [.agg #[.int .i64 a_Wide, .int .i64 a_High, .slice a_Cells_p a_Cells_n a_Cells_c, .int .i64 a_Row, .int .i64 a_Col, .int .i64 a_Ink, .bool a_Bold, .int .i64 a_Top, .int .i64 a_Bottom], .agg #[.int .i64 b_Wide, .int .i64 b_High, .slice b_Cells_p b_Cells_n b_Cells_c, .int .i64 b_Row, .int .i64 b_Col, .int .i64 b_Ink, .bool b_Bold, .int .i64 b_Top, .int .i64 b_Bottom]] u R = vc_fenestratop_sameCells a_Wide a_High a_Cells_p a_Cells_n a_Cells_c a_Row a_Col a_Ink a_Bold a_Top a_Bottom b_Wide b_High b_Cells_p b_Cells_n b_Cells_c b_Row b_Col b_Ink b_Bold b_Top b_Bottom u R := by kernel_rfl
theorem vc_fenestratop_sameCells_spec (a_Wide : Int) (a_High : Int) (a_Cells_p : Option Addr) (a_Cells_n a_Cells_c : Nat) (a_Row : Int) (a_Col : Int) (a_Ink : Int) (a_Bold : Bool) (a_Top : Int) (a_Bottom : Int) (b_Wide : Int) (b_High : Int) (b_Cells_p : Option Addr) (b_Cells_n b_Cells_c : Nat) (b_Row : Int) (b_Col : Int) (b_Ink : Int) (b_Bold : Bool) (b_Top : Int) (b_Bottom : Int) {u : World} {R : Ending → World → Prop} (h : vc_fenestratop_sameCells a_Wide a_High a_Cells_p a_Cells_n a_Cells_c a_Row a_Col a_Ink a_Bold a_Top a_Bottom b_Wide b_High b_Cells_p b_Cells_n b_Cells_c b_Row b_Col b_Ink b_Bold b_Top b_Bottom u R) : Spec Tryd.prog fn_fenestratop_sameCells #[.agg #[.int .i64 a_Wide, .int .i64 a_High, .slice a_Cells_p a_Cells_n a_Cells_c, .int .i64 a_Row, .int .i64 a_Col, .int .i64 a_Ink, .bool a_Bold, .int .i64 a_Top, .int .i64 a_Bottom], .agg #[.int .i64 b_Wide, .int .i64 b_High, .slice b_Cells_p b_Cells_n b_Cells_c, .int .i64 b_Row, .int .i64 b_Col, .int .i64 b_Ink, .bool b_Bold, .int .i64 b_Top, .int .i64 b_Bottom]] u R := func_spec (C := cx_fenestratop_sameCells) (fn := Tryd.f57) (args := [.agg #[.int .i64 a_Wide, .int .i64 a_High, .slice a_Cells_p a_Cells_n a_Cells_c, .int .i64 a_Row, .int .i64 a_Col, .int .i64 a_Ink, .bool a_Bold, .int .i64 a_Top, .int .i64 a_Bottom], .agg #[.int .i64 b_Wide, .int .i64 b_High, .slice b_Cells_p b_Cells_n b_Cells_c, .int .i64 b_Row, .int .i64 b_Col, .int .i64 b_Ink, .bool b_Bold, .int .i64 b_Top, .int .i64 b_Bottom]]) (ctxOk _ _ _ _ _) Tryd.func57 (vc_fenestratop_sameCells_eq a_Wide a_High a_Cells_p a_Cells_n a_Cells_c a_Row a_Col a_Ink a_Bold a_Top a_Bottom b_Wide b_High b_Cells_p b_Cells_n b_Cells_c b_Row b_Col b_Ink b_Bold b_Top b_Bottom u R) h

/-- fenestra/fenestratop.sameGrid -/
noncomputable def cx_fenestratop_sameGrid : Ctx := ⟨Tryd.prog, tab, [], [], [], fns, [], []⟩
def vc_fenestratop_sameGrid (a_Wide : Int) (a_High : Int) (a_Cells_p : Option Addr) (a_Cells_n a_Cells_c : Nat) (a_Row : Int) (a_Col : Int) (a_Ink : Int) (a_Bold : Bool) (a_Top : Int) (a_Bottom : Int) (b_Wide : Int) (b_High : Int) (b_Cells_p : Option Addr) (b_Cells_n b_Cells_c : Nat) (b_Row : Int) (b_Col : Int) (b_Ink : Int) (b_Bold : Bool) (b_Top : Int) (b_Bottom : Int) (u : World) (R : Ending → World → Prop) : Prop :=
 Spec Tryd.prog 57 #[.agg #[.int .i64 a_Wide, .int .i64 a_High, .slice a_Cells_p a_Cells_n a_Cells_c, .int .i64 a_Row, .int .i64 a_Col, .int .i64 a_Ink, .bool a_Bold, .int .i64 a_Top, .int .i64 a_Bottom], .agg #[.int .i64 b_Wide, .int .i64 b_High, .slice b_Cells_p b_Cells_n b_Cells_c, .int .i64 b_Row, .int .i64 b_Col, .int .i64 b_Ink, .bool b_Bold, .int .i64 b_Top, .int .i64 b_Bottom]] (allocW (allocW u hole) hole) (fun e u1 => ∃ (q0 : Bool), e = .returned (.bool q0) ∧
 ((q0 = true → (((decide (a_Row = b_Row)) = true → (((decide (a_Col = b_Col)) = true →
 (((decide (a_Ink = b_Ink)) = true → (((a_Bold == b_Bold) = true →
 (((decide (a_Top = b_Top)) = true → R (.returned (.bool (decide (a_Bottom = b_Bottom)))) u1) ∧
 ((decide (a_Top = b_Top)) = false → R (.returned (.bool false)) u1))) ∧
 ((a_Bold == b_Bold) = false → R (.returned (.bool false)) u1))) ∧
 ((decide (a_Ink = b_Ink)) = false → R (.returned (.bool false)) u1))) ∧
 ((decide (a_Col = b_Col)) = false → R (.returned (.bool false)) u1))) ∧
 ((decide (a_Row = b_Row)) = false → R (.returned (.bool false)) u1))) ∧
 (q0 = false → R (.returned (.bool false)) u1)))
set_option maxRecDepth 100000 in
theorem vc_fenestratop_sameGrid_eq (a_Wide : Int) (a_High : Int) (a_Cells_p : Option Addr) (a_Cells_n a_Cells_c : Nat) (a_Row : Int) (a_Col : Int) (a_Ink : Int) (a_Bold : Bool) (a_Top : Int) (a_Bottom : Int) (b_Wide : Int) (b_High : Int) (b_Cells_p : Option Addr) (b_Cells_n b_Cells_c : Nat) (b_Row : Int) (b_Col : Int) (b_Ink : Int) (b_Bold : Bool) (b_Top : Int) (b_Bottom : Int) (u : World) (R : Ending → World → Prop) : wFunc cx_fenestratop_sameGrid Tryd.f32 [.agg #[.int .i64 a_Wide, .int .i64 a_High, .slice a_Cells_p a_Cells_n a_Cells_c, .int .i64 a_Row, .int .i64 a_Col, .int .i64 a_Ink, .bool a_Bold, .int .i64 a_Top, .int .i64 a_Bottom], .agg #[.int .i64 b_Wide, .int .i64 b_High, .slice b_Cells_p b_Cells_n b_Cells_c, .int .i64 b_Row, .int .i64 b_Col, .int .i64 b_Ink, .bool b_Bold, .int .i64 b_Top, .int .i64 b_Bottom]] u R = vc_fenestratop_sameGrid a_Wide a_High a_Cells_p a_Cells_n a_Cells_c a_Row a_Col a_Ink a_Bold a_Top a_Bottom b_Wide b_High b_Cells_p b_Cells_n b_Cells_c b_Row b_Col b_Ink b_Bold b_Top b_Bottom u R := by kernel_rfl
theorem vc_fenestratop_sameGrid_spec (a_Wide : Int) (a_High : Int) (a_Cells_p : Option Addr) (a_Cells_n a_Cells_c : Nat) (a_Row : Int) (a_Col : Int) (a_Ink : Int) (a_Bold : Bool) (a_Top : Int) (a_Bottom : Int) (b_Wide : Int) (b_High : Int) (b_Cells_p : Option Addr) (b_Cells_n b_Cells_c : Nat) (b_Row : Int) (b_Col : Int) (b_Ink : Int) (b_Bold : Bool) (b_Top : Int) (b_Bottom : Int) {u : World} {R : Ending → World → Prop} (h : vc_fenestratop_sameGrid a_Wide a_High a_Cells_p a_Cells_n a_Cells_c a_Row a_Col a_Ink a_Bold a_Top a_Bottom b_Wide b_High b_Cells_p b_Cells_n b_Cells_c b_Row b_Col b_Ink b_Bold b_Top b_Bottom u R) : Spec Tryd.prog fn_fenestratop_sameGrid #[.agg #[.int .i64 a_Wide, .int .i64 a_High, .slice a_Cells_p a_Cells_n a_Cells_c, .int .i64 a_Row, .int .i64 a_Col, .int .i64 a_Ink, .bool a_Bold, .int .i64 a_Top, .int .i64 a_Bottom], .agg #[.int .i64 b_Wide, .int .i64 b_High, .slice b_Cells_p b_Cells_n b_Cells_c, .int .i64 b_Row, .int .i64 b_Col, .int .i64 b_Ink, .bool b_Bold, .int .i64 b_Top, .int .i64 b_Bottom]] u R := func_spec (C := cx_fenestratop_sameGrid) (fn := Tryd.f32) (args := [.agg #[.int .i64 a_Wide, .int .i64 a_High, .slice a_Cells_p a_Cells_n a_Cells_c, .int .i64 a_Row, .int .i64 a_Col, .int .i64 a_Ink, .bool a_Bold, .int .i64 a_Top, .int .i64 a_Bottom], .agg #[.int .i64 b_Wide, .int .i64 b_High, .slice b_Cells_p b_Cells_n b_Cells_c, .int .i64 b_Row, .int .i64 b_Col, .int .i64 b_Ink, .bool b_Bold, .int .i64 b_Top, .int .i64 b_Bottom]]) (ctxOk _ _ _ _ _) Tryd.func32 (vc_fenestratop_sameGrid_eq a_Wide a_High a_Cells_p a_Cells_n a_Cells_c a_Row a_Col a_Ink a_Bold a_Top a_Bottom b_Wide b_High b_Cells_p b_Cells_n b_Cells_c b_Row b_Col b_Ink b_Bold b_Top b_Bottom u R) h

/-- fenestra/fenestratop.sameNumbers -/
noncomputable def cx_fenestratop_sameNumbers : Ctx := ⟨Tryd.prog, tab, [], [], [], fns, [(4, ⟨[.keep, .keep, .keep, .keep, .junk, .junk, .keep, .keep, .keep, .keep, .keep, .keep, .keep, .cell (.int .i64), .junk, .junk, .junk, .junk, .junk, .junk, .junk, .junk, .junk, .junk, .junk, .junk], []⟩)], []⟩
def vc_fenestratop_sameNumbers (a_p : Option Addr) (a_n a_c : Nat) (b_p : Option Addr) (b_n b_c : Nat) (u : World) (R : Ending → World → Prop) : Prop :=
 (((!decide (((a_n : Nat) : Int) = ((b_n : Nat) : Int))) = true →
 R (.returned (.bool false)) u) ∧ ((!decide (((a_n : Nat) : Int) = ((b_n : Nat) : Int))) = false →
 ∃ (I_ : Int → World → Prop) (M_ : Int → World → Nat), (I_ 0 u) ∧
 ∀ (q0 : Int), ∀ u1 : World, I_ q0 u1 → (((decide (q0 < ((a_n : Nat) : Int))) = true →
 ∃ b o, a_p = some ⟨b, o, none⟩ ∧ 0 ≤ q0 ∧ q0 < ((a_n : Nat) : Int) ∧
 ∃ (q1 : Int), 1 = szN 1 ∧ Rd (drewW u1) b (o + q0.toNat * 1) ([.int .i64 q1]) ∧
 ∃ b1 o1, b_p = some ⟨b1, o1, none⟩ ∧ 0 ≤ q0 ∧ q0 < ((b_n : Nat) : Int) ∧
 ∃ (q2 : Int), 1 = szN 1 ∧ Rd (drewW u1) b1 (o1 + q0.toNat * 1) ([.int .i64 q2]) ∧
 (((!decide (q1 = q2)) = true → R (.returned (.bool false)) (drewW u1)) ∧
 ((!decide (q1 = q2)) = false → inK .i64 (q0 + 1) ∧ I_ (q0 + 1) (drewW u1) ∧
 M_ (q0 + 1) (drewW u1) < M_ q0 u1))) ∧ ((decide (q0 < ((a_n : Nat) : Int))) = false →
 R (.returned (.bool true)) u1))))
set_option maxRecDepth 100000 in
theorem vc_fenestratop_sameNumbers_eq (a_p : Option Addr) (a_n a_c : Nat) (b_p : Option Addr) (b_n b_c : Nat) (u : World) (R : Ending → World → Prop) : wFunc cx_fenestratop_sameNumbers Tryd.f58 [.slice a_p a_n a_c, .slice b_p b_n b_c] u R = vc_fenestratop_sameNumbers a_p a_n a_c b_p b_n b_c u R := by kernel_rfl
theorem vc_fenestratop_sameNumbers_spec (a_p : Option Addr) (a_n a_c : Nat) (b_p : Option Addr) (b_n b_c : Nat) {u : World} {R : Ending → World → Prop} (h : vc_fenestratop_sameNumbers a_p a_n a_c b_p b_n b_c u R) : Spec Tryd.prog fn_fenestratop_sameNumbers #[.slice a_p a_n a_c, .slice b_p b_n b_c] u R := func_spec (C := cx_fenestratop_sameNumbers) (fn := Tryd.f58) (args := [.slice a_p a_n a_c, .slice b_p b_n b_c]) (ctxOk _ _ _ _ _) Tryd.func58 (vc_fenestratop_sameNumbers_eq a_p a_n a_c b_p b_n b_c u R) h

/-- fenestra/fenestratop.sameView -/
noncomputable def cx_fenestratop_sameView : Ctx := ⟨Tryd.prog, tab, [], [], [2, 3], fns, [(4, ⟨[.keep, .keep, .keep, .keep, .junk, .junk, .keep, .keep, .keep, .keep, .keep, .keep, .keep, .keep, .keep, .keep, .keep, .keep, .keep, .keep, .keep, .keep, .keep, .keep, .keep, .keep, .keep, .keep, .keep, .keep, .keep, .keep, .keep, .keep, .keep, .keep, .keep, .keep, .keep, .keep, .keep, .cell (.int .i64), .junk, .junk, .junk, .junk, .junk, .junk, .junk, .junk, .junk, .junk, .junk, .junk, .junk, .junk, .junk, .junk, .junk, .keep, .keep, .keep, .keep, .keep, .keep, .keep, .keep, .keep, .keep, .keep, .keep, .keep, .keep], [.keep, .keep]⟩), (10, ⟨[.keep, .keep, .keep, .keep, .junk, .keep, .junk, .keep, .keep, .keep, .keep, .keep, .keep, .keep, .keep, .keep, .keep, .keep, .keep, .keep, .keep, .keep, .keep, .keep, .keep, .keep, .keep, .keep, .keep, .keep, .keep, .keep, .keep, .keep, .keep, .keep, .keep, .keep, .keep, .keep, .keep, .keep, .keep, .keep, .keep, .keep, .keep, .keep, .keep, .keep, .keep, .keep, .keep, .keep, .keep, .keep, .keep, .keep, .keep, .cell (.int .i64), .junk, .junk, .junk, .junk, .junk, .junk, .junk, .junk, .junk, .junk, .junk, .junk, .junk], [.keep, .keep]⟩)], []⟩
def vc_fenestratop_sameView (a : List Value) (b : List Value) (u : World) (R : Ending → World → Prop) : Prop :=
 ∃ (q0 : Option Addr) (q1 q2 : Nat), takeN a 0 1 = some [.slice q0 q1 q2] ∧
 ∃ (q3 : Option Addr) (q4 q5 : Nat), takeN b 0 1 = some [.slice q3 q4 q5] ∧
 (((!decide (((q1 : Nat) : Int) = ((q4 : Nat) : Int))) = true →
 R (.returned (.bool false)) (allocW (allocW u hole) hole)) ∧ ((!decide (((q1 : Nat) : Int) = ((q4 : Nat) : Int))) = false →
 ∃ (q6 : Int), takeN a 55 1 = some [.int .i64 q6] ∧ ∃ (q7 : Int), takeN b 55 1 = some [.int .i64 q7] ∧
 (((!decide (q6 = q7)) = true → R (.returned (.bool false)) (allocW (allocW u hole) hole)) ∧
 ((!decide (q6 = q7)) = false → ∃ (q8 : Int), takeN a 56 1 = some [.int .i64 q8] ∧
 ∃ (q9 : Int), takeN b 56 1 = some [.int .i64 q9] ∧ (((!decide (q8 = q9)) = true →
 R (.returned (.bool false)) (allocW (allocW u hole) hole)) ∧ ((!decide (q8 = q9)) = false →
 ∃ (qa : Int), takeN a 57 1 = some [.int .i64 qa] ∧ ∃ (qb : Int), takeN b 57 1 = some [.int .i64 qb] ∧
 (((!decide (qa = qb)) = true → R (.returned (.bool false)) (allocW (allocW u hole) hole)) ∧
 ((!decide (qa = qb)) = false → ∃ (qc : Option Addr) (qd qe : Nat), takeN a 0 1 = some [.slice qc qd qe] ∧
 ∃ (I_ : Int → World → Prop) (M_ : Int → World → Nat), ((Loc.mk 48 true a) = (Loc.mk 48 true a) ∧
 (Loc.mk 48 true b) = (Loc.mk 48 true b) ∧ I_ 0 (allocW (allocW u hole) hole)) ∧
 ∀ (qf : Int), (Loc.mk 48 true a) = (Loc.mk 48 true a) ∧ (Loc.mk 48 true b) = (Loc.mk 48 true b) ∧
 ∀ u1 : World, I_ qf u1 → (((decide (qf < ((qd : Nat) : Int))) = true →
 ∃ (qg : Option Addr) (qh qi : Nat), takeN a 0 1 = some [.slice qg qh qi] ∧
 ∃ b1 o, qg = some ⟨b1, o, none⟩ ∧ 0 ≤ qf ∧ qf < ((qh : Nat) : Int) ∧
 ∃ (qj : Option Addr) (qk ql : Nat), 1 = szN 1 ∧
 Rd (drewW u1) b1 (o + qf.toNat * 1) ([.slice qj qk ql]) ∧
 ∃ (qm : Option Addr) (qn qo : Nat), takeN b 0 1 = some [.slice qm qn qo] ∧
 ∃ b2 o1, qm = some ⟨b2, o1, none⟩ ∧ 0 ≤ qf ∧ qf < ((qn : Nat) : Int) ∧
 ∃ (qp : Option Addr) (qq qr : Nat), 1 = szN 1 ∧
 Rd (drewW u1) b2 (o1 + qf.toNat * 1) ([.slice qp qq qr]) ∧
 Spec Tryd.prog 58 #[.slice qj qk ql, .slice qp qq qr] (drewW u1) (fun e u11 => ∃ (qs : Bool), e = .returned (.bool qs) ∧
 (((!qs) = true → R (.returned (.bool false)) u11) ∧ ((!qs) = false →
 inK .i64 (qf + 1) ∧ (Loc.mk 48 true a) = (Loc.mk 48 true a) ∧
 (Loc.mk 48 true b) = (Loc.mk 48 true b) ∧ I_ (qf + 1) u11 ∧ (Loc.mk 48 true a) = (Loc.mk 48 true a) ∧
 (Loc.mk 48 true b) = (Loc.mk 48 true b) ∧ M_ (qf + 1) u11 < M_ qf u1)))) ∧
 ((decide (qf < ((qd : Nat) : Int))) = false → ∃ (I_1 : Int →
 World → Prop) (M_1 : Int → World → Nat), ((Loc.mk 48 true a) = (Loc.mk 48 true a) ∧
 (Loc.mk 48 true b) = (Loc.mk 48 true b) ∧ I_1 0 u1) ∧ ∀ (qt : Int), (Loc.mk 48 true a) = (Loc.mk 48 true a) ∧
 (Loc.mk 48 true b) = (Loc.mk 48 true b) ∧ ∀ u12 : World, I_1 qt u12 →
 (((decide (qt < 6)) = true → 0 ≤ qt ∧ qt < ((6 : Nat) : Int) ∧
 ∃ (qu qv : Int) (qw : Option Addr) (qx qy : Nat) (qz q10 q11 : Int) (q12 : Bool) (q13 q14 : Int), takeN a (1 + qt.toNat * 9) 9 = some [.int .i64 qu, .int .i64 qv, .slice qw qx qy, .int .i64 qz, .int .i64 q10, .int .i64 q11, .bool q12, .int .i64 q13, .int .i64 q14] ∧
 0 ≤ qt ∧ qt < ((6 : Nat) : Int) ∧ ∃ (q15 q16 : Int) (q17 : Option Addr) (q18 q19 : Nat) (q1a q1b q1c : Int) (q1d : Bool) (q1e q1f : Int), takeN b (1 + qt.toNat * 9) 9 = some [.int .i64 q15, .int .i64 q16, .slice q17 q18 q19, .int .i64 q1a, .int .i64 q1b, .int .i64 q1c, .bool q1d, .int .i64 q1e, .int .i64 q1f] ∧
 Spec Tryd.prog 32 #[.agg #[.int .i64 qu, .int .i64 qv, .slice qw qx qy, .int .i64 qz, .int .i64 q10, .int .i64 q11, .bool q12, .int .i64 q13, .int .i64 q14], .agg #[.int .i64 q15, .int .i64 q16, .slice q17 q18 q19, .int .i64 q1a, .int .i64 q1b, .int .i64 q1c, .bool q1d, .int .i64 q1e, .int .i64 q1f]] (drewW u12) (fun e u13 => ∃ (q1g : Bool), e = .returned (.bool q1g) ∧
 (((!q1g) = true → R (.returned (.bool false)) u13) ∧ ((!q1g) = false →
 inK .i64 (qt + 1) ∧ (Loc.mk 48 true a) = (Loc.mk 48 true a) ∧
 (Loc.mk 48 true b) = (Loc.mk 48 true b) ∧ I_1 (qt + 1) u13 ∧ (Loc.mk 48 true a) = (Loc.mk 48 true a) ∧
 (Loc.mk 48 true b) = (Loc.mk 48 true b) ∧ M_1 (qt + 1) u13 < M_1 qt u12)))) ∧
 ((decide (qt < 6)) = false → R (.returned (.bool true)) u12))))))))))))
set_option maxRecDepth 100000 in
theorem vc_fenestratop_sameView_eq (a : List Value) (b : List Value) (u : World) (R : Ending → World → Prop) : wFunc cx_fenestratop_sameView Tryd.f31 [.agg a.toArray, .agg b.toArray] u R = vc_fenestratop_sameView a b u R := by kernel_rfl
theorem vc_fenestratop_sameView_spec (a : List Value) (b : List Value) {u : World} {R : Ending → World → Prop} (h : vc_fenestratop_sameView a b u R) : Spec Tryd.prog fn_fenestratop_sameView #[.agg a.toArray, .agg b.toArray] u R := func_spec (C := cx_fenestratop_sameView) (fn := Tryd.f31) (args := [.agg a.toArray, .agg b.toArray]) (ctxOk _ _ _ _ _) Tryd.func31 (vc_fenestratop_sameView_eq a b u R) h

end Go.Proofs.YtkmmphkjmamckacDoor

namespace Go.Proofs.YtkmmphkjmamckacDoor
open Go
set_option linter.all false

/-- fenestra/fenestratop.shown -/
noncomputable def cx_fenestratop_shown : Ctx := ⟨Tryd.prog, tab, [4], [], [], fns, [], []⟩
def vc_fenestratop_shown (s_b s_o : Nat) (t : List Value) (c : Int) (u : World) (R : Ending → World → Prop) : Prop :=
 Spec Tryd.prog 20 #[.pointer (some ⟨s_b, s_o, none⟩), .int .i64 c] (allocW u (.cells t.toArray 60)) (fun e u1 => ∃ (q0 : ByteArray) (q1 q2 : Bool), e = .returned (.tuple #[.string q0, .bool q1, .bool q2]) ∧
 Spec Tryd.prog 26 #[.pointer (some ⟨u.heap.size, 0, none⟩), .string q0] u1 (fun e u11 => ∃ (q3 : Bool), e = .returned (.bool q3) ∧
 (((!q3) = true → R (.returned (.bool false)) u11) ∧ ((!q3) = false →
 ∃ (q4 : Int), 1 = szN 1 ∧ Rd u11 u.heap.size (0 + 0 + 0) ([.int .i64 q4]) ∧
 (((!decide (q4 = 0)) = true → R (.returned (.bool false)) u11) ∧
 ((!decide (q4 = 0)) = false → ∃ (q5 : Int), 1 = szN 1 ∧
 Rd (drewW u11) u.heap.size (0 + 4 + 0) ([.int .i64 q5]) ∧ ∃ (q6 : Int), 1 = szN 1 ∧
 Rd (drewW u11) u.heap.size (0 + 4 + 1) ([.int .i64 q6]) ∧ ((Spec Tryd.prog 23 #[.pointer (some ⟨s_b, s_o, none⟩)] (drewW u11) (fun e u12 => ∃ (q7 : List Value), e = .returned (.agg q7.toArray) ∧
 Rd u12 u.heap.size (0 + 4 + 1) ([.int .i64 q6]) ∧ Rd u12 u.heap.size (0 + 4 + 0) ([.int .i64 q5]) ∧
 ((Spec Tryd.prog 56 #[.agg q7.toArray, .int .i64 q5, .int .i64 q6] u12 (fun e u13 => ∃ (q8 q9 : Int) (qa : Option Addr) (qb qc : Nat) (qd qe qf : Int) (qg : Bool) (qh qi : Int), e = .returned (.agg #[.int .i64 q8, .int .i64 q9, .slice qa qb qc, .int .i64 qd, .int .i64 qe, .int .i64 qf, .bool qg, .int .i64 qh, .int .i64 qi]) ∧
 Rd (allocW u13 hole) u.heap.size (0 + 4 + 1) ([.int .i64 q6]) ∧
 Rd (allocW u13 hole) u.heap.size (0 + 4 + 0) ([.int .i64 q5]) ∧
 ∃ (qj qk : Int) (ql : Option Addr) (qm qn : Nat) (qo qp qq : Int) (qr : Bool) (qs qt : Int), 9 = szN 9 ∧
 Rd (allocW u13 hole) u.heap.size (0 + 4) ([.int .i64 qj, .int .i64 qk, .slice ql qm qn, .int .i64 qo, .int .i64 qp, .int .i64 qq, .bool qr, .int .i64 qs, .int .i64 qt]) ∧
 Spec Tryd.prog 57 #[.agg #[.int .i64 qj, .int .i64 qk, .slice ql qm qn, .int .i64 qo, .int .i64 qp, .int .i64 qq, .bool qr, .int .i64 qs, .int .i64 qt], .agg #[.int .i64 q8, .int .i64 q9, .slice qa qb qc, .int .i64 qd, .int .i64 qe, .int .i64 qf, .bool qg, .int .i64 qh, .int .i64 qi]] (allocW u13 hole) (fun e u14 => ∃ (qu : Bool), e = .returned (.bool qu) ∧
 ((qu = true → ∃ (qv : Int), 1 = szN 1 ∧
 Rd u14 u.heap.size (0 + 4 + 3) ([.int .i64 qv]) ∧ (((decide (qv = qd)) = true →
 ∃ (qw : Int), 1 = szN 1 ∧ Rd u14 u.heap.size (0 + 4 + 4) ([.int .i64 qw]) ∧
 R (.returned (.bool (decide (qw = qe)))) u14) ∧ ((decide (qv = qd)) = false →
 R (.returned (.bool false)) u14))) ∧ (qu = false → R (.returned (.bool false)) u14))))) ∧
 (Rd (allocW u12 hole) u.heap.size (0 + 4 + 1) ([.int .i64 q6]) ∧
 Rd (allocW u12 hole) u.heap.size (0 + 4 + 0) ([.int .i64 q5]) ∧
 Spec Tryd.prog 56 #[.agg q7.toArray, .int .i64 q5, .int .i64 q6] (allocW u12 hole) (fun e u15 => ∃ (qx qy : Int) (qz : Option Addr) (q10 q11 : Nat) (q12 q13 q14 : Int) (q15 : Bool) (q16 q17 : Int), e = .returned (.agg #[.int .i64 qx, .int .i64 qy, .slice qz q10 q11, .int .i64 q12, .int .i64 q13, .int .i64 q14, .bool q15, .int .i64 q16, .int .i64 q17]) ∧
 ∃ (q18 q19 : Int) (q1a : Option Addr) (q1b q1c : Nat) (q1d q1e q1f : Int) (q1g : Bool) (q1h q1i : Int), 9 = szN 9 ∧
 Rd u15 u.heap.size (0 + 4) ([.int .i64 q18, .int .i64 q19, .slice q1a q1b q1c, .int .i64 q1d, .int .i64 q1e, .int .i64 q1f, .bool q1g, .int .i64 q1h, .int .i64 q1i]) ∧
 Spec Tryd.prog 57 #[.agg #[.int .i64 q18, .int .i64 q19, .slice q1a q1b q1c, .int .i64 q1d, .int .i64 q1e, .int .i64 q1f, .bool q1g, .int .i64 q1h, .int .i64 q1i], .agg #[.int .i64 qx, .int .i64 qy, .slice qz q10 q11, .int .i64 q12, .int .i64 q13, .int .i64 q14, .bool q15, .int .i64 q16, .int .i64 q17]] u15 (fun e u16 => ∃ (q1j : Bool), e = .returned (.bool q1j) ∧
 ((q1j = true → ∃ (q1k : Int), 1 = szN 1 ∧
 Rd u16 u.heap.size (0 + 4 + 3) ([.int .i64 q1k]) ∧ (((decide (q1k = q12)) = true →
 ∃ (q1l : Int), 1 = szN 1 ∧ Rd u16 u.heap.size (0 + 4 + 4) ([.int .i64 q1l]) ∧
 R (.returned (.bool (decide (q1l = q13)))) u16) ∧ ((decide (q1k = q12)) = false →
 R (.returned (.bool false)) u16))) ∧ (q1j = false → R (.returned (.bool false)) u16)))))))) ∧
 (Rd (allocW (drewW u11) hole) u.heap.size (0 + 4 + 1) ([.int .i64 q6]) ∧
 Rd (allocW (drewW u11) hole) u.heap.size (0 + 4 + 0) ([.int .i64 q5]) ∧
 Spec Tryd.prog 23 #[.pointer (some ⟨s_b, s_o, none⟩)] (allocW (drewW u11) hole) (fun e u17 => ∃ (q1m : List Value), e = .returned (.agg q1m.toArray) ∧
 Rd u17 u.heap.size (0 + 4 + 1) ([.int .i64 q6]) ∧ Rd u17 u.heap.size (0 + 4 + 0) ([.int .i64 q5]) ∧
 Spec Tryd.prog 56 #[.agg q1m.toArray, .int .i64 q5, .int .i64 q6] u17 (fun e u18 => ∃ (q1n q1o : Int) (q1p : Option Addr) (q1q q1r : Nat) (q1s q1t q1u : Int) (q1v : Bool) (q1w q1x : Int), e = .returned (.agg #[.int .i64 q1n, .int .i64 q1o, .slice q1p q1q q1r, .int .i64 q1s, .int .i64 q1t, .int .i64 q1u, .bool q1v, .int .i64 q1w, .int .i64 q1x]) ∧
 ∃ (q1y q1z : Int) (q20 : Option Addr) (q21 q22 : Nat) (q23 q24 q25 : Int) (q26 : Bool) (q27 q28 : Int), 9 = szN 9 ∧
 Rd u18 u.heap.size (0 + 4) ([.int .i64 q1y, .int .i64 q1z, .slice q20 q21 q22, .int .i64 q23, .int .i64 q24, .int .i64 q25, .bool q26, .int .i64 q27, .int .i64 q28]) ∧
 Spec Tryd.prog 57 #[.agg #[.int .i64 q1y, .int .i64 q1z, .slice q20 q21 q22, .int .i64 q23, .int .i64 q24, .int .i64 q25, .bool q26, .int .i64 q27, .int .i64 q28], .agg #[.int .i64 q1n, .int .i64 q1o, .slice q1p q1q q1r, .int .i64 q1s, .int .i64 q1t, .int .i64 q1u, .bool q1v, .int .i64 q1w, .int .i64 q1x]] u18 (fun e u19 => ∃ (q29 : Bool), e = .returned (.bool q29) ∧
 ((q29 = true → ∃ (q2a : Int), 1 = szN 1 ∧
 Rd u19 u.heap.size (0 + 4 + 3) ([.int .i64 q2a]) ∧ (((decide (q2a = q1s)) = true →
 ∃ (q2b : Int), 1 = szN 1 ∧ Rd u19 u.heap.size (0 + 4 + 4) ([.int .i64 q2b]) ∧
 R (.returned (.bool (decide (q2b = q1t)))) u19) ∧ ((decide (q2a = q1s)) = false →
 R (.returned (.bool false)) u19))) ∧ (q29 = false → R (.returned (.bool false)) u19)))))))))))))
set_option maxRecDepth 100000 in
theorem vc_fenestratop_shown_eq (s_b s_o : Nat) (t : List Value) (c : Int) (u : World) (R : Ending → World → Prop) : wFunc cx_fenestratop_shown Tryd.f27 [.pointer (some ⟨s_b, s_o, none⟩), .agg t.toArray, .int .i64 c] u R = vc_fenestratop_shown s_b s_o t c u R := by kernel_rfl
theorem vc_fenestratop_shown_spec (s_b s_o : Nat) (t : List Value) (c : Int) {u : World} {R : Ending → World → Prop} (h : vc_fenestratop_shown s_b s_o t c u R) : Spec Tryd.prog fn_fenestratop_shown #[.pointer (some ⟨s_b, s_o, none⟩), .agg t.toArray, .int .i64 c] u R := func_spec (C := cx_fenestratop_shown) (fn := Tryd.f27) (args := [.pointer (some ⟨s_b, s_o, none⟩), .agg t.toArray, .int .i64 c]) (ctxOk _ _ _ _ _) Tryd.func27 (vc_fenestratop_shown_eq s_b s_o t c u R) h

end Go.Proofs.YtkmmphkjmamckacDoor

namespace Go.Proofs.YtkmmphkjmamckacDoor
open Go
set_option linter.all false

/-- fenestra/fenestratop.play -/
noncomputable def cx_fenestratop_play_quiet : Ctx := ⟨Tryd.prog, tab, [8], [], [], fns, [(6, ⟨[.keep, .keep, .keep, .keep, .junk, .junk, .junk, .keep, .keep, .cell (.int .i64), .junk, .junk, .keep, .keep, .keep, .junk, .junk, .junk, .junk, .junk, .junk, .junk, .junk, .junk, .junk, .junk, .junk, .junk, .junk, .junk, .junk, .junk, .junk, .junk, .junk, .junk, .junk, .junk, .junk, .junk, .junk, .junk, .junk, .junk, .junk, .junk, .junk, .junk, .junk, .junk, .junk, .junk, .junk, .junk, .junk, .junk, .junk, .junk, .junk, .junk, .junk, .junk, .junk, .junk, .junk, .junk, .junk, .junk, .junk, .junk, .junk, .junk, .junk, .junk, .keep], []⟩)], []⟩
def vc_fenestratop_play_quiet (l_p : Option Addr) (l_n l_c : Nat) (u : World) (R : Ending → World → Prop) : Prop :=
 Spec Tryd.prog 28 #[] u (fun e u1 => ∃ (q0 : Bool), e = .returned (.bool q0) ∧
 (((!q0) = true → R (.returned (.tuple #[.pointer none, .pointer none, .bool false])) u1) ∧
 ((!q0) = false → Spec Tryd.prog 29 #[] u1 (fun e u11 => ∃ (q1 q2 : Nat), e = .returned (.pointer (some ⟨q1, q2, none⟩)) ∧
 ∃ (I_ : Int → World → Prop) (M_ : Int → World → Nat), (I_ 0 (allocW u11 (.cells ([.int .i64 0, .slice none 0 0, .string (ByteArray.mk #[]), .bool false, .int .i64 0, .int .i64 0, .slice none 0 0, .int .i64 0, .int .i64 0, .int .i64 0, .bool false, .int .i64 0, .int .i64 0, .int .i64 0, .slice none 0 0, .string (ByteArray.mk #[]), .bool false, .int .i64 0, .int .i64 0, .slice none 0 0, .int .i64 0, .int .i64 0, .int .i64 0, .bool false, .int .i64 0, .int .i64 0, .int .i64 0, .slice none 0 0, .string (ByteArray.mk #[]), .bool false, .int .i64 0, .int .i64 0, .slice none 0 0, .int .i64 0, .int .i64 0, .int .i64 0, .bool false, .int .i64 0, .int .i64 0] : List Value).toArray 106))) ∧
 ∀ (i : Int), ∀ u12 : World, I_ i u12 → (((decide (i < ((l_n : Nat) : Int))) = true →
 (((decide (i < 100)) = true → ∃ b o, l_p = some ⟨b, o, none⟩ ∧
 0 ≤ i ∧ i < ((l_n : Nat) : Int) ∧ ∃ (q3 q4 q5 q6 : Int) (q7 : ByteArray), 5 = szN 5 ∧
 Rd u12 b (o + i.toNat * 5) ([.int .i64 q3, .int .i64 q4, .int .i64 q5, .int .i64 q6, .string q7]) ∧
 Spec Tryd.prog 21 #[.pointer (some ⟨q1, q2, none⟩), .agg #[.int .i64 q3, .int .i64 q4, .int .i64 q5, .int .i64 q6, .string q7]] (allocW u12 hole) (fun e u13 => ∃ (q8 q9 : Int) (qa : ByteArray), e = .returned (.agg #[.int .i64 q8, .int .i64 q9, .string qa]) ∧
 (((decide (q8 = 0)) = true → (((decide (q3 = 6)) = true →
 Spec Tryd.prog 44 #[.int .i64 q5, .int .i64 q6] (drewW (allocW u13 hole)) (fun e u14 => ∃ (qb qc : Int) (qd : Option Addr) (qe qf : Nat) (qg qh qi : Int) (qj : Bool) (qk ql : Int), e = .returned (.agg #[.int .i64 qb, .int .i64 qc, .slice qd qe qf, .int .i64 qg, .int .i64 qh, .int .i64 qi, .bool qj, .int .i64 qk, .int .i64 ql]) ∧
 0 ≤ q4 ∧ q4 < ((3 : Nat) : Int) ∧ 13 = ([.int .i64 0, .slice none 0 0, .string (ByteArray.mk #[]), .bool false, .int .i64 qb, .int .i64 qc, .slice qd qe qf, .int .i64 qg, .int .i64 qh, .int .i64 qi, .bool qj, .int .i64 qk, .int .i64 ql] : List Value).length ∧
 Wr u14 u11.heap.size (0 + q4.toNat * 13) 13 ∧ (((decide (q8 = 0)) = true →
 (((decide (q3 = 9)) = true → 0 ≤ q4 ∧ q4 < ((3 : Nat) : Int) ∧
 Spec Tryd.prog 26 #[.pointer (some ⟨u11.heap.size, 0 + q4.toNat * 13, none⟩), .string qa] (drewW (putCells u14 u11.heap.size (0 + q4.toNat * 13) ([.int .i64 0, .slice none 0 0, .string (ByteArray.mk #[]), .bool false, .int .i64 qb, .int .i64 qc, .slice qd qe qf, .int .i64 qg, .int .i64 qh, .int .i64 qi, .bool qj, .int .i64 qk, .int .i64 ql]))) (fun e u15 => ∃ (qm : Bool), e = .returned (.bool qm) ∧
 (((!qm) = true → R (.returned (.tuple #[.pointer (some ⟨q1, q2, none⟩), .pointer (some ⟨u11.heap.size, 0, none⟩), .bool false])) u15) ∧
 ((!qm) = false → Spec Tryd.prog 25 #[.pointer (some ⟨q1, q2, none⟩), .pointer (some ⟨u11.heap.size, 0, none⟩), .agg #[.int .i64 q3, .int .i64 q4, .int .i64 q5, .int .i64 q6, .string q7], .agg #[.int .i64 q8, .int .i64 q9, .string qa]] u15 (fun e u16 => ∃ (qn : Bool), e = .returned (.bool qn) ∧
 (((!qn) = true → R (.returned (.tuple #[.pointer (some ⟨q1, q2, none⟩), .pointer (some ⟨u11.heap.size, 0, none⟩), .bool false])) u16) ∧
 ((!qn) = false → inK .i64 (i + 1) ∧ I_ (i + 1) u16 ∧ M_ (i + 1) u16 < M_ i u12))))))) ∧
 ((decide (q3 = 9)) = false → Spec Tryd.prog 25 #[.pointer (some ⟨q1, q2, none⟩), .pointer (some ⟨u11.heap.size, 0, none⟩), .agg #[.int .i64 q3, .int .i64 q4, .int .i64 q5, .int .i64 q6, .string q7], .agg #[.int .i64 q8, .int .i64 q9, .string qa]] (drewW (putCells u14 u11.heap.size (0 + q4.toNat * 13) ([.int .i64 0, .slice none 0 0, .string (ByteArray.mk #[]), .bool false, .int .i64 qb, .int .i64 qc, .slice qd qe qf, .int .i64 qg, .int .i64 qh, .int .i64 qi, .bool qj, .int .i64 qk, .int .i64 ql]))) (fun e u17 => ∃ (qo : Bool), e = .returned (.bool qo) ∧
 (((!qo) = true → R (.returned (.tuple #[.pointer (some ⟨q1, q2, none⟩), .pointer (some ⟨u11.heap.size, 0, none⟩), .bool false])) u17) ∧
 ((!qo) = false → inK .i64 (i + 1) ∧ I_ (i + 1) u17 ∧ M_ (i + 1) u17 < M_ i u12)))))) ∧
 ((decide (q8 = 0)) = false → Spec Tryd.prog 25 #[.pointer (some ⟨q1, q2, none⟩), .pointer (some ⟨u11.heap.size, 0, none⟩), .agg #[.int .i64 q3, .int .i64 q4, .int .i64 q5, .int .i64 q6, .string q7], .agg #[.int .i64 q8, .int .i64 q9, .string qa]] (drewW (putCells u14 u11.heap.size (0 + q4.toNat * 13) ([.int .i64 0, .slice none 0 0, .string (ByteArray.mk #[]), .bool false, .int .i64 qb, .int .i64 qc, .slice qd qe qf, .int .i64 qg, .int .i64 qh, .int .i64 qi, .bool qj, .int .i64 qk, .int .i64 ql]))) (fun e u18 => ∃ (qp : Bool), e = .returned (.bool qp) ∧
 (((!qp) = true → R (.returned (.tuple #[.pointer (some ⟨q1, q2, none⟩), .pointer (some ⟨u11.heap.size, 0, none⟩), .bool false])) u18) ∧
 ((!qp) = false → inK .i64 (i + 1) ∧ I_ (i + 1) u18 ∧ M_ (i + 1) u18 < M_ i u12))))))) ∧
 ((decide (q3 = 6)) = false → (((decide (q8 = 0)) = true →
 (((decide (q3 = 9)) = true → 0 ≤ q4 ∧ q4 < ((3 : Nat) : Int) ∧
 Spec Tryd.prog 26 #[.pointer (some ⟨u11.heap.size, 0 + q4.toNat * 13, none⟩), .string qa] (drewW (allocW u13 hole)) (fun e u19 => ∃ (qq : Bool), e = .returned (.bool qq) ∧
 (((!qq) = true → R (.returned (.tuple #[.pointer (some ⟨q1, q2, none⟩), .pointer (some ⟨u11.heap.size, 0, none⟩), .bool false])) u19) ∧
 ((!qq) = false → Spec Tryd.prog 25 #[.pointer (some ⟨q1, q2, none⟩), .pointer (some ⟨u11.heap.size, 0, none⟩), .agg #[.int .i64 q3, .int .i64 q4, .int .i64 q5, .int .i64 q6, .string q7], .agg #[.int .i64 q8, .int .i64 q9, .string qa]] u19 (fun e u110 => ∃ (qr : Bool), e = .returned (.bool qr) ∧
 (((!qr) = true → R (.returned (.tuple #[.pointer (some ⟨q1, q2, none⟩), .pointer (some ⟨u11.heap.size, 0, none⟩), .bool false])) u110) ∧
 ((!qr) = false → inK .i64 (i + 1) ∧ I_ (i + 1) u110 ∧ M_ (i + 1) u110 < M_ i u12))))))) ∧
 ((decide (q3 = 9)) = false → Spec Tryd.prog 25 #[.pointer (some ⟨q1, q2, none⟩), .pointer (some ⟨u11.heap.size, 0, none⟩), .agg #[.int .i64 q3, .int .i64 q4, .int .i64 q5, .int .i64 q6, .string q7], .agg #[.int .i64 q8, .int .i64 q9, .string qa]] (drewW (allocW u13 hole)) (fun e u111 => ∃ (qs : Bool), e = .returned (.bool qs) ∧
 (((!qs) = true → R (.returned (.tuple #[.pointer (some ⟨q1, q2, none⟩), .pointer (some ⟨u11.heap.size, 0, none⟩), .bool false])) u111) ∧
 ((!qs) = false → inK .i64 (i + 1) ∧ I_ (i + 1) u111 ∧ M_ (i + 1) u111 < M_ i u12)))))) ∧
 ((decide (q8 = 0)) = false → Spec Tryd.prog 25 #[.pointer (some ⟨q1, q2, none⟩), .pointer (some ⟨u11.heap.size, 0, none⟩), .agg #[.int .i64 q3, .int .i64 q4, .int .i64 q5, .int .i64 q6, .string q7], .agg #[.int .i64 q8, .int .i64 q9, .string qa]] (drewW (allocW u13 hole)) (fun e u112 => ∃ (qt : Bool), e = .returned (.bool qt) ∧
 (((!qt) = true → R (.returned (.tuple #[.pointer (some ⟨q1, q2, none⟩), .pointer (some ⟨u11.heap.size, 0, none⟩), .bool false])) u112) ∧
 ((!qt) = false → inK .i64 (i + 1) ∧ I_ (i + 1) u112 ∧ M_ (i + 1) u112 < M_ i u12)))))))) ∧
 ((decide (q8 = 0)) = false → (((decide (q8 = 0)) = true →
 (((decide (q3 = 9)) = true → 0 ≤ q4 ∧ q4 < ((3 : Nat) : Int) ∧
 Spec Tryd.prog 26 #[.pointer (some ⟨u11.heap.size, 0 + q4.toNat * 13, none⟩), .string qa] (drewW (allocW u13 hole)) (fun e u113 => ∃ (qu : Bool), e = .returned (.bool qu) ∧
 (((!qu) = true → R (.returned (.tuple #[.pointer (some ⟨q1, q2, none⟩), .pointer (some ⟨u11.heap.size, 0, none⟩), .bool false])) u113) ∧
 ((!qu) = false → Spec Tryd.prog 25 #[.pointer (some ⟨q1, q2, none⟩), .pointer (some ⟨u11.heap.size, 0, none⟩), .agg #[.int .i64 q3, .int .i64 q4, .int .i64 q5, .int .i64 q6, .string q7], .agg #[.int .i64 q8, .int .i64 q9, .string qa]] u113 (fun e u114 => ∃ (qv : Bool), e = .returned (.bool qv) ∧
 (((!qv) = true → R (.returned (.tuple #[.pointer (some ⟨q1, q2, none⟩), .pointer (some ⟨u11.heap.size, 0, none⟩), .bool false])) u114) ∧
 ((!qv) = false → inK .i64 (i + 1) ∧ I_ (i + 1) u114 ∧ M_ (i + 1) u114 < M_ i u12))))))) ∧
 ((decide (q3 = 9)) = false → Spec Tryd.prog 25 #[.pointer (some ⟨q1, q2, none⟩), .pointer (some ⟨u11.heap.size, 0, none⟩), .agg #[.int .i64 q3, .int .i64 q4, .int .i64 q5, .int .i64 q6, .string q7], .agg #[.int .i64 q8, .int .i64 q9, .string qa]] (drewW (allocW u13 hole)) (fun e u115 => ∃ (qw : Bool), e = .returned (.bool qw) ∧
 (((!qw) = true → R (.returned (.tuple #[.pointer (some ⟨q1, q2, none⟩), .pointer (some ⟨u11.heap.size, 0, none⟩), .bool false])) u115) ∧
 ((!qw) = false → inK .i64 (i + 1) ∧ I_ (i + 1) u115 ∧ M_ (i + 1) u115 < M_ i u12)))))) ∧
 ((decide (q8 = 0)) = false → Spec Tryd.prog 25 #[.pointer (some ⟨q1, q2, none⟩), .pointer (some ⟨u11.heap.size, 0, none⟩), .agg #[.int .i64 q3, .int .i64 q4, .int .i64 q5, .int .i64 q6, .string q7], .agg #[.int .i64 q8, .int .i64 q9, .string qa]] (drewW (allocW u13 hole)) (fun e u116 => ∃ (qx : Bool), e = .returned (.bool qx) ∧
 (((!qx) = true → R (.returned (.tuple #[.pointer (some ⟨q1, q2, none⟩), .pointer (some ⟨u11.heap.size, 0, none⟩), .bool false])) u116) ∧
 ((!qx) = false → inK .i64 (i + 1) ∧ I_ (i + 1) u116 ∧ M_ (i + 1) u116 < M_ i u12))))))))) ∧
 ((decide (i < 100)) = false → R (.returned (.tuple #[.pointer (some ⟨q1, q2, none⟩), .pointer (some ⟨u11.heap.size, 0, none⟩), .bool true])) u12))) ∧
 ((decide (i < ((l_n : Nat) : Int))) = false → R (.returned (.tuple #[.pointer (some ⟨q1, q2, none⟩), .pointer (some ⟨u11.heap.size, 0, none⟩), .bool true])) u12))))))
set_option maxRecDepth 100000 in
theorem vc_fenestratop_play_quiet_eq (l_p : Option Addr) (l_n l_c : Nat) (u : World) (R : Ending → World → Prop) : wFunc cx_fenestratop_play_quiet Tryd.f24 [.slice l_p l_n l_c, .func (.func 25) #[] #[]] u R = vc_fenestratop_play_quiet l_p l_n l_c u R := by kernel_rfl
theorem vc_fenestratop_play_quiet_spec (l_p : Option Addr) (l_n l_c : Nat) {u : World} {R : Ending → World → Prop} (h : vc_fenestratop_play_quiet l_p l_n l_c u R) : Spec Tryd.prog fn_fenestratop_play #[.slice l_p l_n l_c, .func (.func 25) #[] #[]] u R := func_spec (C := cx_fenestratop_play_quiet) (fn := Tryd.f24) (args := [.slice l_p l_n l_c, .func (.func 25) #[] #[]]) (ctxOk _ _ _ _ _) Tryd.func24 (vc_fenestratop_play_quiet_eq l_p l_n l_c u R) h

end Go.Proofs.YtkmmphkjmamckacDoor

