/-
  Texts that belong together, joined: VTop, VTopS, VTopW, VPlayQ.
-/
import Derived.Test.YtkmmphkjmamckabDoorCtx
namespace Go.Proofs.YtkmmphkjmamckabDoor
open Go
set_option linter.all false

/-- fenestra/fenestratop.alive -/
noncomputable def cx_fenestratop_alive : Ctx := ⟨Tryd.prog, tab, [], [], [], fns, [], []⟩
def vc_fenestratop_alive  (u : World) (R : Ending → World → Prop) : Prop :=
 Spec Tryd.prog 7 #[] u (fun e u1 => ∃ (q0 q1 : Nat), e = .returned (.pointer (some ⟨q0, q1, none⟩)) ∧
 (((Option.isNone (some (Addr.mk q0 q1 none))) = true → R (.returned (.bool false)) u1) ∧
 ((Option.isNone (some (Addr.mk q0 q1 none))) = false → Spec Tryd.prog 8 #[.pointer (some ⟨q0, q1, none⟩), .agg #[.int .i64 6, .int .i64 1, .int .i64 10, .int .i64 3, .string (ByteArray.mk #[])]] u1 (fun e u11 => ∃ (q2 q3 : Int) (q4 : ByteArray), e = .returned (.agg #[.int .i64 q2, .int .i64 q3, .string q4]) ∧
 Spec Tryd.prog 8 #[.pointer (some ⟨q0, q1, none⟩), .agg #[.int .i64 3, .int .i64 0, .int .i64 0, .int .i64 0, .string (ByteArray.mk #[120])]] (allocW u11 hole) (fun e u12 => ∃ (q5 q6 : Int) (q7 : ByteArray), e = .returned (.agg #[.int .i64 q5, .int .i64 q6, .string q7]) ∧
 Spec Tryd.prog 8 #[.pointer (some ⟨q0, q1, none⟩), .agg #[.int .i64 8, .int .i64 0, .int .i64 0, .int .i64 0, .string (ByteArray.mk #[])]] (allocW u12 hole) (fun e u13 => ∃ (q8 q9 : Int) (qa : ByteArray), e = .returned (.agg #[.int .i64 q8, .int .i64 q9, .string qa]) ∧
 Spec Tryd.prog 11 #[.pointer (some ⟨q0, q1, none⟩), .int .i64 1] (allocW u13 hole) (fun e u14 => ∃ (qb : ByteArray) (qc qd : Bool), e = .returned (.tuple #[.string qb, .bool qc, .bool qd]) ∧
 (((decide (q2 = 0)) = true → (((decide (q5 = 0)) = true →
 (((decide (q8 = 0)) = true → (((decide ((0 : Int) < ((qb.size : Nat) : Int))) = true →
 (((!qc) = true → R (.returned (.bool qd)) u14) ∧ ((!qc) = false →
 R (.returned (.bool false)) u14))) ∧ ((decide ((0 : Int) < ((qb.size : Nat) : Int))) = false →
 R (.returned (.bool false)) u14))) ∧ ((decide (q8 = 0)) = false →
 R (.returned (.bool false)) u14))) ∧ ((decide (q5 = 0)) = false →
 R (.returned (.bool false)) u14))) ∧ ((decide (q2 = 0)) = false →
 R (.returned (.bool false)) u14)))))))))
set_option maxRecDepth 100000 in
theorem vc_fenestratop_alive_eq  (u : World) (R : Ending → World → Prop) : wFunc cx_fenestratop_alive Tryd.f5 [] u R = vc_fenestratop_alive  u R := by kernel_rfl
theorem vc_fenestratop_alive_spec  {u : World} {R : Ending → World → Prop} (h : vc_fenestratop_alive  u R) : Spec Tryd.prog fn_fenestratop_alive #[] u R := func_spec (C := cx_fenestratop_alive) (fn := Tryd.f5) (args := []) (ctxOk _ _ _ _ _) Tryd.func5 (vc_fenestratop_alive_eq  u R) h

/-- (*fenestra/fenestratop.terminal).get -/
noncomputable def cx_fenestratop_terminal_get : Ctx := ⟨Tryd.prog, tab, [], [], [], fns, [], []⟩
def vc_fenestratop_terminal_get (t_b t_o : Nat) (s : ByteArray) (u : World) (R : Ending → World → Prop) : Prop :=
 ∃ (q0 : Int) (q1 : Option Addr) (q2 q3 : Nat) (q4 : ByteArray) (q5 : Bool), 4 = szN 4 ∧
 Rd u t_b (t_o + 0) ([.int .i64 q0, .slice q1 q2 q3, .string q4, .bool q5]) ∧
 Spec Tryd.prog 18 #[.agg #[.int .i64 q0, .slice q1 q2 q3, .string q4, .bool q5], .string s] u (fun e u1 => ∃ (q6 : Int) (q7 : Option Addr) (q8 q9 : Nat) (qa : ByteArray) (qb : Bool) (qc : Option Addr) (qd qe : Nat) (qf : Int), e = .returned (.tuple #[.agg #[.int .i64 q6, .slice q7 q8 q9, .string qa, .bool qb], .slice qc qd qe, .int .i64 qf]) ∧
 ∃ (qg qh : Int) (qi : Option Addr) (qj qk : Nat) (ql qm qn : Int) (qo : Bool) (qp qq : Int), 9 = szN 9 ∧
 Rd (allocW u1 hole) t_b (t_o + 4) ([.int .i64 qg, .int .i64 qh, .slice qi qj qk, .int .i64 ql, .int .i64 qm, .int .i64 qn, .bool qo, .int .i64 qp, .int .i64 qq]) ∧
 Spec Tryd.prog 19 #[.agg #[.int .i64 qg, .int .i64 qh, .slice qi qj qk, .int .i64 ql, .int .i64 qm, .int .i64 qn, .bool qo, .int .i64 qp, .int .i64 qq], .slice qc qd qe] (allocW u1 hole) (fun e u11 => ∃ (qr qs : Int) (qt : Option Addr) (qu qv : Nat) (qw qx qy : Int) (qz : Bool) (q10 q11 q12 : Int), e = .returned (.tuple #[.agg #[.int .i64 qr, .int .i64 qs, .slice qt qu qv, .int .i64 qw, .int .i64 qx, .int .i64 qy, .bool qz, .int .i64 q10, .int .i64 q11], .int .i64 q12]) ∧
 4 = szN 4 ∧
 Wr (drewW (allocW u11 hole)) t_b (t_o + 0) 4 ∧ 9 = szN 9 ∧
 Wr (putCells (drewW (allocW u11 hole)) t_b (t_o + 0) ([.int .i64 q6, .slice q7 q8 q9, .string qa, .bool qb])) t_b (t_o + 4) 9 ∧
 (((decide (qf = 0)) = true → R (.returned (.bool (decide (q12 = 0)))) (putCells (putCells (drewW (allocW u11 hole)) t_b (t_o + 0) ([.int .i64 q6, .slice q7 q8 q9, .string qa, .bool qb])) t_b (t_o + 4) ([.int .i64 qr, .int .i64 qs, .slice qt qu qv, .int .i64 qw, .int .i64 qx, .int .i64 qy, .bool qz, .int .i64 q10, .int .i64 q11]))) ∧
 ((decide (qf = 0)) = false → R (.returned (.bool false)) (putCells (putCells (drewW (allocW u11 hole)) t_b (t_o + 0) ([.int .i64 q6, .slice q7 q8 q9, .string qa, .bool qb])) t_b (t_o + 4) ([.int .i64 qr, .int .i64 qs, .slice qt qu qv, .int .i64 qw, .int .i64 qx, .int .i64 qy, .bool qz, .int .i64 q10, .int .i64 q11]))))))
set_option maxRecDepth 100000 in
theorem vc_fenestratop_terminal_get_eq (t_b t_o : Nat) (s : ByteArray) (u : World) (R : Ending → World → Prop) : wFunc cx_fenestratop_terminal_get Tryd.f23 [.pointer (some ⟨t_b, t_o, none⟩), .string s] u R = vc_fenestratop_terminal_get t_b t_o s u R := by kernel_rfl
theorem vc_fenestratop_terminal_get_spec (t_b t_o : Nat) (s : ByteArray) {u : World} {R : Ending → World → Prop} (h : vc_fenestratop_terminal_get t_b t_o s u R) : Spec Tryd.prog fn_fenestratop_terminal_get #[.pointer (some ⟨t_b, t_o, none⟩), .string s] u R := func_spec (C := cx_fenestratop_terminal_get) (fn := Tryd.f23) (args := [.pointer (some ⟨t_b, t_o, none⟩), .string s]) (ctxOk _ _ _ _ _) Tryd.func23 (vc_fenestratop_terminal_get_eq t_b t_o s u R) h

end Go.Proofs.YtkmmphkjmamckabDoor

namespace Go.Proofs.YtkmmphkjmamckabDoor
open Go
set_option linter.all false

/-- fenestra/fenestratop.sameCells -/
noncomputable def cx_fenestratop_sameCells : Ctx := ⟨Tryd.prog, tab, [], [], [], fns, [(4, ⟨[.keep, .keep, .keep, .keep, .junk, .junk, .keep, .keep, .keep, .keep, .keep, .keep, .keep, .keep, .keep, .keep, .keep, .keep, .keep, .keep, .keep, .keep, .keep, .keep, .keep, .keep, .keep, .keep, .keep, .keep, .cell (.int .i64), .junk, .junk, .junk, .junk, .junk, .junk, .junk, .junk, .junk, .junk, .junk, .junk, .junk, .junk], [.keep, .keep]⟩)], []⟩
def vc_fenestratop_sameCells (a_Wide : Int) (a_High : Int) (a_Cells_p : Option Addr) (a_Cells_n a_Cells_c : Nat) (a_Row : Int) (a_Col : Int) (a_Ink : Int) (a_Bold : Bool) (a_Top : Int) (a_Bottom : Int) (b_Wide : Int) (b_High : Int) (b_Cells_p : Option Addr) (b_Cells_n b_Cells_c : Nat) (b_Row : Int) (b_Col : Int) (b_Ink : Int) (b_Bold : Bool) (b_Top : Int) (b_Bottom : Int) (u : World) (R : Ending → World → Prop) : Prop :=
 (((!decide (a_Wide = b_Wide)) = true → R (.returned (.bool false)) (allocW (allocW u hole) hole)) ∧
 ((!decide (a_Wide = b_Wide)) = false → (((!decide (a_High = b_High)) = true →
 R (.returned (.bool false)) (allocW (allocW u hole) hole)) ∧ ((!decide (a_High = b_High)) = false →
 (((!decide (((a_Cells_n : Nat) : Int) = ((b_Cells_n : Nat) : Int))) = true →
 R (.returned (.bool false)) (allocW (allocW u hole) hole)) ∧ ((!decide (((a_Cells_n : Nat) : Int) = ((b_Cells_n : Nat) : Int))) = false →
 ∃ (I_ : Int → World → Prop) (M_ : Int → World → Nat), ((Loc.mk 47 false ([.int .i64 a_Wide, .int .i64 a_High, .slice a_Cells_p a_Cells_n a_Cells_c, .int .i64 a_Row, .int .i64 a_Col, .int .i64 a_Ink, .bool a_Bold, .int .i64 a_Top, .int .i64 a_Bottom])) = (Loc.mk 47 false ([.int .i64 a_Wide, .int .i64 a_High, .slice a_Cells_p a_Cells_n a_Cells_c, .int .i64 a_Row, .int .i64 a_Col, .int .i64 a_Ink, .bool a_Bold, .int .i64 a_Top, .int .i64 a_Bottom])) ∧
 (Loc.mk 47 false ([.int .i64 b_Wide, .int .i64 b_High, .slice b_Cells_p b_Cells_n b_Cells_c, .int .i64 b_Row, .int .i64 b_Col, .int .i64 b_Ink, .bool b_Bold, .int .i64 b_Top, .int .i64 b_Bottom])) = (Loc.mk 47 false ([.int .i64 b_Wide, .int .i64 b_High, .slice b_Cells_p b_Cells_n b_Cells_c, .int .i64 b_Row, .int .i64 b_Col, .int .i64 b_Ink, .bool b_Bold, .int .i64 b_Top, .int .i64 b_Bottom])) ∧
 I_ 0 (allocW (allocW u hole) hole)) ∧ ∀ (q0 : Int), (Loc.mk 47 false ([.int .i64 a_Wide, .int .i64 a_High, .slice a_Cells_p a_Cells_n a_Cells_c, .int .i64 a_Row, .int .i64 a_Col, .int .i64 a_Ink, .bool a_Bold, .int .i64 a_Top, .int .i64 a_Bottom])) = (Loc.mk 47 false ([.int .i64 a_Wide, .int .i64 a_High, .slice a_Cells_p a_Cells_n a_Cells_c, .int .i64 a_Row, .int .i64 a_Col, .int .i64 a_Ink, .bool a_Bold, .int .i64 a_Top, .int .i64 a_Bottom])) ∧
 (Loc.mk 47 false ([.int .i64 b_Wide, .int .i64 b_High, .slice b_Cells_p b_Cells_n b_Cells_c, .int .i64 b_Row, .int .i64 b_Col, .int .i64 b_Ink, .bool b_Bold, .int .i64 b_Top, .int .i64 b_Bottom])) = (Loc.mk 47 false ([.int .i64 b_Wide, .int .i64 b_High, .slice b_Cells_p b_Cells_n b_Cells_c, .int .i64 b_Row, .int .i64 b_Col, .int .i64 b_Ink, .bool b_Bold, .int .i64 b_Top, .int .i64 b_Bottom])) ∧
 ∀ u1 : World, I_ q0 u1 → (((decide (q0 < ((a_Cells_n : Nat) : Int))) = true →
 ∃ b o, a_Cells_p = some ⟨b, o, none⟩ ∧ 0 ≤ q0 ∧ q0 < ((a_Cells_n : Nat) : Int) ∧
 ∃ (q1 q2 q3 : Int) (q4 : Bool), 4 = szN 4 ∧
 Rd (drewW u1) b (o + q0.toNat * 4) ([.int .i64 q1, .int .i64 q2, .int .i64 q3, .bool q4]) ∧
 ∃ b1 o1, b_Cells_p = some ⟨b1, o1, none⟩ ∧ 0 ≤ q0 ∧ q0 < ((b_Cells_n : Nat) : Int) ∧
 ∃ (q5 q6 q7 : Int) (q8 : Bool), 4 = szN 4 ∧
 Rd (drewW u1) b1 (o1 + q0.toNat * 4) ([.int .i64 q5, .int .i64 q6, .int .i64 q7, .bool q8]) ∧
 (((!(decide (q1 = q5) && (decide (q2 = q6) && (decide (q3 = q7) && (q4 == q8))))) = true →
 R (.returned (.bool false)) (drewW u1)) ∧ ((!(decide (q1 = q5) && (decide (q2 = q6) && (decide (q3 = q7) && (q4 == q8))))) = false →
 inK .i64 (q0 + 1) ∧ (Loc.mk 47 false ([.int .i64 a_Wide, .int .i64 a_High, .slice a_Cells_p a_Cells_n a_Cells_c, .int .i64 a_Row, .int .i64 a_Col, .int .i64 a_Ink, .bool a_Bold, .int .i64 a_Top, .int .i64 a_Bottom])) = (Loc.mk 47 false ([.int .i64 a_Wide, .int .i64 a_High, .slice a_Cells_p a_Cells_n a_Cells_c, .int .i64 a_Row, .int .i64 a_Col, .int .i64 a_Ink, .bool a_Bold, .int .i64 a_Top, .int .i64 a_Bottom])) ∧
 (Loc.mk 47 false ([.int .i64 b_Wide, .int .i64 b_High, .slice b_Cells_p b_Cells_n b_Cells_c, .int .i64 b_Row, .int .i64 b_Col, .int .i64 b_Ink, .bool b_Bold, .int .i64 b_Top, .int .i64 b_Bottom])) = (Loc.mk 47 false ([.int .i64 b_Wide, .int .i64 b_High, .slice b_Cells_p b_Cells_n b_Cells_c, .int .i64 b_Row, .int .i64 b_Col, .int .i64 b_Ink, .bool b_Bold, .int .i64 b_Top, .int .i64 b_Bottom])) ∧
 I_ (q0 + 1) (drewW u1) ∧ (Loc.mk 47 false ([.int .i64 a_Wide, .int .i64 a_High, .slice a_Cells_p a_Cells_n a_Cells_c, .int .i64 a_Row, .int .i64 a_Col, .int .i64 a_Ink, .bool a_Bold, .int .i64 a_Top, .int .i64 a_Bottom])) = (Loc.mk 47 false ([.int .i64 a_Wide, .int .i64 a_High, .slice a_Cells_p a_Cells_n a_Cells_c, .int .i64 a_Row, .int .i64 a_Col, .int .i64 a_Ink, .bool a_Bold, .int .i64 a_Top, .int .i64 a_Bottom])) ∧
 (Loc.mk 47 false ([.int .i64 b_Wide, .int .i64 b_High, .slice b_Cells_p b_Cells_n b_Cells_c, .int .i64 b_Row, .int .i64 b_Col, .int .i64 b_Ink, .bool b_Bold, .int .i64 b_Top, .int .i64 b_Bottom])) = (Loc.mk 47 false ([.int .i64 b_Wide, .int .i64 b_High, .slice b_Cells_p b_Cells_n b_Cells_c, .int .i64 b_Row, .int .i64 b_Col, .int .i64 b_Ink, .bool b_Bold, .int .i64 b_Top, .int .i64 b_Bottom])) ∧
 M_ (q0 + 1) (drewW u1) < M_ q0 u1))) ∧ ((decide (q0 < ((a_Cells_n : Nat) : Int))) = false →
 R (.returned (.bool true)) u1))))))))
set_option maxRecDepth 100000 in
theorem vc_fenestratop_sameCells_eq (a_Wide : Int) (a_High : Int) (a_Cells_p : Option Addr) (a_Cells_n a_Cells_c : Nat) (a_Row : Int) (a_Col : Int) (a_Ink : Int) (a_Bold : Bool) (a_Top : Int) (a_Bottom : Int) (b_Wide : Int) (b_High : Int) (b_Cells_p : Option Addr) (b_Cells_n b_Cells_c : Nat) (b_Row : Int) (b_Col : Int) (b_Ink : Int) (b_Bold : Bool) (b_Top : Int) (b_Bottom : Int) (u : World) (R : Ending → World → Prop) : wFunc cx_fenestratop_sameCells Tryd.f26 [.agg #[.int .i64 a_Wide, .int .i64 a_High, .slice a_Cells_p a_Cells_n a_Cells_c, .int .i64 a_Row, .int .i64 a_Col, .int .i64 a_Ink, .bool a_Bold, .int .i64 a_Top, .int .i64 a_Bottom], .agg #[.int .i64 b_Wide, .int .i64 b_High, .slice b_Cells_p b_Cells_n b_Cells_c, .int .i64 b_Row, .int .i64 b_Col, .int .i64 b_Ink, .bool b_Bold, .int .i64 b_Top, .int .i64 b_Bottom]] u R = vc_fenestratop_sameCells a_Wide a_High a_Cells_p a_Cells_n a_Cells_c a_Row a_Col a_Ink a_Bold a_Top a_Bottom b_Wide b_High b_Cells_p b_Cells_n b_Cells_c b_Row b_Col b_Ink b_Bold b_Top b_Bottom u R := by kernel_rfl
theorem vc_fenestratop_sameCells_spec (a_Wide : Int) (a_High : Int) (a_Cells_p : Option Addr) (a_Cells_n a_Cells_c : Nat) (a_Row : Int) (a_Col : Int) (a_Ink : Int) (a_Bold : Bool) (a_Top : Int) (a_Bottom : Int) (b_Wide : Int) (b_High : Int) (b_Cells_p : Option Addr) (b_Cells_n b_Cells_c : Nat) (b_Row : Int) (b_Col : Int) (b_Ink : Int) (b_Bold : Bool) (b_Top : Int) (b_Bottom : Int) {u : World} {R : Ending → World → Prop} (h : vc_fenestratop_sameCells a_Wide a_High a_Cells_p a_Cells_n a_Cells_c a_Row a_Col a_Ink a_Bold a_Top a_Bottom b_Wide b_High b_Cells_p b_Cells_n b_Cells_c b_Row b_Col b_Ink b_Bold b_Top b_Bottom u R) : Spec Tryd.prog fn_fenestratop_sameCells #[.agg #[.int .i64 a_Wide, .int .i64 a_High, .slice a_Cells_p a_Cells_n a_Cells_c, .int .i64 a_Row, .int .i64 a_Col, .int .i64 a_Ink, .bool a_Bold, .int .i64 a_Top, .int .i64 a_Bottom], .agg #[.int .i64 b_Wide, .int .i64 b_High, .slice b_Cells_p b_Cells_n b_Cells_c, .int .i64 b_Row, .int .i64 b_Col, .int .i64 b_Ink, .bool b_Bold, .int .i64 b_Top, .int .i64 b_Bottom]] u R := func_spec (C := cx_fenestratop_sameCells) (fn := Tryd.f26) (args := [.agg #[.int .i64 a_Wide, .int .i64 a_High, .slice a_Cells_p a_Cells_n a_Cells_c, .int .i64 a_Row, .int .i64 a_Col, .int .i64 a_Ink, .bool a_Bold, .int .i64 a_Top, .int .i64 a_Bottom], .agg #[.int .i64 b_Wide, .int .i64 b_High, .slice b_Cells_p b_Cells_n b_Cells_c, .int .i64 b_Row, .int .i64 b_Col, .int .i64 b_Ink, .bool b_Bold, .int .i64 b_Top, .int .i64 b_Bottom]]) (ctxOk _ _ _ _ _) Tryd.func26 (vc_fenestratop_sameCells_eq a_Wide a_High a_Cells_p a_Cells_n a_Cells_c a_Row a_Col a_Ink a_Bold a_Top a_Bottom b_Wide b_High b_Cells_p b_Cells_n b_Cells_c b_Row b_Col b_Ink b_Bold b_Top b_Bottom u R) h

end Go.Proofs.YtkmmphkjmamckabDoor

namespace Go.Proofs.YtkmmphkjmamckabDoor
open Go
set_option linter.all false

/-- fenestra/fenestratop.shown -/
noncomputable def cx_fenestratop_shown : Ctx := ⟨Tryd.prog, tab, [4], [], [], fns, [], []⟩
def vc_fenestratop_shown (s_b s_o : Nat) (t : List Value) (c : Int) (u : World) (R : Ending → World → Prop) : Prop :=
 Spec Tryd.prog 11 #[.pointer (some ⟨s_b, s_o, none⟩), .int .i64 c] (allocW u (.cells t.toArray 49)) (fun e u1 => ∃ (q0 : ByteArray) (q1 q2 : Bool), e = .returned (.tuple #[.string q0, .bool q1, .bool q2]) ∧
 Spec Tryd.prog 23 #[.pointer (some ⟨u.heap.size, 0, none⟩), .string q0] u1 (fun e u11 => ∃ (q3 : Bool), e = .returned (.bool q3) ∧
 (((!q3) = true → R (.returned (.bool false)) u11) ∧ ((!q3) = false →
 ∃ (q4 : Int), 1 = szN 1 ∧ Rd u11 u.heap.size (0 + 0 + 0) ([.int .i64 q4]) ∧
 (((!decide (q4 = 0)) = true → R (.returned (.bool false)) u11) ∧
 ((!decide (q4 = 0)) = false → ∃ (q5 : Int), 1 = szN 1 ∧
 Rd (drewW u11) u.heap.size (0 + 4 + 0) ([.int .i64 q5]) ∧ ∃ (q6 : Int), 1 = szN 1 ∧
 Rd (drewW u11) u.heap.size (0 + 4 + 1) ([.int .i64 q6]) ∧ ((Spec Tryd.prog 25 #[.pointer (some ⟨s_b, s_o, none⟩)] (drewW u11) (fun e u12 => ∃ (q7 : List Value), e = .returned (.agg q7.toArray) ∧
 Rd u12 u.heap.size (0 + 4 + 1) ([.int .i64 q6]) ∧ Rd u12 u.heap.size (0 + 4 + 0) ([.int .i64 q5]) ∧
 ((Spec Tryd.prog 24 #[.agg q7.toArray, .int .i64 q5, .int .i64 q6] u12 (fun e u13 => ∃ (q8 q9 : Int) (qa : Option Addr) (qb qc : Nat) (qd qe qf : Int) (qg : Bool) (qh qi : Int), e = .returned (.agg #[.int .i64 q8, .int .i64 q9, .slice qa qb qc, .int .i64 qd, .int .i64 qe, .int .i64 qf, .bool qg, .int .i64 qh, .int .i64 qi]) ∧
 Rd (allocW u13 hole) u.heap.size (0 + 4 + 1) ([.int .i64 q6]) ∧
 Rd (allocW u13 hole) u.heap.size (0 + 4 + 0) ([.int .i64 q5]) ∧
 ∃ (qj qk : Int) (ql : Option Addr) (qm qn : Nat) (qo qp qq : Int) (qr : Bool) (qs qt : Int), 9 = szN 9 ∧
 Rd (allocW u13 hole) u.heap.size (0 + 4) ([.int .i64 qj, .int .i64 qk, .slice ql qm qn, .int .i64 qo, .int .i64 qp, .int .i64 qq, .bool qr, .int .i64 qs, .int .i64 qt]) ∧
 Spec Tryd.prog 26 #[.agg #[.int .i64 qj, .int .i64 qk, .slice ql qm qn, .int .i64 qo, .int .i64 qp, .int .i64 qq, .bool qr, .int .i64 qs, .int .i64 qt], .agg #[.int .i64 q8, .int .i64 q9, .slice qa qb qc, .int .i64 qd, .int .i64 qe, .int .i64 qf, .bool qg, .int .i64 qh, .int .i64 qi]] (allocW u13 hole) (fun e u14 => ∃ (qu : Bool), e = .returned (.bool qu) ∧
 ((qu = true → ∃ (qv : Int), 1 = szN 1 ∧
 Rd u14 u.heap.size (0 + 4 + 3) ([.int .i64 qv]) ∧ (((decide (qv = qd)) = true →
 ∃ (qw : Int), 1 = szN 1 ∧ Rd u14 u.heap.size (0 + 4 + 4) ([.int .i64 qw]) ∧
 R (.returned (.bool (decide (qw = qe)))) u14) ∧ ((decide (qv = qd)) = false →
 R (.returned (.bool false)) u14))) ∧ (qu = false → R (.returned (.bool false)) u14))))) ∧
 (Rd (allocW u12 hole) u.heap.size (0 + 4 + 1) ([.int .i64 q6]) ∧
 Rd (allocW u12 hole) u.heap.size (0 + 4 + 0) ([.int .i64 q5]) ∧
 Spec Tryd.prog 24 #[.agg q7.toArray, .int .i64 q5, .int .i64 q6] (allocW u12 hole) (fun e u15 => ∃ (qx qy : Int) (qz : Option Addr) (q10 q11 : Nat) (q12 q13 q14 : Int) (q15 : Bool) (q16 q17 : Int), e = .returned (.agg #[.int .i64 qx, .int .i64 qy, .slice qz q10 q11, .int .i64 q12, .int .i64 q13, .int .i64 q14, .bool q15, .int .i64 q16, .int .i64 q17]) ∧
 ∃ (q18 q19 : Int) (q1a : Option Addr) (q1b q1c : Nat) (q1d q1e q1f : Int) (q1g : Bool) (q1h q1i : Int), 9 = szN 9 ∧
 Rd u15 u.heap.size (0 + 4) ([.int .i64 q18, .int .i64 q19, .slice q1a q1b q1c, .int .i64 q1d, .int .i64 q1e, .int .i64 q1f, .bool q1g, .int .i64 q1h, .int .i64 q1i]) ∧
 Spec Tryd.prog 26 #[.agg #[.int .i64 q18, .int .i64 q19, .slice q1a q1b q1c, .int .i64 q1d, .int .i64 q1e, .int .i64 q1f, .bool q1g, .int .i64 q1h, .int .i64 q1i], .agg #[.int .i64 qx, .int .i64 qy, .slice qz q10 q11, .int .i64 q12, .int .i64 q13, .int .i64 q14, .bool q15, .int .i64 q16, .int .i64 q17]] u15 (fun e u16 => ∃ (q1j : Bool), e = .returned (.bool q1j) ∧
 ((q1j = true → ∃ (q1k : Int), 1 = szN 1 ∧
 Rd u16 u.heap.size (0 + 4 + 3) ([.int .i64 q1k]) ∧ (((decide (q1k = q12)) = true →
 ∃ (q1l : Int), 1 = szN 1 ∧ Rd u16 u.heap.size (0 + 4 + 4) ([.int .i64 q1l]) ∧
 R (.returned (.bool (decide (q1l = q13)))) u16) ∧ ((decide (q1k = q12)) = false →
 R (.returned (.bool false)) u16))) ∧ (q1j = false → R (.returned (.bool false)) u16)))))))) ∧
 (Rd (allocW (drewW u11) hole) u.heap.size (0 + 4 + 1) ([.int .i64 q6]) ∧
 Rd (allocW (drewW u11) hole) u.heap.size (0 + 4 + 0) ([.int .i64 q5]) ∧
 Spec Tryd.prog 25 #[.pointer (some ⟨s_b, s_o, none⟩)] (allocW (drewW u11) hole) (fun e u17 => ∃ (q1m : List Value), e = .returned (.agg q1m.toArray) ∧
 Rd u17 u.heap.size (0 + 4 + 1) ([.int .i64 q6]) ∧ Rd u17 u.heap.size (0 + 4 + 0) ([.int .i64 q5]) ∧
 Spec Tryd.prog 24 #[.agg q1m.toArray, .int .i64 q5, .int .i64 q6] u17 (fun e u18 => ∃ (q1n q1o : Int) (q1p : Option Addr) (q1q q1r : Nat) (q1s q1t q1u : Int) (q1v : Bool) (q1w q1x : Int), e = .returned (.agg #[.int .i64 q1n, .int .i64 q1o, .slice q1p q1q q1r, .int .i64 q1s, .int .i64 q1t, .int .i64 q1u, .bool q1v, .int .i64 q1w, .int .i64 q1x]) ∧
 ∃ (q1y q1z : Int) (q20 : Option Addr) (q21 q22 : Nat) (q23 q24 q25 : Int) (q26 : Bool) (q27 q28 : Int), 9 = szN 9 ∧
 Rd u18 u.heap.size (0 + 4) ([.int .i64 q1y, .int .i64 q1z, .slice q20 q21 q22, .int .i64 q23, .int .i64 q24, .int .i64 q25, .bool q26, .int .i64 q27, .int .i64 q28]) ∧
 Spec Tryd.prog 26 #[.agg #[.int .i64 q1y, .int .i64 q1z, .slice q20 q21 q22, .int .i64 q23, .int .i64 q24, .int .i64 q25, .bool q26, .int .i64 q27, .int .i64 q28], .agg #[.int .i64 q1n, .int .i64 q1o, .slice q1p q1q q1r, .int .i64 q1s, .int .i64 q1t, .int .i64 q1u, .bool q1v, .int .i64 q1w, .int .i64 q1x]] u18 (fun e u19 => ∃ (q29 : Bool), e = .returned (.bool q29) ∧
 ((q29 = true → ∃ (q2a : Int), 1 = szN 1 ∧
 Rd u19 u.heap.size (0 + 4 + 3) ([.int .i64 q2a]) ∧ (((decide (q2a = q1s)) = true →
 ∃ (q2b : Int), 1 = szN 1 ∧ Rd u19 u.heap.size (0 + 4 + 4) ([.int .i64 q2b]) ∧
 R (.returned (.bool (decide (q2b = q1t)))) u19) ∧ ((decide (q2a = q1s)) = false →
 R (.returned (.bool false)) u19))) ∧ (q29 = false → R (.returned (.bool false)) u19)))))))))))))
set_option maxRecDepth 100000 in
theorem vc_fenestratop_shown_eq (s_b s_o : Nat) (t : List Value) (c : Int) (u : World) (R : Ending → World → Prop) : wFunc cx_fenestratop_shown Tryd.f12 [.pointer (some ⟨s_b, s_o, none⟩), .agg t.toArray, .int .i64 c] u R = vc_fenestratop_shown s_b s_o t c u R := by kernel_rfl
theorem vc_fenestratop_shown_spec (s_b s_o : Nat) (t : List Value) (c : Int) {u : World} {R : Ending → World → Prop} (h : vc_fenestratop_shown s_b s_o t c u R) : Spec Tryd.prog fn_fenestratop_shown #[.pointer (some ⟨s_b, s_o, none⟩), .agg t.toArray, .int .i64 c] u R := func_spec (C := cx_fenestratop_shown) (fn := Tryd.f12) (args := [.pointer (some ⟨s_b, s_o, none⟩), .agg t.toArray, .int .i64 c]) (ctxOk _ _ _ _ _) Tryd.func12 (vc_fenestratop_shown_eq s_b s_o t c u R) h

end Go.Proofs.YtkmmphkjmamckabDoor

