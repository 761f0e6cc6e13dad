/-
  Texts that belong together, joined: VTop, VTopS, VTopW, VPlayQ.
-/
import Derived.Test.YtkmmphkjmamckaaDoorCtx
namespace Go.Proofs.YtkmmphkjmamckaaDoor
open Go
set_option linter.all false

/-- fenestra/fenestratop.alive -/
noncomputable def cx_fenestratop_alive : Ctx := ⟨Tryd.prog, tab, [], [], [], fns, [], []⟩
def vc_fenestratop_alive  (u : World) (R : Ending → World → Prop) : Prop :=
 Spec Tryd.prog 8 #[] u (fun e u1 => ∃ (q0 q1 : Nat), e = .returned (.pointer (some ⟨q0, q1, none⟩)) ∧
 (((Option.isNone (some (Addr.mk q0 q1 none))) = true → R (.returned (.bool false)) u1) ∧
 ((Option.isNone (some (Addr.mk q0 q1 none))) = false → Spec Tryd.prog 9 #[.pointer (some ⟨q0, q1, none⟩), .agg #[.int .i64 6, .int .i64 1, .int .i64 10, .int .i64 3, .string (ByteArray.mk #[])]] u1 (fun e u11 => ∃ (q2 q3 : Int) (q4 : ByteArray), e = .returned (.agg #[.int .i64 q2, .int .i64 q3, .string q4]) ∧
 Spec Tryd.prog 9 #[.pointer (some ⟨q0, q1, none⟩), .agg #[.int .i64 3, .int .i64 0, .int .i64 0, .int .i64 0, .string (ByteArray.mk #[120])]] (allocW u11 hole) (fun e u12 => ∃ (q5 q6 : Int) (q7 : ByteArray), e = .returned (.agg #[.int .i64 q5, .int .i64 q6, .string q7]) ∧
 Spec Tryd.prog 9 #[.pointer (some ⟨q0, q1, none⟩), .agg #[.int .i64 8, .int .i64 0, .int .i64 0, .int .i64 0, .string (ByteArray.mk #[])]] (allocW u12 hole) (fun e u13 => ∃ (q8 q9 : Int) (qa : ByteArray), e = .returned (.agg #[.int .i64 q8, .int .i64 q9, .string qa]) ∧
 Spec Tryd.prog 6 #[.pointer (some ⟨q0, q1, none⟩), .int .i64 1] (allocW u13 hole) (fun e u14 => ∃ (qb : ByteArray) (qc qd : Bool), e = .returned (.tuple #[.string qb, .bool qc, .bool qd]) ∧
 (((decide (q2 = 0)) = true → (((decide (q5 = 0)) = true →
 (((decide (q8 = 0)) = true → (((decide ((0 : Int) < ((qb.size : Nat) : Int))) = true →
 (((!qc) = true → R (.returned (.bool qd)) u14) ∧ ((!qc) = false →
 R (.returned (.bool false)) u14))) ∧ ((decide ((0 : Int) < ((qb.size : Nat) : Int))) = false →
 R (.returned (.bool false)) u14))) ∧ ((decide (q8 = 0)) = false →
 R (.returned (.bool false)) u14))) ∧ ((decide (q5 = 0)) = false →
 R (.returned (.bool false)) u14))) ∧ ((decide (q2 = 0)) = false →
 R (.returned (.bool false)) u14)))))))))
set_option maxRecDepth 100000 in
theorem vc_fenestratop_alive_eq  (u : World) (R : Ending → World → Prop) : wFunc cx_fenestratop_alive Tryd.f7 [] u R = vc_fenestratop_alive  u R := by kernel_rfl
theorem vc_fenestratop_alive_spec  {u : World} {R : Ending → World → Prop} (h : vc_fenestratop_alive  u R) : Spec Tryd.prog fn_fenestratop_alive #[] u R := func_spec (C := cx_fenestratop_alive) (fn := Tryd.f7) (args := []) (ctxOk _ _ _ _ _) Tryd.func7 (vc_fenestratop_alive_eq  u R) h

/-- (*fenestra/fenestratop.terminal).get -/
noncomputable def cx_fenestratop_terminal_get : Ctx := ⟨Tryd.prog, tab, [], [], [], fns, [], []⟩
def vc_fenestratop_terminal_get (t_b t_o : Nat) (s : ByteArray) (u : World) (R : Ending → World → Prop) : Prop :=
 ∃ (q0 : Int) (q1 : Option Addr) (q2 q3 : Nat) (q4 : ByteArray) (q5 : Bool), 4 = szN 4 ∧
 Rd u t_b (t_o + 0) ([.int .i64 q0, .slice q1 q2 q3, .string q4, .bool q5]) ∧
 Spec Tryd.prog 17 #[.agg #[.int .i64 q0, .slice q1 q2 q3, .string q4, .bool q5], .string s] u (fun e u1 => ∃ (q6 : Int) (q7 : Option Addr) (q8 q9 : Nat) (qa : ByteArray) (qb : Bool) (qc : Option Addr) (qd qe : Nat) (qf : Int), e = .returned (.tuple #[.agg #[.int .i64 q6, .slice q7 q8 q9, .string qa, .bool qb], .slice qc qd qe, .int .i64 qf]) ∧
 ∃ (qg qh : Int) (qi : Option Addr) (qj qk : Nat) (ql qm qn : Int) (qo : Bool) (qp qq : Int), 9 = szN 9 ∧
 Rd (allocW u1 hole) t_b (t_o + 4) ([.int .i64 qg, .int .i64 qh, .slice qi qj qk, .int .i64 ql, .int .i64 qm, .int .i64 qn, .bool qo, .int .i64 qp, .int .i64 qq]) ∧
 Spec Tryd.prog 18 #[.agg #[.int .i64 qg, .int .i64 qh, .slice qi qj qk, .int .i64 ql, .int .i64 qm, .int .i64 qn, .bool qo, .int .i64 qp, .int .i64 qq], .slice qc qd qe] (allocW u1 hole) (fun e u11 => ∃ (qr qs : Int) (qt : Option Addr) (qu qv : Nat) (qw qx qy : Int) (qz : Bool) (q10 q11 q12 : Int), e = .returned (.tuple #[.agg #[.int .i64 qr, .int .i64 qs, .slice qt qu qv, .int .i64 qw, .int .i64 qx, .int .i64 qy, .bool qz, .int .i64 q10, .int .i64 q11], .int .i64 q12]) ∧
 4 = szN 4 ∧
 Wr (drewW (allocW u11 hole)) t_b (t_o + 0) 4 ∧ 9 = szN 9 ∧
 Wr (putCells (drewW (allocW u11 hole)) t_b (t_o + 0) ([.int .i64 q6, .slice q7 q8 q9, .string qa, .bool qb])) t_b (t_o + 4) 9 ∧
 (((decide (qf = 0)) = true → R (.returned (.bool (decide (q12 = 0)))) (putCells (putCells (drewW (allocW u11 hole)) t_b (t_o + 0) ([.int .i64 q6, .slice q7 q8 q9, .string qa, .bool qb])) t_b (t_o + 4) ([.int .i64 qr, .int .i64 qs, .slice qt qu qv, .int .i64 qw, .int .i64 qx, .int .i64 qy, .bool qz, .int .i64 q10, .int .i64 q11]))) ∧
 ((decide (qf = 0)) = false → R (.returned (.bool false)) (putCells (putCells (drewW (allocW u11 hole)) t_b (t_o + 0) ([.int .i64 q6, .slice q7 q8 q9, .string qa, .bool qb])) t_b (t_o + 4) ([.int .i64 qr, .int .i64 qs, .slice qt qu qv, .int .i64 qw, .int .i64 qx, .int .i64 qy, .bool qz, .int .i64 q10, .int .i64 q11]))))))
set_option maxRecDepth 100000 in
theorem vc_fenestratop_terminal_get_eq (t_b t_o : Nat) (s : ByteArray) (u : World) (R : Ending → World → Prop) : wFunc cx_fenestratop_terminal_get Tryd.f11 [.pointer (some ⟨t_b, t_o, none⟩), .string s] u R = vc_fenestratop_terminal_get t_b t_o s u R := by kernel_rfl
theorem vc_fenestratop_terminal_get_spec (t_b t_o : Nat) (s : ByteArray) {u : World} {R : Ending → World → Prop} (h : vc_fenestratop_terminal_get t_b t_o s u R) : Spec Tryd.prog fn_fenestratop_terminal_get #[.pointer (some ⟨t_b, t_o, none⟩), .string s] u R := func_spec (C := cx_fenestratop_terminal_get) (fn := Tryd.f11) (args := [.pointer (some ⟨t_b, t_o, none⟩), .string s]) (ctxOk _ _ _ _ _) Tryd.func11 (vc_fenestratop_terminal_get_eq t_b t_o s u R) h

end Go.Proofs.YtkmmphkjmamckaaDoor

