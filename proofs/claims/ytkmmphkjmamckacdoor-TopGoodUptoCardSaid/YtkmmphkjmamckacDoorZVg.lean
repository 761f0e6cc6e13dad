/-
  Texts that belong together, joined: VTopG, VTopG1.
-/
import Derived.Test.YtkmmphkjmamckacDoorCtx
namespace Go.Proofs.YtkmmphkjmamckacDoor
open Go
set_option linter.all false

/-- fenestra/fenestratop.TopGood -/
noncomputable def cx_fenestratop_TopGood : Ctx := ⟨Tryd.prog, tab, [], [], [], fns, [], []⟩
def vc_fenestratop_TopGood (l_p : Option Addr) (l_n l_c : Nat) (u : World) (R : Ending → World → Prop) : Prop :=
 Spec Tryd.prog 24 #[.slice l_p l_n l_c, .func (.func 35) #[] #[]] u (fun e u1 => ∃ (q0 q1 q2 q3 : Nat) (q4 : Bool), e = .returned (.tuple #[.pointer (some ⟨q0, q1, none⟩), .pointer (some ⟨q2, q3, none⟩), .bool q4]) ∧
 R (.returned (.bool q4)) u1)
set_option maxRecDepth 100000 in
theorem vc_fenestratop_TopGood_eq (l_p : Option Addr) (l_n l_c : Nat) (u : World) (R : Ending → World → Prop) : wFunc cx_fenestratop_TopGood Tryd.f10 [.slice l_p l_n l_c] u R = vc_fenestratop_TopGood l_p l_n l_c u R := by kernel_rfl
theorem vc_fenestratop_TopGood_spec (l_p : Option Addr) (l_n l_c : Nat) {u : World} {R : Ending → World → Prop} (h : vc_fenestratop_TopGood l_p l_n l_c u R) : Spec Tryd.prog fn_fenestratop_TopGood #[.slice l_p l_n l_c] u R := func_spec (C := cx_fenestratop_TopGood) (fn := Tryd.f10) (args := [.slice l_p l_n l_c]) (ctxOk _ _ _ _ _) Tryd.func10 (vc_fenestratop_TopGood_eq l_p l_n l_c u R) h

end Go.Proofs.YtkmmphkjmamckacDoor

namespace Go.Proofs.YtkmmphkjmamckacDoor
open Go
set_option linter.all false

/-- fenestra/fenestratop.TopGood$1 -/
noncomputable def cx_fenestratop_TopGood_c1 : Ctx := ⟨Tryd.prog, tab, [], [], [11], fns, [(5, ⟨[.keep, .keep, .keep, .keep, .keep, .keep, .keep, .keep, .junk, .keep, .junk, .junk, .junk, .keep, .keep, .keep, .keep, .keep, .keep, .keep, .keep, .keep, .keep, .keep, .keep, .keep, .keep, .keep, .keep, .keep, .keep, .keep, .keep, .keep, .keep, .keep, .keep, .keep, .keep, .keep, .keep, .keep, .keep, .keep, .keep, .keep, .keep, .keep, .keep, .cell (.int .i64), .junk, .junk, .junk, .junk, .junk, .junk, .junk, .junk, .junk, .junk, .junk, .junk, .junk, .junk, .junk, .junk, .junk, .junk, .junk, .junk, .junk, .junk, .junk, .junk, .junk, .junk, .junk, .junk, .junk, .junk, .junk, .junk, .junk, .junk, .junk, .junk, .junk, .junk, .junk, .junk], [.keep, .keep, .keep]⟩)], []⟩
def vc_fenestratop_TopGood_c1 (s_b s_o : Nat) (t_b t_o : Nat) (a_Kind : Int) (a_P : Int) (a_N : Int) (a_M : Int) (a_Bytes : ByteArray) (r_Code : Int) (r_N : Int) (r_Out : ByteArray) (u : World) (R : Ending → World → Prop) : Prop :=
 Spec Tryd.prog 23 #[.pointer (some ⟨s_b, s_o, none⟩)] (allocW (allocW u hole) hole) (fun e u1 => ∃ (q0 : List Value), e = .returned (.agg q0.toArray) ∧
 58 = q0.length ∧ okCells q0 (∃ cs, putN ([.slice none 0 0, .int .i64 0, .int .i64 0, .slice none 0 0, .int .i64 0, .int .i64 0, .int .i64 0, .bool false, .int .i64 0, .int .i64 0, .int .i64 0, .int .i64 0, .slice none 0 0, .int .i64 0, .int .i64 0, .int .i64 0, .bool false, .int .i64 0, .int .i64 0, .int .i64 0, .int .i64 0, .slice none 0 0, .int .i64 0, .int .i64 0, .int .i64 0, .bool false, .int .i64 0, .int .i64 0, .int .i64 0, .int .i64 0, .slice none 0 0, .int .i64 0, .int .i64 0, .int .i64 0, .bool false, .int .i64 0, .int .i64 0, .int .i64 0, .int .i64 0, .slice none 0 0, .int .i64 0, .int .i64 0, .int .i64 0, .bool false, .int .i64 0, .int .i64 0, .int .i64 0, .int .i64 0, .slice none 0 0, .int .i64 0, .int .i64 0, .int .i64 0, .bool false, .int .i64 0, .int .i64 0, .int .i64 0, .int .i64 0, .int .i64 0]) 0 q0 = some cs ∧
 ∃ (q1 : Option Addr) (q2 q3 : Nat), takeN cs 0 1 = some [.slice q1 q2 q3] ∧
 Spec Tryd.prog 36 #[.agg #[.slice q1 q2 q3]] (allocW u1 hole) (fun e u11 => ∃ (q4 : Bool), e = .returned (.bool q4) ∧
 (((!q4) = true → R (.returned (.bool false)) u11) ∧ ((!q4) = false →
 ∃ (q5 : Option Addr) (q6 q7 : Nat), takeN cs 0 1 = some [.slice q5 q6 q7] ∧
 ∃ (q8 : Int), takeN cs 57 1 = some [.int .i64 q8] ∧ Spec Tryd.prog 37 #[.agg #[.slice q5 q6 q7], .int .i64 q8] u11 (fun e u12 => ∃ (q9 : Bool), e = .returned (.bool q9) ∧
 (((!q9) = true → R (.returned (.bool false)) u12) ∧ ((!q9) = false →
 ∃ (qa : Int), takeN cs 55 1 = some [.int .i64 qa] ∧ (((decide (qa < 1)) = true →
 R (.returned (.bool false)) u12) ∧ ((decide (qa < 1)) = false →
 ∃ (qb : Int), takeN cs 55 1 = some [.int .i64 qb] ∧ (((decide ((24 : Int) < qb)) = true →
 R (.returned (.bool false)) u12) ∧ ((decide ((24 : Int) < qb)) = false →
 ∃ (qc : Int), takeN cs 56 1 = some [.int .i64 qc] ∧ (((decide (qc < 1)) = true →
 R (.returned (.bool false)) u12) ∧ ((decide (qc < 1)) = false →
 ∃ (qd : Int), takeN cs 56 1 = some [.int .i64 qd] ∧ (((decide ((10 : Int) < qd)) = true →
 R (.returned (.bool false)) u12) ∧ ((decide ((10 : Int) < qd)) = false →
 ∃ xs : List Value, takeN cs 1 54 = some xs ∧ ∃ (I_ : Int → World →
 Prop) (M_ : Int → World → Nat), ((Loc.mk 35 false ([.int .i64 a_Kind, .int .i64 a_P, .int .i64 a_N, .int .i64 a_M, .string a_Bytes])) = (Loc.mk 35 false ([.int .i64 a_Kind, .int .i64 a_P, .int .i64 a_N, .int .i64 a_M, .string a_Bytes])) ∧
 (Loc.mk 40 false ([.int .i64 r_Code, .int .i64 r_N, .string r_Out])) = (Loc.mk 40 false ([.int .i64 r_Code, .int .i64 r_N, .string r_Out])) ∧
 (Loc.mk 48 true cs) = (Loc.mk 48 true cs) ∧ I_ 0 u12) ∧ ∀ (qe : Int), (Loc.mk 35 false ([.int .i64 a_Kind, .int .i64 a_P, .int .i64 a_N, .int .i64 a_M, .string a_Bytes])) = (Loc.mk 35 false ([.int .i64 a_Kind, .int .i64 a_P, .int .i64 a_N, .int .i64 a_M, .string a_Bytes])) ∧
 (Loc.mk 40 false ([.int .i64 r_Code, .int .i64 r_N, .string r_Out])) = (Loc.mk 40 false ([.int .i64 r_Code, .int .i64 r_N, .string r_Out])) ∧
 (Loc.mk 48 true cs) = (Loc.mk 48 true cs) ∧ ∀ u13 : World, I_ qe u13 →
 (((decide (qe < 6)) = true → 0 ≤ qe ∧ qe < ((6 : Nat) : Int) ∧
 ∃ xs1, takeN xs (qe.toNat * 9) 9 = some xs1 ∧ 9 = xs1.length ∧
 okCells xs1 (∃ cs1, putN ([.int .i64 0, .int .i64 0, .slice none 0 0, .int .i64 0, .int .i64 0, .int .i64 0, .bool false, .int .i64 0, .int .i64 0]) 0 xs1 = some cs1 ∧
 ∃ (qf : Option Addr) (qg qh : Nat), takeN cs 0 1 = some [.slice qf qg qh] ∧
 Spec Tryd.prog 37 #[.agg #[.slice qf qg qh], .int .i64 qe] (allocW u13 hole) (fun e u14 => ∃ (qi : Bool), e = .returned (.bool qi) ∧
 (((!qi) = true → ∃ (qj qk : Int) (ql : Option Addr) (qm qn : Nat) (qo qp qq : Int) (qr : Bool) (qs qt : Int), takeN cs1 0 9 = some [.int .i64 qj, .int .i64 qk, .slice ql qm qn, .int .i64 qo, .int .i64 qp, .int .i64 qq, .bool qr, .int .i64 qs, .int .i64 qt] ∧
 Spec Tryd.prog 32 #[.agg #[.int .i64 qj, .int .i64 qk, .slice ql qm qn, .int .i64 qo, .int .i64 qp, .int .i64 qq, .bool qr, .int .i64 qs, .int .i64 qt], .agg #[.int .i64 0, .int .i64 0, .slice none 0 0, .int .i64 0, .int .i64 0, .int .i64 0, .bool false, .int .i64 0, .int .i64 0]] u14 (fun e u15 => ∃ (qu : Bool), e = .returned (.bool qu) ∧
 (((!qu) = true → R (.returned (.bool false)) u15) ∧ ((!qu) = false →
 inK .i64 (qe + 1) ∧ (Loc.mk 35 false ([.int .i64 a_Kind, .int .i64 a_P, .int .i64 a_N, .int .i64 a_M, .string a_Bytes])) = (Loc.mk 35 false ([.int .i64 a_Kind, .int .i64 a_P, .int .i64 a_N, .int .i64 a_M, .string a_Bytes])) ∧
 (Loc.mk 40 false ([.int .i64 r_Code, .int .i64 r_N, .string r_Out])) = (Loc.mk 40 false ([.int .i64 r_Code, .int .i64 r_N, .string r_Out])) ∧
 (Loc.mk 48 true cs) = (Loc.mk 48 true cs) ∧ I_ (qe + 1) u15 ∧
 (Loc.mk 35 false ([.int .i64 a_Kind, .int .i64 a_P, .int .i64 a_N, .int .i64 a_M, .string a_Bytes])) = (Loc.mk 35 false ([.int .i64 a_Kind, .int .i64 a_P, .int .i64 a_N, .int .i64 a_M, .string a_Bytes])) ∧
 (Loc.mk 40 false ([.int .i64 r_Code, .int .i64 r_N, .string r_Out])) = (Loc.mk 40 false ([.int .i64 r_Code, .int .i64 r_N, .string r_Out])) ∧
 (Loc.mk 48 true cs) = (Loc.mk 48 true cs) ∧ M_ (qe + 1) u15 < M_ qe u13)))) ∧
 ((!qi) = false → ∃ (qv : Option Addr) (qw qx : Nat), takeN cs 0 1 = some [.slice qv qw qx] ∧
 ∃ (qy : Int), takeN cs 55 1 = some [.int .i64 qy] ∧ ∃ (qz : Int), takeN cs 56 1 = some [.int .i64 qz] ∧
 Spec Tryd.prog 33 #[.agg #[.slice qv qw qx], .int .i64 qy, .int .i64 qz, .int .i64 qe] u14 (fun e u16 => ∃ (q10 q11 q12 q13 : Int), e = .returned (.agg #[.int .i64 q10, .int .i64 q11, .int .i64 q12, .int .i64 q13]) ∧
 ∃ (q14 q15 : Int) (q16 : Option Addr) (q17 q18 : Nat) (q19 q1a q1b : Int) (q1c : Bool) (q1d q1e : Int), takeN cs1 0 9 = some [.int .i64 q14, .int .i64 q15, .slice q16 q17 q18, .int .i64 q19, .int .i64 q1a, .int .i64 q1b, .bool q1c, .int .i64 q1d, .int .i64 q1e] ∧
 Spec Tryd.prog 14 #[.agg #[.int .i64 q14, .int .i64 q15, .slice q16 q17 q18, .int .i64 q19, .int .i64 q1a, .int .i64 q1b, .bool q1c, .int .i64 q1d, .int .i64 q1e]] (allocW u16 hole) (fun e u17 => ∃ (q1f : Bool), e = .returned (.bool q1f) ∧
 (((!q1f) = true → R (.returned (.bool false)) u17) ∧ ((!q1f) = false →
 ∃ (q1g : Int), takeN cs1 0 1 = some [.int .i64 q1g] ∧ (((!decide (q1g = (max (1 : Int) q13))) = true →
 R (.returned (.bool false)) u17) ∧ ((!decide (q1g = (max (1 : Int) q13))) = false →
 ∃ (q1h : Int), takeN cs1 1 1 = some [.int .i64 q1h] ∧ (((!decide (q1h = (max (1 : Int) q12))) = true →
 R (.returned (.bool false)) u17) ∧ ((!decide (q1h = (max (1 : Int) q12))) = false →
 inK .i64 (qe + 1) ∧ (Loc.mk 35 false ([.int .i64 a_Kind, .int .i64 a_P, .int .i64 a_N, .int .i64 a_M, .string a_Bytes])) = (Loc.mk 35 false ([.int .i64 a_Kind, .int .i64 a_P, .int .i64 a_N, .int .i64 a_M, .string a_Bytes])) ∧
 (Loc.mk 40 false ([.int .i64 r_Code, .int .i64 r_N, .string r_Out])) = (Loc.mk 40 false ([.int .i64 r_Code, .int .i64 r_N, .string r_Out])) ∧
 (Loc.mk 48 true cs) = (Loc.mk 48 true cs) ∧ I_ (qe + 1) u17 ∧
 (Loc.mk 35 false ([.int .i64 a_Kind, .int .i64 a_P, .int .i64 a_N, .int .i64 a_M, .string a_Bytes])) = (Loc.mk 35 false ([.int .i64 a_Kind, .int .i64 a_P, .int .i64 a_N, .int .i64 a_M, .string a_Bytes])) ∧
 (Loc.mk 40 false ([.int .i64 r_Code, .int .i64 r_N, .string r_Out])) = (Loc.mk 40 false ([.int .i64 r_Code, .int .i64 r_N, .string r_Out])) ∧
 (Loc.mk 48 true cs) = (Loc.mk 48 true cs) ∧ M_ (qe + 1) u17 < M_ qe u13))))))))))))) ∧
 ((decide (qe < 6)) = false → R (.returned (.bool true)) u13))))))))))))))))))
set_option maxRecDepth 100000 in
theorem vc_fenestratop_TopGood_c1_eq (s_b s_o : Nat) (t_b t_o : Nat) (a_Kind : Int) (a_P : Int) (a_N : Int) (a_M : Int) (a_Bytes : ByteArray) (r_Code : Int) (r_N : Int) (r_Out : ByteArray) (u : World) (R : Ending → World → Prop) : wFunc cx_fenestratop_TopGood_c1 Tryd.f35 [.pointer (some ⟨s_b, s_o, none⟩), .pointer (some ⟨t_b, t_o, none⟩), .agg #[.int .i64 a_Kind, .int .i64 a_P, .int .i64 a_N, .int .i64 a_M, .string a_Bytes], .agg #[.int .i64 r_Code, .int .i64 r_N, .string r_Out]] u R = vc_fenestratop_TopGood_c1 s_b s_o t_b t_o a_Kind a_P a_N a_M a_Bytes r_Code r_N r_Out u R := by kernel_rfl
theorem vc_fenestratop_TopGood_c1_spec (s_b s_o : Nat) (t_b t_o : Nat) (a_Kind : Int) (a_P : Int) (a_N : Int) (a_M : Int) (a_Bytes : ByteArray) (r_Code : Int) (r_N : Int) (r_Out : ByteArray) {u : World} {R : Ending → World → Prop} (h : vc_fenestratop_TopGood_c1 s_b s_o t_b t_o a_Kind a_P a_N a_M a_Bytes r_Code r_N r_Out u R) : Spec Tryd.prog fn_fenestratop_TopGood_c1 #[.pointer (some ⟨s_b, s_o, none⟩), .pointer (some ⟨t_b, t_o, none⟩), .agg #[.int .i64 a_Kind, .int .i64 a_P, .int .i64 a_N, .int .i64 a_M, .string a_Bytes], .agg #[.int .i64 r_Code, .int .i64 r_N, .string r_Out]] u R := func_spec (C := cx_fenestratop_TopGood_c1) (fn := Tryd.f35) (args := [.pointer (some ⟨s_b, s_o, none⟩), .pointer (some ⟨t_b, t_o, none⟩), .agg #[.int .i64 a_Kind, .int .i64 a_P, .int .i64 a_N, .int .i64 a_M, .string a_Bytes], .agg #[.int .i64 r_Code, .int .i64 r_N, .string r_Out]]) (ctxOk _ _ _ _ _) Tryd.func35 (vc_fenestratop_TopGood_c1_eq s_b s_o t_b t_o a_Kind a_P a_N a_M a_Bytes r_Code r_N r_Out u R) h

end Go.Proofs.YtkmmphkjmamckacDoor

