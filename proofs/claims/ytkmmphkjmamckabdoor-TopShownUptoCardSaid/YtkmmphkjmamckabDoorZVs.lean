/-
  Texts that belong together, joined: VTopS1, VPlayS.
-/
import Derived.Test.YtkmmphkjmamckabDoorCtx
namespace Go.Proofs.YtkmmphkjmamckabDoor
open Go
set_option linter.all false

/-- fenestra/fenestratop.TopShown -/
noncomputable def cx_fenestratop_TopShown : Ctx := ⟨Tryd.prog, tab, [], [], [], fns, [], []⟩
def vc_fenestratop_TopShown (l_p : Option Addr) (l_n l_c : Nat) (u : World) (R : Ending → World → Prop) : Prop :=
 Spec Tryd.prog 9 #[.slice l_p l_n l_c, .func (.func 10) #[] #[]] u (fun e u1 => ∃ (q0 q1 q2 q3 : Nat) (q4 : Bool), e = .returned (.tuple #[.pointer (some ⟨q0, q1, none⟩), .pointer (some ⟨q2, q3, none⟩), .bool q4]) ∧
 R (.returned (.bool q4)) u1)
set_option maxRecDepth 100000 in
theorem vc_fenestratop_TopShown_eq (l_p : Option Addr) (l_n l_c : Nat) (u : World) (R : Ending → World → Prop) : wFunc cx_fenestratop_TopShown Tryd.f4 [.slice l_p l_n l_c] u R = vc_fenestratop_TopShown l_p l_n l_c u R := by kernel_rfl
theorem vc_fenestratop_TopShown_spec (l_p : Option Addr) (l_n l_c : Nat) {u : World} {R : Ending → World → Prop} (h : vc_fenestratop_TopShown l_p l_n l_c u R) : Spec Tryd.prog fn_fenestratop_TopShown #[.slice l_p l_n l_c] u R := func_spec (C := cx_fenestratop_TopShown) (fn := Tryd.f4) (args := [.slice l_p l_n l_c]) (ctxOk _ _ _ _ _) Tryd.func4 (vc_fenestratop_TopShown_eq l_p l_n l_c u R) h

/-- fenestra/fenestratop.TopShown$1 -/
noncomputable def cx_fenestratop_TopShown_c1 : Ctx := ⟨Tryd.prog, tab, [], [], [], fns, [(4, ⟨[.keep, .keep, .keep, .keep, .keep, .keep, .keep, .keep, .junk, .junk, .junk, .junk, .junk, .keep, .keep, .keep, .keep, .keep, .keep, .keep, .keep, .cell (.int .i64), .junk, .junk, .junk, .junk, .junk, .junk, .junk, .junk, .junk, .junk, .junk, .junk, .junk, .junk, .junk, .junk, .junk, .junk, .junk, .junk, .junk, .junk, .junk, .junk, .junk, .junk], [.keep, .keep]⟩)], []⟩
def vc_fenestratop_TopShown_c1 (s_b s_o : Nat) (t_b t_o : Nat) (a_Kind : Int) (a_P : Int) (a_N : Int) (a_M : Int) (a_Bytes : ByteArray) (r_Code : Int) (r_N : Int) (r_Out : ByteArray) (u : World) (R : Ending → World → Prop) : Prop :=
 (((!decide (a_Kind = 8)) = true → R (.returned (.bool true)) (allocW (allocW u hole) hole)) ∧
 ((!decide (a_Kind = 8)) = false → (((!decide (r_Code = 0)) = true →
 R (.returned (.bool true)) (allocW (allocW u hole) hole)) ∧ ((!decide (r_Code = 0)) = false →
 ∃ (I_ : Int → World → Prop) (M_ : Int → World → Nat), ((Loc.mk 34 false ([.int .i64 a_Kind, .int .i64 a_P, .int .i64 a_N, .int .i64 a_M, .string a_Bytes])) = (Loc.mk 34 false ([.int .i64 a_Kind, .int .i64 a_P, .int .i64 a_N, .int .i64 a_M, .string a_Bytes])) ∧
 (Loc.mk 31 false ([.int .i64 r_Code, .int .i64 r_N, .string r_Out])) = (Loc.mk 31 false ([.int .i64 r_Code, .int .i64 r_N, .string r_Out])) ∧
 I_ 0 (allocW (allocW u hole) hole)) ∧ ∀ (q0 : Int), (Loc.mk 34 false ([.int .i64 a_Kind, .int .i64 a_P, .int .i64 a_N, .int .i64 a_M, .string a_Bytes])) = (Loc.mk 34 false ([.int .i64 a_Kind, .int .i64 a_P, .int .i64 a_N, .int .i64 a_M, .string a_Bytes])) ∧
 (Loc.mk 31 false ([.int .i64 r_Code, .int .i64 r_N, .string r_Out])) = (Loc.mk 31 false ([.int .i64 r_Code, .int .i64 r_N, .string r_Out])) ∧
 ∀ u1 : World, I_ q0 u1 → (((decide (q0 < 3)) = true → Spec Tryd.prog 11 #[.pointer (some ⟨s_b, s_o, none⟩), .int .i64 q0] u1 (fun e u11 => ∃ (q1 : ByteArray) (q2 q3 : Bool), e = .returned (.tuple #[.string q1, .bool q2, .bool q3]) ∧
 ((q3 = true → (((!q2) = true → 0 ≤ q0 ∧ q0 < ((3 : Nat) : Int) ∧
 ∃ (q4 : List Value), 13 = q4.length ∧ Rd u11 t_b (t_o + q0.toNat * 13) q4 ∧
 Spec Tryd.prog 12 #[.pointer (some ⟨s_b, s_o, none⟩), .agg q4.toArray, .int .i64 q0] u11 (fun e u12 => ∃ (q5 : Bool), e = .returned (.bool q5) ∧
 (((!q5) = true → R (.returned (.bool false)) u12) ∧ ((!q5) = false →
 inK .i64 (q0 + 1) ∧ (Loc.mk 34 false ([.int .i64 a_Kind, .int .i64 a_P, .int .i64 a_N, .int .i64 a_M, .string a_Bytes])) = (Loc.mk 34 false ([.int .i64 a_Kind, .int .i64 a_P, .int .i64 a_N, .int .i64 a_M, .string a_Bytes])) ∧
 (Loc.mk 31 false ([.int .i64 r_Code, .int .i64 r_N, .string r_Out])) = (Loc.mk 31 false ([.int .i64 r_Code, .int .i64 r_N, .string r_Out])) ∧
 I_ (q0 + 1) u12 ∧ (Loc.mk 34 false ([.int .i64 a_Kind, .int .i64 a_P, .int .i64 a_N, .int .i64 a_M, .string a_Bytes])) = (Loc.mk 34 false ([.int .i64 a_Kind, .int .i64 a_P, .int .i64 a_N, .int .i64 a_M, .string a_Bytes])) ∧
 (Loc.mk 31 false ([.int .i64 r_Code, .int .i64 r_N, .string r_Out])) = (Loc.mk 31 false ([.int .i64 r_Code, .int .i64 r_N, .string r_Out])) ∧
 M_ (q0 + 1) u12 < M_ q0 u1)))) ∧ ((!q2) = false → inK .i64 (q0 + 1) ∧
 (Loc.mk 34 false ([.int .i64 a_Kind, .int .i64 a_P, .int .i64 a_N, .int .i64 a_M, .string a_Bytes])) = (Loc.mk 34 false ([.int .i64 a_Kind, .int .i64 a_P, .int .i64 a_N, .int .i64 a_M, .string a_Bytes])) ∧
 (Loc.mk 31 false ([.int .i64 r_Code, .int .i64 r_N, .string r_Out])) = (Loc.mk 31 false ([.int .i64 r_Code, .int .i64 r_N, .string r_Out])) ∧
 I_ (q0 + 1) u11 ∧ (Loc.mk 34 false ([.int .i64 a_Kind, .int .i64 a_P, .int .i64 a_N, .int .i64 a_M, .string a_Bytes])) = (Loc.mk 34 false ([.int .i64 a_Kind, .int .i64 a_P, .int .i64 a_N, .int .i64 a_M, .string a_Bytes])) ∧
 (Loc.mk 31 false ([.int .i64 r_Code, .int .i64 r_N, .string r_Out])) = (Loc.mk 31 false ([.int .i64 r_Code, .int .i64 r_N, .string r_Out])) ∧
 M_ (q0 + 1) u11 < M_ q0 u1))) ∧ (q3 = false → inK .i64 (q0 + 1) ∧
 (Loc.mk 34 false ([.int .i64 a_Kind, .int .i64 a_P, .int .i64 a_N, .int .i64 a_M, .string a_Bytes])) = (Loc.mk 34 false ([.int .i64 a_Kind, .int .i64 a_P, .int .i64 a_N, .int .i64 a_M, .string a_Bytes])) ∧
 (Loc.mk 31 false ([.int .i64 r_Code, .int .i64 r_N, .string r_Out])) = (Loc.mk 31 false ([.int .i64 r_Code, .int .i64 r_N, .string r_Out])) ∧
 I_ (q0 + 1) u11 ∧ (Loc.mk 34 false ([.int .i64 a_Kind, .int .i64 a_P, .int .i64 a_N, .int .i64 a_M, .string a_Bytes])) = (Loc.mk 34 false ([.int .i64 a_Kind, .int .i64 a_P, .int .i64 a_N, .int .i64 a_M, .string a_Bytes])) ∧
 (Loc.mk 31 false ([.int .i64 r_Code, .int .i64 r_N, .string r_Out])) = (Loc.mk 31 false ([.int .i64 r_Code, .int .i64 r_N, .string r_Out])) ∧
 M_ (q0 + 1) u11 < M_ q0 u1)))) ∧ ((decide (q0 < 3)) = false →
 R (.returned (.bool true)) u1))))))
set_option maxRecDepth 100000 in
theorem vc_fenestratop_TopShown_c1_eq (s_b s_o : Nat) (t_b t_o : Nat) (a_Kind : Int) (a_P : Int) (a_N : Int) (a_M : Int) (a_Bytes : ByteArray) (r_Code : Int) (r_N : Int) (r_Out : ByteArray) (u : World) (R : Ending → World → Prop) : wFunc cx_fenestratop_TopShown_c1 Tryd.f10 [.pointer (some ⟨s_b, s_o, none⟩), .pointer (some ⟨t_b, t_o, none⟩), .agg #[.int .i64 a_Kind, .int .i64 a_P, .int .i64 a_N, .int .i64 a_M, .string a_Bytes], .agg #[.int .i64 r_Code, .int .i64 r_N, .string r_Out]] u R = vc_fenestratop_TopShown_c1 s_b s_o t_b t_o a_Kind a_P a_N a_M a_Bytes r_Code r_N r_Out u R := by kernel_rfl
theorem vc_fenestratop_TopShown_c1_spec (s_b s_o : Nat) (t_b t_o : Nat) (a_Kind : Int) (a_P : Int) (a_N : Int) (a_M : Int) (a_Bytes : ByteArray) (r_Code : Int) (r_N : Int) (r_Out : ByteArray) {u : World} {R : Ending → World → Prop} (h : vc_fenestratop_TopShown_c1 s_b s_o t_b t_o a_Kind a_P a_N a_M a_Bytes r_Code r_N r_Out u R) : Spec Tryd.prog fn_fenestratop_TopShown_c1 #[.pointer (some ⟨s_b, s_o, none⟩), .pointer (some ⟨t_b, t_o, none⟩), .agg #[.int .i64 a_Kind, .int .i64 a_P, .int .i64 a_N, .int .i64 a_M, .string a_Bytes], .agg #[.int .i64 r_Code, .int .i64 r_N, .string r_Out]] u R := func_spec (C := cx_fenestratop_TopShown_c1) (fn := Tryd.f10) (args := [.pointer (some ⟨s_b, s_o, none⟩), .pointer (some ⟨t_b, t_o, none⟩), .agg #[.int .i64 a_Kind, .int .i64 a_P, .int .i64 a_N, .int .i64 a_M, .string a_Bytes], .agg #[.int .i64 r_Code, .int .i64 r_N, .string r_Out]]) (ctxOk _ _ _ _ _) Tryd.func10 (vc_fenestratop_TopShown_c1_eq s_b s_o t_b t_o a_Kind a_P a_N a_M a_Bytes r_Code r_N r_Out u R) h

end Go.Proofs.YtkmmphkjmamckabDoor

namespace Go.Proofs.YtkmmphkjmamckabDoor
open Go
set_option linter.all false

/-- fenestra/fenestratop.play -/
noncomputable def cx_fenestratop_play_shown : Ctx := ⟨Tryd.prog, tab, [8], [], [], fns, [(6, ⟨[.keep, .keep, .keep, .keep, .junk, .junk, .junk, .keep, .keep, .cell (.int .i64), .junk, .junk, .keep, .keep, .keep, .junk, .junk, .junk, .junk, .junk, .junk, .junk, .junk, .junk, .junk, .junk, .junk, .junk, .junk, .junk, .junk, .junk, .junk, .junk, .junk, .junk, .junk, .junk, .junk, .junk, .junk, .junk, .junk, .junk, .junk, .junk, .junk, .junk, .junk, .junk, .junk, .junk, .junk, .junk, .junk, .junk, .junk, .junk, .junk, .junk, .junk, .junk, .junk, .junk, .junk, .junk, .junk, .junk, .junk, .junk, .junk, .junk, .junk, .junk, .keep], []⟩)], []⟩
def vc_fenestratop_play_shown (l_p : Option Addr) (l_n l_c : Nat) (u : World) (R : Ending → World → Prop) : Prop :=
 Spec Tryd.prog 5 #[] u (fun e u1 => ∃ (q0 : Bool), e = .returned (.bool q0) ∧
 (((!q0) = true → R (.returned (.tuple #[.pointer none, .pointer none, .bool false])) u1) ∧
 ((!q0) = false → Spec Tryd.prog 7 #[] u1 (fun e u11 => ∃ (q1 q2 : Nat), e = .returned (.pointer (some ⟨q1, q2, none⟩)) ∧
 ∃ (I_ : Int → World → Prop) (M_ : Int → World → Nat), (I_ 0 (allocW u11 (.cells ([.int .i64 0, .slice none 0 0, .string (ByteArray.mk #[]), .bool false, .int .i64 0, .int .i64 0, .slice none 0 0, .int .i64 0, .int .i64 0, .int .i64 0, .bool false, .int .i64 0, .int .i64 0, .int .i64 0, .slice none 0 0, .string (ByteArray.mk #[]), .bool false, .int .i64 0, .int .i64 0, .slice none 0 0, .int .i64 0, .int .i64 0, .int .i64 0, .bool false, .int .i64 0, .int .i64 0, .int .i64 0, .slice none 0 0, .string (ByteArray.mk #[]), .bool false, .int .i64 0, .int .i64 0, .slice none 0 0, .int .i64 0, .int .i64 0, .int .i64 0, .bool false, .int .i64 0, .int .i64 0] : List Value).toArray 74))) ∧
 ∀ (i : Int), ∀ u12 : World, I_ i u12 → (((decide (i < ((l_n : Nat) : Int))) = true →
 (((decide (i < 100)) = true → ∃ b o, l_p = some ⟨b, o, none⟩ ∧
 0 ≤ i ∧ i < ((l_n : Nat) : Int) ∧ ∃ (q3 q4 q5 q6 : Int) (q7 : ByteArray), 5 = szN 5 ∧
 Rd u12 b (o + i.toNat * 5) ([.int .i64 q3, .int .i64 q4, .int .i64 q5, .int .i64 q6, .string q7]) ∧
 Spec Tryd.prog 8 #[.pointer (some ⟨q1, q2, none⟩), .agg #[.int .i64 q3, .int .i64 q4, .int .i64 q5, .int .i64 q6, .string q7]] (allocW u12 hole) (fun e u13 => ∃ (q8 q9 : Int) (qa : ByteArray), e = .returned (.agg #[.int .i64 q8, .int .i64 q9, .string qa]) ∧
 (((decide (q8 = 0)) = true → (((decide (q3 = 6)) = true →
 Spec Tryd.prog 22 #[.int .i64 q5, .int .i64 q6] (drewW (allocW u13 hole)) (fun e u14 => ∃ (qb qc : Int) (qd : Option Addr) (qe qf : Nat) (qg qh qi : Int) (qj : Bool) (qk ql : Int), e = .returned (.agg #[.int .i64 qb, .int .i64 qc, .slice qd qe qf, .int .i64 qg, .int .i64 qh, .int .i64 qi, .bool qj, .int .i64 qk, .int .i64 ql]) ∧
 0 ≤ q4 ∧ q4 < ((3 : Nat) : Int) ∧ 13 = ([.int .i64 0, .slice none 0 0, .string (ByteArray.mk #[]), .bool false, .int .i64 qb, .int .i64 qc, .slice qd qe qf, .int .i64 qg, .int .i64 qh, .int .i64 qi, .bool qj, .int .i64 qk, .int .i64 ql] : List Value).length ∧
 Wr u14 u11.heap.size (0 + q4.toNat * 13) 13 ∧ (((decide (q8 = 0)) = true →
 (((decide (q3 = 9)) = true → 0 ≤ q4 ∧ q4 < ((3 : Nat) : Int) ∧
 Spec Tryd.prog 23 #[.pointer (some ⟨u11.heap.size, 0 + q4.toNat * 13, none⟩), .string qa] (drewW (putCells u14 u11.heap.size (0 + q4.toNat * 13) ([.int .i64 0, .slice none 0 0, .string (ByteArray.mk #[]), .bool false, .int .i64 qb, .int .i64 qc, .slice qd qe qf, .int .i64 qg, .int .i64 qh, .int .i64 qi, .bool qj, .int .i64 qk, .int .i64 ql]))) (fun e u15 => ∃ (qm : Bool), e = .returned (.bool qm) ∧
 (((!qm) = true → R (.returned (.tuple #[.pointer (some ⟨q1, q2, none⟩), .pointer (some ⟨u11.heap.size, 0, none⟩), .bool false])) u15) ∧
 ((!qm) = false → Spec Tryd.prog 10 #[.pointer (some ⟨q1, q2, none⟩), .pointer (some ⟨u11.heap.size, 0, none⟩), .agg #[.int .i64 q3, .int .i64 q4, .int .i64 q5, .int .i64 q6, .string q7], .agg #[.int .i64 q8, .int .i64 q9, .string qa]] u15 (fun e u16 => ∃ (qn : Bool), e = .returned (.bool qn) ∧
 (((!qn) = true → R (.returned (.tuple #[.pointer (some ⟨q1, q2, none⟩), .pointer (some ⟨u11.heap.size, 0, none⟩), .bool false])) u16) ∧
 ((!qn) = false → inK .i64 (i + 1) ∧ I_ (i + 1) u16 ∧ M_ (i + 1) u16 < M_ i u12))))))) ∧
 ((decide (q3 = 9)) = false → Spec Tryd.prog 10 #[.pointer (some ⟨q1, q2, none⟩), .pointer (some ⟨u11.heap.size, 0, none⟩), .agg #[.int .i64 q3, .int .i64 q4, .int .i64 q5, .int .i64 q6, .string q7], .agg #[.int .i64 q8, .int .i64 q9, .string qa]] (drewW (putCells u14 u11.heap.size (0 + q4.toNat * 13) ([.int .i64 0, .slice none 0 0, .string (ByteArray.mk #[]), .bool false, .int .i64 qb, .int .i64 qc, .slice qd qe qf, .int .i64 qg, .int .i64 qh, .int .i64 qi, .bool qj, .int .i64 qk, .int .i64 ql]))) (fun e u17 => ∃ (qo : Bool), e = .returned (.bool qo) ∧
 (((!qo) = true → R (.returned (.tuple #[.pointer (some ⟨q1, q2, none⟩), .pointer (some ⟨u11.heap.size, 0, none⟩), .bool false])) u17) ∧
 ((!qo) = false → inK .i64 (i + 1) ∧ I_ (i + 1) u17 ∧ M_ (i + 1) u17 < M_ i u12)))))) ∧
 ((decide (q8 = 0)) = false → Spec Tryd.prog 10 #[.pointer (some ⟨q1, q2, none⟩), .pointer (some ⟨u11.heap.size, 0, none⟩), .agg #[.int .i64 q3, .int .i64 q4, .int .i64 q5, .int .i64 q6, .string q7], .agg #[.int .i64 q8, .int .i64 q9, .string qa]] (drewW (putCells u14 u11.heap.size (0 + q4.toNat * 13) ([.int .i64 0, .slice none 0 0, .string (ByteArray.mk #[]), .bool false, .int .i64 qb, .int .i64 qc, .slice qd qe qf, .int .i64 qg, .int .i64 qh, .int .i64 qi, .bool qj, .int .i64 qk, .int .i64 ql]))) (fun e u18 => ∃ (qp : Bool), e = .returned (.bool qp) ∧
 (((!qp) = true → R (.returned (.tuple #[.pointer (some ⟨q1, q2, none⟩), .pointer (some ⟨u11.heap.size, 0, none⟩), .bool false])) u18) ∧
 ((!qp) = false → inK .i64 (i + 1) ∧ I_ (i + 1) u18 ∧ M_ (i + 1) u18 < M_ i u12))))))) ∧
 ((decide (q3 = 6)) = false → (((decide (q8 = 0)) = true →
 (((decide (q3 = 9)) = true → 0 ≤ q4 ∧ q4 < ((3 : Nat) : Int) ∧
 Spec Tryd.prog 23 #[.pointer (some ⟨u11.heap.size, 0 + q4.toNat * 13, none⟩), .string qa] (drewW (allocW u13 hole)) (fun e u19 => ∃ (qq : Bool), e = .returned (.bool qq) ∧
 (((!qq) = true → R (.returned (.tuple #[.pointer (some ⟨q1, q2, none⟩), .pointer (some ⟨u11.heap.size, 0, none⟩), .bool false])) u19) ∧
 ((!qq) = false → Spec Tryd.prog 10 #[.pointer (some ⟨q1, q2, none⟩), .pointer (some ⟨u11.heap.size, 0, none⟩), .agg #[.int .i64 q3, .int .i64 q4, .int .i64 q5, .int .i64 q6, .string q7], .agg #[.int .i64 q8, .int .i64 q9, .string qa]] u19 (fun e u110 => ∃ (qr : Bool), e = .returned (.bool qr) ∧
 (((!qr) = true → R (.returned (.tuple #[.pointer (some ⟨q1, q2, none⟩), .pointer (some ⟨u11.heap.size, 0, none⟩), .bool false])) u110) ∧
 ((!qr) = false → inK .i64 (i + 1) ∧ I_ (i + 1) u110 ∧ M_ (i + 1) u110 < M_ i u12))))))) ∧
 ((decide (q3 = 9)) = false → Spec Tryd.prog 10 #[.pointer (some ⟨q1, q2, none⟩), .pointer (some ⟨u11.heap.size, 0, none⟩), .agg #[.int .i64 q3, .int .i64 q4, .int .i64 q5, .int .i64 q6, .string q7], .agg #[.int .i64 q8, .int .i64 q9, .string qa]] (drewW (allocW u13 hole)) (fun e u111 => ∃ (qs : Bool), e = .returned (.bool qs) ∧
 (((!qs) = true → R (.returned (.tuple #[.pointer (some ⟨q1, q2, none⟩), .pointer (some ⟨u11.heap.size, 0, none⟩), .bool false])) u111) ∧
 ((!qs) = false → inK .i64 (i + 1) ∧ I_ (i + 1) u111 ∧ M_ (i + 1) u111 < M_ i u12)))))) ∧
 ((decide (q8 = 0)) = false → Spec Tryd.prog 10 #[.pointer (some ⟨q1, q2, none⟩), .pointer (some ⟨u11.heap.size, 0, none⟩), .agg #[.int .i64 q3, .int .i64 q4, .int .i64 q5, .int .i64 q6, .string q7], .agg #[.int .i64 q8, .int .i64 q9, .string qa]] (drewW (allocW u13 hole)) (fun e u112 => ∃ (qt : Bool), e = .returned (.bool qt) ∧
 (((!qt) = true → R (.returned (.tuple #[.pointer (some ⟨q1, q2, none⟩), .pointer (some ⟨u11.heap.size, 0, none⟩), .bool false])) u112) ∧
 ((!qt) = false → inK .i64 (i + 1) ∧ I_ (i + 1) u112 ∧ M_ (i + 1) u112 < M_ i u12)))))))) ∧
 ((decide (q8 = 0)) = false → (((decide (q8 = 0)) = true →
 (((decide (q3 = 9)) = true → 0 ≤ q4 ∧ q4 < ((3 : Nat) : Int) ∧
 Spec Tryd.prog 23 #[.pointer (some ⟨u11.heap.size, 0 + q4.toNat * 13, none⟩), .string qa] (drewW (allocW u13 hole)) (fun e u113 => ∃ (qu : Bool), e = .returned (.bool qu) ∧
 (((!qu) = true → R (.returned (.tuple #[.pointer (some ⟨q1, q2, none⟩), .pointer (some ⟨u11.heap.size, 0, none⟩), .bool false])) u113) ∧
 ((!qu) = false → Spec Tryd.prog 10 #[.pointer (some ⟨q1, q2, none⟩), .pointer (some ⟨u11.heap.size, 0, none⟩), .agg #[.int .i64 q3, .int .i64 q4, .int .i64 q5, .int .i64 q6, .string q7], .agg #[.int .i64 q8, .int .i64 q9, .string qa]] u113 (fun e u114 => ∃ (qv : Bool), e = .returned (.bool qv) ∧
 (((!qv) = true → R (.returned (.tuple #[.pointer (some ⟨q1, q2, none⟩), .pointer (some ⟨u11.heap.size, 0, none⟩), .bool false])) u114) ∧
 ((!qv) = false → inK .i64 (i + 1) ∧ I_ (i + 1) u114 ∧ M_ (i + 1) u114 < M_ i u12))))))) ∧
 ((decide (q3 = 9)) = false → Spec Tryd.prog 10 #[.pointer (some ⟨q1, q2, none⟩), .pointer (some ⟨u11.heap.size, 0, none⟩), .agg #[.int .i64 q3, .int .i64 q4, .int .i64 q5, .int .i64 q6, .string q7], .agg #[.int .i64 q8, .int .i64 q9, .string qa]] (drewW (allocW u13 hole)) (fun e u115 => ∃ (qw : Bool), e = .returned (.bool qw) ∧
 (((!qw) = true → R (.returned (.tuple #[.pointer (some ⟨q1, q2, none⟩), .pointer (some ⟨u11.heap.size, 0, none⟩), .bool false])) u115) ∧
 ((!qw) = false → inK .i64 (i + 1) ∧ I_ (i + 1) u115 ∧ M_ (i + 1) u115 < M_ i u12)))))) ∧
 ((decide (q8 = 0)) = false → Spec Tryd.prog 10 #[.pointer (some ⟨q1, q2, none⟩), .pointer (some ⟨u11.heap.size, 0, none⟩), .agg #[.int .i64 q3, .int .i64 q4, .int .i64 q5, .int .i64 q6, .string q7], .agg #[.int .i64 q8, .int .i64 q9, .string qa]] (drewW (allocW u13 hole)) (fun e u116 => ∃ (qx : Bool), e = .returned (.bool qx) ∧
 (((!qx) = true → R (.returned (.tuple #[.pointer (some ⟨q1, q2, none⟩), .pointer (some ⟨u11.heap.size, 0, none⟩), .bool false])) u116) ∧
 ((!qx) = false → inK .i64 (i + 1) ∧ I_ (i + 1) u116 ∧ M_ (i + 1) u116 < M_ i u12))))))))) ∧
 ((decide (i < 100)) = false → R (.returned (.tuple #[.pointer (some ⟨q1, q2, none⟩), .pointer (some ⟨u11.heap.size, 0, none⟩), .bool true])) u12))) ∧
 ((decide (i < ((l_n : Nat) : Int))) = false → R (.returned (.tuple #[.pointer (some ⟨q1, q2, none⟩), .pointer (some ⟨u11.heap.size, 0, none⟩), .bool true])) u12))))))
set_option maxRecDepth 100000 in
theorem vc_fenestratop_play_shown_eq (l_p : Option Addr) (l_n l_c : Nat) (u : World) (R : Ending → World → Prop) : wFunc cx_fenestratop_play_shown Tryd.f9 [.slice l_p l_n l_c, .func (.func 10) #[] #[]] u R = vc_fenestratop_play_shown l_p l_n l_c u R := by kernel_rfl
theorem vc_fenestratop_play_shown_spec (l_p : Option Addr) (l_n l_c : Nat) {u : World} {R : Ending → World → Prop} (h : vc_fenestratop_play_shown l_p l_n l_c u R) : Spec Tryd.prog fn_fenestratop_play #[.slice l_p l_n l_c, .func (.func 10) #[] #[]] u R := func_spec (C := cx_fenestratop_play_shown) (fn := Tryd.f9) (args := [.slice l_p l_n l_c, .func (.func 10) #[] #[]]) (ctxOk _ _ _ _ _) Tryd.func9 (vc_fenestratop_play_shown_eq l_p l_n l_c u R) h

end Go.Proofs.YtkmmphkjmamckabDoor

