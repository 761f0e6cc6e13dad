/-
  Texts that belong together, joined: VTopM1, VPlayM.
-/
import Derived.Test.YtkmmphkjmamckadDoorCtx
namespace Go.Proofs.YtkmmphkjmamckadDoor
open Go
set_option linter.all false

/-- fenestra/fenestratop.TopMemory -/
noncomputable def cx_fenestratop_TopMemory : Ctx := ⟨Tryd.prog, tab, [3], [], [], fns, [], []⟩
def vc_fenestratop_TopMemory (l_p : Option Addr) (l_n l_c : Nat) (u : World) (R : Ending → World → Prop) : Prop :=
 Spec Tryd.prog 5 #[] u (fun e u1 => ∃ (q0 q1 : Nat), e = .returned (.pointer (some ⟨q0, q1, none⟩)) ∧
 1 = szN 1 ∧
 Wr (allocW u1 (.cells ([.pointer none] : List Value).toArray 23)) u1.heap.size 0 1 ∧
 Spec Tryd.prog 6 #[.slice l_p l_n l_c, .func (.func 7) #[] #[.pointer (some ⟨u1.heap.size, 0, none⟩)]] (putCells (allocW u1 (.cells ([.pointer none] : List Value).toArray 23)) u1.heap.size 0 ([.pointer (some ⟨q0, q1, none⟩)])) (fun e u11 => ∃ (q2 q3 q4 q5 : Nat) (q6 : Bool), e = .returned (.tuple #[.pointer (some ⟨q2, q3, none⟩), .pointer (some ⟨q4, q5, none⟩), .bool q6]) ∧
 R (.returned (.bool q6)) u11))
set_option maxRecDepth 100000 in
theorem vc_fenestratop_TopMemory_eq (l_p : Option Addr) (l_n l_c : Nat) (u : World) (R : Ending → World → Prop) : wFunc cx_fenestratop_TopMemory Tryd.f3 [.slice l_p l_n l_c] u R = vc_fenestratop_TopMemory l_p l_n l_c u R := by kernel_rfl
theorem vc_fenestratop_TopMemory_spec (l_p : Option Addr) (l_n l_c : Nat) {u : World} {R : Ending → World → Prop} (h : vc_fenestratop_TopMemory l_p l_n l_c u R) : Spec Tryd.prog fn_fenestratop_TopMemory #[.slice l_p l_n l_c] u R := func_spec (C := cx_fenestratop_TopMemory) (fn := Tryd.f3) (args := [.slice l_p l_n l_c]) (ctxOk _ _ _ _ _) Tryd.func3 (vc_fenestratop_TopMemory_eq l_p l_n l_c u R) h

/-- fenestra/fenestratop.TopMemory$1 -/
noncomputable def cx_fenestratop_TopMemory_c1 : Ctx := ⟨Tryd.prog, tab, [], [], [10], fns, [(5, ⟨[.keep, .keep, .keep, .keep, .keep, .keep, .keep, .keep, .keep, .keep, .keep, .junk, .junk, .keep, .keep, .keep, .keep, .keep, .keep, .keep, .keep, .keep, .keep, .keep, .keep, .keep, .keep, .keep, .cell (.int .i64), .junk, .junk, .junk, .junk, .junk, .junk, .junk, .junk, .junk, .junk, .junk, .junk, .junk, .junk, .junk, .junk, .junk, .junk, .junk, .junk, .junk, .keep, .keep, .keep, .keep, .keep, .keep, .keep, .keep, .keep, .keep, .keep, .keep, .keep, .keep, .keep, .keep, .keep, .keep, .keep, .keep, .keep, .keep, .keep, .keep, .keep, .keep, .keep], [.keep, .keep, .keep]⟩), (8, ⟨[.keep, .keep, .keep, .keep, .keep, .keep, .keep, .keep, .keep, .keep, .keep, .keep, .junk, .keep, .keep, .keep, .keep, .keep, .keep, .keep, .keep, .keep, .keep, .keep, .keep, .keep, .keep, .keep, .keep, .keep, .keep, .keep, .keep, .keep, .keep, .keep, .keep, .cell (.int .i64), .junk, .junk, .junk, .junk, .junk, .junk, .junk, .junk, .junk, .junk, .junk, .keep, .keep, .keep, .keep, .keep, .keep, .keep, .keep, .keep, .keep, .keep, .keep, .keep, .keep, .keep, .keep, .keep, .keep, .keep, .keep, .keep, .keep, .keep, .keep, .keep, .keep, .keep, .keep], [.keep, .keep, .keep]⟩), (14, ⟨[.keep, .keep, .keep, .keep, .keep, .keep, .keep, .keep, .keep, .keep, .keep, .keep, .keep, .junk, .junk, .keep, .keep, .keep, .keep, .keep, .keep, .keep, .keep, .keep, .keep, .keep, .keep, .keep, .keep, .keep, .keep, .keep, .keep, .keep, .keep, .keep, .keep, .keep, .keep, .keep, .keep, .keep, .keep, .keep, .keep, .keep, .keep, .keep, .keep, .keep, .keep, .keep, .keep, .keep, .cell (.int .i64), .junk, .junk, .junk, .junk, .junk, .junk, .junk, .junk, .junk, .junk, .junk, .junk, .junk, .junk, .junk, .junk, .junk, .junk, .junk, .junk, .junk, .junk], [.keep, .keep, .keep]⟩), (17, ⟨[.keep, .keep, .keep, .keep, .keep, .keep, .keep, .keep, .keep, .keep, .keep, .keep, .keep, .keep, .junk, .keep, .keep, .keep, .keep, .keep, .keep, .keep, .keep, .keep, .keep, .keep, .keep, .keep, .keep, .keep, .keep, .keep, .keep, .keep, .keep, .keep, .keep, .keep, .keep, .keep, .keep, .keep, .keep, .keep, .keep, .keep, .keep, .keep, .keep, .keep, .keep, .keep, .keep, .keep, .keep, .keep, .keep, .keep, .keep, .keep, .keep, .keep, .keep, .keep, .cell (.int .i64), .junk, .junk, .junk, .junk, .junk, .junk, .junk, .junk, .junk, .junk, .junk, .keep], [.keep, .keep, .keep]⟩)], []⟩
def vc_fenestratop_TopMemory_c1 (s_b s_o : Nat) (t_b t_o : Nat) (a_Kind : Int) (a_P : Int) (a_N : Int) (a_M : Int) (a_Bytes : ByteArray) (r_Code : Int) (r_N : Int) (r_Out : ByteArray) (cap0 : Nat) (u : World) (R : Ending → World → Prop) : Prop :=
 ∃ (q0 q1 : Nat), 1 = szN 1 ∧
 Rd (drewW (allocW (allocW u hole) hole)) cap0 0 ([.pointer (some ⟨q0, q1, none⟩)]) ∧
 Spec Tryd.prog 8 #[.pointer (some ⟨q0, q1, none⟩), .agg #[.int .i64 a_Kind, .int .i64 a_P, .int .i64 a_N, .int .i64 a_M, .string a_Bytes]] (drewW (allocW (allocW u hole) hole)) (fun e u1 => ∃ (q2 q3 : Int) (q4 : ByteArray), e = .returned (.agg #[.int .i64 q2, .int .i64 q3, .string q4]) ∧
 (((!(decide (q2 = r_Code) && (decide (q3 = r_N) && (decide (q4.data.toList = r_Out.data.toList))))) = true →
 R (.returned (.bool false)) u1) ∧ ((!(decide (q2 = r_Code) && (decide (q3 = r_N) && (decide (q4.data.toList = r_Out.data.toList))))) = false →
 ∃ (q5 q6 : Nat), 1 = szN 1 ∧
 Rd u1 cap0 0 ([.pointer (some ⟨q5, q6, none⟩)]) ∧ Spec Tryd.prog 9 #[.pointer (some ⟨s_b, s_o, none⟩), .pointer (some ⟨q5, q6, none⟩)] u1 (fun e u11 => ∃ (q7 : Bool), e = .returned (.bool q7) ∧
 (((!q7) = true → R (.returned (.bool false)) u11) ∧ ((!q7) = false →
 Spec Tryd.prog 10 #[.pointer (some ⟨s_b, s_o, none⟩)] u11 (fun e u12 => ∃ (q8 : List Value), e = .returned (.agg q8.toArray) ∧
 58 = q8.length ∧ okCells q8 (∃ cs, putN ([.slice none 0 0, .int .i64 0, .int .i64 0, .slice none 0 0, .int .i64 0, .int .i64 0, .int .i64 0, .bool false, .int .i64 0, .int .i64 0, .int .i64 0, .int .i64 0, .slice none 0 0, .int .i64 0, .int .i64 0, .int .i64 0, .bool false, .int .i64 0, .int .i64 0, .int .i64 0, .int .i64 0, .slice none 0 0, .int .i64 0, .int .i64 0, .int .i64 0, .bool false, .int .i64 0, .int .i64 0, .int .i64 0, .int .i64 0, .slice none 0 0, .int .i64 0, .int .i64 0, .int .i64 0, .bool false, .int .i64 0, .int .i64 0, .int .i64 0, .int .i64 0, .slice none 0 0, .int .i64 0, .int .i64 0, .int .i64 0, .bool false, .int .i64 0, .int .i64 0, .int .i64 0, .int .i64 0, .slice none 0 0, .int .i64 0, .int .i64 0, .int .i64 0, .bool false, .int .i64 0, .int .i64 0, .int .i64 0, .int .i64 0, .int .i64 0]) 0 q8 = some cs ∧
 ∃ (I_ : Int → World → Prop) (M_ : Int → World → Nat), ((Loc.mk 29 false ([.int .i64 a_Kind, .int .i64 a_P, .int .i64 a_N, .int .i64 a_M, .string a_Bytes])) = (Loc.mk 29 false ([.int .i64 a_Kind, .int .i64 a_P, .int .i64 a_N, .int .i64 a_M, .string a_Bytes])) ∧
 (Loc.mk 32 false ([.int .i64 r_Code, .int .i64 r_N, .string r_Out])) = (Loc.mk 32 false ([.int .i64 r_Code, .int .i64 r_N, .string r_Out])) ∧
 (Loc.mk 43 true cs) = (Loc.mk 43 true cs) ∧ I_ 0 (allocW u12 hole)) ∧
 ∀ (q9 : Int), (Loc.mk 29 false ([.int .i64 a_Kind, .int .i64 a_P, .int .i64 a_N, .int .i64 a_M, .string a_Bytes])) = (Loc.mk 29 false ([.int .i64 a_Kind, .int .i64 a_P, .int .i64 a_N, .int .i64 a_M, .string a_Bytes])) ∧
 (Loc.mk 32 false ([.int .i64 r_Code, .int .i64 r_N, .string r_Out])) = (Loc.mk 32 false ([.int .i64 r_Code, .int .i64 r_N, .string r_Out])) ∧
 (Loc.mk 43 true cs) = (Loc.mk 43 true cs) ∧ ∀ u13 : World, I_ q9 u13 →
 (((decide (q9 < 6)) = true → 0 ≤ q9 ∧ q9 < ((6 : Nat) : Int) ∧
 ∃ (qa : Option Addr) (qb qc : Nat), takeN cs (1 + q9.toNat * 9 + 2) 1 = some [.slice qa qb qc] ∧
 ∃ (I_1 : Int → World → Prop) (M_1 : Int → World → Nat), ((Loc.mk 29 false ([.int .i64 a_Kind, .int .i64 a_P, .int .i64 a_N, .int .i64 a_M, .string a_Bytes])) = (Loc.mk 29 false ([.int .i64 a_Kind, .int .i64 a_P, .int .i64 a_N, .int .i64 a_M, .string a_Bytes])) ∧
 (Loc.mk 32 false ([.int .i64 r_Code, .int .i64 r_N, .string r_Out])) = (Loc.mk 32 false ([.int .i64 r_Code, .int .i64 r_N, .string r_Out])) ∧
 (Loc.mk 43 true cs) = (Loc.mk 43 true cs) ∧ I_1 0 u13) ∧ ∀ (qd : Int), (Loc.mk 29 false ([.int .i64 a_Kind, .int .i64 a_P, .int .i64 a_N, .int .i64 a_M, .string a_Bytes])) = (Loc.mk 29 false ([.int .i64 a_Kind, .int .i64 a_P, .int .i64 a_N, .int .i64 a_M, .string a_Bytes])) ∧
 (Loc.mk 32 false ([.int .i64 r_Code, .int .i64 r_N, .string r_Out])) = (Loc.mk 32 false ([.int .i64 r_Code, .int .i64 r_N, .string r_Out])) ∧
 (Loc.mk 43 true cs) = (Loc.mk 43 true cs) ∧ ∀ u14 : World, I_1 qd u14 →
 (((decide (qd < ((qb : Nat) : Int))) = true → 0 ≤ q9 ∧ q9 < ((6 : Nat) : Int) ∧
 ∃ (qe : Option Addr) (qf qg : Nat), takeN cs (1 + q9.toNat * 9 + 2) 1 = some [.slice qe qf qg] ∧
 ∃ b o, qe = some ⟨b, o, none⟩ ∧ 0 ≤ qd ∧ qd < ((qf : Nat) : Int) ∧
 4 = szN 4 ∧
 Wr u14 b (o + qd.toNat * 4) 4 ∧ inK .i64 (qd + 1) ∧ (Loc.mk 29 false ([.int .i64 a_Kind, .int .i64 a_P, .int .i64 a_N, .int .i64 a_M, .string a_Bytes])) = (Loc.mk 29 false ([.int .i64 a_Kind, .int .i64 a_P, .int .i64 a_N, .int .i64 a_M, .string a_Bytes])) ∧
 (Loc.mk 32 false ([.int .i64 r_Code, .int .i64 r_N, .string r_Out])) = (Loc.mk 32 false ([.int .i64 r_Code, .int .i64 r_N, .string r_Out])) ∧
 (Loc.mk 43 true cs) = (Loc.mk 43 true cs) ∧ I_1 (qd + 1) (putCells u14 b (o + qd.toNat * 4) ([.int .i64 33, .int .i64 0, .int .i64 0, .bool false])) ∧
 (Loc.mk 29 false ([.int .i64 a_Kind, .int .i64 a_P, .int .i64 a_N, .int .i64 a_M, .string a_Bytes])) = (Loc.mk 29 false ([.int .i64 a_Kind, .int .i64 a_P, .int .i64 a_N, .int .i64 a_M, .string a_Bytes])) ∧
 (Loc.mk 32 false ([.int .i64 r_Code, .int .i64 r_N, .string r_Out])) = (Loc.mk 32 false ([.int .i64 r_Code, .int .i64 r_N, .string r_Out])) ∧
 (Loc.mk 43 true cs) = (Loc.mk 43 true cs) ∧ M_1 (qd + 1) (putCells u14 b (o + qd.toNat * 4) ([.int .i64 33, .int .i64 0, .int .i64 0, .bool false])) < M_1 qd u14) ∧
 ((decide (qd < ((qb : Nat) : Int))) = false → inK .i64 (q9 + 1) ∧
 (Loc.mk 29 false ([.int .i64 a_Kind, .int .i64 a_P, .int .i64 a_N, .int .i64 a_M, .string a_Bytes])) = (Loc.mk 29 false ([.int .i64 a_Kind, .int .i64 a_P, .int .i64 a_N, .int .i64 a_M, .string a_Bytes])) ∧
 (Loc.mk 32 false ([.int .i64 r_Code, .int .i64 r_N, .string r_Out])) = (Loc.mk 32 false ([.int .i64 r_Code, .int .i64 r_N, .string r_Out])) ∧
 (Loc.mk 43 true cs) = (Loc.mk 43 true cs) ∧ I_ (q9 + 1) u14 ∧
 (Loc.mk 29 false ([.int .i64 a_Kind, .int .i64 a_P, .int .i64 a_N, .int .i64 a_M, .string a_Bytes])) = (Loc.mk 29 false ([.int .i64 a_Kind, .int .i64 a_P, .int .i64 a_N, .int .i64 a_M, .string a_Bytes])) ∧
 (Loc.mk 32 false ([.int .i64 r_Code, .int .i64 r_N, .string r_Out])) = (Loc.mk 32 false ([.int .i64 r_Code, .int .i64 r_N, .string r_Out])) ∧
 (Loc.mk 43 true cs) = (Loc.mk 43 true cs) ∧ M_ (q9 + 1) u14 < M_ q9 u13))) ∧
 ((decide (q9 < 6)) = false → ∃ (qh : Option Addr) (qi qj : Nat), takeN cs 0 1 = some [.slice qh qi qj] ∧
 ∃ (I_2 : Int → World → Prop) (M_2 : Int → World → Nat), ((Loc.mk 29 false ([.int .i64 a_Kind, .int .i64 a_P, .int .i64 a_N, .int .i64 a_M, .string a_Bytes])) = (Loc.mk 29 false ([.int .i64 a_Kind, .int .i64 a_P, .int .i64 a_N, .int .i64 a_M, .string a_Bytes])) ∧
 (Loc.mk 32 false ([.int .i64 r_Code, .int .i64 r_N, .string r_Out])) = (Loc.mk 32 false ([.int .i64 r_Code, .int .i64 r_N, .string r_Out])) ∧
 (Loc.mk 43 true cs) = (Loc.mk 43 true cs) ∧ I_2 0 u13) ∧ ∀ (qk : Int), (Loc.mk 29 false ([.int .i64 a_Kind, .int .i64 a_P, .int .i64 a_N, .int .i64 a_M, .string a_Bytes])) = (Loc.mk 29 false ([.int .i64 a_Kind, .int .i64 a_P, .int .i64 a_N, .int .i64 a_M, .string a_Bytes])) ∧
 (Loc.mk 32 false ([.int .i64 r_Code, .int .i64 r_N, .string r_Out])) = (Loc.mk 32 false ([.int .i64 r_Code, .int .i64 r_N, .string r_Out])) ∧
 (Loc.mk 43 true cs) = (Loc.mk 43 true cs) ∧ ∀ u15 : World, I_2 qk u15 →
 (((decide (qk < ((qi : Nat) : Int))) = true → ∃ (ql : Option Addr) (qm qn : Nat), takeN cs 0 1 = some [.slice ql qm qn] ∧
 ∃ b1 o1, ql = some ⟨b1, o1, none⟩ ∧ 0 ≤ qk ∧ qk < ((qm : Nat) : Int) ∧
 ∃ (qo : Option Addr) (qp qq : Nat), 1 = szN 1 ∧
 Rd u15 b1 (o1 + qk.toNat * 1) ([.slice qo qp qq]) ∧
 ∃ (I_3 : Int → World → Prop) (M_3 : Int → World → Nat), ((Loc.mk 29 false ([.int .i64 a_Kind, .int .i64 a_P, .int .i64 a_N, .int .i64 a_M, .string a_Bytes])) = (Loc.mk 29 false ([.int .i64 a_Kind, .int .i64 a_P, .int .i64 a_N, .int .i64 a_M, .string a_Bytes])) ∧
 (Loc.mk 32 false ([.int .i64 r_Code, .int .i64 r_N, .string r_Out])) = (Loc.mk 32 false ([.int .i64 r_Code, .int .i64 r_N, .string r_Out])) ∧
 (Loc.mk 43 true cs) = (Loc.mk 43 true cs) ∧ I_3 0 u15) ∧ ∀ (qr : Int), (Loc.mk 29 false ([.int .i64 a_Kind, .int .i64 a_P, .int .i64 a_N, .int .i64 a_M, .string a_Bytes])) = (Loc.mk 29 false ([.int .i64 a_Kind, .int .i64 a_P, .int .i64 a_N, .int .i64 a_M, .string a_Bytes])) ∧
 (Loc.mk 32 false ([.int .i64 r_Code, .int .i64 r_N, .string r_Out])) = (Loc.mk 32 false ([.int .i64 r_Code, .int .i64 r_N, .string r_Out])) ∧
 (Loc.mk 43 true cs) = (Loc.mk 43 true cs) ∧ ∀ u16 : World, I_3 qr u16 →
 (((decide (qr < ((qp : Nat) : Int))) = true → ∃ (qs : Option Addr) (qt qu : Nat), takeN cs 0 1 = some [.slice qs qt qu] ∧
 ∃ b2 o2, qs = some ⟨b2, o2, none⟩ ∧ 0 ≤ qk ∧ qk < ((qt : Nat) : Int) ∧
 ∃ (qv : Option Addr) (qw qx : Nat), 1 = szN 1 ∧
 Rd u16 b2 (o2 + qk.toNat * 1) ([.slice qv qw qx]) ∧
 ∃ b3 o3, qv = some ⟨b3, o3, none⟩ ∧ 0 ≤ qr ∧ qr < ((qw : Nat) : Int) ∧
 1 = szN 1 ∧ Wr u16 b3 (o3 + qr.toNat * 1) 1 ∧
 inK .i64 (qr + 1) ∧ (Loc.mk 29 false ([.int .i64 a_Kind, .int .i64 a_P, .int .i64 a_N, .int .i64 a_M, .string a_Bytes])) = (Loc.mk 29 false ([.int .i64 a_Kind, .int .i64 a_P, .int .i64 a_N, .int .i64 a_M, .string a_Bytes])) ∧
 (Loc.mk 32 false ([.int .i64 r_Code, .int .i64 r_N, .string r_Out])) = (Loc.mk 32 false ([.int .i64 r_Code, .int .i64 r_N, .string r_Out])) ∧
 (Loc.mk 43 true cs) = (Loc.mk 43 true cs) ∧ I_3 (qr + 1) (putCells u16 b3 (o3 + qr.toNat * 1) ([.int .i64 (-1)])) ∧
 (Loc.mk 29 false ([.int .i64 a_Kind, .int .i64 a_P, .int .i64 a_N, .int .i64 a_M, .string a_Bytes])) = (Loc.mk 29 false ([.int .i64 a_Kind, .int .i64 a_P, .int .i64 a_N, .int .i64 a_M, .string a_Bytes])) ∧
 (Loc.mk 32 false ([.int .i64 r_Code, .int .i64 r_N, .string r_Out])) = (Loc.mk 32 false ([.int .i64 r_Code, .int .i64 r_N, .string r_Out])) ∧
 (Loc.mk 43 true cs) = (Loc.mk 43 true cs) ∧ M_3 (qr + 1) (putCells u16 b3 (o3 + qr.toNat * 1) ([.int .i64 (-1)])) < M_3 qr u16) ∧
 ((decide (qr < ((qp : Nat) : Int))) = false → inK .i64 (qk + 1) ∧
 (Loc.mk 29 false ([.int .i64 a_Kind, .int .i64 a_P, .int .i64 a_N, .int .i64 a_M, .string a_Bytes])) = (Loc.mk 29 false ([.int .i64 a_Kind, .int .i64 a_P, .int .i64 a_N, .int .i64 a_M, .string a_Bytes])) ∧
 (Loc.mk 32 false ([.int .i64 r_Code, .int .i64 r_N, .string r_Out])) = (Loc.mk 32 false ([.int .i64 r_Code, .int .i64 r_N, .string r_Out])) ∧
 (Loc.mk 43 true cs) = (Loc.mk 43 true cs) ∧ I_2 (qk + 1) u16 ∧
 (Loc.mk 29 false ([.int .i64 a_Kind, .int .i64 a_P, .int .i64 a_N, .int .i64 a_M, .string a_Bytes])) = (Loc.mk 29 false ([.int .i64 a_Kind, .int .i64 a_P, .int .i64 a_N, .int .i64 a_M, .string a_Bytes])) ∧
 (Loc.mk 32 false ([.int .i64 r_Code, .int .i64 r_N, .string r_Out])) = (Loc.mk 32 false ([.int .i64 r_Code, .int .i64 r_N, .string r_Out])) ∧
 (Loc.mk 43 true cs) = (Loc.mk 43 true cs) ∧ M_2 (qk + 1) u16 < M_2 qk u15))) ∧
 ((decide (qk < ((qi : Nat) : Int))) = false → R (.returned (.bool true)) u15))))))))))))
set_option maxRecDepth 100000 in
theorem vc_fenestratop_TopMemory_c1_eq (s_b s_o : Nat) (t_b t_o : Nat) (a_Kind : Int) (a_P : Int) (a_N : Int) (a_M : Int) (a_Bytes : ByteArray) (r_Code : Int) (r_N : Int) (r_Out : ByteArray) (cap0 : Nat) (u : World) (R : Ending → World → Prop) : wFunc cx_fenestratop_TopMemory_c1 Tryd.f7 [.pointer (some ⟨s_b, s_o, none⟩), .pointer (some ⟨t_b, t_o, none⟩), .agg #[.int .i64 a_Kind, .int .i64 a_P, .int .i64 a_N, .int .i64 a_M, .string a_Bytes], .agg #[.int .i64 r_Code, .int .i64 r_N, .string r_Out], .pointer (some ⟨cap0, 0, none⟩)] u R = vc_fenestratop_TopMemory_c1 s_b s_o t_b t_o a_Kind a_P a_N a_M a_Bytes r_Code r_N r_Out cap0 u R := by kernel_rfl
theorem vc_fenestratop_TopMemory_c1_spec (s_b s_o : Nat) (t_b t_o : Nat) (a_Kind : Int) (a_P : Int) (a_N : Int) (a_M : Int) (a_Bytes : ByteArray) (r_Code : Int) (r_N : Int) (r_Out : ByteArray) (cap0 : Nat) {u : World} {R : Ending → World → Prop} (h : vc_fenestratop_TopMemory_c1 s_b s_o t_b t_o a_Kind a_P a_N a_M a_Bytes r_Code r_N r_Out cap0 u R) : Spec Tryd.prog fn_fenestratop_TopMemory_c1 #[.pointer (some ⟨s_b, s_o, none⟩), .pointer (some ⟨t_b, t_o, none⟩), .agg #[.int .i64 a_Kind, .int .i64 a_P, .int .i64 a_N, .int .i64 a_M, .string a_Bytes], .agg #[.int .i64 r_Code, .int .i64 r_N, .string r_Out], .pointer (some ⟨cap0, 0, none⟩)] u R := func_spec (C := cx_fenestratop_TopMemory_c1) (fn := Tryd.f7) (args := [.pointer (some ⟨s_b, s_o, none⟩), .pointer (some ⟨t_b, t_o, none⟩), .agg #[.int .i64 a_Kind, .int .i64 a_P, .int .i64 a_N, .int .i64 a_M, .string a_Bytes], .agg #[.int .i64 r_Code, .int .i64 r_N, .string r_Out], .pointer (some ⟨cap0, 0, none⟩)]) (ctxOk _ _ _ _ _) Tryd.func7 (vc_fenestratop_TopMemory_c1_eq s_b s_o t_b t_o a_Kind a_P a_N a_M a_Bytes r_Code r_N r_Out cap0 u R) h

end Go.Proofs.YtkmmphkjmamckadDoor

namespace Go.Proofs.YtkmmphkjmamckadDoor
open Go
set_option linter.all false

/-- fenestra/fenestratop.play -/
noncomputable def cx_fenestratop_play_memory : Ctx := ⟨Tryd.prog, tab, [8], [], [], fns, [(6, ⟨[.keep, .keep, .keep, .keep, .junk, .junk, .junk, .keep, .keep, .cell (.int .i64), .junk, .junk, .keep, .keep, .keep, .junk, .junk, .junk, .junk, .junk, .junk, .junk, .junk, .junk, .junk, .junk, .junk, .junk, .junk, .junk, .junk, .junk, .junk, .junk, .junk, .junk, .junk, .junk, .junk, .junk, .junk, .junk, .junk, .junk, .junk, .junk, .junk, .junk, .junk, .junk, .junk, .junk, .junk, .junk, .junk, .junk, .junk, .junk, .junk, .junk, .junk, .junk, .junk, .junk, .junk, .junk, .junk, .junk, .junk, .junk, .junk, .junk, .junk, .junk, .keep], []⟩)], []⟩
def vc_fenestratop_play_memory (l_p : Option Addr) (l_n l_c : Nat) (ob : Nat) (u : World) (R : Ending → World → Prop) : Prop :=
 Spec Tryd.prog 13 #[] u (fun e u1 => ∃ (q0 : Bool), e = .returned (.bool q0) ∧
 (((!q0) = true → R (.returned (.tuple #[.pointer none, .pointer none, .bool false])) u1) ∧
 ((!q0) = false → Spec Tryd.prog 5 #[] u1 (fun e u11 => ∃ (q1 q2 : Nat), e = .returned (.pointer (some ⟨q1, q2, none⟩)) ∧
 ∃ (I_ : Int → World → Prop) (M_ : Int → World → Nat), (I_ 0 (allocW u11 (.cells ([.int .i64 0, .slice none 0 0, .string (ByteArray.mk #[]), .bool false, .int .i64 0, .int .i64 0, .slice none 0 0, .int .i64 0, .int .i64 0, .int .i64 0, .bool false, .int .i64 0, .int .i64 0, .int .i64 0, .slice none 0 0, .string (ByteArray.mk #[]), .bool false, .int .i64 0, .int .i64 0, .slice none 0 0, .int .i64 0, .int .i64 0, .int .i64 0, .bool false, .int .i64 0, .int .i64 0, .int .i64 0, .slice none 0 0, .string (ByteArray.mk #[]), .bool false, .int .i64 0, .int .i64 0, .slice none 0 0, .int .i64 0, .int .i64 0, .int .i64 0, .bool false, .int .i64 0, .int .i64 0] : List Value).toArray 62))) ∧
 ∀ (i : Int), ∀ u12 : World, I_ i u12 → (((decide (i < ((l_n : Nat) : Int))) = true →
 (((decide (i < 100)) = true → ∃ b o, l_p = some ⟨b, o, none⟩ ∧
 0 ≤ i ∧ i < ((l_n : Nat) : Int) ∧ ∃ (q3 q4 q5 q6 : Int) (q7 : ByteArray), 5 = szN 5 ∧
 Rd u12 b (o + i.toNat * 5) ([.int .i64 q3, .int .i64 q4, .int .i64 q5, .int .i64 q6, .string q7]) ∧
 Spec Tryd.prog 8 #[.pointer (some ⟨q1, q2, none⟩), .agg #[.int .i64 q3, .int .i64 q4, .int .i64 q5, .int .i64 q6, .string q7]] (allocW u12 hole) (fun e u13 => ∃ (q8 q9 : Int) (qa : ByteArray), e = .returned (.agg #[.int .i64 q8, .int .i64 q9, .string qa]) ∧
 (((decide (q8 = 0)) = true → (((decide (q3 = 6)) = true →
 Spec Tryd.prog 14 #[.int .i64 q5, .int .i64 q6] (drewW (allocW u13 hole)) (fun e u14 => ∃ (qb qc : Int) (qd : Option Addr) (qe qf : Nat) (qg qh qi : Int) (qj : Bool) (qk ql : Int), e = .returned (.agg #[.int .i64 qb, .int .i64 qc, .slice qd qe qf, .int .i64 qg, .int .i64 qh, .int .i64 qi, .bool qj, .int .i64 qk, .int .i64 ql]) ∧
 0 ≤ q4 ∧ q4 < ((3 : Nat) : Int) ∧ 13 = ([.int .i64 0, .slice none 0 0, .string (ByteArray.mk #[]), .bool false, .int .i64 qb, .int .i64 qc, .slice qd qe qf, .int .i64 qg, .int .i64 qh, .int .i64 qi, .bool qj, .int .i64 qk, .int .i64 ql] : List Value).length ∧
 Wr u14 u11.heap.size (0 + q4.toNat * 13) 13 ∧ (((decide (q8 = 0)) = true →
 (((decide (q3 = 9)) = true → 0 ≤ q4 ∧ q4 < ((3 : Nat) : Int) ∧
 Spec Tryd.prog 15 #[.pointer (some ⟨u11.heap.size, 0 + q4.toNat * 13, none⟩), .string qa] (drewW (putCells u14 u11.heap.size (0 + q4.toNat * 13) ([.int .i64 0, .slice none 0 0, .string (ByteArray.mk #[]), .bool false, .int .i64 qb, .int .i64 qc, .slice qd qe qf, .int .i64 qg, .int .i64 qh, .int .i64 qi, .bool qj, .int .i64 qk, .int .i64 ql]))) (fun e u15 => ∃ (qm : Bool), e = .returned (.bool qm) ∧
 (((!qm) = true → R (.returned (.tuple #[.pointer (some ⟨q1, q2, none⟩), .pointer (some ⟨u11.heap.size, 0, none⟩), .bool false])) u15) ∧
 ((!qm) = false → Spec Tryd.prog 7 #[.pointer (some ⟨q1, q2, none⟩), .pointer (some ⟨u11.heap.size, 0, none⟩), .agg #[.int .i64 q3, .int .i64 q4, .int .i64 q5, .int .i64 q6, .string q7], .agg #[.int .i64 q8, .int .i64 q9, .string qa], .pointer (some ⟨ob, 0, none⟩)] u15 (fun e u16 => ∃ (qn : Bool), e = .returned (.bool qn) ∧
 (((!qn) = true → R (.returned (.tuple #[.pointer (some ⟨q1, q2, none⟩), .pointer (some ⟨u11.heap.size, 0, none⟩), .bool false])) u16) ∧
 ((!qn) = false → inK .i64 (i + 1) ∧ I_ (i + 1) u16 ∧ M_ (i + 1) u16 < M_ i u12))))))) ∧
 ((decide (q3 = 9)) = false → Spec Tryd.prog 7 #[.pointer (some ⟨q1, q2, none⟩), .pointer (some ⟨u11.heap.size, 0, none⟩), .agg #[.int .i64 q3, .int .i64 q4, .int .i64 q5, .int .i64 q6, .string q7], .agg #[.int .i64 q8, .int .i64 q9, .string qa], .pointer (some ⟨ob, 0, none⟩)] (drewW (putCells u14 u11.heap.size (0 + q4.toNat * 13) ([.int .i64 0, .slice none 0 0, .string (ByteArray.mk #[]), .bool false, .int .i64 qb, .int .i64 qc, .slice qd qe qf, .int .i64 qg, .int .i64 qh, .int .i64 qi, .bool qj, .int .i64 qk, .int .i64 ql]))) (fun e u17 => ∃ (qo : Bool), e = .returned (.bool qo) ∧
 (((!qo) = true → R (.returned (.tuple #[.pointer (some ⟨q1, q2, none⟩), .pointer (some ⟨u11.heap.size, 0, none⟩), .bool false])) u17) ∧
 ((!qo) = false → inK .i64 (i + 1) ∧ I_ (i + 1) u17 ∧ M_ (i + 1) u17 < M_ i u12)))))) ∧
 ((decide (q8 = 0)) = false → Spec Tryd.prog 7 #[.pointer (some ⟨q1, q2, none⟩), .pointer (some ⟨u11.heap.size, 0, none⟩), .agg #[.int .i64 q3, .int .i64 q4, .int .i64 q5, .int .i64 q6, .string q7], .agg #[.int .i64 q8, .int .i64 q9, .string qa], .pointer (some ⟨ob, 0, none⟩)] (drewW (putCells u14 u11.heap.size (0 + q4.toNat * 13) ([.int .i64 0, .slice none 0 0, .string (ByteArray.mk #[]), .bool false, .int .i64 qb, .int .i64 qc, .slice qd qe qf, .int .i64 qg, .int .i64 qh, .int .i64 qi, .bool qj, .int .i64 qk, .int .i64 ql]))) (fun e u18 => ∃ (qp : Bool), e = .returned (.bool qp) ∧
 (((!qp) = true → R (.returned (.tuple #[.pointer (some ⟨q1, q2, none⟩), .pointer (some ⟨u11.heap.size, 0, none⟩), .bool false])) u18) ∧
 ((!qp) = false → inK .i64 (i + 1) ∧ I_ (i + 1) u18 ∧ M_ (i + 1) u18 < M_ i u12))))))) ∧
 ((decide (q3 = 6)) = false → (((decide (q8 = 0)) = true →
 (((decide (q3 = 9)) = true → 0 ≤ q4 ∧ q4 < ((3 : Nat) : Int) ∧
 Spec Tryd.prog 15 #[.pointer (some ⟨u11.heap.size, 0 + q4.toNat * 13, none⟩), .string qa] (drewW (allocW u13 hole)) (fun e u19 => ∃ (qq : Bool), e = .returned (.bool qq) ∧
 (((!qq) = true → R (.returned (.tuple #[.pointer (some ⟨q1, q2, none⟩), .pointer (some ⟨u11.heap.size, 0, none⟩), .bool false])) u19) ∧
 ((!qq) = false → Spec Tryd.prog 7 #[.pointer (some ⟨q1, q2, none⟩), .pointer (some ⟨u11.heap.size, 0, none⟩), .agg #[.int .i64 q3, .int .i64 q4, .int .i64 q5, .int .i64 q6, .string q7], .agg #[.int .i64 q8, .int .i64 q9, .string qa], .pointer (some ⟨ob, 0, none⟩)] u19 (fun e u110 => ∃ (qr : Bool), e = .returned (.bool qr) ∧
 (((!qr) = true → R (.returned (.tuple #[.pointer (some ⟨q1, q2, none⟩), .pointer (some ⟨u11.heap.size, 0, none⟩), .bool false])) u110) ∧
 ((!qr) = false → inK .i64 (i + 1) ∧ I_ (i + 1) u110 ∧ M_ (i + 1) u110 < M_ i u12))))))) ∧
 ((decide (q3 = 9)) = false → Spec Tryd.prog 7 #[.pointer (some ⟨q1, q2, none⟩), .pointer (some ⟨u11.heap.size, 0, none⟩), .agg #[.int .i64 q3, .int .i64 q4, .int .i64 q5, .int .i64 q6, .string q7], .agg #[.int .i64 q8, .int .i64 q9, .string qa], .pointer (some ⟨ob, 0, none⟩)] (drewW (allocW u13 hole)) (fun e u111 => ∃ (qs : Bool), e = .returned (.bool qs) ∧
 (((!qs) = true → R (.returned (.tuple #[.pointer (some ⟨q1, q2, none⟩), .pointer (some ⟨u11.heap.size, 0, none⟩), .bool false])) u111) ∧
 ((!qs) = false → inK .i64 (i + 1) ∧ I_ (i + 1) u111 ∧ M_ (i + 1) u111 < M_ i u12)))))) ∧
 ((decide (q8 = 0)) = false → Spec Tryd.prog 7 #[.pointer (some ⟨q1, q2, none⟩), .pointer (some ⟨u11.heap.size, 0, none⟩), .agg #[.int .i64 q3, .int .i64 q4, .int .i64 q5, .int .i64 q6, .string q7], .agg #[.int .i64 q8, .int .i64 q9, .string qa], .pointer (some ⟨ob, 0, none⟩)] (drewW (allocW u13 hole)) (fun e u112 => ∃ (qt : Bool), e = .returned (.bool qt) ∧
 (((!qt) = true → R (.returned (.tuple #[.pointer (some ⟨q1, q2, none⟩), .pointer (some ⟨u11.heap.size, 0, none⟩), .bool false])) u112) ∧
 ((!qt) = false → inK .i64 (i + 1) ∧ I_ (i + 1) u112 ∧ M_ (i + 1) u112 < M_ i u12)))))))) ∧
 ((decide (q8 = 0)) = false → (((decide (q8 = 0)) = true →
 (((decide (q3 = 9)) = true → 0 ≤ q4 ∧ q4 < ((3 : Nat) : Int) ∧
 Spec Tryd.prog 15 #[.pointer (some ⟨u11.heap.size, 0 + q4.toNat * 13, none⟩), .string qa] (drewW (allocW u13 hole)) (fun e u113 => ∃ (qu : Bool), e = .returned (.bool qu) ∧
 (((!qu) = true → R (.returned (.tuple #[.pointer (some ⟨q1, q2, none⟩), .pointer (some ⟨u11.heap.size, 0, none⟩), .bool false])) u113) ∧
 ((!qu) = false → Spec Tryd.prog 7 #[.pointer (some ⟨q1, q2, none⟩), .pointer (some ⟨u11.heap.size, 0, none⟩), .agg #[.int .i64 q3, .int .i64 q4, .int .i64 q5, .int .i64 q6, .string q7], .agg #[.int .i64 q8, .int .i64 q9, .string qa], .pointer (some ⟨ob, 0, none⟩)] u113 (fun e u114 => ∃ (qv : Bool), e = .returned (.bool qv) ∧
 (((!qv) = true → R (.returned (.tuple #[.pointer (some ⟨q1, q2, none⟩), .pointer (some ⟨u11.heap.size, 0, none⟩), .bool false])) u114) ∧
 ((!qv) = false → inK .i64 (i + 1) ∧ I_ (i + 1) u114 ∧ M_ (i + 1) u114 < M_ i u12))))))) ∧
 ((decide (q3 = 9)) = false → Spec Tryd.prog 7 #[.pointer (some ⟨q1, q2, none⟩), .pointer (some ⟨u11.heap.size, 0, none⟩), .agg #[.int .i64 q3, .int .i64 q4, .int .i64 q5, .int .i64 q6, .string q7], .agg #[.int .i64 q8, .int .i64 q9, .string qa], .pointer (some ⟨ob, 0, none⟩)] (drewW (allocW u13 hole)) (fun e u115 => ∃ (qw : Bool), e = .returned (.bool qw) ∧
 (((!qw) = true → R (.returned (.tuple #[.pointer (some ⟨q1, q2, none⟩), .pointer (some ⟨u11.heap.size, 0, none⟩), .bool false])) u115) ∧
 ((!qw) = false → inK .i64 (i + 1) ∧ I_ (i + 1) u115 ∧ M_ (i + 1) u115 < M_ i u12)))))) ∧
 ((decide (q8 = 0)) = false → Spec Tryd.prog 7 #[.pointer (some ⟨q1, q2, none⟩), .pointer (some ⟨u11.heap.size, 0, none⟩), .agg #[.int .i64 q3, .int .i64 q4, .int .i64 q5, .int .i64 q6, .string q7], .agg #[.int .i64 q8, .int .i64 q9, .string qa], .pointer (some ⟨ob, 0, none⟩)] (drewW (allocW u13 hole)) (fun e u116 => ∃ (qx : Bool), e = .returned (.bool qx) ∧
 (((!qx) = true → R (.returned (.tuple #[.pointer (some ⟨q1, q2, none⟩), .pointer (some ⟨u11.heap.size, 0, none⟩), .bool false])) u116) ∧
 ((!qx) = false → inK .i64 (i + 1) ∧ I_ (i + 1) u116 ∧ M_ (i + 1) u116 < M_ i u12))))))))) ∧
 ((decide (i < 100)) = false → R (.returned (.tuple #[.pointer (some ⟨q1, q2, none⟩), .pointer (some ⟨u11.heap.size, 0, none⟩), .bool true])) u12))) ∧
 ((decide (i < ((l_n : Nat) : Int))) = false → R (.returned (.tuple #[.pointer (some ⟨q1, q2, none⟩), .pointer (some ⟨u11.heap.size, 0, none⟩), .bool true])) u12))))))
set_option maxRecDepth 100000 in
theorem vc_fenestratop_play_memory_eq (l_p : Option Addr) (l_n l_c : Nat) (ob : Nat) (u : World) (R : Ending → World → Prop) : wFunc cx_fenestratop_play_memory Tryd.f6 [.slice l_p l_n l_c, .func (.func 7) #[] #[.pointer (some ⟨ob, 0, none⟩)]] u R = vc_fenestratop_play_memory l_p l_n l_c ob u R := by kernel_rfl
theorem vc_fenestratop_play_memory_spec (l_p : Option Addr) (l_n l_c : Nat) (ob : Nat) {u : World} {R : Ending → World → Prop} (h : vc_fenestratop_play_memory l_p l_n l_c ob u R) : Spec Tryd.prog fn_fenestratop_play #[.slice l_p l_n l_c, .func (.func 7) #[] #[.pointer (some ⟨ob, 0, none⟩)]] u R := func_spec (C := cx_fenestratop_play_memory) (fn := Tryd.f6) (args := [.slice l_p l_n l_c, .func (.func 7) #[] #[.pointer (some ⟨ob, 0, none⟩)]]) (ctxOk _ _ _ _ _) Tryd.func6 (vc_fenestratop_play_memory_eq l_p l_n l_c ob u R) h

end Go.Proofs.YtkmmphkjmamckadDoor

