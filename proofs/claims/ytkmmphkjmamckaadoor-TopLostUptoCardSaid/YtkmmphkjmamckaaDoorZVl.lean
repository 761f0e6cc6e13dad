/-
  Texts that belong together, joined: VTopL1, VPlayL.
-/
import Derived.Test.YtkmmphkjmamckaaDoorCtx
namespace Go.Proofs.YtkmmphkjmamckaaDoor
open Go
set_option linter.all false

/-- fenestra/fenestratop.TopLost -/
noncomputable def cx_fenestratop_TopLost : Ctx := ⟨Tryd.prog, tab, [3, 4], [], [], fns, [], []⟩
def vc_fenestratop_TopLost (l_p : Option Addr) (l_n l_c : Nat) (u : World) (R : Ending → World → Prop) : Prop :=
 Spec Tryd.prog 4 #[.slice l_p l_n l_c, .func (.func 5) #[] #[.pointer (some ⟨u.heap.size, 0, none⟩), .pointer (some ⟨(allocW u (.cells ([.string (ByteArray.mk #[]), .string (ByteArray.mk #[]), .string (ByteArray.mk #[])] : List Value).toArray 23)).heap.size, 0, none⟩)]] (allocW (allocW u (.cells ([.string (ByteArray.mk #[]), .string (ByteArray.mk #[]), .string (ByteArray.mk #[])] : List Value).toArray 23)) (.cells ([.bool false, .bool false, .bool false] : List Value).toArray 24)) (fun e u1 => ∃ (q0 q1 q2 q3 : Nat) (q4 : Bool), e = .returned (.tuple #[.pointer (some ⟨q0, q1, none⟩), .pointer (some ⟨q2, q3, none⟩), .bool q4]) ∧
 R (.returned (.bool q4)) u1)
set_option maxRecDepth 100000 in
theorem vc_fenestratop_TopLost_eq (l_p : Option Addr) (l_n l_c : Nat) (u : World) (R : Ending → World → Prop) : wFunc cx_fenestratop_TopLost Tryd.f3 [.slice l_p l_n l_c] u R = vc_fenestratop_TopLost l_p l_n l_c u R := by kernel_rfl
theorem vc_fenestratop_TopLost_spec (l_p : Option Addr) (l_n l_c : Nat) {u : World} {R : Ending → World → Prop} (h : vc_fenestratop_TopLost l_p l_n l_c u R) : Spec Tryd.prog fn_fenestratop_TopLost #[.slice l_p l_n l_c] u R := func_spec (C := cx_fenestratop_TopLost) (fn := Tryd.f3) (args := [.slice l_p l_n l_c]) (ctxOk _ _ _ _ _) Tryd.func3 (vc_fenestratop_TopLost_eq l_p l_n l_c u R) h

/-- fenestra/fenestratop.TopLost$1 -/
noncomputable def cx_fenestratop_TopLost_c1 : Ctx := ⟨Tryd.prog, tab, [], [], [], fns, [(2, ⟨[.keep, .keep, .keep, .keep, .keep, .keep, .keep, .keep, .keep, .keep, .junk, .junk, .junk, .junk, .junk, .cell (.int .i64), .junk, .junk, .junk, .junk, .junk, .junk, .junk, .junk, .junk, .junk, .junk, .junk, .junk, .junk, .junk, .junk, .junk, .junk, .junk, .junk, .junk, .junk, .junk, .junk, .junk, .junk, .junk, .junk, .junk, .junk, .junk, .junk, .junk, .junk, .junk, .junk, .junk, .junk, .junk, .junk, .junk, .junk, .junk, .junk, .junk, .junk, .junk, .junk, .junk, .junk, .junk, .junk, .junk, .junk, .junk, .junk, .junk, .junk, .junk, .junk, .junk, .junk, .junk, .junk, .junk, .junk, .junk, .junk, .junk, .junk, .junk, .junk, .junk, .junk, .junk, .junk, .junk, .junk, .junk, .junk, .junk, .junk, .junk], [.keep, .keep]⟩)], []⟩
def vc_fenestratop_TopLost_c1 (s_b s_o : Nat) (t_b t_o : Nat) (a_Kind : Int) (a_P : Int) (a_N : Int) (a_M : Int) (a_Bytes : ByteArray) (r_Code : Int) (r_N : Int) (r_Out : ByteArray) (cap0 : Nat) (cap1 : Nat) (u : World) (R : Ending → World → Prop) : Prop :=
 ∃ (I_ : Int → World → Prop) (M_ : Int → World → Nat), ((Loc.mk 30 false ([.int .i64 a_Kind, .int .i64 a_P, .int .i64 a_N, .int .i64 a_M, .string a_Bytes])) = (Loc.mk 30 false ([.int .i64 a_Kind, .int .i64 a_P, .int .i64 a_N, .int .i64 a_M, .string a_Bytes])) ∧
 (Loc.mk 33 false ([.int .i64 r_Code, .int .i64 r_N, .string r_Out])) = (Loc.mk 33 false ([.int .i64 r_Code, .int .i64 r_N, .string r_Out])) ∧
 I_ 0 (allocW (allocW u hole) hole)) ∧ ∀ (q0 : Int), (Loc.mk 30 false ([.int .i64 a_Kind, .int .i64 a_P, .int .i64 a_N, .int .i64 a_M, .string a_Bytes])) = (Loc.mk 30 false ([.int .i64 a_Kind, .int .i64 a_P, .int .i64 a_N, .int .i64 a_M, .string a_Bytes])) ∧
 (Loc.mk 33 false ([.int .i64 r_Code, .int .i64 r_N, .string r_Out])) = (Loc.mk 33 false ([.int .i64 r_Code, .int .i64 r_N, .string r_Out])) ∧
 ∀ u1 : World, I_ q0 u1 → (((decide (q0 < 3)) = true → Spec Tryd.prog 6 #[.pointer (some ⟨s_b, s_o, none⟩), .int .i64 q0] u1 (fun e u11 => ∃ (q1 : ByteArray) (q2 q3 : Bool), e = .returned (.tuple #[.string q1, .bool q2, .bool q3]) ∧
 (((decide ((4000 : Int) < ((q1.size : Nat) : Int))) = true →
 R (.returned (.bool false)) u11) ∧ ((decide ((4000 : Int) < ((q1.size : Nat) : Int))) = false →
 ((q3 = true → (((decide (a_Kind = 8)) = true → (((decide (r_Code = 0)) = true →
 ((q2 = true → 0 ≤ q0 ∧ q0 < ((3 : Nat) : Int) ∧ ∃ (q4 : ByteArray), 1 = szN 1 ∧
 Rd u11 cap0 (0 + q0.toNat * 1) ([.string q4]) ∧ (((decide (q4.data.toList = (ByteArray.mk #[]).data.toList)) = true →
 R (.returned (.bool false)) u11) ∧ ((decide (q4.data.toList = (ByteArray.mk #[]).data.toList)) = false →
 0 ≤ q0 ∧ q0 < ((3 : Nat) : Int) ∧ ∃ (q5 : ByteArray), 1 = szN 1 ∧
 Rd u11 cap0 (0 + q0.toNat * 1) ([.string q5]) ∧ (((!decide (q1.data.toList = q5.data.toList)) = true →
 R (.returned (.bool false)) u11) ∧ ((!decide (q1.data.toList = q5.data.toList)) = false →
 ((q3 = true → (((decide (a_Kind = 8)) = true → (((!q2) = true →
 0 ≤ q0 ∧ q0 < ((3 : Nat) : Int) ∧ ∃ (q6 : Bool), 1 = szN 1 ∧
 Rd (drewW u11) cap1 (0 + q0.toNat * 1) ([.bool q6]) ∧ (((!q6) = true →
 0 ≤ q0 ∧ q0 < ((3 : Nat) : Int) ∧ ∃ (q7 : ByteArray), 1 = szN 1 ∧
 Rd (drewW u11) cap0 (0 + q0.toNat * 1) ([.string q7]) ∧ (((decide (((q1.size : Nat) : Int) < ((q7.size : Nat) : Int))) = true →
 R (.returned (.bool false)) (drewW u11)) ∧ ((decide (((q1.size : Nat) : Int) < ((q7.size : Nat) : Int))) = false →
 0 ≤ q0 ∧ q0 < ((3 : Nat) : Int) ∧ ∃ (q8 : ByteArray), 1 = szN 1 ∧
 Rd (drewW u11) cap0 (0 + q0.toNat * 1) ([.string q8]) ∧ 0 ≤ (0 : Int) ∧
 (0 : Int) ≤ ((q8.size : Nat) : Int) ∧ ((q8.size : Nat) : Int) ≤ ((q1.size : Nat) : Int) ∧
 0 ≤ q0 ∧ q0 < ((3 : Nat) : Int) ∧ ∃ (q9 : ByteArray), 1 = szN 1 ∧
 Rd (drewW u11) cap0 (0 + q0.toNat * 1) ([.string q9]) ∧ (((!decide ((q1.extract (0 : Int).toNat ((q8.size : Nat) : Int).toNat).data.toList = q9.data.toList)) = true →
 R (.returned (.bool false)) (drewW u11)) ∧ ((!decide ((q1.extract (0 : Int).toNat ((q8.size : Nat) : Int).toNat).data.toList = q9.data.toList)) = false →
 0 ≤ q0 ∧ q0 < ((3 : Nat) : Int) ∧ 1 = szN 1 ∧
 Wr (drewW u11) cap0 (0 + q0.toNat * 1) 1 ∧ 0 ≤ q0 ∧ q0 < ((3 : Nat) : Int) ∧
 1 = szN 1 ∧ Wr (putCells (drewW u11) cap0 (0 + q0.toNat * 1) ([.string q1])) cap1 (0 + q0.toNat * 1) 1 ∧
 inK .i64 (q0 + 1) ∧ (Loc.mk 30 false ([.int .i64 a_Kind, .int .i64 a_P, .int .i64 a_N, .int .i64 a_M, .string a_Bytes])) = (Loc.mk 30 false ([.int .i64 a_Kind, .int .i64 a_P, .int .i64 a_N, .int .i64 a_M, .string a_Bytes])) ∧
 (Loc.mk 33 false ([.int .i64 r_Code, .int .i64 r_N, .string r_Out])) = (Loc.mk 33 false ([.int .i64 r_Code, .int .i64 r_N, .string r_Out])) ∧
 I_ (q0 + 1) (putCells (putCells (drewW u11) cap0 (0 + q0.toNat * 1) ([.string q1])) cap1 (0 + q0.toNat * 1) ([.bool q2])) ∧
 (Loc.mk 30 false ([.int .i64 a_Kind, .int .i64 a_P, .int .i64 a_N, .int .i64 a_M, .string a_Bytes])) = (Loc.mk 30 false ([.int .i64 a_Kind, .int .i64 a_P, .int .i64 a_N, .int .i64 a_M, .string a_Bytes])) ∧
 (Loc.mk 33 false ([.int .i64 r_Code, .int .i64 r_N, .string r_Out])) = (Loc.mk 33 false ([.int .i64 r_Code, .int .i64 r_N, .string r_Out])) ∧
 M_ (q0 + 1) (putCells (putCells (drewW u11) cap0 (0 + q0.toNat * 1) ([.string q1])) cap1 (0 + q0.toNat * 1) ([.bool q2])) < M_ q0 u1))))) ∧
 ((!q6) = false → 0 ≤ q0 ∧ q0 < ((3 : Nat) : Int) ∧ 1 = szN 1 ∧
 Wr (drewW u11) cap0 (0 + q0.toNat * 1) 1 ∧ 0 ≤ q0 ∧ q0 < ((3 : Nat) : Int) ∧
 1 = szN 1 ∧ Wr (putCells (drewW u11) cap0 (0 + q0.toNat * 1) ([.string q1])) cap1 (0 + q0.toNat * 1) 1 ∧
 inK .i64 (q0 + 1) ∧ (Loc.mk 30 false ([.int .i64 a_Kind, .int .i64 a_P, .int .i64 a_N, .int .i64 a_M, .string a_Bytes])) = (Loc.mk 30 false ([.int .i64 a_Kind, .int .i64 a_P, .int .i64 a_N, .int .i64 a_M, .string a_Bytes])) ∧
 (Loc.mk 33 false ([.int .i64 r_Code, .int .i64 r_N, .string r_Out])) = (Loc.mk 33 false ([.int .i64 r_Code, .int .i64 r_N, .string r_Out])) ∧
 I_ (q0 + 1) (putCells (putCells (drewW u11) cap0 (0 + q0.toNat * 1) ([.string q1])) cap1 (0 + q0.toNat * 1) ([.bool q2])) ∧
 (Loc.mk 30 false ([.int .i64 a_Kind, .int .i64 a_P, .int .i64 a_N, .int .i64 a_M, .string a_Bytes])) = (Loc.mk 30 false ([.int .i64 a_Kind, .int .i64 a_P, .int .i64 a_N, .int .i64 a_M, .string a_Bytes])) ∧
 (Loc.mk 33 false ([.int .i64 r_Code, .int .i64 r_N, .string r_Out])) = (Loc.mk 33 false ([.int .i64 r_Code, .int .i64 r_N, .string r_Out])) ∧
 M_ (q0 + 1) (putCells (putCells (drewW u11) cap0 (0 + q0.toNat * 1) ([.string q1])) cap1 (0 + q0.toNat * 1) ([.bool q2])) < M_ q0 u1))) ∧
 ((!q2) = false → 0 ≤ q0 ∧ q0 < ((3 : Nat) : Int) ∧ 1 = szN 1 ∧
 Wr (drewW u11) cap0 (0 + q0.toNat * 1) 1 ∧ 0 ≤ q0 ∧ q0 < ((3 : Nat) : Int) ∧
 1 = szN 1 ∧ Wr (putCells (drewW u11) cap0 (0 + q0.toNat * 1) ([.string q1])) cap1 (0 + q0.toNat * 1) 1 ∧
 inK .i64 (q0 + 1) ∧ (Loc.mk 30 false ([.int .i64 a_Kind, .int .i64 a_P, .int .i64 a_N, .int .i64 a_M, .string a_Bytes])) = (Loc.mk 30 false ([.int .i64 a_Kind, .int .i64 a_P, .int .i64 a_N, .int .i64 a_M, .string a_Bytes])) ∧
 (Loc.mk 33 false ([.int .i64 r_Code, .int .i64 r_N, .string r_Out])) = (Loc.mk 33 false ([.int .i64 r_Code, .int .i64 r_N, .string r_Out])) ∧
 I_ (q0 + 1) (putCells (putCells (drewW u11) cap0 (0 + q0.toNat * 1) ([.string q1])) cap1 (0 + q0.toNat * 1) ([.bool q2])) ∧
 (Loc.mk 30 false ([.int .i64 a_Kind, .int .i64 a_P, .int .i64 a_N, .int .i64 a_M, .string a_Bytes])) = (Loc.mk 30 false ([.int .i64 a_Kind, .int .i64 a_P, .int .i64 a_N, .int .i64 a_M, .string a_Bytes])) ∧
 (Loc.mk 33 false ([.int .i64 r_Code, .int .i64 r_N, .string r_Out])) = (Loc.mk 33 false ([.int .i64 r_Code, .int .i64 r_N, .string r_Out])) ∧
 M_ (q0 + 1) (putCells (putCells (drewW u11) cap0 (0 + q0.toNat * 1) ([.string q1])) cap1 (0 + q0.toNat * 1) ([.bool q2])) < M_ q0 u1))) ∧
 ((decide (a_Kind = 8)) = false → 0 ≤ q0 ∧ q0 < ((3 : Nat) : Int) ∧
 1 = szN 1 ∧ Wr (drewW u11) cap0 (0 + q0.toNat * 1) 1 ∧
 0 ≤ q0 ∧ q0 < ((3 : Nat) : Int) ∧ 1 = szN 1 ∧
 Wr (putCells (drewW u11) cap0 (0 + q0.toNat * 1) ([.string q1])) cap1 (0 + q0.toNat * 1) 1 ∧
 inK .i64 (q0 + 1) ∧ (Loc.mk 30 false ([.int .i64 a_Kind, .int .i64 a_P, .int .i64 a_N, .int .i64 a_M, .string a_Bytes])) = (Loc.mk 30 false ([.int .i64 a_Kind, .int .i64 a_P, .int .i64 a_N, .int .i64 a_M, .string a_Bytes])) ∧
 (Loc.mk 33 false ([.int .i64 r_Code, .int .i64 r_N, .string r_Out])) = (Loc.mk 33 false ([.int .i64 r_Code, .int .i64 r_N, .string r_Out])) ∧
 I_ (q0 + 1) (putCells (putCells (drewW u11) cap0 (0 + q0.toNat * 1) ([.string q1])) cap1 (0 + q0.toNat * 1) ([.bool q2])) ∧
 (Loc.mk 30 false ([.int .i64 a_Kind, .int .i64 a_P, .int .i64 a_N, .int .i64 a_M, .string a_Bytes])) = (Loc.mk 30 false ([.int .i64 a_Kind, .int .i64 a_P, .int .i64 a_N, .int .i64 a_M, .string a_Bytes])) ∧
 (Loc.mk 33 false ([.int .i64 r_Code, .int .i64 r_N, .string r_Out])) = (Loc.mk 33 false ([.int .i64 r_Code, .int .i64 r_N, .string r_Out])) ∧
 M_ (q0 + 1) (putCells (putCells (drewW u11) cap0 (0 + q0.toNat * 1) ([.string q1])) cap1 (0 + q0.toNat * 1) ([.bool q2])) < M_ q0 u1))) ∧
 (q3 = false → 0 ≤ q0 ∧ q0 < ((3 : Nat) : Int) ∧ 1 = szN 1 ∧
 Wr (drewW u11) cap0 (0 + q0.toNat * 1) 1 ∧ 0 ≤ q0 ∧ q0 < ((3 : Nat) : Int) ∧
 1 = szN 1 ∧ Wr (putCells (drewW u11) cap0 (0 + q0.toNat * 1) ([.string q1])) cap1 (0 + q0.toNat * 1) 1 ∧
 inK .i64 (q0 + 1) ∧ (Loc.mk 30 false ([.int .i64 a_Kind, .int .i64 a_P, .int .i64 a_N, .int .i64 a_M, .string a_Bytes])) = (Loc.mk 30 false ([.int .i64 a_Kind, .int .i64 a_P, .int .i64 a_N, .int .i64 a_M, .string a_Bytes])) ∧
 (Loc.mk 33 false ([.int .i64 r_Code, .int .i64 r_N, .string r_Out])) = (Loc.mk 33 false ([.int .i64 r_Code, .int .i64 r_N, .string r_Out])) ∧
 I_ (q0 + 1) (putCells (putCells (drewW u11) cap0 (0 + q0.toNat * 1) ([.string q1])) cap1 (0 + q0.toNat * 1) ([.bool q2])) ∧
 (Loc.mk 30 false ([.int .i64 a_Kind, .int .i64 a_P, .int .i64 a_N, .int .i64 a_M, .string a_Bytes])) = (Loc.mk 30 false ([.int .i64 a_Kind, .int .i64 a_P, .int .i64 a_N, .int .i64 a_M, .string a_Bytes])) ∧
 (Loc.mk 33 false ([.int .i64 r_Code, .int .i64 r_N, .string r_Out])) = (Loc.mk 33 false ([.int .i64 r_Code, .int .i64 r_N, .string r_Out])) ∧
 M_ (q0 + 1) (putCells (putCells (drewW u11) cap0 (0 + q0.toNat * 1) ([.string q1])) cap1 (0 + q0.toNat * 1) ([.bool q2])) < M_ q0 u1))))))) ∧
 (q2 = false → ((q3 = true → (((decide (a_Kind = 8)) = true →
 (((!q2) = true → 0 ≤ q0 ∧ q0 < ((3 : Nat) : Int) ∧ ∃ (qa : Bool), 1 = szN 1 ∧
 Rd (drewW u11) cap1 (0 + q0.toNat * 1) ([.bool qa]) ∧ (((!qa) = true →
 0 ≤ q0 ∧ q0 < ((3 : Nat) : Int) ∧ ∃ (qb : ByteArray), 1 = szN 1 ∧
 Rd (drewW u11) cap0 (0 + q0.toNat * 1) ([.string qb]) ∧ (((decide (((q1.size : Nat) : Int) < ((qb.size : Nat) : Int))) = true →
 R (.returned (.bool false)) (drewW u11)) ∧ ((decide (((q1.size : Nat) : Int) < ((qb.size : Nat) : Int))) = false →
 0 ≤ q0 ∧ q0 < ((3 : Nat) : Int) ∧ ∃ (qc : ByteArray), 1 = szN 1 ∧
 Rd (drewW u11) cap0 (0 + q0.toNat * 1) ([.string qc]) ∧ 0 ≤ (0 : Int) ∧
 (0 : Int) ≤ ((qc.size : Nat) : Int) ∧ ((qc.size : Nat) : Int) ≤ ((q1.size : Nat) : Int) ∧
 0 ≤ q0 ∧ q0 < ((3 : Nat) : Int) ∧ ∃ (qd : ByteArray), 1 = szN 1 ∧
 Rd (drewW u11) cap0 (0 + q0.toNat * 1) ([.string qd]) ∧ (((!decide ((q1.extract (0 : Int).toNat ((qc.size : Nat) : Int).toNat).data.toList = qd.data.toList)) = true →
 R (.returned (.bool false)) (drewW u11)) ∧ ((!decide ((q1.extract (0 : Int).toNat ((qc.size : Nat) : Int).toNat).data.toList = qd.data.toList)) = false →
 0 ≤ q0 ∧ q0 < ((3 : Nat) : Int) ∧ 1 = szN 1 ∧
 Wr (drewW u11) cap0 (0 + q0.toNat * 1) 1 ∧ 0 ≤ q0 ∧ q0 < ((3 : Nat) : Int) ∧
 1 = szN 1 ∧ Wr (putCells (drewW u11) cap0 (0 + q0.toNat * 1) ([.string q1])) cap1 (0 + q0.toNat * 1) 1 ∧
 inK .i64 (q0 + 1) ∧ (Loc.mk 30 false ([.int .i64 a_Kind, .int .i64 a_P, .int .i64 a_N, .int .i64 a_M, .string a_Bytes])) = (Loc.mk 30 false ([.int .i64 a_Kind, .int .i64 a_P, .int .i64 a_N, .int .i64 a_M, .string a_Bytes])) ∧
 (Loc.mk 33 false ([.int .i64 r_Code, .int .i64 r_N, .string r_Out])) = (Loc.mk 33 false ([.int .i64 r_Code, .int .i64 r_N, .string r_Out])) ∧
 I_ (q0 + 1) (putCells (putCells (drewW u11) cap0 (0 + q0.toNat * 1) ([.string q1])) cap1 (0 + q0.toNat * 1) ([.bool q2])) ∧
 (Loc.mk 30 false ([.int .i64 a_Kind, .int .i64 a_P, .int .i64 a_N, .int .i64 a_M, .string a_Bytes])) = (Loc.mk 30 false ([.int .i64 a_Kind, .int .i64 a_P, .int .i64 a_N, .int .i64 a_M, .string a_Bytes])) ∧
 (Loc.mk 33 false ([.int .i64 r_Code, .int .i64 r_N, .string r_Out])) = (Loc.mk 33 false ([.int .i64 r_Code, .int .i64 r_N, .string r_Out])) ∧
 M_ (q0 + 1) (putCells (putCells (drewW u11) cap0 (0 + q0.toNat * 1) ([.string q1])) cap1 (0 + q0.toNat * 1) ([.bool q2])) < M_ q0 u1))))) ∧
 ((!qa) = false → 0 ≤ q0 ∧ q0 < ((3 : Nat) : Int) ∧ 1 = szN 1 ∧
 Wr (drewW u11) cap0 (0 + q0.toNat * 1) 1 ∧ 0 ≤ q0 ∧ q0 < ((3 : Nat) : Int) ∧
 1 = szN 1 ∧ Wr (putCells (drewW u11) cap0 (0 + q0.toNat * 1) ([.string q1])) cap1 (0 + q0.toNat * 1) 1 ∧
 inK .i64 (q0 + 1) ∧ (Loc.mk 30 false ([.int .i64 a_Kind, .int .i64 a_P, .int .i64 a_N, .int .i64 a_M, .string a_Bytes])) = (Loc.mk 30 false ([.int .i64 a_Kind, .int .i64 a_P, .int .i64 a_N, .int .i64 a_M, .string a_Bytes])) ∧
 (Loc.mk 33 false ([.int .i64 r_Code, .int .i64 r_N, .string r_Out])) = (Loc.mk 33 false ([.int .i64 r_Code, .int .i64 r_N, .string r_Out])) ∧
 I_ (q0 + 1) (putCells (putCells (drewW u11) cap0 (0 + q0.toNat * 1) ([.string q1])) cap1 (0 + q0.toNat * 1) ([.bool q2])) ∧
 (Loc.mk 30 false ([.int .i64 a_Kind, .int .i64 a_P, .int .i64 a_N, .int .i64 a_M, .string a_Bytes])) = (Loc.mk 30 false ([.int .i64 a_Kind, .int .i64 a_P, .int .i64 a_N, .int .i64 a_M, .string a_Bytes])) ∧
 (Loc.mk 33 false ([.int .i64 r_Code, .int .i64 r_N, .string r_Out])) = (Loc.mk 33 false ([.int .i64 r_Code, .int .i64 r_N, .string r_Out])) ∧
 M_ (q0 + 1) (putCells (putCells (drewW u11) cap0 (0 + q0.toNat * 1) ([.string q1])) cap1 (0 + q0.toNat * 1) ([.bool q2])) < M_ q0 u1))) ∧
 ((!q2) = false → 0 ≤ q0 ∧ q0 < ((3 : Nat) : Int) ∧ 1 = szN 1 ∧
 Wr (drewW u11) cap0 (0 + q0.toNat * 1) 1 ∧ 0 ≤ q0 ∧ q0 < ((3 : Nat) : Int) ∧
 1 = szN 1 ∧ Wr (putCells (drewW u11) cap0 (0 + q0.toNat * 1) ([.string q1])) cap1 (0 + q0.toNat * 1) 1 ∧
 inK .i64 (q0 + 1) ∧ (Loc.mk 30 false ([.int .i64 a_Kind, .int .i64 a_P, .int .i64 a_N, .int .i64 a_M, .string a_Bytes])) = (Loc.mk 30 false ([.int .i64 a_Kind, .int .i64 a_P, .int .i64 a_N, .int .i64 a_M, .string a_Bytes])) ∧
 (Loc.mk 33 false ([.int .i64 r_Code, .int .i64 r_N, .string r_Out])) = (Loc.mk 33 false ([.int .i64 r_Code, .int .i64 r_N, .string r_Out])) ∧
 I_ (q0 + 1) (putCells (putCells (drewW u11) cap0 (0 + q0.toNat * 1) ([.string q1])) cap1 (0 + q0.toNat * 1) ([.bool q2])) ∧
 (Loc.mk 30 false ([.int .i64 a_Kind, .int .i64 a_P, .int .i64 a_N, .int .i64 a_M, .string a_Bytes])) = (Loc.mk 30 false ([.int .i64 a_Kind, .int .i64 a_P, .int .i64 a_N, .int .i64 a_M, .string a_Bytes])) ∧
 (Loc.mk 33 false ([.int .i64 r_Code, .int .i64 r_N, .string r_Out])) = (Loc.mk 33 false ([.int .i64 r_Code, .int .i64 r_N, .string r_Out])) ∧
 M_ (q0 + 1) (putCells (putCells (drewW u11) cap0 (0 + q0.toNat * 1) ([.string q1])) cap1 (0 + q0.toNat * 1) ([.bool q2])) < M_ q0 u1))) ∧
 ((decide (a_Kind = 8)) = false → 0 ≤ q0 ∧ q0 < ((3 : Nat) : Int) ∧
 1 = szN 1 ∧ Wr (drewW u11) cap0 (0 + q0.toNat * 1) 1 ∧
 0 ≤ q0 ∧ q0 < ((3 : Nat) : Int) ∧ 1 = szN 1 ∧
 Wr (putCells (drewW u11) cap0 (0 + q0.toNat * 1) ([.string q1])) cap1 (0 + q0.toNat * 1) 1 ∧
 inK .i64 (q0 + 1) ∧ (Loc.mk 30 false ([.int .i64 a_Kind, .int .i64 a_P, .int .i64 a_N, .int .i64 a_M, .string a_Bytes])) = (Loc.mk 30 false ([.int .i64 a_Kind, .int .i64 a_P, .int .i64 a_N, .int .i64 a_M, .string a_Bytes])) ∧
 (Loc.mk 33 false ([.int .i64 r_Code, .int .i64 r_N, .string r_Out])) = (Loc.mk 33 false ([.int .i64 r_Code, .int .i64 r_N, .string r_Out])) ∧
 I_ (q0 + 1) (putCells (putCells (drewW u11) cap0 (0 + q0.toNat * 1) ([.string q1])) cap1 (0 + q0.toNat * 1) ([.bool q2])) ∧
 (Loc.mk 30 false ([.int .i64 a_Kind, .int .i64 a_P, .int .i64 a_N, .int .i64 a_M, .string a_Bytes])) = (Loc.mk 30 false ([.int .i64 a_Kind, .int .i64 a_P, .int .i64 a_N, .int .i64 a_M, .string a_Bytes])) ∧
 (Loc.mk 33 false ([.int .i64 r_Code, .int .i64 r_N, .string r_Out])) = (Loc.mk 33 false ([.int .i64 r_Code, .int .i64 r_N, .string r_Out])) ∧
 M_ (q0 + 1) (putCells (putCells (drewW u11) cap0 (0 + q0.toNat * 1) ([.string q1])) cap1 (0 + q0.toNat * 1) ([.bool q2])) < M_ q0 u1))) ∧
 (q3 = false → 0 ≤ q0 ∧ q0 < ((3 : Nat) : Int) ∧ 1 = szN 1 ∧
 Wr (drewW u11) cap0 (0 + q0.toNat * 1) 1 ∧ 0 ≤ q0 ∧ q0 < ((3 : Nat) : Int) ∧
 1 = szN 1 ∧ Wr (putCells (drewW u11) cap0 (0 + q0.toNat * 1) ([.string q1])) cap1 (0 + q0.toNat * 1) 1 ∧
 inK .i64 (q0 + 1) ∧ (Loc.mk 30 false ([.int .i64 a_Kind, .int .i64 a_P, .int .i64 a_N, .int .i64 a_M, .string a_Bytes])) = (Loc.mk 30 false ([.int .i64 a_Kind, .int .i64 a_P, .int .i64 a_N, .int .i64 a_M, .string a_Bytes])) ∧
 (Loc.mk 33 false ([.int .i64 r_Code, .int .i64 r_N, .string r_Out])) = (Loc.mk 33 false ([.int .i64 r_Code, .int .i64 r_N, .string r_Out])) ∧
 I_ (q0 + 1) (putCells (putCells (drewW u11) cap0 (0 + q0.toNat * 1) ([.string q1])) cap1 (0 + q0.toNat * 1) ([.bool q2])) ∧
 (Loc.mk 30 false ([.int .i64 a_Kind, .int .i64 a_P, .int .i64 a_N, .int .i64 a_M, .string a_Bytes])) = (Loc.mk 30 false ([.int .i64 a_Kind, .int .i64 a_P, .int .i64 a_N, .int .i64 a_M, .string a_Bytes])) ∧
 (Loc.mk 33 false ([.int .i64 r_Code, .int .i64 r_N, .string r_Out])) = (Loc.mk 33 false ([.int .i64 r_Code, .int .i64 r_N, .string r_Out])) ∧
 M_ (q0 + 1) (putCells (putCells (drewW u11) cap0 (0 + q0.toNat * 1) ([.string q1])) cap1 (0 + q0.toNat * 1) ([.bool q2])) < M_ q0 u1))))) ∧
 ((decide (r_Code = 0)) = false → ((q3 = true → (((decide (a_Kind = 8)) = true →
 (((!q2) = true → 0 ≤ q0 ∧ q0 < ((3 : Nat) : Int) ∧ ∃ (qe : Bool), 1 = szN 1 ∧
 Rd (drewW u11) cap1 (0 + q0.toNat * 1) ([.bool qe]) ∧ (((!qe) = true →
 0 ≤ q0 ∧ q0 < ((3 : Nat) : Int) ∧ ∃ (qf : ByteArray), 1 = szN 1 ∧
 Rd (drewW u11) cap0 (0 + q0.toNat * 1) ([.string qf]) ∧ (((decide (((q1.size : Nat) : Int) < ((qf.size : Nat) : Int))) = true →
 R (.returned (.bool false)) (drewW u11)) ∧ ((decide (((q1.size : Nat) : Int) < ((qf.size : Nat) : Int))) = false →
 0 ≤ q0 ∧ q0 < ((3 : Nat) : Int) ∧ ∃ (qg : ByteArray), 1 = szN 1 ∧
 Rd (drewW u11) cap0 (0 + q0.toNat * 1) ([.string qg]) ∧ 0 ≤ (0 : Int) ∧
 (0 : Int) ≤ ((qg.size : Nat) : Int) ∧ ((qg.size : Nat) : Int) ≤ ((q1.size : Nat) : Int) ∧
 0 ≤ q0 ∧ q0 < ((3 : Nat) : Int) ∧ ∃ (qh : ByteArray), 1 = szN 1 ∧
 Rd (drewW u11) cap0 (0 + q0.toNat * 1) ([.string qh]) ∧ (((!decide ((q1.extract (0 : Int).toNat ((qg.size : Nat) : Int).toNat).data.toList = qh.data.toList)) = true →
 R (.returned (.bool false)) (drewW u11)) ∧ ((!decide ((q1.extract (0 : Int).toNat ((qg.size : Nat) : Int).toNat).data.toList = qh.data.toList)) = false →
 0 ≤ q0 ∧ q0 < ((3 : Nat) : Int) ∧ 1 = szN 1 ∧
 Wr (drewW u11) cap0 (0 + q0.toNat * 1) 1 ∧ 0 ≤ q0 ∧ q0 < ((3 : Nat) : Int) ∧
 1 = szN 1 ∧ Wr (putCells (drewW u11) cap0 (0 + q0.toNat * 1) ([.string q1])) cap1 (0 + q0.toNat * 1) 1 ∧
 inK .i64 (q0 + 1) ∧ (Loc.mk 30 false ([.int .i64 a_Kind, .int .i64 a_P, .int .i64 a_N, .int .i64 a_M, .string a_Bytes])) = (Loc.mk 30 false ([.int .i64 a_Kind, .int .i64 a_P, .int .i64 a_N, .int .i64 a_M, .string a_Bytes])) ∧
 (Loc.mk 33 false ([.int .i64 r_Code, .int .i64 r_N, .string r_Out])) = (Loc.mk 33 false ([.int .i64 r_Code, .int .i64 r_N, .string r_Out])) ∧
 I_ (q0 + 1) (putCells (putCells (drewW u11) cap0 (0 + q0.toNat * 1) ([.string q1])) cap1 (0 + q0.toNat * 1) ([.bool q2])) ∧
 (Loc.mk 30 false ([.int .i64 a_Kind, .int .i64 a_P, .int .i64 a_N, .int .i64 a_M, .string a_Bytes])) = (Loc.mk 30 false ([.int .i64 a_Kind, .int .i64 a_P, .int .i64 a_N, .int .i64 a_M, .string a_Bytes])) ∧
 (Loc.mk 33 false ([.int .i64 r_Code, .int .i64 r_N, .string r_Out])) = (Loc.mk 33 false ([.int .i64 r_Code, .int .i64 r_N, .string r_Out])) ∧
 M_ (q0 + 1) (putCells (putCells (drewW u11) cap0 (0 + q0.toNat * 1) ([.string q1])) cap1 (0 + q0.toNat * 1) ([.bool q2])) < M_ q0 u1))))) ∧
 ((!qe) = false → 0 ≤ q0 ∧ q0 < ((3 : Nat) : Int) ∧ 1 = szN 1 ∧
 Wr (drewW u11) cap0 (0 + q0.toNat * 1) 1 ∧ 0 ≤ q0 ∧ q0 < ((3 : Nat) : Int) ∧
 1 = szN 1 ∧ Wr (putCells (drewW u11) cap0 (0 + q0.toNat * 1) ([.string q1])) cap1 (0 + q0.toNat * 1) 1 ∧
 inK .i64 (q0 + 1) ∧ (Loc.mk 30 false ([.int .i64 a_Kind, .int .i64 a_P, .int .i64 a_N, .int .i64 a_M, .string a_Bytes])) = (Loc.mk 30 false ([.int .i64 a_Kind, .int .i64 a_P, .int .i64 a_N, .int .i64 a_M, .string a_Bytes])) ∧
 (Loc.mk 33 false ([.int .i64 r_Code, .int .i64 r_N, .string r_Out])) = (Loc.mk 33 false ([.int .i64 r_Code, .int .i64 r_N, .string r_Out])) ∧
 I_ (q0 + 1) (putCells (putCells (drewW u11) cap0 (0 + q0.toNat * 1) ([.string q1])) cap1 (0 + q0.toNat * 1) ([.bool q2])) ∧
 (Loc.mk 30 false ([.int .i64 a_Kind, .int .i64 a_P, .int .i64 a_N, .int .i64 a_M, .string a_Bytes])) = (Loc.mk 30 false ([.int .i64 a_Kind, .int .i64 a_P, .int .i64 a_N, .int .i64 a_M, .string a_Bytes])) ∧
 (Loc.mk 33 false ([.int .i64 r_Code, .int .i64 r_N, .string r_Out])) = (Loc.mk 33 false ([.int .i64 r_Code, .int .i64 r_N, .string r_Out])) ∧
 M_ (q0 + 1) (putCells (putCells (drewW u11) cap0 (0 + q0.toNat * 1) ([.string q1])) cap1 (0 + q0.toNat * 1) ([.bool q2])) < M_ q0 u1))) ∧
 ((!q2) = false → 0 ≤ q0 ∧ q0 < ((3 : Nat) : Int) ∧ 1 = szN 1 ∧
 Wr (drewW u11) cap0 (0 + q0.toNat * 1) 1 ∧ 0 ≤ q0 ∧ q0 < ((3 : Nat) : Int) ∧
 1 = szN 1 ∧ Wr (putCells (drewW u11) cap0 (0 + q0.toNat * 1) ([.string q1])) cap1 (0 + q0.toNat * 1) 1 ∧
 inK .i64 (q0 + 1) ∧ (Loc.mk 30 false ([.int .i64 a_Kind, .int .i64 a_P, .int .i64 a_N, .int .i64 a_M, .string a_Bytes])) = (Loc.mk 30 false ([.int .i64 a_Kind, .int .i64 a_P, .int .i64 a_N, .int .i64 a_M, .string a_Bytes])) ∧
 (Loc.mk 33 false ([.int .i64 r_Code, .int .i64 r_N, .string r_Out])) = (Loc.mk 33 false ([.int .i64 r_Code, .int .i64 r_N, .string r_Out])) ∧
 I_ (q0 + 1) (putCells (putCells (drewW u11) cap0 (0 + q0.toNat * 1) ([.string q1])) cap1 (0 + q0.toNat * 1) ([.bool q2])) ∧
 (Loc.mk 30 false ([.int .i64 a_Kind, .int .i64 a_P, .int .i64 a_N, .int .i64 a_M, .string a_Bytes])) = (Loc.mk 30 false ([.int .i64 a_Kind, .int .i64 a_P, .int .i64 a_N, .int .i64 a_M, .string a_Bytes])) ∧
 (Loc.mk 33 false ([.int .i64 r_Code, .int .i64 r_N, .string r_Out])) = (Loc.mk 33 false ([.int .i64 r_Code, .int .i64 r_N, .string r_Out])) ∧
 M_ (q0 + 1) (putCells (putCells (drewW u11) cap0 (0 + q0.toNat * 1) ([.string q1])) cap1 (0 + q0.toNat * 1) ([.bool q2])) < M_ q0 u1))) ∧
 ((decide (a_Kind = 8)) = false → 0 ≤ q0 ∧ q0 < ((3 : Nat) : Int) ∧
 1 = szN 1 ∧ Wr (drewW u11) cap0 (0 + q0.toNat * 1) 1 ∧
 0 ≤ q0 ∧ q0 < ((3 : Nat) : Int) ∧ 1 = szN 1 ∧
 Wr (putCells (drewW u11) cap0 (0 + q0.toNat * 1) ([.string q1])) cap1 (0 + q0.toNat * 1) 1 ∧
 inK .i64 (q0 + 1) ∧ (Loc.mk 30 false ([.int .i64 a_Kind, .int .i64 a_P, .int .i64 a_N, .int .i64 a_M, .string a_Bytes])) = (Loc.mk 30 false ([.int .i64 a_Kind, .int .i64 a_P, .int .i64 a_N, .int .i64 a_M, .string a_Bytes])) ∧
 (Loc.mk 33 false ([.int .i64 r_Code, .int .i64 r_N, .string r_Out])) = (Loc.mk 33 false ([.int .i64 r_Code, .int .i64 r_N, .string r_Out])) ∧
 I_ (q0 + 1) (putCells (putCells (drewW u11) cap0 (0 + q0.toNat * 1) ([.string q1])) cap1 (0 + q0.toNat * 1) ([.bool q2])) ∧
 (Loc.mk 30 false ([.int .i64 a_Kind, .int .i64 a_P, .int .i64 a_N, .int .i64 a_M, .string a_Bytes])) = (Loc.mk 30 false ([.int .i64 a_Kind, .int .i64 a_P, .int .i64 a_N, .int .i64 a_M, .string a_Bytes])) ∧
 (Loc.mk 33 false ([.int .i64 r_Code, .int .i64 r_N, .string r_Out])) = (Loc.mk 33 false ([.int .i64 r_Code, .int .i64 r_N, .string r_Out])) ∧
 M_ (q0 + 1) (putCells (putCells (drewW u11) cap0 (0 + q0.toNat * 1) ([.string q1])) cap1 (0 + q0.toNat * 1) ([.bool q2])) < M_ q0 u1))) ∧
 (q3 = false → 0 ≤ q0 ∧ q0 < ((3 : Nat) : Int) ∧ 1 = szN 1 ∧
 Wr (drewW u11) cap0 (0 + q0.toNat * 1) 1 ∧ 0 ≤ q0 ∧ q0 < ((3 : Nat) : Int) ∧
 1 = szN 1 ∧ Wr (putCells (drewW u11) cap0 (0 + q0.toNat * 1) ([.string q1])) cap1 (0 + q0.toNat * 1) 1 ∧
 inK .i64 (q0 + 1) ∧ (Loc.mk 30 false ([.int .i64 a_Kind, .int .i64 a_P, .int .i64 a_N, .int .i64 a_M, .string a_Bytes])) = (Loc.mk 30 false ([.int .i64 a_Kind, .int .i64 a_P, .int .i64 a_N, .int .i64 a_M, .string a_Bytes])) ∧
 (Loc.mk 33 false ([.int .i64 r_Code, .int .i64 r_N, .string r_Out])) = (Loc.mk 33 false ([.int .i64 r_Code, .int .i64 r_N, .string r_Out])) ∧
 I_ (q0 + 1) (putCells (putCells (drewW u11) cap0 (0 + q0.toNat * 1) ([.string q1])) cap1 (0 + q0.toNat * 1) ([.bool q2])) ∧
 (Loc.mk 30 false ([.int .i64 a_Kind, .int .i64 a_P, .int .i64 a_N, .int .i64 a_M, .string a_Bytes])) = (Loc.mk 30 false ([.int .i64 a_Kind, .int .i64 a_P, .int .i64 a_N, .int .i64 a_M, .string a_Bytes])) ∧
 (Loc.mk 33 false ([.int .i64 r_Code, .int .i64 r_N, .string r_Out])) = (Loc.mk 33 false ([.int .i64 r_Code, .int .i64 r_N, .string r_Out])) ∧
 M_ (q0 + 1) (putCells (putCells (drewW u11) cap0 (0 + q0.toNat * 1) ([.string q1])) cap1 (0 + q0.toNat * 1) ([.bool q2])) < M_ q0 u1))))) ∧
 ((decide (a_Kind = 8)) = false → ((q3 = true → (((decide (a_Kind = 8)) = true →
 (((!q2) = true → 0 ≤ q0 ∧ q0 < ((3 : Nat) : Int) ∧ ∃ (qi : Bool), 1 = szN 1 ∧
 Rd (drewW u11) cap1 (0 + q0.toNat * 1) ([.bool qi]) ∧ (((!qi) = true →
 0 ≤ q0 ∧ q0 < ((3 : Nat) : Int) ∧ ∃ (qj : ByteArray), 1 = szN 1 ∧
 Rd (drewW u11) cap0 (0 + q0.toNat * 1) ([.string qj]) ∧ (((decide (((q1.size : Nat) : Int) < ((qj.size : Nat) : Int))) = true →
 R (.returned (.bool false)) (drewW u11)) ∧ ((decide (((q1.size : Nat) : Int) < ((qj.size : Nat) : Int))) = false →
 0 ≤ q0 ∧ q0 < ((3 : Nat) : Int) ∧ ∃ (qk : ByteArray), 1 = szN 1 ∧
 Rd (drewW u11) cap0 (0 + q0.toNat * 1) ([.string qk]) ∧ 0 ≤ (0 : Int) ∧
 (0 : Int) ≤ ((qk.size : Nat) : Int) ∧ ((qk.size : Nat) : Int) ≤ ((q1.size : Nat) : Int) ∧
 0 ≤ q0 ∧ q0 < ((3 : Nat) : Int) ∧ ∃ (ql : ByteArray), 1 = szN 1 ∧
 Rd (drewW u11) cap0 (0 + q0.toNat * 1) ([.string ql]) ∧ (((!decide ((q1.extract (0 : Int).toNat ((qk.size : Nat) : Int).toNat).data.toList = ql.data.toList)) = true →
 R (.returned (.bool false)) (drewW u11)) ∧ ((!decide ((q1.extract (0 : Int).toNat ((qk.size : Nat) : Int).toNat).data.toList = ql.data.toList)) = false →
 0 ≤ q0 ∧ q0 < ((3 : Nat) : Int) ∧ 1 = szN 1 ∧
 Wr (drewW u11) cap0 (0 + q0.toNat * 1) 1 ∧ 0 ≤ q0 ∧ q0 < ((3 : Nat) : Int) ∧
 1 = szN 1 ∧ Wr (putCells (drewW u11) cap0 (0 + q0.toNat * 1) ([.string q1])) cap1 (0 + q0.toNat * 1) 1 ∧
 inK .i64 (q0 + 1) ∧ (Loc.mk 30 false ([.int .i64 a_Kind, .int .i64 a_P, .int .i64 a_N, .int .i64 a_M, .string a_Bytes])) = (Loc.mk 30 false ([.int .i64 a_Kind, .int .i64 a_P, .int .i64 a_N, .int .i64 a_M, .string a_Bytes])) ∧
 (Loc.mk 33 false ([.int .i64 r_Code, .int .i64 r_N, .string r_Out])) = (Loc.mk 33 false ([.int .i64 r_Code, .int .i64 r_N, .string r_Out])) ∧
 I_ (q0 + 1) (putCells (putCells (drewW u11) cap0 (0 + q0.toNat * 1) ([.string q1])) cap1 (0 + q0.toNat * 1) ([.bool q2])) ∧
 (Loc.mk 30 false ([.int .i64 a_Kind, .int .i64 a_P, .int .i64 a_N, .int .i64 a_M, .string a_Bytes])) = (Loc.mk 30 false ([.int .i64 a_Kind, .int .i64 a_P, .int .i64 a_N, .int .i64 a_M, .string a_Bytes])) ∧
 (Loc.mk 33 false ([.int .i64 r_Code, .int .i64 r_N, .string r_Out])) = (Loc.mk 33 false ([.int .i64 r_Code, .int .i64 r_N, .string r_Out])) ∧
 M_ (q0 + 1) (putCells (putCells (drewW u11) cap0 (0 + q0.toNat * 1) ([.string q1])) cap1 (0 + q0.toNat * 1) ([.bool q2])) < M_ q0 u1))))) ∧
 ((!qi) = false → 0 ≤ q0 ∧ q0 < ((3 : Nat) : Int) ∧ 1 = szN 1 ∧
 Wr (drewW u11) cap0 (0 + q0.toNat * 1) 1 ∧ 0 ≤ q0 ∧ q0 < ((3 : Nat) : Int) ∧
 1 = szN 1 ∧ Wr (putCells (drewW u11) cap0 (0 + q0.toNat * 1) ([.string q1])) cap1 (0 + q0.toNat * 1) 1 ∧
 inK .i64 (q0 + 1) ∧ (Loc.mk 30 false ([.int .i64 a_Kind, .int .i64 a_P, .int .i64 a_N, .int .i64 a_M, .string a_Bytes])) = (Loc.mk 30 false ([.int .i64 a_Kind, .int .i64 a_P, .int .i64 a_N, .int .i64 a_M, .string a_Bytes])) ∧
 (Loc.mk 33 false ([.int .i64 r_Code, .int .i64 r_N, .string r_Out])) = (Loc.mk 33 false ([.int .i64 r_Code, .int .i64 r_N, .string r_Out])) ∧
 I_ (q0 + 1) (putCells (putCells (drewW u11) cap0 (0 + q0.toNat * 1) ([.string q1])) cap1 (0 + q0.toNat * 1) ([.bool q2])) ∧
 (Loc.mk 30 false ([.int .i64 a_Kind, .int .i64 a_P, .int .i64 a_N, .int .i64 a_M, .string a_Bytes])) = (Loc.mk 30 false ([.int .i64 a_Kind, .int .i64 a_P, .int .i64 a_N, .int .i64 a_M, .string a_Bytes])) ∧
 (Loc.mk 33 false ([.int .i64 r_Code, .int .i64 r_N, .string r_Out])) = (Loc.mk 33 false ([.int .i64 r_Code, .int .i64 r_N, .string r_Out])) ∧
 M_ (q0 + 1) (putCells (putCells (drewW u11) cap0 (0 + q0.toNat * 1) ([.string q1])) cap1 (0 + q0.toNat * 1) ([.bool q2])) < M_ q0 u1))) ∧
 ((!q2) = false → 0 ≤ q0 ∧ q0 < ((3 : Nat) : Int) ∧ 1 = szN 1 ∧
 Wr (drewW u11) cap0 (0 + q0.toNat * 1) 1 ∧ 0 ≤ q0 ∧ q0 < ((3 : Nat) : Int) ∧
 1 = szN 1 ∧ Wr (putCells (drewW u11) cap0 (0 + q0.toNat * 1) ([.string q1])) cap1 (0 + q0.toNat * 1) 1 ∧
 inK .i64 (q0 + 1) ∧ (Loc.mk 30 false ([.int .i64 a_Kind, .int .i64 a_P, .int .i64 a_N, .int .i64 a_M, .string a_Bytes])) = (Loc.mk 30 false ([.int .i64 a_Kind, .int .i64 a_P, .int .i64 a_N, .int .i64 a_M, .string a_Bytes])) ∧
 (Loc.mk 33 false ([.int .i64 r_Code, .int .i64 r_N, .string r_Out])) = (Loc.mk 33 false ([.int .i64 r_Code, .int .i64 r_N, .string r_Out])) ∧
 I_ (q0 + 1) (putCells (putCells (drewW u11) cap0 (0 + q0.toNat * 1) ([.string q1])) cap1 (0 + q0.toNat * 1) ([.bool q2])) ∧
 (Loc.mk 30 false ([.int .i64 a_Kind, .int .i64 a_P, .int .i64 a_N, .int .i64 a_M, .string a_Bytes])) = (Loc.mk 30 false ([.int .i64 a_Kind, .int .i64 a_P, .int .i64 a_N, .int .i64 a_M, .string a_Bytes])) ∧
 (Loc.mk 33 false ([.int .i64 r_Code, .int .i64 r_N, .string r_Out])) = (Loc.mk 33 false ([.int .i64 r_Code, .int .i64 r_N, .string r_Out])) ∧
 M_ (q0 + 1) (putCells (putCells (drewW u11) cap0 (0 + q0.toNat * 1) ([.string q1])) cap1 (0 + q0.toNat * 1) ([.bool q2])) < M_ q0 u1))) ∧
 ((decide (a_Kind = 8)) = false → 0 ≤ q0 ∧ q0 < ((3 : Nat) : Int) ∧
 1 = szN 1 ∧ Wr (drewW u11) cap0 (0 + q0.toNat * 1) 1 ∧
 0 ≤ q0 ∧ q0 < ((3 : Nat) : Int) ∧ 1 = szN 1 ∧
 Wr (putCells (drewW u11) cap0 (0 + q0.toNat * 1) ([.string q1])) cap1 (0 + q0.toNat * 1) 1 ∧
 inK .i64 (q0 + 1) ∧ (Loc.mk 30 false ([.int .i64 a_Kind, .int .i64 a_P, .int .i64 a_N, .int .i64 a_M, .string a_Bytes])) = (Loc.mk 30 false ([.int .i64 a_Kind, .int .i64 a_P, .int .i64 a_N, .int .i64 a_M, .string a_Bytes])) ∧
 (Loc.mk 33 false ([.int .i64 r_Code, .int .i64 r_N, .string r_Out])) = (Loc.mk 33 false ([.int .i64 r_Code, .int .i64 r_N, .string r_Out])) ∧
 I_ (q0 + 1) (putCells (putCells (drewW u11) cap0 (0 + q0.toNat * 1) ([.string q1])) cap1 (0 + q0.toNat * 1) ([.bool q2])) ∧
 (Loc.mk 30 false ([.int .i64 a_Kind, .int .i64 a_P, .int .i64 a_N, .int .i64 a_M, .string a_Bytes])) = (Loc.mk 30 false ([.int .i64 a_Kind, .int .i64 a_P, .int .i64 a_N, .int .i64 a_M, .string a_Bytes])) ∧
 (Loc.mk 33 false ([.int .i64 r_Code, .int .i64 r_N, .string r_Out])) = (Loc.mk 33 false ([.int .i64 r_Code, .int .i64 r_N, .string r_Out])) ∧
 M_ (q0 + 1) (putCells (putCells (drewW u11) cap0 (0 + q0.toNat * 1) ([.string q1])) cap1 (0 + q0.toNat * 1) ([.bool q2])) < M_ q0 u1))) ∧
 (q3 = false → 0 ≤ q0 ∧ q0 < ((3 : Nat) : Int) ∧ 1 = szN 1 ∧
 Wr (drewW u11) cap0 (0 + q0.toNat * 1) 1 ∧ 0 ≤ q0 ∧ q0 < ((3 : Nat) : Int) ∧
 1 = szN 1 ∧ Wr (putCells (drewW u11) cap0 (0 + q0.toNat * 1) ([.string q1])) cap1 (0 + q0.toNat * 1) 1 ∧
 inK .i64 (q0 + 1) ∧ (Loc.mk 30 false ([.int .i64 a_Kind, .int .i64 a_P, .int .i64 a_N, .int .i64 a_M, .string a_Bytes])) = (Loc.mk 30 false ([.int .i64 a_Kind, .int .i64 a_P, .int .i64 a_N, .int .i64 a_M, .string a_Bytes])) ∧
 (Loc.mk 33 false ([.int .i64 r_Code, .int .i64 r_N, .string r_Out])) = (Loc.mk 33 false ([.int .i64 r_Code, .int .i64 r_N, .string r_Out])) ∧
 I_ (q0 + 1) (putCells (putCells (drewW u11) cap0 (0 + q0.toNat * 1) ([.string q1])) cap1 (0 + q0.toNat * 1) ([.bool q2])) ∧
 (Loc.mk 30 false ([.int .i64 a_Kind, .int .i64 a_P, .int .i64 a_N, .int .i64 a_M, .string a_Bytes])) = (Loc.mk 30 false ([.int .i64 a_Kind, .int .i64 a_P, .int .i64 a_N, .int .i64 a_M, .string a_Bytes])) ∧
 (Loc.mk 33 false ([.int .i64 r_Code, .int .i64 r_N, .string r_Out])) = (Loc.mk 33 false ([.int .i64 r_Code, .int .i64 r_N, .string r_Out])) ∧
 M_ (q0 + 1) (putCells (putCells (drewW u11) cap0 (0 + q0.toNat * 1) ([.string q1])) cap1 (0 + q0.toNat * 1) ([.bool q2])) < M_ q0 u1))))) ∧
 (q3 = false → ((q3 = true → (((decide (a_Kind = 8)) = true →
 (((!q2) = true → 0 ≤ q0 ∧ q0 < ((3 : Nat) : Int) ∧ ∃ (qm : Bool), 1 = szN 1 ∧
 Rd (drewW u11) cap1 (0 + q0.toNat * 1) ([.bool qm]) ∧ (((!qm) = true →
 0 ≤ q0 ∧ q0 < ((3 : Nat) : Int) ∧ ∃ (qn : ByteArray), 1 = szN 1 ∧
 Rd (drewW u11) cap0 (0 + q0.toNat * 1) ([.string qn]) ∧ (((decide (((q1.size : Nat) : Int) < ((qn.size : Nat) : Int))) = true →
 R (.returned (.bool false)) (drewW u11)) ∧ ((decide (((q1.size : Nat) : Int) < ((qn.size : Nat) : Int))) = false →
 0 ≤ q0 ∧ q0 < ((3 : Nat) : Int) ∧ ∃ (qo : ByteArray), 1 = szN 1 ∧
 Rd (drewW u11) cap0 (0 + q0.toNat * 1) ([.string qo]) ∧ 0 ≤ (0 : Int) ∧
 (0 : Int) ≤ ((qo.size : Nat) : Int) ∧ ((qo.size : Nat) : Int) ≤ ((q1.size : Nat) : Int) ∧
 0 ≤ q0 ∧ q0 < ((3 : Nat) : Int) ∧ ∃ (qp : ByteArray), 1 = szN 1 ∧
 Rd (drewW u11) cap0 (0 + q0.toNat * 1) ([.string qp]) ∧ (((!decide ((q1.extract (0 : Int).toNat ((qo.size : Nat) : Int).toNat).data.toList = qp.data.toList)) = true →
 R (.returned (.bool false)) (drewW u11)) ∧ ((!decide ((q1.extract (0 : Int).toNat ((qo.size : Nat) : Int).toNat).data.toList = qp.data.toList)) = false →
 0 ≤ q0 ∧ q0 < ((3 : Nat) : Int) ∧ 1 = szN 1 ∧
 Wr (drewW u11) cap0 (0 + q0.toNat * 1) 1 ∧ 0 ≤ q0 ∧ q0 < ((3 : Nat) : Int) ∧
 1 = szN 1 ∧ Wr (putCells (drewW u11) cap0 (0 + q0.toNat * 1) ([.string q1])) cap1 (0 + q0.toNat * 1) 1 ∧
 inK .i64 (q0 + 1) ∧ (Loc.mk 30 false ([.int .i64 a_Kind, .int .i64 a_P, .int .i64 a_N, .int .i64 a_M, .string a_Bytes])) = (Loc.mk 30 false ([.int .i64 a_Kind, .int .i64 a_P, .int .i64 a_N, .int .i64 a_M, .string a_Bytes])) ∧
 (Loc.mk 33 false ([.int .i64 r_Code, .int .i64 r_N, .string r_Out])) = (Loc.mk 33 false ([.int .i64 r_Code, .int .i64 r_N, .string r_Out])) ∧
 I_ (q0 + 1) (putCells (putCells (drewW u11) cap0 (0 + q0.toNat * 1) ([.string q1])) cap1 (0 + q0.toNat * 1) ([.bool q2])) ∧
 (Loc.mk 30 false ([.int .i64 a_Kind, .int .i64 a_P, .int .i64 a_N, .int .i64 a_M, .string a_Bytes])) = (Loc.mk 30 false ([.int .i64 a_Kind, .int .i64 a_P, .int .i64 a_N, .int .i64 a_M, .string a_Bytes])) ∧
 (Loc.mk 33 false ([.int .i64 r_Code, .int .i64 r_N, .string r_Out])) = (Loc.mk 33 false ([.int .i64 r_Code, .int .i64 r_N, .string r_Out])) ∧
 M_ (q0 + 1) (putCells (putCells (drewW u11) cap0 (0 + q0.toNat * 1) ([.string q1])) cap1 (0 + q0.toNat * 1) ([.bool q2])) < M_ q0 u1))))) ∧
 ((!qm) = false → 0 ≤ q0 ∧ q0 < ((3 : Nat) : Int) ∧ 1 = szN 1 ∧
 Wr (drewW u11) cap0 (0 + q0.toNat * 1) 1 ∧ 0 ≤ q0 ∧ q0 < ((3 : Nat) : Int) ∧
 1 = szN 1 ∧ Wr (putCells (drewW u11) cap0 (0 + q0.toNat * 1) ([.string q1])) cap1 (0 + q0.toNat * 1) 1 ∧
 inK .i64 (q0 + 1) ∧ (Loc.mk 30 false ([.int .i64 a_Kind, .int .i64 a_P, .int .i64 a_N, .int .i64 a_M, .string a_Bytes])) = (Loc.mk 30 false ([.int .i64 a_Kind, .int .i64 a_P, .int .i64 a_N, .int .i64 a_M, .string a_Bytes])) ∧
 (Loc.mk 33 false ([.int .i64 r_Code, .int .i64 r_N, .string r_Out])) = (Loc.mk 33 false ([.int .i64 r_Code, .int .i64 r_N, .string r_Out])) ∧
 I_ (q0 + 1) (putCells (putCells (drewW u11) cap0 (0 + q0.toNat * 1) ([.string q1])) cap1 (0 + q0.toNat * 1) ([.bool q2])) ∧
 (Loc.mk 30 false ([.int .i64 a_Kind, .int .i64 a_P, .int .i64 a_N, .int .i64 a_M, .string a_Bytes])) = (Loc.mk 30 false ([.int .i64 a_Kind, .int .i64 a_P, .int .i64 a_N, .int .i64 a_M, .string a_Bytes])) ∧
 (Loc.mk 33 false ([.int .i64 r_Code, .int .i64 r_N, .string r_Out])) = (Loc.mk 33 false ([.int .i64 r_Code, .int .i64 r_N, .string r_Out])) ∧
 M_ (q0 + 1) (putCells (putCells (drewW u11) cap0 (0 + q0.toNat * 1) ([.string q1])) cap1 (0 + q0.toNat * 1) ([.bool q2])) < M_ q0 u1))) ∧
 ((!q2) = false → 0 ≤ q0 ∧ q0 < ((3 : Nat) : Int) ∧ 1 = szN 1 ∧
 Wr (drewW u11) cap0 (0 + q0.toNat * 1) 1 ∧ 0 ≤ q0 ∧ q0 < ((3 : Nat) : Int) ∧
 1 = szN 1 ∧ Wr (putCells (drewW u11) cap0 (0 + q0.toNat * 1) ([.string q1])) cap1 (0 + q0.toNat * 1) 1 ∧
 inK .i64 (q0 + 1) ∧ (Loc.mk 30 false ([.int .i64 a_Kind, .int .i64 a_P, .int .i64 a_N, .int .i64 a_M, .string a_Bytes])) = (Loc.mk 30 false ([.int .i64 a_Kind, .int .i64 a_P, .int .i64 a_N, .int .i64 a_M, .string a_Bytes])) ∧
 (Loc.mk 33 false ([.int .i64 r_Code, .int .i64 r_N, .string r_Out])) = (Loc.mk 33 false ([.int .i64 r_Code, .int .i64 r_N, .string r_Out])) ∧
 I_ (q0 + 1) (putCells (putCells (drewW u11) cap0 (0 + q0.toNat * 1) ([.string q1])) cap1 (0 + q0.toNat * 1) ([.bool q2])) ∧
 (Loc.mk 30 false ([.int .i64 a_Kind, .int .i64 a_P, .int .i64 a_N, .int .i64 a_M, .string a_Bytes])) = (Loc.mk 30 false ([.int .i64 a_Kind, .int .i64 a_P, .int .i64 a_N, .int .i64 a_M, .string a_Bytes])) ∧
 (Loc.mk 33 false ([.int .i64 r_Code, .int .i64 r_N, .string r_Out])) = (Loc.mk 33 false ([.int .i64 r_Code, .int .i64 r_N, .string r_Out])) ∧
 M_ (q0 + 1) (putCells (putCells (drewW u11) cap0 (0 + q0.toNat * 1) ([.string q1])) cap1 (0 + q0.toNat * 1) ([.bool q2])) < M_ q0 u1))) ∧
 ((decide (a_Kind = 8)) = false → 0 ≤ q0 ∧ q0 < ((3 : Nat) : Int) ∧
 1 = szN 1 ∧ Wr (drewW u11) cap0 (0 + q0.toNat * 1) 1 ∧
 0 ≤ q0 ∧ q0 < ((3 : Nat) : Int) ∧ 1 = szN 1 ∧
 Wr (putCells (drewW u11) cap0 (0 + q0.toNat * 1) ([.string q1])) cap1 (0 + q0.toNat * 1) 1 ∧
 inK .i64 (q0 + 1) ∧ (Loc.mk 30 false ([.int .i64 a_Kind, .int .i64 a_P, .int .i64 a_N, .int .i64 a_M, .string a_Bytes])) = (Loc.mk 30 false ([.int .i64 a_Kind, .int .i64 a_P, .int .i64 a_N, .int .i64 a_M, .string a_Bytes])) ∧
 (Loc.mk 33 false ([.int .i64 r_Code, .int .i64 r_N, .string r_Out])) = (Loc.mk 33 false ([.int .i64 r_Code, .int .i64 r_N, .string r_Out])) ∧
 I_ (q0 + 1) (putCells (putCells (drewW u11) cap0 (0 + q0.toNat * 1) ([.string q1])) cap1 (0 + q0.toNat * 1) ([.bool q2])) ∧
 (Loc.mk 30 false ([.int .i64 a_Kind, .int .i64 a_P, .int .i64 a_N, .int .i64 a_M, .string a_Bytes])) = (Loc.mk 30 false ([.int .i64 a_Kind, .int .i64 a_P, .int .i64 a_N, .int .i64 a_M, .string a_Bytes])) ∧
 (Loc.mk 33 false ([.int .i64 r_Code, .int .i64 r_N, .string r_Out])) = (Loc.mk 33 false ([.int .i64 r_Code, .int .i64 r_N, .string r_Out])) ∧
 M_ (q0 + 1) (putCells (putCells (drewW u11) cap0 (0 + q0.toNat * 1) ([.string q1])) cap1 (0 + q0.toNat * 1) ([.bool q2])) < M_ q0 u1))) ∧
 (q3 = false → 0 ≤ q0 ∧ q0 < ((3 : Nat) : Int) ∧ 1 = szN 1 ∧
 Wr (drewW u11) cap0 (0 + q0.toNat * 1) 1 ∧ 0 ≤ q0 ∧ q0 < ((3 : Nat) : Int) ∧
 1 = szN 1 ∧ Wr (putCells (drewW u11) cap0 (0 + q0.toNat * 1) ([.string q1])) cap1 (0 + q0.toNat * 1) 1 ∧
 inK .i64 (q0 + 1) ∧ (Loc.mk 30 false ([.int .i64 a_Kind, .int .i64 a_P, .int .i64 a_N, .int .i64 a_M, .string a_Bytes])) = (Loc.mk 30 false ([.int .i64 a_Kind, .int .i64 a_P, .int .i64 a_N, .int .i64 a_M, .string a_Bytes])) ∧
 (Loc.mk 33 false ([.int .i64 r_Code, .int .i64 r_N, .string r_Out])) = (Loc.mk 33 false ([.int .i64 r_Code, .int .i64 r_N, .string r_Out])) ∧
 I_ (q0 + 1) (putCells (putCells (drewW u11) cap0 (0 + q0.toNat * 1) ([.string q1])) cap1 (0 + q0.toNat * 1) ([.bool q2])) ∧
 (Loc.mk 30 false ([.int .i64 a_Kind, .int .i64 a_P, .int .i64 a_N, .int .i64 a_M, .string a_Bytes])) = (Loc.mk 30 false ([.int .i64 a_Kind, .int .i64 a_P, .int .i64 a_N, .int .i64 a_M, .string a_Bytes])) ∧
 (Loc.mk 33 false ([.int .i64 r_Code, .int .i64 r_N, .string r_Out])) = (Loc.mk 33 false ([.int .i64 r_Code, .int .i64 r_N, .string r_Out])) ∧
 M_ (q0 + 1) (putCells (putCells (drewW u11) cap0 (0 + q0.toNat * 1) ([.string q1])) cap1 (0 + q0.toNat * 1) ([.bool q2])) < M_ q0 u1)))))))) ∧
 ((decide (q0 < 3)) = false → R (.returned (.bool true)) u1))
set_option maxRecDepth 100000 in
theorem vc_fenestratop_TopLost_c1_eq (s_b s_o : Nat) (t_b t_o : Nat) (a_Kind : Int) (a_P : Int) (a_N : Int) (a_M : Int) (a_Bytes : ByteArray) (r_Code : Int) (r_N : Int) (r_Out : ByteArray) (cap0 : Nat) (cap1 : Nat) (u : World) (R : Ending → World → Prop) : wFunc cx_fenestratop_TopLost_c1 Tryd.f5 [.pointer (some ⟨s_b, s_o, none⟩), .pointer (some ⟨t_b, t_o, none⟩), .agg #[.int .i64 a_Kind, .int .i64 a_P, .int .i64 a_N, .int .i64 a_M, .string a_Bytes], .agg #[.int .i64 r_Code, .int .i64 r_N, .string r_Out], .pointer (some ⟨cap0, 0, none⟩), .pointer (some ⟨cap1, 0, none⟩)] u R = vc_fenestratop_TopLost_c1 s_b s_o t_b t_o a_Kind a_P a_N a_M a_Bytes r_Code r_N r_Out cap0 cap1 u R := by kernel_rfl
theorem vc_fenestratop_TopLost_c1_spec (s_b s_o : Nat) (t_b t_o : Nat) (a_Kind : Int) (a_P : Int) (a_N : Int) (a_M : Int) (a_Bytes : ByteArray) (r_Code : Int) (r_N : Int) (r_Out : ByteArray) (cap0 : Nat) (cap1 : Nat) {u : World} {R : Ending → World → Prop} (h : vc_fenestratop_TopLost_c1 s_b s_o t_b t_o a_Kind a_P a_N a_M a_Bytes r_Code r_N r_Out cap0 cap1 u R) : Spec Tryd.prog fn_fenestratop_TopLost_c1 #[.pointer (some ⟨s_b, s_o, none⟩), .pointer (some ⟨t_b, t_o, none⟩), .agg #[.int .i64 a_Kind, .int .i64 a_P, .int .i64 a_N, .int .i64 a_M, .string a_Bytes], .agg #[.int .i64 r_Code, .int .i64 r_N, .string r_Out], .pointer (some ⟨cap0, 0, none⟩), .pointer (some ⟨cap1, 0, none⟩)] u R := func_spec (C := cx_fenestratop_TopLost_c1) (fn := Tryd.f5) (args := [.pointer (some ⟨s_b, s_o, none⟩), .pointer (some ⟨t_b, t_o, none⟩), .agg #[.int .i64 a_Kind, .int .i64 a_P, .int .i64 a_N, .int .i64 a_M, .string a_Bytes], .agg #[.int .i64 r_Code, .int .i64 r_N, .string r_Out], .pointer (some ⟨cap0, 0, none⟩), .pointer (some ⟨cap1, 0, none⟩)]) (ctxOk _ _ _ _ _) Tryd.func5 (vc_fenestratop_TopLost_c1_eq s_b s_o t_b t_o a_Kind a_P a_N a_M a_Bytes r_Code r_N r_Out cap0 cap1 u R) h

end Go.Proofs.YtkmmphkjmamckaaDoor

namespace Go.Proofs.YtkmmphkjmamckaaDoor
open Go
set_option linter.all false

/-- fenestra/fenestratop.play -/
noncomputable def cx_fenestratop_play_lost : Ctx := ⟨Tryd.prog, tab, [8], [], [], fns, [(6, ⟨[.keep, .keep, .keep, .keep, .junk, .junk, .junk, .keep, .keep, .cell (.int .i64), .junk, .junk, .keep, .keep, .keep, .junk, .junk, .junk, .junk, .junk, .junk, .junk, .junk, .junk, .junk, .junk, .junk, .junk, .junk, .junk, .junk, .junk, .junk, .junk, .junk, .junk, .junk, .junk, .junk, .junk, .junk, .junk, .junk, .junk, .junk, .junk, .junk, .junk, .junk, .junk, .junk, .junk, .junk, .junk, .junk, .junk, .junk, .junk, .junk, .junk, .junk, .junk, .junk, .junk, .junk, .junk, .junk, .junk, .junk, .junk, .junk, .junk, .junk, .junk, .keep], []⟩)], []⟩
def vc_fenestratop_play_lost (l_p : Option Addr) (l_n l_c : Nat) (wb gb : Nat) (u : World) (R : Ending → World → Prop) : Prop :=
 Spec Tryd.prog 7 #[] u (fun e u1 => ∃ (q0 : Bool), e = .returned (.bool q0) ∧
 (((!q0) = true → R (.returned (.tuple #[.pointer none, .pointer none, .bool false])) u1) ∧
 ((!q0) = false → Spec Tryd.prog 8 #[] u1 (fun e u11 => ∃ (q1 q2 : Nat), e = .returned (.pointer (some ⟨q1, q2, none⟩)) ∧
 ∃ (I_ : Int → World → Prop) (M_ : Int → World → Nat), (I_ 0 (allocW u11 (.cells ([.int .i64 0, .slice none 0 0, .string (ByteArray.mk #[]), .bool false, .int .i64 0, .int .i64 0, .slice none 0 0, .int .i64 0, .int .i64 0, .int .i64 0, .bool false, .int .i64 0, .int .i64 0, .int .i64 0, .slice none 0 0, .string (ByteArray.mk #[]), .bool false, .int .i64 0, .int .i64 0, .slice none 0 0, .int .i64 0, .int .i64 0, .int .i64 0, .bool false, .int .i64 0, .int .i64 0, .int .i64 0, .slice none 0 0, .string (ByteArray.mk #[]), .bool false, .int .i64 0, .int .i64 0, .slice none 0 0, .int .i64 0, .int .i64 0, .int .i64 0, .bool false, .int .i64 0, .int .i64 0] : List Value).toArray 48))) ∧
 ∀ (i : Int), ∀ u12 : World, I_ i u12 → (((decide (i < ((l_n : Nat) : Int))) = true →
 (((decide (i < 100)) = true → ∃ b o, l_p = some ⟨b, o, none⟩ ∧
 0 ≤ i ∧ i < ((l_n : Nat) : Int) ∧ ∃ (q3 q4 q5 q6 : Int) (q7 : ByteArray), 5 = szN 5 ∧
 Rd u12 b (o + i.toNat * 5) ([.int .i64 q3, .int .i64 q4, .int .i64 q5, .int .i64 q6, .string q7]) ∧
 Spec Tryd.prog 9 #[.pointer (some ⟨q1, q2, none⟩), .agg #[.int .i64 q3, .int .i64 q4, .int .i64 q5, .int .i64 q6, .string q7]] (allocW u12 hole) (fun e u13 => ∃ (q8 q9 : Int) (qa : ByteArray), e = .returned (.agg #[.int .i64 q8, .int .i64 q9, .string qa]) ∧
 (((decide (q8 = 0)) = true → (((decide (q3 = 6)) = true →
 Spec Tryd.prog 10 #[.int .i64 q5, .int .i64 q6] (drewW (allocW u13 hole)) (fun e u14 => ∃ (qb qc : Int) (qd : Option Addr) (qe qf : Nat) (qg qh qi : Int) (qj : Bool) (qk ql : Int), e = .returned (.agg #[.int .i64 qb, .int .i64 qc, .slice qd qe qf, .int .i64 qg, .int .i64 qh, .int .i64 qi, .bool qj, .int .i64 qk, .int .i64 ql]) ∧
 0 ≤ q4 ∧ q4 < ((3 : Nat) : Int) ∧ 13 = ([.int .i64 0, .slice none 0 0, .string (ByteArray.mk #[]), .bool false, .int .i64 qb, .int .i64 qc, .slice qd qe qf, .int .i64 qg, .int .i64 qh, .int .i64 qi, .bool qj, .int .i64 qk, .int .i64 ql] : List Value).length ∧
 Wr u14 u11.heap.size (0 + q4.toNat * 13) 13 ∧ (((decide (q8 = 0)) = true →
 (((decide (q3 = 9)) = true → 0 ≤ q4 ∧ q4 < ((3 : Nat) : Int) ∧
 Spec Tryd.prog 11 #[.pointer (some ⟨u11.heap.size, 0 + q4.toNat * 13, none⟩), .string qa] (drewW (putCells u14 u11.heap.size (0 + q4.toNat * 13) ([.int .i64 0, .slice none 0 0, .string (ByteArray.mk #[]), .bool false, .int .i64 qb, .int .i64 qc, .slice qd qe qf, .int .i64 qg, .int .i64 qh, .int .i64 qi, .bool qj, .int .i64 qk, .int .i64 ql]))) (fun e u15 => ∃ (qm : Bool), e = .returned (.bool qm) ∧
 (((!qm) = true → R (.returned (.tuple #[.pointer (some ⟨q1, q2, none⟩), .pointer (some ⟨u11.heap.size, 0, none⟩), .bool false])) u15) ∧
 ((!qm) = false → Spec Tryd.prog 5 #[.pointer (some ⟨q1, q2, none⟩), .pointer (some ⟨u11.heap.size, 0, none⟩), .agg #[.int .i64 q3, .int .i64 q4, .int .i64 q5, .int .i64 q6, .string q7], .agg #[.int .i64 q8, .int .i64 q9, .string qa], .pointer (some ⟨wb, 0, none⟩), .pointer (some ⟨gb, 0, none⟩)] u15 (fun e u16 => ∃ (qn : Bool), e = .returned (.bool qn) ∧
 (((!qn) = true → R (.returned (.tuple #[.pointer (some ⟨q1, q2, none⟩), .pointer (some ⟨u11.heap.size, 0, none⟩), .bool false])) u16) ∧
 ((!qn) = false → inK .i64 (i + 1) ∧ I_ (i + 1) u16 ∧ M_ (i + 1) u16 < M_ i u12))))))) ∧
 ((decide (q3 = 9)) = false → Spec Tryd.prog 5 #[.pointer (some ⟨q1, q2, none⟩), .pointer (some ⟨u11.heap.size, 0, none⟩), .agg #[.int .i64 q3, .int .i64 q4, .int .i64 q5, .int .i64 q6, .string q7], .agg #[.int .i64 q8, .int .i64 q9, .string qa], .pointer (some ⟨wb, 0, none⟩), .pointer (some ⟨gb, 0, none⟩)] (drewW (putCells u14 u11.heap.size (0 + q4.toNat * 13) ([.int .i64 0, .slice none 0 0, .string (ByteArray.mk #[]), .bool false, .int .i64 qb, .int .i64 qc, .slice qd qe qf, .int .i64 qg, .int .i64 qh, .int .i64 qi, .bool qj, .int .i64 qk, .int .i64 ql]))) (fun e u17 => ∃ (qo : Bool), e = .returned (.bool qo) ∧
 (((!qo) = true → R (.returned (.tuple #[.pointer (some ⟨q1, q2, none⟩), .pointer (some ⟨u11.heap.size, 0, none⟩), .bool false])) u17) ∧
 ((!qo) = false → inK .i64 (i + 1) ∧ I_ (i + 1) u17 ∧ M_ (i + 1) u17 < M_ i u12)))))) ∧
 ((decide (q8 = 0)) = false → Spec Tryd.prog 5 #[.pointer (some ⟨q1, q2, none⟩), .pointer (some ⟨u11.heap.size, 0, none⟩), .agg #[.int .i64 q3, .int .i64 q4, .int .i64 q5, .int .i64 q6, .string q7], .agg #[.int .i64 q8, .int .i64 q9, .string qa], .pointer (some ⟨wb, 0, none⟩), .pointer (some ⟨gb, 0, none⟩)] (drewW (putCells u14 u11.heap.size (0 + q4.toNat * 13) ([.int .i64 0, .slice none 0 0, .string (ByteArray.mk #[]), .bool false, .int .i64 qb, .int .i64 qc, .slice qd qe qf, .int .i64 qg, .int .i64 qh, .int .i64 qi, .bool qj, .int .i64 qk, .int .i64 ql]))) (fun e u18 => ∃ (qp : Bool), e = .returned (.bool qp) ∧
 (((!qp) = true → R (.returned (.tuple #[.pointer (some ⟨q1, q2, none⟩), .pointer (some ⟨u11.heap.size, 0, none⟩), .bool false])) u18) ∧
 ((!qp) = false → inK .i64 (i + 1) ∧ I_ (i + 1) u18 ∧ M_ (i + 1) u18 < M_ i u12))))))) ∧
 ((decide (q3 = 6)) = false → (((decide (q8 = 0)) = true →
 (((decide (q3 = 9)) = true → 0 ≤ q4 ∧ q4 < ((3 : Nat) : Int) ∧
 Spec Tryd.prog 11 #[.pointer (some ⟨u11.heap.size, 0 + q4.toNat * 13, none⟩), .string qa] (drewW (allocW u13 hole)) (fun e u19 => ∃ (qq : Bool), e = .returned (.bool qq) ∧
 (((!qq) = true → R (.returned (.tuple #[.pointer (some ⟨q1, q2, none⟩), .pointer (some ⟨u11.heap.size, 0, none⟩), .bool false])) u19) ∧
 ((!qq) = false → Spec Tryd.prog 5 #[.pointer (some ⟨q1, q2, none⟩), .pointer (some ⟨u11.heap.size, 0, none⟩), .agg #[.int .i64 q3, .int .i64 q4, .int .i64 q5, .int .i64 q6, .string q7], .agg #[.int .i64 q8, .int .i64 q9, .string qa], .pointer (some ⟨wb, 0, none⟩), .pointer (some ⟨gb, 0, none⟩)] u19 (fun e u110 => ∃ (qr : Bool), e = .returned (.bool qr) ∧
 (((!qr) = true → R (.returned (.tuple #[.pointer (some ⟨q1, q2, none⟩), .pointer (some ⟨u11.heap.size, 0, none⟩), .bool false])) u110) ∧
 ((!qr) = false → inK .i64 (i + 1) ∧ I_ (i + 1) u110 ∧ M_ (i + 1) u110 < M_ i u12))))))) ∧
 ((decide (q3 = 9)) = false → Spec Tryd.prog 5 #[.pointer (some ⟨q1, q2, none⟩), .pointer (some ⟨u11.heap.size, 0, none⟩), .agg #[.int .i64 q3, .int .i64 q4, .int .i64 q5, .int .i64 q6, .string q7], .agg #[.int .i64 q8, .int .i64 q9, .string qa], .pointer (some ⟨wb, 0, none⟩), .pointer (some ⟨gb, 0, none⟩)] (drewW (allocW u13 hole)) (fun e u111 => ∃ (qs : Bool), e = .returned (.bool qs) ∧
 (((!qs) = true → R (.returned (.tuple #[.pointer (some ⟨q1, q2, none⟩), .pointer (some ⟨u11.heap.size, 0, none⟩), .bool false])) u111) ∧
 ((!qs) = false → inK .i64 (i + 1) ∧ I_ (i + 1) u111 ∧ M_ (i + 1) u111 < M_ i u12)))))) ∧
 ((decide (q8 = 0)) = false → Spec Tryd.prog 5 #[.pointer (some ⟨q1, q2, none⟩), .pointer (some ⟨u11.heap.size, 0, none⟩), .agg #[.int .i64 q3, .int .i64 q4, .int .i64 q5, .int .i64 q6, .string q7], .agg #[.int .i64 q8, .int .i64 q9, .string qa], .pointer (some ⟨wb, 0, none⟩), .pointer (some ⟨gb, 0, none⟩)] (drewW (allocW u13 hole)) (fun e u112 => ∃ (qt : Bool), e = .returned (.bool qt) ∧
 (((!qt) = true → R (.returned (.tuple #[.pointer (some ⟨q1, q2, none⟩), .pointer (some ⟨u11.heap.size, 0, none⟩), .bool false])) u112) ∧
 ((!qt) = false → inK .i64 (i + 1) ∧ I_ (i + 1) u112 ∧ M_ (i + 1) u112 < M_ i u12)))))))) ∧
 ((decide (q8 = 0)) = false → (((decide (q8 = 0)) = true →
 (((decide (q3 = 9)) = true → 0 ≤ q4 ∧ q4 < ((3 : Nat) : Int) ∧
 Spec Tryd.prog 11 #[.pointer (some ⟨u11.heap.size, 0 + q4.toNat * 13, none⟩), .string qa] (drewW (allocW u13 hole)) (fun e u113 => ∃ (qu : Bool), e = .returned (.bool qu) ∧
 (((!qu) = true → R (.returned (.tuple #[.pointer (some ⟨q1, q2, none⟩), .pointer (some ⟨u11.heap.size, 0, none⟩), .bool false])) u113) ∧
 ((!qu) = false → Spec Tryd.prog 5 #[.pointer (some ⟨q1, q2, none⟩), .pointer (some ⟨u11.heap.size, 0, none⟩), .agg #[.int .i64 q3, .int .i64 q4, .int .i64 q5, .int .i64 q6, .string q7], .agg #[.int .i64 q8, .int .i64 q9, .string qa], .pointer (some ⟨wb, 0, none⟩), .pointer (some ⟨gb, 0, none⟩)] u113 (fun e u114 => ∃ (qv : Bool), e = .returned (.bool qv) ∧
 (((!qv) = true → R (.returned (.tuple #[.pointer (some ⟨q1, q2, none⟩), .pointer (some ⟨u11.heap.size, 0, none⟩), .bool false])) u114) ∧
 ((!qv) = false → inK .i64 (i + 1) ∧ I_ (i + 1) u114 ∧ M_ (i + 1) u114 < M_ i u12))))))) ∧
 ((decide (q3 = 9)) = false → Spec Tryd.prog 5 #[.pointer (some ⟨q1, q2, none⟩), .pointer (some ⟨u11.heap.size, 0, none⟩), .agg #[.int .i64 q3, .int .i64 q4, .int .i64 q5, .int .i64 q6, .string q7], .agg #[.int .i64 q8, .int .i64 q9, .string qa], .pointer (some ⟨wb, 0, none⟩), .pointer (some ⟨gb, 0, none⟩)] (drewW (allocW u13 hole)) (fun e u115 => ∃ (qw : Bool), e = .returned (.bool qw) ∧
 (((!qw) = true → R (.returned (.tuple #[.pointer (some ⟨q1, q2, none⟩), .pointer (some ⟨u11.heap.size, 0, none⟩), .bool false])) u115) ∧
 ((!qw) = false → inK .i64 (i + 1) ∧ I_ (i + 1) u115 ∧ M_ (i + 1) u115 < M_ i u12)))))) ∧
 ((decide (q8 = 0)) = false → Spec Tryd.prog 5 #[.pointer (some ⟨q1, q2, none⟩), .pointer (some ⟨u11.heap.size, 0, none⟩), .agg #[.int .i64 q3, .int .i64 q4, .int .i64 q5, .int .i64 q6, .string q7], .agg #[.int .i64 q8, .int .i64 q9, .string qa], .pointer (some ⟨wb, 0, none⟩), .pointer (some ⟨gb, 0, none⟩)] (drewW (allocW u13 hole)) (fun e u116 => ∃ (qx : Bool), e = .returned (.bool qx) ∧
 (((!qx) = true → R (.returned (.tuple #[.pointer (some ⟨q1, q2, none⟩), .pointer (some ⟨u11.heap.size, 0, none⟩), .bool false])) u116) ∧
 ((!qx) = false → inK .i64 (i + 1) ∧ I_ (i + 1) u116 ∧ M_ (i + 1) u116 < M_ i u12))))))))) ∧
 ((decide (i < 100)) = false → R (.returned (.tuple #[.pointer (some ⟨q1, q2, none⟩), .pointer (some ⟨u11.heap.size, 0, none⟩), .bool true])) u12))) ∧
 ((decide (i < ((l_n : Nat) : Int))) = false → R (.returned (.tuple #[.pointer (some ⟨q1, q2, none⟩), .pointer (some ⟨u11.heap.size, 0, none⟩), .bool true])) u12))))))
set_option maxRecDepth 100000 in
theorem vc_fenestratop_play_lost_eq (l_p : Option Addr) (l_n l_c : Nat) (wb gb : Nat) (u : World) (R : Ending → World → Prop) : wFunc cx_fenestratop_play_lost Tryd.f4 [.slice l_p l_n l_c, .func (.func 5) #[] #[.pointer (some ⟨wb, 0, none⟩), .pointer (some ⟨gb, 0, none⟩)]] u R = vc_fenestratop_play_lost l_p l_n l_c wb gb u R := by kernel_rfl
theorem vc_fenestratop_play_lost_spec (l_p : Option Addr) (l_n l_c : Nat) (wb gb : Nat) {u : World} {R : Ending → World → Prop} (h : vc_fenestratop_play_lost l_p l_n l_c wb gb u R) : Spec Tryd.prog fn_fenestratop_play #[.slice l_p l_n l_c, .func (.func 5) #[] #[.pointer (some ⟨wb, 0, none⟩), .pointer (some ⟨gb, 0, none⟩)]] u R := func_spec (C := cx_fenestratop_play_lost) (fn := Tryd.f4) (args := [.slice l_p l_n l_c, .func (.func 5) #[] #[.pointer (some ⟨wb, 0, none⟩), .pointer (some ⟨gb, 0, none⟩)]]) (ctxOk _ _ _ _ _) Tryd.func4 (vc_fenestratop_play_lost_eq l_p l_n l_c wb gb u R) h

end Go.Proofs.YtkmmphkjmamckaaDoor

