/-
  Texts that belong together, joined: VServer3, VServer6.
-/
import Derived.Test.YtkmmphkjmamckabDoorCtx
namespace Go.Proofs.YtkmmphkjmamckabDoor
open Go
set_option linter.all false

/-- (*fenestra/server.Server).Do -/
noncomputable def cx_server_Server_Do : Ctx := ⟨Tryd.prog, tab, [], [], [], fns, [(31, ⟨[.keep, .keep, .keep, .keep, .keep, .keep, .keep, .junk, .keep, .keep, .keep, .keep, .keep, .keep, .keep, .keep, .keep, .keep, .keep, .keep, .keep, .keep, .keep, .keep, .keep, .keep, .keep, .keep, .keep, .keep, .keep, .keep, .keep, .keep, .keep, .keep, .keep, .keep, .keep, .keep, .keep, .keep, .keep, .keep, .keep, .keep, .keep, .keep, .keep, .keep, .keep, .keep, .keep, .keep, .keep, .keep, .keep, .keep, .keep, .keep, .keep, .keep, .keep, .keep, .keep, .keep, .keep, .keep, .keep, .keep, .keep, .keep, .keep, .keep, .keep, .keep, .keep, .keep, .keep, .keep, .keep, .keep, .keep, .keep, .keep, .keep, .keep, .keep, .keep, .keep, .keep, .keep, .keep, .keep, .keep, .keep, .keep, .keep, .keep, .keep, .keep, .keep, .keep, .keep, .keep, .keep, .keep, .keep, .keep, .keep, .keep, .keep, .keep, .keep, .keep, .keep, .keep, .keep, .keep, .keep, .keep, .keep, .keep, .keep, .keep, .keep, .keep, .keep, .keep, .keep, .keep, .keep, .keep, .keep, .keep, .keep, .keep, .keep, .keep, .keep, .keep, .keep, .keep, .keep, .keep, .keep, .keep, .cell (.int .i64), .junk, .junk, .junk, .junk, .junk, .junk, .junk, .junk, .junk, .junk, .keep, .keep, .keep, .keep, .keep, .keep, .keep, .keep, .keep, .keep], [.keep, .keep]⟩)], []⟩
def vc_server_Server_Do (s_b s_o : Nat) (a_Kind : Int) (a_P : Int) (a_N : Int) (a_M : Int) (a_Bytes : ByteArray) (u : World) (R : Ending → World → Prop) : Prop :=
 (((Option.isNone (some (Addr.mk s_b s_o none))) = true → Spec Tryd.prog 14 #[.int .i64 3] (allocW (allocW u hole) hole) (fun e u1 => ∃ (q0 q1 : Int) (q2 : ByteArray), e = .returned (.agg #[.int .i64 q0, .int .i64 q1, .string q2]) ∧
 R (.returned (.agg #[.int .i64 q0, .int .i64 q1, .string q2])) u1)) ∧
 ((Option.isNone (some (Addr.mk s_b s_o none))) = false → ∃ (q3 : Int), 1 = szN 1 ∧
 Rd (allocW (allocW u hole) hole) s_b (s_o + 118) ([.int .i64 q3]) ∧
 (((decide ((300 : Int) ≤ q3)) = true → Spec Tryd.prog 14 #[.int .i64 5] (allocW (allocW u hole) hole) (fun e u11 => ∃ (q4 q5 : Int) (q6 : ByteArray), e = .returned (.agg #[.int .i64 q4, .int .i64 q5, .string q6]) ∧
 R (.returned (.agg #[.int .i64 q4, .int .i64 q5, .string q6])) u11)) ∧
 ((decide ((300 : Int) ≤ q3)) = false → ∃ (q7 : Int), 1 = szN 1 ∧
 Rd (allocW (allocW u hole) hole) s_b (s_o + 118) ([.int .i64 q7]) ∧
 inK .i64 (q7 + 1) ∧ 1 = szN 1 ∧
 Wr (allocW (allocW u hole) hole) s_b (s_o + 118) 1 ∧ (((decide (a_Kind = 1)) = true →
 Spec Tryd.prog 15 #[.pointer (some ⟨s_b, s_o, none⟩), .agg #[.int .i64 a_Kind, .int .i64 a_P, .int .i64 a_N, .int .i64 a_M, .string a_Bytes]] (putCells (allocW (allocW u hole) hole) s_b (s_o + 118) ([.int .i64 (q7 + 1)])) (fun e u12 => ∃ (q8 q9 : Int) (qa : ByteArray), e = .returned (.agg #[.int .i64 q8, .int .i64 q9, .string qa]) ∧
 R (.returned (.agg #[.int .i64 q8, .int .i64 q9, .string qa])) u12)) ∧
 ((decide (a_Kind = 1)) = false → (((decide (a_Kind = 2)) = true →
 Spec Tryd.prog 16 #[.pointer (some ⟨s_b, s_o, none⟩), .int .i64 a_P] (putCells (allocW (allocW u hole) hole) s_b (s_o + 118) ([.int .i64 (q7 + 1)])) (fun e u13 => ∃ (qb : Int), e = .returned (.int .i64 qb) ∧
 Spec Tryd.prog 14 #[.int .i64 qb] u13 (fun e u14 => ∃ (qc qd : Int) (qe : ByteArray), e = .returned (.agg #[.int .i64 qc, .int .i64 qd, .string qe]) ∧
 R (.returned (.agg #[.int .i64 qc, .int .i64 qd, .string qe])) u14))) ∧
 ((decide (a_Kind = 2)) = false → (((decide (a_Kind = 3)) = true →
 (((decide (a_Kind = 3)) = true → ∃ (qf : Option Addr) (qg qh : Nat), 1 = szN 1 ∧
 Rd (drewW (putCells (allocW (allocW u hole) hole) s_b (s_o + 118) ([.int .i64 (q7 + 1)]))) s_b (s_o + 0 + 0) ([.slice qf qg qh]) ∧
 Spec Tryd.prog 17 #[.agg #[.slice qf qg qh], .int .i64 a_P] (drewW (putCells (allocW (allocW u hole) hole) s_b (s_o + 118) ([.int .i64 (q7 + 1)]))) (fun e u15 => ∃ (qi : Bool), e = .returned (.bool qi) ∧
 (((!qi) = true → Spec Tryd.prog 14 #[.int .i64 3] u15 (fun e u16 => ∃ (qj qk : Int) (ql : ByteArray), e = .returned (.agg #[.int .i64 qj, .int .i64 qk, .string ql]) ∧
 R (.returned (.agg #[.int .i64 qj, .int .i64 qk, .string ql])) u16)) ∧
 ((!qi) = false → (((decide (a_Kind = 4)) = true → 1 = szN 1 ∧
 Wr u15 s_b (s_o + 0 + 57) 1 ∧ R (.returned (.agg #[.int .i64 0, .int .i64 0, .string (ByteArray.mk #[])])) (putCells u15 s_b (s_o + 0 + 57) ([.int .i64 a_P]))) ∧
 ((decide (a_Kind = 4)) = false → 0 ≤ a_P ∧ a_P < ((6 : Nat) : Int) ∧
 ∃ (qm : Int) (qn : Option Addr) (qo qp : Nat) (qq : ByteArray) (qr : Bool), 4 = szN 4 ∧
 Rd (drewW u15) s_b (s_o + 58 + a_P.toNat * 4) ([.int .i64 qm, .slice qn qo qp, .string qq, .bool qr]) ∧
 Spec Tryd.prog 18 #[.agg #[.int .i64 qm, .slice qn qo qp, .string qq, .bool qr], .string a_Bytes] (drewW u15) (fun e u17 => ∃ (qs : Int) (qt : Option Addr) (qu qv : Nat) (qw : ByteArray) (qx : Bool) (qy : Option Addr) (qz q10 : Nat) (q11 : Int), e = .returned (.tuple #[.agg #[.int .i64 qs, .slice qt qu qv, .string qw, .bool qx], .slice qy qz q10, .int .i64 q11]) ∧
 0 ≤ a_P ∧ a_P < ((6 : Nat) : Int) ∧ 4 = szN 4 ∧
 Wr u17 s_b (s_o + 58 + a_P.toNat * 4) 4 ∧ 0 ≤ a_P ∧ a_P < ((6 : Nat) : Int) ∧
 ∃ (q12 q13 : Int) (q14 : Option Addr) (q15 q16 : Nat) (q17 q18 q19 : Int) (q1a : Bool) (q1b q1c : Int), 9 = szN 9 ∧
 Rd (drewW (putCells u17 s_b (s_o + 58 + a_P.toNat * 4) ([.int .i64 qs, .slice qt qu qv, .string qw, .bool qx]))) s_b (s_o + 0 + 1 + a_P.toNat * 9) ([.int .i64 q12, .int .i64 q13, .slice q14 q15 q16, .int .i64 q17, .int .i64 q18, .int .i64 q19, .bool q1a, .int .i64 q1b, .int .i64 q1c]) ∧
 Spec Tryd.prog 19 #[.agg #[.int .i64 q12, .int .i64 q13, .slice q14 q15 q16, .int .i64 q17, .int .i64 q18, .int .i64 q19, .bool q1a, .int .i64 q1b, .int .i64 q1c], .slice qy qz q10] (drewW (putCells u17 s_b (s_o + 58 + a_P.toNat * 4) ([.int .i64 qs, .slice qt qu qv, .string qw, .bool qx]))) (fun e u18 => ∃ (q1d q1e : Int) (q1f : Option Addr) (q1g q1h : Nat) (q1i q1j q1k : Int) (q1l : Bool) (q1m q1n q1o : Int), e = .returned (.tuple #[.agg #[.int .i64 q1d, .int .i64 q1e, .slice q1f q1g q1h, .int .i64 q1i, .int .i64 q1j, .int .i64 q1k, .bool q1l, .int .i64 q1m, .int .i64 q1n], .int .i64 q1o]) ∧
 0 ≤ a_P ∧ a_P < ((6 : Nat) : Int) ∧ 9 = szN 9 ∧
 Wr u18 s_b (s_o + 0 + 1 + a_P.toNat * 9) 9 ∧ R (.returned (.agg #[.int .i64 0, .int .i64 0, .string (ByteArray.mk #[])])) (putCells u18 s_b (s_o + 0 + 1 + a_P.toNat * 9) ([.int .i64 q1d, .int .i64 q1e, .slice q1f q1g q1h, .int .i64 q1i, .int .i64 q1j, .int .i64 q1k, .bool q1l, .int .i64 q1m, .int .i64 q1n])))))))))) ∧
 ((decide (a_Kind = 3)) = false → (((decide (a_Kind = 5)) = true →
 (((decide (a_N < 1)) = true → Spec Tryd.prog 14 #[.int .i64 1] (putCells (allocW (allocW u hole) hole) s_b (s_o + 118) ([.int .i64 (q7 + 1)])) (fun e u19 => ∃ (q1p q1q : Int) (q1r : ByteArray), e = .returned (.agg #[.int .i64 q1p, .int .i64 q1q, .string q1r]) ∧
 R (.returned (.agg #[.int .i64 q1p, .int .i64 q1q, .string q1r])) u19)) ∧
 ((decide (a_N < 1)) = false → (((decide ((24 : Int) < a_N)) = true →
 Spec Tryd.prog 14 #[.int .i64 1] (putCells (allocW (allocW u hole) hole) s_b (s_o + 118) ([.int .i64 (q7 + 1)])) (fun e u110 => ∃ (q1s q1t : Int) (q1u : ByteArray), e = .returned (.agg #[.int .i64 q1s, .int .i64 q1t, .string q1u]) ∧
 R (.returned (.agg #[.int .i64 q1s, .int .i64 q1t, .string q1u])) u110)) ∧
 ((decide ((24 : Int) < a_N)) = false → (((decide (a_M < 1)) = true →
 Spec Tryd.prog 14 #[.int .i64 1] (putCells (allocW (allocW u hole) hole) s_b (s_o + 118) ([.int .i64 (q7 + 1)])) (fun e u111 => ∃ (q1v q1w : Int) (q1x : ByteArray), e = .returned (.agg #[.int .i64 q1v, .int .i64 q1w, .string q1x]) ∧
 R (.returned (.agg #[.int .i64 q1v, .int .i64 q1w, .string q1x])) u111)) ∧
 ((decide (a_M < 1)) = false → (((decide ((10 : Int) < a_M)) = true →
 Spec Tryd.prog 14 #[.int .i64 1] (putCells (allocW (allocW u hole) hole) s_b (s_o + 118) ([.int .i64 (q7 + 1)])) (fun e u112 => ∃ (q1y q1z : Int) (q20 : ByteArray), e = .returned (.agg #[.int .i64 q1y, .int .i64 q1z, .string q20]) ∧
 R (.returned (.agg #[.int .i64 q1y, .int .i64 q1z, .string q20])) u112)) ∧
 ((decide ((10 : Int) < a_M)) = false → 1 = szN 1 ∧
 Wr (drewW (putCells (allocW (allocW u hole) hole) s_b (s_o + 118) ([.int .i64 (q7 + 1)]))) s_b (s_o + 0 + 55) 1 ∧
 1 = szN 1 ∧ Wr (putCells (drewW (putCells (allocW (allocW u hole) hole) s_b (s_o + 118) ([.int .i64 (q7 + 1)]))) s_b (s_o + 0 + 55) ([.int .i64 a_N])) s_b (s_o + 0 + 56) 1 ∧
 Spec Tryd.prog 13 #[.pointer (some ⟨s_b, s_o, none⟩)] (putCells (putCells (drewW (putCells (allocW (allocW u hole) hole) s_b (s_o + 118) ([.int .i64 (q7 + 1)]))) s_b (s_o + 0 + 55) ([.int .i64 a_N])) s_b (s_o + 0 + 56) ([.int .i64 a_M])) (fun e u113 => e = .returned (.tuple #[]) ∧
 R (.returned (.agg #[.int .i64 0, .int .i64 0, .string (ByteArray.mk #[])])) u113)))))))))) ∧
 ((decide (a_Kind = 5)) = false → (((decide (a_Kind = 8)) = true →
 ∃ (I_ : Int → World → Prop) (M_ : Int → World → Nat), ((Loc.mk 34 false ([.int .i64 a_Kind, .int .i64 a_P, .int .i64 a_N, .int .i64 a_M, .string a_Bytes])) = (Loc.mk 34 false ([.int .i64 a_Kind, .int .i64 a_P, .int .i64 a_N, .int .i64 a_M, .string a_Bytes])) ∧
 (Loc.mk 31 false ([.int .i64 0, .int .i64 0, .string (ByteArray.mk #[])])) = (Loc.mk 31 false ([.int .i64 0, .int .i64 0, .string (ByteArray.mk #[])])) ∧
 I_ 0 (putCells (allocW (allocW u hole) hole) s_b (s_o + 118) ([.int .i64 (q7 + 1)]))) ∧
 ∀ (q21 : Int), (Loc.mk 34 false ([.int .i64 a_Kind, .int .i64 a_P, .int .i64 a_N, .int .i64 a_M, .string a_Bytes])) = (Loc.mk 34 false ([.int .i64 a_Kind, .int .i64 a_P, .int .i64 a_N, .int .i64 a_M, .string a_Bytes])) ∧
 (Loc.mk 31 false ([.int .i64 0, .int .i64 0, .string (ByteArray.mk #[])])) = (Loc.mk 31 false ([.int .i64 0, .int .i64 0, .string (ByteArray.mk #[])])) ∧
 ∀ u114 : World, I_ q21 u114 → (((decide (q21 < 3)) = true → 0 ≤ q21 ∧
 q21 < ((3 : Nat) : Int) ∧ Spec Tryd.prog 20 #[.pointer (some ⟨s_b, s_o, none⟩), .pointer (some ⟨s_b, s_o + 82 + q21.toNat * 12, none⟩)] u114 (fun e u115 => e = .returned (.tuple #[]) ∧
 inK .i64 (q21 + 1) ∧ (Loc.mk 34 false ([.int .i64 a_Kind, .int .i64 a_P, .int .i64 a_N, .int .i64 a_M, .string a_Bytes])) = (Loc.mk 34 false ([.int .i64 a_Kind, .int .i64 a_P, .int .i64 a_N, .int .i64 a_M, .string a_Bytes])) ∧
 (Loc.mk 31 false ([.int .i64 0, .int .i64 0, .string (ByteArray.mk #[])])) = (Loc.mk 31 false ([.int .i64 0, .int .i64 0, .string (ByteArray.mk #[])])) ∧
 I_ (q21 + 1) u115 ∧ (Loc.mk 34 false ([.int .i64 a_Kind, .int .i64 a_P, .int .i64 a_N, .int .i64 a_M, .string a_Bytes])) = (Loc.mk 34 false ([.int .i64 a_Kind, .int .i64 a_P, .int .i64 a_N, .int .i64 a_M, .string a_Bytes])) ∧
 (Loc.mk 31 false ([.int .i64 0, .int .i64 0, .string (ByteArray.mk #[])])) = (Loc.mk 31 false ([.int .i64 0, .int .i64 0, .string (ByteArray.mk #[])])) ∧
 M_ (q21 + 1) u115 < M_ q21 u114)) ∧ ((decide (q21 < 3)) = false →
 R (.returned (.agg #[.int .i64 0, .int .i64 0, .string (ByteArray.mk #[])])) u114))) ∧
 ((decide (a_Kind = 8)) = false → (((decide (a_Kind = 6)) = true →
 (((decide (a_Kind = 6)) = true → Spec Tryd.prog 21 #[.pointer (some ⟨s_b, s_o, none⟩), .agg #[.int .i64 a_Kind, .int .i64 a_P, .int .i64 a_N, .int .i64 a_M, .string a_Bytes]] (putCells (allocW (allocW u hole) hole) s_b (s_o + 118) ([.int .i64 (q7 + 1)])) (fun e u116 => ∃ (q22 q23 : Int) (q24 : ByteArray), e = .returned (.agg #[.int .i64 q22, .int .i64 q23, .string q24]) ∧
 R (.returned (.agg #[.int .i64 q22, .int .i64 q23, .string q24])) u116)) ∧
 ((decide (a_Kind = 6)) = false → Spec Tryd.prog 14 #[.int .i64 2] (putCells (allocW (allocW u hole) hole) s_b (s_o + 118) ([.int .i64 (q7 + 1)])) (fun e u117 => ∃ (q25 q26 : Int) (q27 : ByteArray), e = .returned (.agg #[.int .i64 q25, .int .i64 q26, .string q27]) ∧
 R (.returned (.agg #[.int .i64 q25, .int .i64 q26, .string q27])) u117)))) ∧
 ((decide (a_Kind = 6)) = false → (((decide (a_Kind = 7)) = true →
 (((decide (a_Kind = 7)) = true → Spec Tryd.prog 21 #[.pointer (some ⟨s_b, s_o, none⟩), .agg #[.int .i64 a_Kind, .int .i64 a_P, .int .i64 a_N, .int .i64 a_M, .string a_Bytes]] (putCells (allocW (allocW u hole) hole) s_b (s_o + 118) ([.int .i64 (q7 + 1)])) (fun e u118 => ∃ (q28 q29 : Int) (q2a : ByteArray), e = .returned (.agg #[.int .i64 q28, .int .i64 q29, .string q2a]) ∧
 R (.returned (.agg #[.int .i64 q28, .int .i64 q29, .string q2a])) u118)) ∧
 ((decide (a_Kind = 7)) = false → Spec Tryd.prog 14 #[.int .i64 2] (putCells (allocW (allocW u hole) hole) s_b (s_o + 118) ([.int .i64 (q7 + 1)])) (fun e u119 => ∃ (q2b q2c : Int) (q2d : ByteArray), e = .returned (.agg #[.int .i64 q2b, .int .i64 q2c, .string q2d]) ∧
 R (.returned (.agg #[.int .i64 q2b, .int .i64 q2c, .string q2d])) u119)))) ∧
 ((decide (a_Kind = 7)) = false → (((decide (a_Kind = 9)) = true →
 Spec Tryd.prog 21 #[.pointer (some ⟨s_b, s_o, none⟩), .agg #[.int .i64 a_Kind, .int .i64 a_P, .int .i64 a_N, .int .i64 a_M, .string a_Bytes]] (putCells (allocW (allocW u hole) hole) s_b (s_o + 118) ([.int .i64 (q7 + 1)])) (fun e u120 => ∃ (q2e q2f : Int) (q2g : ByteArray), e = .returned (.agg #[.int .i64 q2e, .int .i64 q2f, .string q2g]) ∧
 R (.returned (.agg #[.int .i64 q2e, .int .i64 q2f, .string q2g])) u120)) ∧
 ((decide (a_Kind = 9)) = false → Spec Tryd.prog 14 #[.int .i64 2] (putCells (allocW (allocW u hole) hole) s_b (s_o + 118) ([.int .i64 (q7 + 1)])) (fun e u121 => ∃ (q2h q2i : Int) (q2j : ByteArray), e = .returned (.agg #[.int .i64 q2h, .int .i64 q2i, .string q2j]) ∧
 R (.returned (.agg #[.int .i64 q2h, .int .i64 q2i, .string q2j])) u121)))))))))))))) ∧
 ((decide (a_Kind = 3)) = false → (((decide (a_Kind = 4)) = true →
 ∃ (q2k : Option Addr) (q2l q2m : Nat), 1 = szN 1 ∧
 Rd (drewW (putCells (allocW (allocW u hole) hole) s_b (s_o + 118) ([.int .i64 (q7 + 1)]))) s_b (s_o + 0 + 0) ([.slice q2k q2l q2m]) ∧
 Spec Tryd.prog 17 #[.agg #[.slice q2k q2l q2m], .int .i64 a_P] (drewW (putCells (allocW (allocW u hole) hole) s_b (s_o + 118) ([.int .i64 (q7 + 1)]))) (fun e u122 => ∃ (q2n : Bool), e = .returned (.bool q2n) ∧
 (((!q2n) = true → Spec Tryd.prog 14 #[.int .i64 3] u122 (fun e u123 => ∃ (q2o q2p : Int) (q2q : ByteArray), e = .returned (.agg #[.int .i64 q2o, .int .i64 q2p, .string q2q]) ∧
 R (.returned (.agg #[.int .i64 q2o, .int .i64 q2p, .string q2q])) u123)) ∧
 ((!q2n) = false → (((decide (a_Kind = 4)) = true → 1 = szN 1 ∧
 Wr u122 s_b (s_o + 0 + 57) 1 ∧ R (.returned (.agg #[.int .i64 0, .int .i64 0, .string (ByteArray.mk #[])])) (putCells u122 s_b (s_o + 0 + 57) ([.int .i64 a_P]))) ∧
 ((decide (a_Kind = 4)) = false → 0 ≤ a_P ∧ a_P < ((6 : Nat) : Int) ∧
 ∃ (q2r : Int) (q2s : Option Addr) (q2t q2u : Nat) (q2v : ByteArray) (q2w : Bool), 4 = szN 4 ∧
 Rd (drewW u122) s_b (s_o + 58 + a_P.toNat * 4) ([.int .i64 q2r, .slice q2s q2t q2u, .string q2v, .bool q2w]) ∧
 Spec Tryd.prog 18 #[.agg #[.int .i64 q2r, .slice q2s q2t q2u, .string q2v, .bool q2w], .string a_Bytes] (drewW u122) (fun e u124 => ∃ (q2x : Int) (q2y : Option Addr) (q2z q30 : Nat) (q31 : ByteArray) (q32 : Bool) (q33 : Option Addr) (q34 q35 : Nat) (q36 : Int), e = .returned (.tuple #[.agg #[.int .i64 q2x, .slice q2y q2z q30, .string q31, .bool q32], .slice q33 q34 q35, .int .i64 q36]) ∧
 0 ≤ a_P ∧ a_P < ((6 : Nat) : Int) ∧ 4 = szN 4 ∧
 Wr u124 s_b (s_o + 58 + a_P.toNat * 4) 4 ∧ 0 ≤ a_P ∧ a_P < ((6 : Nat) : Int) ∧
 ∃ (q37 q38 : Int) (q39 : Option Addr) (q3a q3b : Nat) (q3c q3d q3e : Int) (q3f : Bool) (q3g q3h : Int), 9 = szN 9 ∧
 Rd (drewW (putCells u124 s_b (s_o + 58 + a_P.toNat * 4) ([.int .i64 q2x, .slice q2y q2z q30, .string q31, .bool q32]))) s_b (s_o + 0 + 1 + a_P.toNat * 9) ([.int .i64 q37, .int .i64 q38, .slice q39 q3a q3b, .int .i64 q3c, .int .i64 q3d, .int .i64 q3e, .bool q3f, .int .i64 q3g, .int .i64 q3h]) ∧
 Spec Tryd.prog 19 #[.agg #[.int .i64 q37, .int .i64 q38, .slice q39 q3a q3b, .int .i64 q3c, .int .i64 q3d, .int .i64 q3e, .bool q3f, .int .i64 q3g, .int .i64 q3h], .slice q33 q34 q35] (drewW (putCells u124 s_b (s_o + 58 + a_P.toNat * 4) ([.int .i64 q2x, .slice q2y q2z q30, .string q31, .bool q32]))) (fun e u125 => ∃ (q3i q3j : Int) (q3k : Option Addr) (q3l q3m : Nat) (q3n q3o q3p : Int) (q3q : Bool) (q3r q3s q3t : Int), e = .returned (.tuple #[.agg #[.int .i64 q3i, .int .i64 q3j, .slice q3k q3l q3m, .int .i64 q3n, .int .i64 q3o, .int .i64 q3p, .bool q3q, .int .i64 q3r, .int .i64 q3s], .int .i64 q3t]) ∧
 0 ≤ a_P ∧ a_P < ((6 : Nat) : Int) ∧ 9 = szN 9 ∧
 Wr u125 s_b (s_o + 0 + 1 + a_P.toNat * 9) 9 ∧ R (.returned (.agg #[.int .i64 0, .int .i64 0, .string (ByteArray.mk #[])])) (putCells u125 s_b (s_o + 0 + 1 + a_P.toNat * 9) ([.int .i64 q3i, .int .i64 q3j, .slice q3k q3l q3m, .int .i64 q3n, .int .i64 q3o, .int .i64 q3p, .bool q3q, .int .i64 q3r, .int .i64 q3s])))))))))) ∧
 ((decide (a_Kind = 4)) = false → (((decide (a_Kind = 5)) = true →
 (((decide (a_N < 1)) = true → Spec Tryd.prog 14 #[.int .i64 1] (putCells (allocW (allocW u hole) hole) s_b (s_o + 118) ([.int .i64 (q7 + 1)])) (fun e u126 => ∃ (q3u q3v : Int) (q3w : ByteArray), e = .returned (.agg #[.int .i64 q3u, .int .i64 q3v, .string q3w]) ∧
 R (.returned (.agg #[.int .i64 q3u, .int .i64 q3v, .string q3w])) u126)) ∧
 ((decide (a_N < 1)) = false → (((decide ((24 : Int) < a_N)) = true →
 Spec Tryd.prog 14 #[.int .i64 1] (putCells (allocW (allocW u hole) hole) s_b (s_o + 118) ([.int .i64 (q7 + 1)])) (fun e u127 => ∃ (q3x q3y : Int) (q3z : ByteArray), e = .returned (.agg #[.int .i64 q3x, .int .i64 q3y, .string q3z]) ∧
 R (.returned (.agg #[.int .i64 q3x, .int .i64 q3y, .string q3z])) u127)) ∧
 ((decide ((24 : Int) < a_N)) = false → (((decide (a_M < 1)) = true →
 Spec Tryd.prog 14 #[.int .i64 1] (putCells (allocW (allocW u hole) hole) s_b (s_o + 118) ([.int .i64 (q7 + 1)])) (fun e u128 => ∃ (q40 q41 : Int) (q42 : ByteArray), e = .returned (.agg #[.int .i64 q40, .int .i64 q41, .string q42]) ∧
 R (.returned (.agg #[.int .i64 q40, .int .i64 q41, .string q42])) u128)) ∧
 ((decide (a_M < 1)) = false → (((decide ((10 : Int) < a_M)) = true →
 Spec Tryd.prog 14 #[.int .i64 1] (putCells (allocW (allocW u hole) hole) s_b (s_o + 118) ([.int .i64 (q7 + 1)])) (fun e u129 => ∃ (q43 q44 : Int) (q45 : ByteArray), e = .returned (.agg #[.int .i64 q43, .int .i64 q44, .string q45]) ∧
 R (.returned (.agg #[.int .i64 q43, .int .i64 q44, .string q45])) u129)) ∧
 ((decide ((10 : Int) < a_M)) = false → 1 = szN 1 ∧
 Wr (drewW (putCells (allocW (allocW u hole) hole) s_b (s_o + 118) ([.int .i64 (q7 + 1)]))) s_b (s_o + 0 + 55) 1 ∧
 1 = szN 1 ∧ Wr (putCells (drewW (putCells (allocW (allocW u hole) hole) s_b (s_o + 118) ([.int .i64 (q7 + 1)]))) s_b (s_o + 0 + 55) ([.int .i64 a_N])) s_b (s_o + 0 + 56) 1 ∧
 Spec Tryd.prog 13 #[.pointer (some ⟨s_b, s_o, none⟩)] (putCells (putCells (drewW (putCells (allocW (allocW u hole) hole) s_b (s_o + 118) ([.int .i64 (q7 + 1)]))) s_b (s_o + 0 + 55) ([.int .i64 a_N])) s_b (s_o + 0 + 56) ([.int .i64 a_M])) (fun e u130 => e = .returned (.tuple #[]) ∧
 R (.returned (.agg #[.int .i64 0, .int .i64 0, .string (ByteArray.mk #[])])) u130)))))))))) ∧
 ((decide (a_Kind = 5)) = false → (((decide (a_Kind = 8)) = true →
 ∃ (I_1 : Int → World → Prop) (M_1 : Int → World → Nat), ((Loc.mk 34 false ([.int .i64 a_Kind, .int .i64 a_P, .int .i64 a_N, .int .i64 a_M, .string a_Bytes])) = (Loc.mk 34 false ([.int .i64 a_Kind, .int .i64 a_P, .int .i64 a_N, .int .i64 a_M, .string a_Bytes])) ∧
 (Loc.mk 31 false ([.int .i64 0, .int .i64 0, .string (ByteArray.mk #[])])) = (Loc.mk 31 false ([.int .i64 0, .int .i64 0, .string (ByteArray.mk #[])])) ∧
 I_1 0 (putCells (allocW (allocW u hole) hole) s_b (s_o + 118) ([.int .i64 (q7 + 1)]))) ∧
 ∀ (q46 : Int), (Loc.mk 34 false ([.int .i64 a_Kind, .int .i64 a_P, .int .i64 a_N, .int .i64 a_M, .string a_Bytes])) = (Loc.mk 34 false ([.int .i64 a_Kind, .int .i64 a_P, .int .i64 a_N, .int .i64 a_M, .string a_Bytes])) ∧
 (Loc.mk 31 false ([.int .i64 0, .int .i64 0, .string (ByteArray.mk #[])])) = (Loc.mk 31 false ([.int .i64 0, .int .i64 0, .string (ByteArray.mk #[])])) ∧
 ∀ u131 : World, I_1 q46 u131 → (((decide (q46 < 3)) = true →
 0 ≤ q46 ∧ q46 < ((3 : Nat) : Int) ∧ Spec Tryd.prog 20 #[.pointer (some ⟨s_b, s_o, none⟩), .pointer (some ⟨s_b, s_o + 82 + q46.toNat * 12, none⟩)] u131 (fun e u132 => e = .returned (.tuple #[]) ∧
 inK .i64 (q46 + 1) ∧ (Loc.mk 34 false ([.int .i64 a_Kind, .int .i64 a_P, .int .i64 a_N, .int .i64 a_M, .string a_Bytes])) = (Loc.mk 34 false ([.int .i64 a_Kind, .int .i64 a_P, .int .i64 a_N, .int .i64 a_M, .string a_Bytes])) ∧
 (Loc.mk 31 false ([.int .i64 0, .int .i64 0, .string (ByteArray.mk #[])])) = (Loc.mk 31 false ([.int .i64 0, .int .i64 0, .string (ByteArray.mk #[])])) ∧
 I_1 (q46 + 1) u132 ∧ (Loc.mk 34 false ([.int .i64 a_Kind, .int .i64 a_P, .int .i64 a_N, .int .i64 a_M, .string a_Bytes])) = (Loc.mk 34 false ([.int .i64 a_Kind, .int .i64 a_P, .int .i64 a_N, .int .i64 a_M, .string a_Bytes])) ∧
 (Loc.mk 31 false ([.int .i64 0, .int .i64 0, .string (ByteArray.mk #[])])) = (Loc.mk 31 false ([.int .i64 0, .int .i64 0, .string (ByteArray.mk #[])])) ∧
 M_1 (q46 + 1) u132 < M_1 q46 u131)) ∧ ((decide (q46 < 3)) = false →
 R (.returned (.agg #[.int .i64 0, .int .i64 0, .string (ByteArray.mk #[])])) u131))) ∧
 ((decide (a_Kind = 8)) = false → (((decide (a_Kind = 6)) = true →
 (((decide (a_Kind = 6)) = true → Spec Tryd.prog 21 #[.pointer (some ⟨s_b, s_o, none⟩), .agg #[.int .i64 a_Kind, .int .i64 a_P, .int .i64 a_N, .int .i64 a_M, .string a_Bytes]] (putCells (allocW (allocW u hole) hole) s_b (s_o + 118) ([.int .i64 (q7 + 1)])) (fun e u133 => ∃ (q47 q48 : Int) (q49 : ByteArray), e = .returned (.agg #[.int .i64 q47, .int .i64 q48, .string q49]) ∧
 R (.returned (.agg #[.int .i64 q47, .int .i64 q48, .string q49])) u133)) ∧
 ((decide (a_Kind = 6)) = false → Spec Tryd.prog 14 #[.int .i64 2] (putCells (allocW (allocW u hole) hole) s_b (s_o + 118) ([.int .i64 (q7 + 1)])) (fun e u134 => ∃ (q4a q4b : Int) (q4c : ByteArray), e = .returned (.agg #[.int .i64 q4a, .int .i64 q4b, .string q4c]) ∧
 R (.returned (.agg #[.int .i64 q4a, .int .i64 q4b, .string q4c])) u134)))) ∧
 ((decide (a_Kind = 6)) = false → (((decide (a_Kind = 7)) = true →
 (((decide (a_Kind = 7)) = true → Spec Tryd.prog 21 #[.pointer (some ⟨s_b, s_o, none⟩), .agg #[.int .i64 a_Kind, .int .i64 a_P, .int .i64 a_N, .int .i64 a_M, .string a_Bytes]] (putCells (allocW (allocW u hole) hole) s_b (s_o + 118) ([.int .i64 (q7 + 1)])) (fun e u135 => ∃ (q4d q4e : Int) (q4f : ByteArray), e = .returned (.agg #[.int .i64 q4d, .int .i64 q4e, .string q4f]) ∧
 R (.returned (.agg #[.int .i64 q4d, .int .i64 q4e, .string q4f])) u135)) ∧
 ((decide (a_Kind = 7)) = false → Spec Tryd.prog 14 #[.int .i64 2] (putCells (allocW (allocW u hole) hole) s_b (s_o + 118) ([.int .i64 (q7 + 1)])) (fun e u136 => ∃ (q4g q4h : Int) (q4i : ByteArray), e = .returned (.agg #[.int .i64 q4g, .int .i64 q4h, .string q4i]) ∧
 R (.returned (.agg #[.int .i64 q4g, .int .i64 q4h, .string q4i])) u136)))) ∧
 ((decide (a_Kind = 7)) = false → (((decide (a_Kind = 9)) = true →
 Spec Tryd.prog 21 #[.pointer (some ⟨s_b, s_o, none⟩), .agg #[.int .i64 a_Kind, .int .i64 a_P, .int .i64 a_N, .int .i64 a_M, .string a_Bytes]] (putCells (allocW (allocW u hole) hole) s_b (s_o + 118) ([.int .i64 (q7 + 1)])) (fun e u137 => ∃ (q4j q4k : Int) (q4l : ByteArray), e = .returned (.agg #[.int .i64 q4j, .int .i64 q4k, .string q4l]) ∧
 R (.returned (.agg #[.int .i64 q4j, .int .i64 q4k, .string q4l])) u137)) ∧
 ((decide (a_Kind = 9)) = false → Spec Tryd.prog 14 #[.int .i64 2] (putCells (allocW (allocW u hole) hole) s_b (s_o + 118) ([.int .i64 (q7 + 1)])) (fun e u138 => ∃ (q4m q4n : Int) (q4o : ByteArray), e = .returned (.agg #[.int .i64 q4m, .int .i64 q4n, .string q4o]) ∧
 R (.returned (.agg #[.int .i64 q4m, .int .i64 q4n, .string q4o])) u138)))))))))))))))))))))))
set_option maxRecDepth 100000 in
theorem vc_server_Server_Do_eq (s_b s_o : Nat) (a_Kind : Int) (a_P : Int) (a_N : Int) (a_M : Int) (a_Bytes : ByteArray) (u : World) (R : Ending → World → Prop) : wFunc cx_server_Server_Do Tryd.f8 [.pointer (some ⟨s_b, s_o, none⟩), .agg #[.int .i64 a_Kind, .int .i64 a_P, .int .i64 a_N, .int .i64 a_M, .string a_Bytes]] u R = vc_server_Server_Do s_b s_o a_Kind a_P a_N a_M a_Bytes u R := by kernel_rfl
theorem vc_server_Server_Do_spec (s_b s_o : Nat) (a_Kind : Int) (a_P : Int) (a_N : Int) (a_M : Int) (a_Bytes : ByteArray) {u : World} {R : Ending → World → Prop} (h : vc_server_Server_Do s_b s_o a_Kind a_P a_N a_M a_Bytes u R) : Spec Tryd.prog fn_server_Server_Do #[.pointer (some ⟨s_b, s_o, none⟩), .agg #[.int .i64 a_Kind, .int .i64 a_P, .int .i64 a_N, .int .i64 a_M, .string a_Bytes]] u R := func_spec (C := cx_server_Server_Do) (fn := Tryd.f8) (args := [.pointer (some ⟨s_b, s_o, none⟩), .agg #[.int .i64 a_Kind, .int .i64 a_P, .int .i64 a_N, .int .i64 a_M, .string a_Bytes]]) (ctxOk _ _ _ _ _) Tryd.func8 (vc_server_Server_Do_eq s_b s_o a_Kind a_P a_N a_M a_Bytes u R) h

end Go.Proofs.YtkmmphkjmamckabDoor

namespace Go.Proofs.YtkmmphkjmamckabDoor
open Go
set_option linter.all false

/-- (*fenestra/server.Server).show -/
noncomputable def cx_server_Server_show : Ctx := ⟨Tryd.prog, tab, [], [], [], fns, [], []⟩
def vc_server_Server_show (s_b s_o : Nat) (c_b c_o : Nat) (u : World) (R : Ending → World → Prop) : Prop :=
 ∃ (q0 : Bool), 1 = szN 1 ∧ Rd u c_b (c_o + 0) ([.bool q0]) ∧
 (((!q0) = true → R (.returned (.tuple #[])) u) ∧ ((!q0) = false →
 ∃ (q1 : Bool), 1 = szN 1 ∧ Rd u c_b (c_o + 11) ([.bool q1]) ∧
 ((q1 = true → ∃ (q2 : ByteArray), 1 = szN 1 ∧
 Rd u c_b (c_o + 10) ([.string q2]) ∧ (((!decide (q2.data.toList = (ByteArray.mk #[]).data.toList)) = true →
 R (.returned (.tuple #[])) u) ∧ ((!decide (q2.data.toList = (ByteArray.mk #[]).data.toList)) = false →
 ∃ (q3 : List Value), 58 = q3.length ∧ Rd (drewW u) s_b (s_o + 0) q3 ∧
 ∃ (q4 : Int), 1 = szN 1 ∧ Rd (drewW u) c_b (c_o + 1 + 0) ([.int .i64 q4]) ∧
 ∃ (q5 : Int), 1 = szN 1 ∧ Rd (drewW u) c_b (c_o + 1 + 1) ([.int .i64 q5]) ∧
 ((Spec Tryd.prog 24 #[.agg q3.toArray, .int .i64 q4, .int .i64 q5] (drewW u) (fun e u1 => ∃ (q6 q7 : Int) (q8 : Option Addr) (q9 qa : Nat) (qb qc qd : Int) (qe : Bool) (qf qg : Int), e = .returned (.agg #[.int .i64 q6, .int .i64 q7, .slice q8 q9 qa, .int .i64 qb, .int .i64 qc, .int .i64 qd, .bool qe, .int .i64 qf, .int .i64 qg]) ∧
 Rd (allocW u1 hole) c_b (c_o + 1 + 1) ([.int .i64 q5]) ∧ Rd (allocW u1 hole) c_b (c_o + 1 + 0) ([.int .i64 q4]) ∧
 Rd (allocW u1 hole) s_b (s_o + 0) q3 ∧ ∃ (qh : Bool), 1 = szN 1 ∧
 Rd (allocW u1 hole) c_b (c_o + 11) ([.bool qh]) ∧ ((qh = true →
 ∃ (qi qj : Int) (qk : Option Addr) (ql qm : Nat) (qn qo qp : Int) (qq : Bool) (qr qs : Int), 9 = szN 9 ∧
 Rd (drewW (allocW u1 hole)) c_b (c_o + 1) ([.int .i64 qi, .int .i64 qj, .slice qk ql qm, .int .i64 qn, .int .i64 qo, .int .i64 qp, .bool qq, .int .i64 qr, .int .i64 qs]) ∧
 ((Spec Tryd.prog 37 #[.agg #[.int .i64 qi, .int .i64 qj, .slice qk ql qm, .int .i64 qn, .int .i64 qo, .int .i64 qp, .bool qq, .int .i64 qr, .int .i64 qs], .agg #[.int .i64 q6, .int .i64 q7, .slice q8 q9 qa, .int .i64 qb, .int .i64 qc, .int .i64 qd, .bool qe, .int .i64 qf, .int .i64 qg]] (drewW (allocW u1 hole)) (fun e u11 => ∃ (qt : ByteArray) (qu qv : Int) (qw : Option Addr) (qx qy : Nat) (qz q10 q11 : Int) (q12 : Bool) (q13 q14 q15 : Int), e = .returned (.tuple #[.string qt, .agg #[.int .i64 qu, .int .i64 qv, .slice qw qx qy, .int .i64 qz, .int .i64 q10, .int .i64 q11, .bool q12, .int .i64 q13, .int .i64 q14], .int .i64 q15]) ∧
 Rd (allocW u11 hole) c_b (c_o + 1) ([.int .i64 qi, .int .i64 qj, .slice qk ql qm, .int .i64 qn, .int .i64 qo, .int .i64 qp, .bool qq, .int .i64 qr, .int .i64 qs]) ∧
 (((!decide (q15 = 0)) = true → R (.returned (.tuple #[])) (allocW u11 hole)) ∧
 ((!decide (q15 = 0)) = false → ∃ (q16 : ByteArray), 1 = szN 1 ∧
 Rd (allocW u11 hole) c_b (c_o + 10) ([.string q16]) ∧ inK .i64 (4000 - ((q16.size : Nat) : Int)) ∧
 (((decide ((4000 - ((q16.size : Nat) : Int)) < ((qt.size : Nat) : Int))) = true →
 1 = szN 1 ∧ Wr (allocW u11 hole) c_b (c_o + 11) 1 ∧
 R (.returned (.tuple #[])) (putCells (allocW u11 hole) c_b (c_o + 11) ([.bool true]))) ∧
 ((decide ((4000 - ((q16.size : Nat) : Int)) < ((qt.size : Nat) : Int))) = false →
 ∃ (q17 : ByteArray), 1 = szN 1 ∧
 Rd (allocW u11 hole) c_b (c_o + 10) ([.string q17]) ∧ ((q17.size + qt.size : Nat) : Int) ≤ 9223372036854775807 ∧
 1 = szN 1 ∧ Wr (allocW u11 hole) c_b (c_o + 10) 1 ∧
 9 = szN 9 ∧
 Wr (putCells (allocW u11 hole) c_b (c_o + 10) ([.string (q17 ++ qt)])) c_b (c_o + 1) 9 ∧
 1 = szN 1 ∧ Wr (putCells (putCells (allocW u11 hole) c_b (c_o + 10) ([.string (q17 ++ qt)])) c_b (c_o + 1) ([.int .i64 qu, .int .i64 qv, .slice qw qx qy, .int .i64 qz, .int .i64 q10, .int .i64 q11, .bool q12, .int .i64 q13, .int .i64 q14])) c_b (c_o + 11) 1 ∧
 R (.returned (.tuple #[])) (putCells (putCells (putCells (allocW u11 hole) c_b (c_o + 10) ([.string (q17 ++ qt)])) c_b (c_o + 1) ([.int .i64 qu, .int .i64 qv, .slice qw qx qy, .int .i64 qz, .int .i64 q10, .int .i64 q11, .bool q12, .int .i64 q13, .int .i64 q14])) c_b (c_o + 11) ([.bool false])))))))) ∧
 (Rd (allocW (drewW (allocW u1 hole)) hole) c_b (c_o + 1) ([.int .i64 qi, .int .i64 qj, .slice qk ql qm, .int .i64 qn, .int .i64 qo, .int .i64 qp, .bool qq, .int .i64 qr, .int .i64 qs]) ∧
 Spec Tryd.prog 37 #[.agg #[.int .i64 qi, .int .i64 qj, .slice qk ql qm, .int .i64 qn, .int .i64 qo, .int .i64 qp, .bool qq, .int .i64 qr, .int .i64 qs], .agg #[.int .i64 q6, .int .i64 q7, .slice q8 q9 qa, .int .i64 qb, .int .i64 qc, .int .i64 qd, .bool qe, .int .i64 qf, .int .i64 qg]] (allocW (drewW (allocW u1 hole)) hole) (fun e u12 => ∃ (q18 : ByteArray) (q19 q1a : Int) (q1b : Option Addr) (q1c q1d : Nat) (q1e q1f q1g : Int) (q1h : Bool) (q1i q1j q1k : Int), e = .returned (.tuple #[.string q18, .agg #[.int .i64 q19, .int .i64 q1a, .slice q1b q1c q1d, .int .i64 q1e, .int .i64 q1f, .int .i64 q1g, .bool q1h, .int .i64 q1i, .int .i64 q1j], .int .i64 q1k]) ∧
 (((!decide (q1k = 0)) = true → R (.returned (.tuple #[])) u12) ∧
 ((!decide (q1k = 0)) = false → ∃ (q1l : ByteArray), 1 = szN 1 ∧
 Rd u12 c_b (c_o + 10) ([.string q1l]) ∧ inK .i64 (4000 - ((q1l.size : Nat) : Int)) ∧
 (((decide ((4000 - ((q1l.size : Nat) : Int)) < ((q18.size : Nat) : Int))) = true →
 1 = szN 1 ∧ Wr u12 c_b (c_o + 11) 1 ∧
 R (.returned (.tuple #[])) (putCells u12 c_b (c_o + 11) ([.bool true]))) ∧
 ((decide ((4000 - ((q1l.size : Nat) : Int)) < ((q18.size : Nat) : Int))) = false →
 ∃ (q1m : ByteArray), 1 = szN 1 ∧
 Rd u12 c_b (c_o + 10) ([.string q1m]) ∧ ((q1m.size + q18.size : Nat) : Int) ≤ 9223372036854775807 ∧
 1 = szN 1 ∧ Wr u12 c_b (c_o + 10) 1 ∧
 9 = szN 9 ∧
 Wr (putCells u12 c_b (c_o + 10) ([.string (q1m ++ q18)])) c_b (c_o + 1) 9 ∧
 1 = szN 1 ∧ Wr (putCells (putCells u12 c_b (c_o + 10) ([.string (q1m ++ q18)])) c_b (c_o + 1) ([.int .i64 q19, .int .i64 q1a, .slice q1b q1c q1d, .int .i64 q1e, .int .i64 q1f, .int .i64 q1g, .bool q1h, .int .i64 q1i, .int .i64 q1j])) c_b (c_o + 11) 1 ∧
 R (.returned (.tuple #[])) (putCells (putCells (putCells u12 c_b (c_o + 10) ([.string (q1m ++ q18)])) c_b (c_o + 1) ([.int .i64 q19, .int .i64 q1a, .slice q1b q1c q1d, .int .i64 q1e, .int .i64 q1f, .int .i64 q1g, .bool q1h, .int .i64 q1i, .int .i64 q1j])) c_b (c_o + 11) ([.bool false])))))))))) ∧
 (qh = false → ∃ (q1n q1o : Int) (q1p : Option Addr) (q1q q1r : Nat) (q1s q1t q1u : Int) (q1v : Bool) (q1w q1x : Int), 9 = szN 9 ∧
 Rd (drewW (allocW u1 hole)) c_b (c_o + 1) ([.int .i64 q1n, .int .i64 q1o, .slice q1p q1q q1r, .int .i64 q1s, .int .i64 q1t, .int .i64 q1u, .bool q1v, .int .i64 q1w, .int .i64 q1x]) ∧
 ((Spec Tryd.prog 36 #[.agg #[.int .i64 q1n, .int .i64 q1o, .slice q1p q1q q1r, .int .i64 q1s, .int .i64 q1t, .int .i64 q1u, .bool q1v, .int .i64 q1w, .int .i64 q1x], .agg #[.int .i64 q6, .int .i64 q7, .slice q8 q9 qa, .int .i64 qb, .int .i64 qc, .int .i64 qd, .bool qe, .int .i64 qf, .int .i64 qg]] (drewW (allocW u1 hole)) (fun e u13 => ∃ (q1y : ByteArray) (q1z q20 : Int) (q21 : Option Addr) (q22 q23 : Nat) (q24 q25 q26 : Int) (q27 : Bool) (q28 q29 q2a : Int), e = .returned (.tuple #[.string q1y, .agg #[.int .i64 q1z, .int .i64 q20, .slice q21 q22 q23, .int .i64 q24, .int .i64 q25, .int .i64 q26, .bool q27, .int .i64 q28, .int .i64 q29], .int .i64 q2a]) ∧
 Rd (allocW u13 hole) c_b (c_o + 1) ([.int .i64 q1n, .int .i64 q1o, .slice q1p q1q q1r, .int .i64 q1s, .int .i64 q1t, .int .i64 q1u, .bool q1v, .int .i64 q1w, .int .i64 q1x]) ∧
 (((!decide (q2a = 0)) = true → R (.returned (.tuple #[])) (allocW u13 hole)) ∧
 ((!decide (q2a = 0)) = false → ∃ (q2b : ByteArray), 1 = szN 1 ∧
 Rd (allocW u13 hole) c_b (c_o + 10) ([.string q2b]) ∧ inK .i64 (4000 - ((q2b.size : Nat) : Int)) ∧
 (((decide ((4000 - ((q2b.size : Nat) : Int)) < ((q1y.size : Nat) : Int))) = true →
 1 = szN 1 ∧ Wr (allocW u13 hole) c_b (c_o + 11) 1 ∧
 R (.returned (.tuple #[])) (putCells (allocW u13 hole) c_b (c_o + 11) ([.bool true]))) ∧
 ((decide ((4000 - ((q2b.size : Nat) : Int)) < ((q1y.size : Nat) : Int))) = false →
 ∃ (q2c : ByteArray), 1 = szN 1 ∧
 Rd (allocW u13 hole) c_b (c_o + 10) ([.string q2c]) ∧ ((q2c.size + q1y.size : Nat) : Int) ≤ 9223372036854775807 ∧
 1 = szN 1 ∧ Wr (allocW u13 hole) c_b (c_o + 10) 1 ∧
 9 = szN 9 ∧
 Wr (putCells (allocW u13 hole) c_b (c_o + 10) ([.string (q2c ++ q1y)])) c_b (c_o + 1) 9 ∧
 1 = szN 1 ∧ Wr (putCells (putCells (allocW u13 hole) c_b (c_o + 10) ([.string (q2c ++ q1y)])) c_b (c_o + 1) ([.int .i64 q1z, .int .i64 q20, .slice q21 q22 q23, .int .i64 q24, .int .i64 q25, .int .i64 q26, .bool q27, .int .i64 q28, .int .i64 q29])) c_b (c_o + 11) 1 ∧
 R (.returned (.tuple #[])) (putCells (putCells (putCells (allocW u13 hole) c_b (c_o + 10) ([.string (q2c ++ q1y)])) c_b (c_o + 1) ([.int .i64 q1z, .int .i64 q20, .slice q21 q22 q23, .int .i64 q24, .int .i64 q25, .int .i64 q26, .bool q27, .int .i64 q28, .int .i64 q29])) c_b (c_o + 11) ([.bool false])))))))) ∧
 (Rd (allocW (drewW (allocW u1 hole)) hole) c_b (c_o + 1) ([.int .i64 q1n, .int .i64 q1o, .slice q1p q1q q1r, .int .i64 q1s, .int .i64 q1t, .int .i64 q1u, .bool q1v, .int .i64 q1w, .int .i64 q1x]) ∧
 Spec Tryd.prog 36 #[.agg #[.int .i64 q1n, .int .i64 q1o, .slice q1p q1q q1r, .int .i64 q1s, .int .i64 q1t, .int .i64 q1u, .bool q1v, .int .i64 q1w, .int .i64 q1x], .agg #[.int .i64 q6, .int .i64 q7, .slice q8 q9 qa, .int .i64 qb, .int .i64 qc, .int .i64 qd, .bool qe, .int .i64 qf, .int .i64 qg]] (allocW (drewW (allocW u1 hole)) hole) (fun e u14 => ∃ (q2d : ByteArray) (q2e q2f : Int) (q2g : Option Addr) (q2h q2i : Nat) (q2j q2k q2l : Int) (q2m : Bool) (q2n q2o q2p : Int), e = .returned (.tuple #[.string q2d, .agg #[.int .i64 q2e, .int .i64 q2f, .slice q2g q2h q2i, .int .i64 q2j, .int .i64 q2k, .int .i64 q2l, .bool q2m, .int .i64 q2n, .int .i64 q2o], .int .i64 q2p]) ∧
 (((!decide (q2p = 0)) = true → R (.returned (.tuple #[])) u14) ∧
 ((!decide (q2p = 0)) = false → ∃ (q2q : ByteArray), 1 = szN 1 ∧
 Rd u14 c_b (c_o + 10) ([.string q2q]) ∧ inK .i64 (4000 - ((q2q.size : Nat) : Int)) ∧
 (((decide ((4000 - ((q2q.size : Nat) : Int)) < ((q2d.size : Nat) : Int))) = true →
 1 = szN 1 ∧ Wr u14 c_b (c_o + 11) 1 ∧
 R (.returned (.tuple #[])) (putCells u14 c_b (c_o + 11) ([.bool true]))) ∧
 ((decide ((4000 - ((q2q.size : Nat) : Int)) < ((q2d.size : Nat) : Int))) = false →
 ∃ (q2r : ByteArray), 1 = szN 1 ∧
 Rd u14 c_b (c_o + 10) ([.string q2r]) ∧ ((q2r.size + q2d.size : Nat) : Int) ≤ 9223372036854775807 ∧
 1 = szN 1 ∧ Wr u14 c_b (c_o + 10) 1 ∧
 9 = szN 9 ∧
 Wr (putCells u14 c_b (c_o + 10) ([.string (q2r ++ q2d)])) c_b (c_o + 1) 9 ∧
 1 = szN 1 ∧ Wr (putCells (putCells u14 c_b (c_o + 10) ([.string (q2r ++ q2d)])) c_b (c_o + 1) ([.int .i64 q2e, .int .i64 q2f, .slice q2g q2h q2i, .int .i64 q2j, .int .i64 q2k, .int .i64 q2l, .bool q2m, .int .i64 q2n, .int .i64 q2o])) c_b (c_o + 11) 1 ∧
 R (.returned (.tuple #[])) (putCells (putCells (putCells u14 c_b (c_o + 10) ([.string (q2r ++ q2d)])) c_b (c_o + 1) ([.int .i64 q2e, .int .i64 q2f, .slice q2g q2h q2i, .int .i64 q2j, .int .i64 q2k, .int .i64 q2l, .bool q2m, .int .i64 q2n, .int .i64 q2o])) c_b (c_o + 11) ([.bool false]))))))))))))) ∧
 (Rd (allocW (drewW u) hole) c_b (c_o + 1 + 1) ([.int .i64 q5]) ∧
 Rd (allocW (drewW u) hole) c_b (c_o + 1 + 0) ([.int .i64 q4]) ∧
 Rd (allocW (drewW u) hole) s_b (s_o + 0) q3 ∧ Spec Tryd.prog 24 #[.agg q3.toArray, .int .i64 q4, .int .i64 q5] (allocW (drewW u) hole) (fun e u15 => ∃ (q2s q2t : Int) (q2u : Option Addr) (q2v q2w : Nat) (q2x q2y q2z : Int) (q30 : Bool) (q31 q32 : Int), e = .returned (.agg #[.int .i64 q2s, .int .i64 q2t, .slice q2u q2v q2w, .int .i64 q2x, .int .i64 q2y, .int .i64 q2z, .bool q30, .int .i64 q31, .int .i64 q32]) ∧
 ∃ (q33 : Bool), 1 = szN 1 ∧ Rd u15 c_b (c_o + 11) ([.bool q33]) ∧
 ((q33 = true → ∃ (q34 q35 : Int) (q36 : Option Addr) (q37 q38 : Nat) (q39 q3a q3b : Int) (q3c : Bool) (q3d q3e : Int), 9 = szN 9 ∧
 Rd (drewW u15) c_b (c_o + 1) ([.int .i64 q34, .int .i64 q35, .slice q36 q37 q38, .int .i64 q39, .int .i64 q3a, .int .i64 q3b, .bool q3c, .int .i64 q3d, .int .i64 q3e]) ∧
 ((Spec Tryd.prog 37 #[.agg #[.int .i64 q34, .int .i64 q35, .slice q36 q37 q38, .int .i64 q39, .int .i64 q3a, .int .i64 q3b, .bool q3c, .int .i64 q3d, .int .i64 q3e], .agg #[.int .i64 q2s, .int .i64 q2t, .slice q2u q2v q2w, .int .i64 q2x, .int .i64 q2y, .int .i64 q2z, .bool q30, .int .i64 q31, .int .i64 q32]] (drewW u15) (fun e u16 => ∃ (q3f : ByteArray) (q3g q3h : Int) (q3i : Option Addr) (q3j q3k : Nat) (q3l q3m q3n : Int) (q3o : Bool) (q3p q3q q3r : Int), e = .returned (.tuple #[.string q3f, .agg #[.int .i64 q3g, .int .i64 q3h, .slice q3i q3j q3k, .int .i64 q3l, .int .i64 q3m, .int .i64 q3n, .bool q3o, .int .i64 q3p, .int .i64 q3q], .int .i64 q3r]) ∧
 Rd (allocW u16 hole) c_b (c_o + 1) ([.int .i64 q34, .int .i64 q35, .slice q36 q37 q38, .int .i64 q39, .int .i64 q3a, .int .i64 q3b, .bool q3c, .int .i64 q3d, .int .i64 q3e]) ∧
 (((!decide (q3r = 0)) = true → R (.returned (.tuple #[])) (allocW u16 hole)) ∧
 ((!decide (q3r = 0)) = false → ∃ (q3s : ByteArray), 1 = szN 1 ∧
 Rd (allocW u16 hole) c_b (c_o + 10) ([.string q3s]) ∧ inK .i64 (4000 - ((q3s.size : Nat) : Int)) ∧
 (((decide ((4000 - ((q3s.size : Nat) : Int)) < ((q3f.size : Nat) : Int))) = true →
 1 = szN 1 ∧ Wr (allocW u16 hole) c_b (c_o + 11) 1 ∧
 R (.returned (.tuple #[])) (putCells (allocW u16 hole) c_b (c_o + 11) ([.bool true]))) ∧
 ((decide ((4000 - ((q3s.size : Nat) : Int)) < ((q3f.size : Nat) : Int))) = false →
 ∃ (q3t : ByteArray), 1 = szN 1 ∧
 Rd (allocW u16 hole) c_b (c_o + 10) ([.string q3t]) ∧ ((q3t.size + q3f.size : Nat) : Int) ≤ 9223372036854775807 ∧
 1 = szN 1 ∧ Wr (allocW u16 hole) c_b (c_o + 10) 1 ∧
 9 = szN 9 ∧
 Wr (putCells (allocW u16 hole) c_b (c_o + 10) ([.string (q3t ++ q3f)])) c_b (c_o + 1) 9 ∧
 1 = szN 1 ∧ Wr (putCells (putCells (allocW u16 hole) c_b (c_o + 10) ([.string (q3t ++ q3f)])) c_b (c_o + 1) ([.int .i64 q3g, .int .i64 q3h, .slice q3i q3j q3k, .int .i64 q3l, .int .i64 q3m, .int .i64 q3n, .bool q3o, .int .i64 q3p, .int .i64 q3q])) c_b (c_o + 11) 1 ∧
 R (.returned (.tuple #[])) (putCells (putCells (putCells (allocW u16 hole) c_b (c_o + 10) ([.string (q3t ++ q3f)])) c_b (c_o + 1) ([.int .i64 q3g, .int .i64 q3h, .slice q3i q3j q3k, .int .i64 q3l, .int .i64 q3m, .int .i64 q3n, .bool q3o, .int .i64 q3p, .int .i64 q3q])) c_b (c_o + 11) ([.bool false])))))))) ∧
 (Rd (allocW (drewW u15) hole) c_b (c_o + 1) ([.int .i64 q34, .int .i64 q35, .slice q36 q37 q38, .int .i64 q39, .int .i64 q3a, .int .i64 q3b, .bool q3c, .int .i64 q3d, .int .i64 q3e]) ∧
 Spec Tryd.prog 37 #[.agg #[.int .i64 q34, .int .i64 q35, .slice q36 q37 q38, .int .i64 q39, .int .i64 q3a, .int .i64 q3b, .bool q3c, .int .i64 q3d, .int .i64 q3e], .agg #[.int .i64 q2s, .int .i64 q2t, .slice q2u q2v q2w, .int .i64 q2x, .int .i64 q2y, .int .i64 q2z, .bool q30, .int .i64 q31, .int .i64 q32]] (allocW (drewW u15) hole) (fun e u17 => ∃ (q3u : ByteArray) (q3v q3w : Int) (q3x : Option Addr) (q3y q3z : Nat) (q40 q41 q42 : Int) (q43 : Bool) (q44 q45 q46 : Int), e = .returned (.tuple #[.string q3u, .agg #[.int .i64 q3v, .int .i64 q3w, .slice q3x q3y q3z, .int .i64 q40, .int .i64 q41, .int .i64 q42, .bool q43, .int .i64 q44, .int .i64 q45], .int .i64 q46]) ∧
 (((!decide (q46 = 0)) = true → R (.returned (.tuple #[])) u17) ∧
 ((!decide (q46 = 0)) = false → ∃ (q47 : ByteArray), 1 = szN 1 ∧
 Rd u17 c_b (c_o + 10) ([.string q47]) ∧ inK .i64 (4000 - ((q47.size : Nat) : Int)) ∧
 (((decide ((4000 - ((q47.size : Nat) : Int)) < ((q3u.size : Nat) : Int))) = true →
 1 = szN 1 ∧ Wr u17 c_b (c_o + 11) 1 ∧
 R (.returned (.tuple #[])) (putCells u17 c_b (c_o + 11) ([.bool true]))) ∧
 ((decide ((4000 - ((q47.size : Nat) : Int)) < ((q3u.size : Nat) : Int))) = false →
 ∃ (q48 : ByteArray), 1 = szN 1 ∧
 Rd u17 c_b (c_o + 10) ([.string q48]) ∧ ((q48.size + q3u.size : Nat) : Int) ≤ 9223372036854775807 ∧
 1 = szN 1 ∧ Wr u17 c_b (c_o + 10) 1 ∧
 9 = szN 9 ∧
 Wr (putCells u17 c_b (c_o + 10) ([.string (q48 ++ q3u)])) c_b (c_o + 1) 9 ∧
 1 = szN 1 ∧ Wr (putCells (putCells u17 c_b (c_o + 10) ([.string (q48 ++ q3u)])) c_b (c_o + 1) ([.int .i64 q3v, .int .i64 q3w, .slice q3x q3y q3z, .int .i64 q40, .int .i64 q41, .int .i64 q42, .bool q43, .int .i64 q44, .int .i64 q45])) c_b (c_o + 11) 1 ∧
 R (.returned (.tuple #[])) (putCells (putCells (putCells u17 c_b (c_o + 10) ([.string (q48 ++ q3u)])) c_b (c_o + 1) ([.int .i64 q3v, .int .i64 q3w, .slice q3x q3y q3z, .int .i64 q40, .int .i64 q41, .int .i64 q42, .bool q43, .int .i64 q44, .int .i64 q45])) c_b (c_o + 11) ([.bool false])))))))))) ∧
 (q33 = false → ∃ (q49 q4a : Int) (q4b : Option Addr) (q4c q4d : Nat) (q4e q4f q4g : Int) (q4h : Bool) (q4i q4j : Int), 9 = szN 9 ∧
 Rd (drewW u15) c_b (c_o + 1) ([.int .i64 q49, .int .i64 q4a, .slice q4b q4c q4d, .int .i64 q4e, .int .i64 q4f, .int .i64 q4g, .bool q4h, .int .i64 q4i, .int .i64 q4j]) ∧
 ((Spec Tryd.prog 36 #[.agg #[.int .i64 q49, .int .i64 q4a, .slice q4b q4c q4d, .int .i64 q4e, .int .i64 q4f, .int .i64 q4g, .bool q4h, .int .i64 q4i, .int .i64 q4j], .agg #[.int .i64 q2s, .int .i64 q2t, .slice q2u q2v q2w, .int .i64 q2x, .int .i64 q2y, .int .i64 q2z, .bool q30, .int .i64 q31, .int .i64 q32]] (drewW u15) (fun e u18 => ∃ (q4k : ByteArray) (q4l q4m : Int) (q4n : Option Addr) (q4o q4p : Nat) (q4q q4r q4s : Int) (q4t : Bool) (q4u q4v q4w : Int), e = .returned (.tuple #[.string q4k, .agg #[.int .i64 q4l, .int .i64 q4m, .slice q4n q4o q4p, .int .i64 q4q, .int .i64 q4r, .int .i64 q4s, .bool q4t, .int .i64 q4u, .int .i64 q4v], .int .i64 q4w]) ∧
 Rd (allocW u18 hole) c_b (c_o + 1) ([.int .i64 q49, .int .i64 q4a, .slice q4b q4c q4d, .int .i64 q4e, .int .i64 q4f, .int .i64 q4g, .bool q4h, .int .i64 q4i, .int .i64 q4j]) ∧
 (((!decide (q4w = 0)) = true → R (.returned (.tuple #[])) (allocW u18 hole)) ∧
 ((!decide (q4w = 0)) = false → ∃ (q4x : ByteArray), 1 = szN 1 ∧
 Rd (allocW u18 hole) c_b (c_o + 10) ([.string q4x]) ∧ inK .i64 (4000 - ((q4x.size : Nat) : Int)) ∧
 (((decide ((4000 - ((q4x.size : Nat) : Int)) < ((q4k.size : Nat) : Int))) = true →
 1 = szN 1 ∧ Wr (allocW u18 hole) c_b (c_o + 11) 1 ∧
 R (.returned (.tuple #[])) (putCells (allocW u18 hole) c_b (c_o + 11) ([.bool true]))) ∧
 ((decide ((4000 - ((q4x.size : Nat) : Int)) < ((q4k.size : Nat) : Int))) = false →
 ∃ (q4y : ByteArray), 1 = szN 1 ∧
 Rd (allocW u18 hole) c_b (c_o + 10) ([.string q4y]) ∧ ((q4y.size + q4k.size : Nat) : Int) ≤ 9223372036854775807 ∧
 1 = szN 1 ∧ Wr (allocW u18 hole) c_b (c_o + 10) 1 ∧
 9 = szN 9 ∧
 Wr (putCells (allocW u18 hole) c_b (c_o + 10) ([.string (q4y ++ q4k)])) c_b (c_o + 1) 9 ∧
 1 = szN 1 ∧ Wr (putCells (putCells (allocW u18 hole) c_b (c_o + 10) ([.string (q4y ++ q4k)])) c_b (c_o + 1) ([.int .i64 q4l, .int .i64 q4m, .slice q4n q4o q4p, .int .i64 q4q, .int .i64 q4r, .int .i64 q4s, .bool q4t, .int .i64 q4u, .int .i64 q4v])) c_b (c_o + 11) 1 ∧
 R (.returned (.tuple #[])) (putCells (putCells (putCells (allocW u18 hole) c_b (c_o + 10) ([.string (q4y ++ q4k)])) c_b (c_o + 1) ([.int .i64 q4l, .int .i64 q4m, .slice q4n q4o q4p, .int .i64 q4q, .int .i64 q4r, .int .i64 q4s, .bool q4t, .int .i64 q4u, .int .i64 q4v])) c_b (c_o + 11) ([.bool false])))))))) ∧
 (Rd (allocW (drewW u15) hole) c_b (c_o + 1) ([.int .i64 q49, .int .i64 q4a, .slice q4b q4c q4d, .int .i64 q4e, .int .i64 q4f, .int .i64 q4g, .bool q4h, .int .i64 q4i, .int .i64 q4j]) ∧
 Spec Tryd.prog 36 #[.agg #[.int .i64 q49, .int .i64 q4a, .slice q4b q4c q4d, .int .i64 q4e, .int .i64 q4f, .int .i64 q4g, .bool q4h, .int .i64 q4i, .int .i64 q4j], .agg #[.int .i64 q2s, .int .i64 q2t, .slice q2u q2v q2w, .int .i64 q2x, .int .i64 q2y, .int .i64 q2z, .bool q30, .int .i64 q31, .int .i64 q32]] (allocW (drewW u15) hole) (fun e u19 => ∃ (q4z : ByteArray) (q50 q51 : Int) (q52 : Option Addr) (q53 q54 : Nat) (q55 q56 q57 : Int) (q58 : Bool) (q59 q5a q5b : Int), e = .returned (.tuple #[.string q4z, .agg #[.int .i64 q50, .int .i64 q51, .slice q52 q53 q54, .int .i64 q55, .int .i64 q56, .int .i64 q57, .bool q58, .int .i64 q59, .int .i64 q5a], .int .i64 q5b]) ∧
 (((!decide (q5b = 0)) = true → R (.returned (.tuple #[])) u19) ∧
 ((!decide (q5b = 0)) = false → ∃ (q5c : ByteArray), 1 = szN 1 ∧
 Rd u19 c_b (c_o + 10) ([.string q5c]) ∧ inK .i64 (4000 - ((q5c.size : Nat) : Int)) ∧
 (((decide ((4000 - ((q5c.size : Nat) : Int)) < ((q4z.size : Nat) : Int))) = true →
 1 = szN 1 ∧ Wr u19 c_b (c_o + 11) 1 ∧
 R (.returned (.tuple #[])) (putCells u19 c_b (c_o + 11) ([.bool true]))) ∧
 ((decide ((4000 - ((q5c.size : Nat) : Int)) < ((q4z.size : Nat) : Int))) = false →
 ∃ (q5d : ByteArray), 1 = szN 1 ∧
 Rd u19 c_b (c_o + 10) ([.string q5d]) ∧ ((q5d.size + q4z.size : Nat) : Int) ≤ 9223372036854775807 ∧
 1 = szN 1 ∧ Wr u19 c_b (c_o + 10) 1 ∧
 9 = szN 9 ∧
 Wr (putCells u19 c_b (c_o + 10) ([.string (q5d ++ q4z)])) c_b (c_o + 1) 9 ∧
 1 = szN 1 ∧ Wr (putCells (putCells u19 c_b (c_o + 10) ([.string (q5d ++ q4z)])) c_b (c_o + 1) ([.int .i64 q50, .int .i64 q51, .slice q52 q53 q54, .int .i64 q55, .int .i64 q56, .int .i64 q57, .bool q58, .int .i64 q59, .int .i64 q5a])) c_b (c_o + 11) 1 ∧
 R (.returned (.tuple #[])) (putCells (putCells (putCells u19 c_b (c_o + 10) ([.string (q5d ++ q4z)])) c_b (c_o + 1) ([.int .i64 q50, .int .i64 q51, .slice q52 q53 q54, .int .i64 q55, .int .i64 q56, .int .i64 q57, .bool q58, .int .i64 q59, .int .i64 q5a])) c_b (c_o + 11) ([.bool false]))))))))))))))))) ∧
 (q1 = false → ∃ (q5e : List Value), 58 = q5e.length ∧ Rd (drewW u) s_b (s_o + 0) q5e ∧
 ∃ (q5f : Int), 1 = szN 1 ∧ Rd (drewW u) c_b (c_o + 1 + 0) ([.int .i64 q5f]) ∧
 ∃ (q5g : Int), 1 = szN 1 ∧ Rd (drewW u) c_b (c_o + 1 + 1) ([.int .i64 q5g]) ∧
 ((Spec Tryd.prog 24 #[.agg q5e.toArray, .int .i64 q5f, .int .i64 q5g] (drewW u) (fun e u110 => ∃ (q5h q5i : Int) (q5j : Option Addr) (q5k q5l : Nat) (q5m q5n q5o : Int) (q5p : Bool) (q5q q5r : Int), e = .returned (.agg #[.int .i64 q5h, .int .i64 q5i, .slice q5j q5k q5l, .int .i64 q5m, .int .i64 q5n, .int .i64 q5o, .bool q5p, .int .i64 q5q, .int .i64 q5r]) ∧
 Rd (allocW u110 hole) c_b (c_o + 1 + 1) ([.int .i64 q5g]) ∧ Rd (allocW u110 hole) c_b (c_o + 1 + 0) ([.int .i64 q5f]) ∧
 Rd (allocW u110 hole) s_b (s_o + 0) q5e ∧ ∃ (q5s : Bool), 1 = szN 1 ∧
 Rd (allocW u110 hole) c_b (c_o + 11) ([.bool q5s]) ∧ ((q5s = true →
 ∃ (q5t q5u : Int) (q5v : Option Addr) (q5w q5x : Nat) (q5y q5z q60 : Int) (q61 : Bool) (q62 q63 : Int), 9 = szN 9 ∧
 Rd (drewW (allocW u110 hole)) c_b (c_o + 1) ([.int .i64 q5t, .int .i64 q5u, .slice q5v q5w q5x, .int .i64 q5y, .int .i64 q5z, .int .i64 q60, .bool q61, .int .i64 q62, .int .i64 q63]) ∧
 ((Spec Tryd.prog 37 #[.agg #[.int .i64 q5t, .int .i64 q5u, .slice q5v q5w q5x, .int .i64 q5y, .int .i64 q5z, .int .i64 q60, .bool q61, .int .i64 q62, .int .i64 q63], .agg #[.int .i64 q5h, .int .i64 q5i, .slice q5j q5k q5l, .int .i64 q5m, .int .i64 q5n, .int .i64 q5o, .bool q5p, .int .i64 q5q, .int .i64 q5r]] (drewW (allocW u110 hole)) (fun e u111 => ∃ (q64 : ByteArray) (q65 q66 : Int) (q67 : Option Addr) (q68 q69 : Nat) (q6a q6b q6c : Int) (q6d : Bool) (q6e q6f q6g : Int), e = .returned (.tuple #[.string q64, .agg #[.int .i64 q65, .int .i64 q66, .slice q67 q68 q69, .int .i64 q6a, .int .i64 q6b, .int .i64 q6c, .bool q6d, .int .i64 q6e, .int .i64 q6f], .int .i64 q6g]) ∧
 Rd (allocW u111 hole) c_b (c_o + 1) ([.int .i64 q5t, .int .i64 q5u, .slice q5v q5w q5x, .int .i64 q5y, .int .i64 q5z, .int .i64 q60, .bool q61, .int .i64 q62, .int .i64 q63]) ∧
 (((!decide (q6g = 0)) = true → R (.returned (.tuple #[])) (allocW u111 hole)) ∧
 ((!decide (q6g = 0)) = false → ∃ (q6h : ByteArray), 1 = szN 1 ∧
 Rd (allocW u111 hole) c_b (c_o + 10) ([.string q6h]) ∧ inK .i64 (4000 - ((q6h.size : Nat) : Int)) ∧
 (((decide ((4000 - ((q6h.size : Nat) : Int)) < ((q64.size : Nat) : Int))) = true →
 1 = szN 1 ∧ Wr (allocW u111 hole) c_b (c_o + 11) 1 ∧
 R (.returned (.tuple #[])) (putCells (allocW u111 hole) c_b (c_o + 11) ([.bool true]))) ∧
 ((decide ((4000 - ((q6h.size : Nat) : Int)) < ((q64.size : Nat) : Int))) = false →
 ∃ (q6i : ByteArray), 1 = szN 1 ∧
 Rd (allocW u111 hole) c_b (c_o + 10) ([.string q6i]) ∧ ((q6i.size + q64.size : Nat) : Int) ≤ 9223372036854775807 ∧
 1 = szN 1 ∧ Wr (allocW u111 hole) c_b (c_o + 10) 1 ∧
 9 = szN 9 ∧
 Wr (putCells (allocW u111 hole) c_b (c_o + 10) ([.string (q6i ++ q64)])) c_b (c_o + 1) 9 ∧
 1 = szN 1 ∧ Wr (putCells (putCells (allocW u111 hole) c_b (c_o + 10) ([.string (q6i ++ q64)])) c_b (c_o + 1) ([.int .i64 q65, .int .i64 q66, .slice q67 q68 q69, .int .i64 q6a, .int .i64 q6b, .int .i64 q6c, .bool q6d, .int .i64 q6e, .int .i64 q6f])) c_b (c_o + 11) 1 ∧
 R (.returned (.tuple #[])) (putCells (putCells (putCells (allocW u111 hole) c_b (c_o + 10) ([.string (q6i ++ q64)])) c_b (c_o + 1) ([.int .i64 q65, .int .i64 q66, .slice q67 q68 q69, .int .i64 q6a, .int .i64 q6b, .int .i64 q6c, .bool q6d, .int .i64 q6e, .int .i64 q6f])) c_b (c_o + 11) ([.bool false])))))))) ∧
 (Rd (allocW (drewW (allocW u110 hole)) hole) c_b (c_o + 1) ([.int .i64 q5t, .int .i64 q5u, .slice q5v q5w q5x, .int .i64 q5y, .int .i64 q5z, .int .i64 q60, .bool q61, .int .i64 q62, .int .i64 q63]) ∧
 Spec Tryd.prog 37 #[.agg #[.int .i64 q5t, .int .i64 q5u, .slice q5v q5w q5x, .int .i64 q5y, .int .i64 q5z, .int .i64 q60, .bool q61, .int .i64 q62, .int .i64 q63], .agg #[.int .i64 q5h, .int .i64 q5i, .slice q5j q5k q5l, .int .i64 q5m, .int .i64 q5n, .int .i64 q5o, .bool q5p, .int .i64 q5q, .int .i64 q5r]] (allocW (drewW (allocW u110 hole)) hole) (fun e u112 => ∃ (q6j : ByteArray) (q6k q6l : Int) (q6m : Option Addr) (q6n q6o : Nat) (q6p q6q q6r : Int) (q6s : Bool) (q6t q6u q6v : Int), e = .returned (.tuple #[.string q6j, .agg #[.int .i64 q6k, .int .i64 q6l, .slice q6m q6n q6o, .int .i64 q6p, .int .i64 q6q, .int .i64 q6r, .bool q6s, .int .i64 q6t, .int .i64 q6u], .int .i64 q6v]) ∧
 (((!decide (q6v = 0)) = true → R (.returned (.tuple #[])) u112) ∧
 ((!decide (q6v = 0)) = false → ∃ (q6w : ByteArray), 1 = szN 1 ∧
 Rd u112 c_b (c_o + 10) ([.string q6w]) ∧ inK .i64 (4000 - ((q6w.size : Nat) : Int)) ∧
 (((decide ((4000 - ((q6w.size : Nat) : Int)) < ((q6j.size : Nat) : Int))) = true →
 1 = szN 1 ∧ Wr u112 c_b (c_o + 11) 1 ∧
 R (.returned (.tuple #[])) (putCells u112 c_b (c_o + 11) ([.bool true]))) ∧
 ((decide ((4000 - ((q6w.size : Nat) : Int)) < ((q6j.size : Nat) : Int))) = false →
 ∃ (q6x : ByteArray), 1 = szN 1 ∧
 Rd u112 c_b (c_o + 10) ([.string q6x]) ∧ ((q6x.size + q6j.size : Nat) : Int) ≤ 9223372036854775807 ∧
 1 = szN 1 ∧ Wr u112 c_b (c_o + 10) 1 ∧
 9 = szN 9 ∧
 Wr (putCells u112 c_b (c_o + 10) ([.string (q6x ++ q6j)])) c_b (c_o + 1) 9 ∧
 1 = szN 1 ∧ Wr (putCells (putCells u112 c_b (c_o + 10) ([.string (q6x ++ q6j)])) c_b (c_o + 1) ([.int .i64 q6k, .int .i64 q6l, .slice q6m q6n q6o, .int .i64 q6p, .int .i64 q6q, .int .i64 q6r, .bool q6s, .int .i64 q6t, .int .i64 q6u])) c_b (c_o + 11) 1 ∧
 R (.returned (.tuple #[])) (putCells (putCells (putCells u112 c_b (c_o + 10) ([.string (q6x ++ q6j)])) c_b (c_o + 1) ([.int .i64 q6k, .int .i64 q6l, .slice q6m q6n q6o, .int .i64 q6p, .int .i64 q6q, .int .i64 q6r, .bool q6s, .int .i64 q6t, .int .i64 q6u])) c_b (c_o + 11) ([.bool false])))))))))) ∧
 (q5s = false → ∃ (q6y q6z : Int) (q70 : Option Addr) (q71 q72 : Nat) (q73 q74 q75 : Int) (q76 : Bool) (q77 q78 : Int), 9 = szN 9 ∧
 Rd (drewW (allocW u110 hole)) c_b (c_o + 1) ([.int .i64 q6y, .int .i64 q6z, .slice q70 q71 q72, .int .i64 q73, .int .i64 q74, .int .i64 q75, .bool q76, .int .i64 q77, .int .i64 q78]) ∧
 ((Spec Tryd.prog 36 #[.agg #[.int .i64 q6y, .int .i64 q6z, .slice q70 q71 q72, .int .i64 q73, .int .i64 q74, .int .i64 q75, .bool q76, .int .i64 q77, .int .i64 q78], .agg #[.int .i64 q5h, .int .i64 q5i, .slice q5j q5k q5l, .int .i64 q5m, .int .i64 q5n, .int .i64 q5o, .bool q5p, .int .i64 q5q, .int .i64 q5r]] (drewW (allocW u110 hole)) (fun e u113 => ∃ (q79 : ByteArray) (q7a q7b : Int) (q7c : Option Addr) (q7d q7e : Nat) (q7f q7g q7h : Int) (q7i : Bool) (q7j q7k q7l : Int), e = .returned (.tuple #[.string q79, .agg #[.int .i64 q7a, .int .i64 q7b, .slice q7c q7d q7e, .int .i64 q7f, .int .i64 q7g, .int .i64 q7h, .bool q7i, .int .i64 q7j, .int .i64 q7k], .int .i64 q7l]) ∧
 Rd (allocW u113 hole) c_b (c_o + 1) ([.int .i64 q6y, .int .i64 q6z, .slice q70 q71 q72, .int .i64 q73, .int .i64 q74, .int .i64 q75, .bool q76, .int .i64 q77, .int .i64 q78]) ∧
 (((!decide (q7l = 0)) = true → R (.returned (.tuple #[])) (allocW u113 hole)) ∧
 ((!decide (q7l = 0)) = false → ∃ (q7m : ByteArray), 1 = szN 1 ∧
 Rd (allocW u113 hole) c_b (c_o + 10) ([.string q7m]) ∧ inK .i64 (4000 - ((q7m.size : Nat) : Int)) ∧
 (((decide ((4000 - ((q7m.size : Nat) : Int)) < ((q79.size : Nat) : Int))) = true →
 1 = szN 1 ∧ Wr (allocW u113 hole) c_b (c_o + 11) 1 ∧
 R (.returned (.tuple #[])) (putCells (allocW u113 hole) c_b (c_o + 11) ([.bool true]))) ∧
 ((decide ((4000 - ((q7m.size : Nat) : Int)) < ((q79.size : Nat) : Int))) = false →
 ∃ (q7n : ByteArray), 1 = szN 1 ∧
 Rd (allocW u113 hole) c_b (c_o + 10) ([.string q7n]) ∧ ((q7n.size + q79.size : Nat) : Int) ≤ 9223372036854775807 ∧
 1 = szN 1 ∧ Wr (allocW u113 hole) c_b (c_o + 10) 1 ∧
 9 = szN 9 ∧
 Wr (putCells (allocW u113 hole) c_b (c_o + 10) ([.string (q7n ++ q79)])) c_b (c_o + 1) 9 ∧
 1 = szN 1 ∧ Wr (putCells (putCells (allocW u113 hole) c_b (c_o + 10) ([.string (q7n ++ q79)])) c_b (c_o + 1) ([.int .i64 q7a, .int .i64 q7b, .slice q7c q7d q7e, .int .i64 q7f, .int .i64 q7g, .int .i64 q7h, .bool q7i, .int .i64 q7j, .int .i64 q7k])) c_b (c_o + 11) 1 ∧
 R (.returned (.tuple #[])) (putCells (putCells (putCells (allocW u113 hole) c_b (c_o + 10) ([.string (q7n ++ q79)])) c_b (c_o + 1) ([.int .i64 q7a, .int .i64 q7b, .slice q7c q7d q7e, .int .i64 q7f, .int .i64 q7g, .int .i64 q7h, .bool q7i, .int .i64 q7j, .int .i64 q7k])) c_b (c_o + 11) ([.bool false])))))))) ∧
 (Rd (allocW (drewW (allocW u110 hole)) hole) c_b (c_o + 1) ([.int .i64 q6y, .int .i64 q6z, .slice q70 q71 q72, .int .i64 q73, .int .i64 q74, .int .i64 q75, .bool q76, .int .i64 q77, .int .i64 q78]) ∧
 Spec Tryd.prog 36 #[.agg #[.int .i64 q6y, .int .i64 q6z, .slice q70 q71 q72, .int .i64 q73, .int .i64 q74, .int .i64 q75, .bool q76, .int .i64 q77, .int .i64 q78], .agg #[.int .i64 q5h, .int .i64 q5i, .slice q5j q5k q5l, .int .i64 q5m, .int .i64 q5n, .int .i64 q5o, .bool q5p, .int .i64 q5q, .int .i64 q5r]] (allocW (drewW (allocW u110 hole)) hole) (fun e u114 => ∃ (q7o : ByteArray) (q7p q7q : Int) (q7r : Option Addr) (q7s q7t : Nat) (q7u q7v q7w : Int) (q7x : Bool) (q7y q7z q80 : Int), e = .returned (.tuple #[.string q7o, .agg #[.int .i64 q7p, .int .i64 q7q, .slice q7r q7s q7t, .int .i64 q7u, .int .i64 q7v, .int .i64 q7w, .bool q7x, .int .i64 q7y, .int .i64 q7z], .int .i64 q80]) ∧
 (((!decide (q80 = 0)) = true → R (.returned (.tuple #[])) u114) ∧
 ((!decide (q80 = 0)) = false → ∃ (q81 : ByteArray), 1 = szN 1 ∧
 Rd u114 c_b (c_o + 10) ([.string q81]) ∧ inK .i64 (4000 - ((q81.size : Nat) : Int)) ∧
 (((decide ((4000 - ((q81.size : Nat) : Int)) < ((q7o.size : Nat) : Int))) = true →
 1 = szN 1 ∧ Wr u114 c_b (c_o + 11) 1 ∧
 R (.returned (.tuple #[])) (putCells u114 c_b (c_o + 11) ([.bool true]))) ∧
 ((decide ((4000 - ((q81.size : Nat) : Int)) < ((q7o.size : Nat) : Int))) = false →
 ∃ (q82 : ByteArray), 1 = szN 1 ∧
 Rd u114 c_b (c_o + 10) ([.string q82]) ∧ ((q82.size + q7o.size : Nat) : Int) ≤ 9223372036854775807 ∧
 1 = szN 1 ∧ Wr u114 c_b (c_o + 10) 1 ∧
 9 = szN 9 ∧
 Wr (putCells u114 c_b (c_o + 10) ([.string (q82 ++ q7o)])) c_b (c_o + 1) 9 ∧
 1 = szN 1 ∧ Wr (putCells (putCells u114 c_b (c_o + 10) ([.string (q82 ++ q7o)])) c_b (c_o + 1) ([.int .i64 q7p, .int .i64 q7q, .slice q7r q7s q7t, .int .i64 q7u, .int .i64 q7v, .int .i64 q7w, .bool q7x, .int .i64 q7y, .int .i64 q7z])) c_b (c_o + 11) 1 ∧
 R (.returned (.tuple #[])) (putCells (putCells (putCells u114 c_b (c_o + 10) ([.string (q82 ++ q7o)])) c_b (c_o + 1) ([.int .i64 q7p, .int .i64 q7q, .slice q7r q7s q7t, .int .i64 q7u, .int .i64 q7v, .int .i64 q7w, .bool q7x, .int .i64 q7y, .int .i64 q7z])) c_b (c_o + 11) ([.bool false]))))))))))))) ∧
 (Rd (allocW (drewW u) hole) c_b (c_o + 1 + 1) ([.int .i64 q5g]) ∧
 Rd (allocW (drewW u) hole) c_b (c_o + 1 + 0) ([.int .i64 q5f]) ∧
 Rd (allocW (drewW u) hole) s_b (s_o + 0) q5e ∧ Spec Tryd.prog 24 #[.agg q5e.toArray, .int .i64 q5f, .int .i64 q5g] (allocW (drewW u) hole) (fun e u115 => ∃ (q83 q84 : Int) (q85 : Option Addr) (q86 q87 : Nat) (q88 q89 q8a : Int) (q8b : Bool) (q8c q8d : Int), e = .returned (.agg #[.int .i64 q83, .int .i64 q84, .slice q85 q86 q87, .int .i64 q88, .int .i64 q89, .int .i64 q8a, .bool q8b, .int .i64 q8c, .int .i64 q8d]) ∧
 ∃ (q8e : Bool), 1 = szN 1 ∧ Rd u115 c_b (c_o + 11) ([.bool q8e]) ∧
 ((q8e = true → ∃ (q8f q8g : Int) (q8h : Option Addr) (q8i q8j : Nat) (q8k q8l q8m : Int) (q8n : Bool) (q8o q8p : Int), 9 = szN 9 ∧
 Rd (drewW u115) c_b (c_o + 1) ([.int .i64 q8f, .int .i64 q8g, .slice q8h q8i q8j, .int .i64 q8k, .int .i64 q8l, .int .i64 q8m, .bool q8n, .int .i64 q8o, .int .i64 q8p]) ∧
 ((Spec Tryd.prog 37 #[.agg #[.int .i64 q8f, .int .i64 q8g, .slice q8h q8i q8j, .int .i64 q8k, .int .i64 q8l, .int .i64 q8m, .bool q8n, .int .i64 q8o, .int .i64 q8p], .agg #[.int .i64 q83, .int .i64 q84, .slice q85 q86 q87, .int .i64 q88, .int .i64 q89, .int .i64 q8a, .bool q8b, .int .i64 q8c, .int .i64 q8d]] (drewW u115) (fun e u116 => ∃ (q8q : ByteArray) (q8r q8s : Int) (q8t : Option Addr) (q8u q8v : Nat) (q8w q8x q8y : Int) (q8z : Bool) (q90 q91 q92 : Int), e = .returned (.tuple #[.string q8q, .agg #[.int .i64 q8r, .int .i64 q8s, .slice q8t q8u q8v, .int .i64 q8w, .int .i64 q8x, .int .i64 q8y, .bool q8z, .int .i64 q90, .int .i64 q91], .int .i64 q92]) ∧
 Rd (allocW u116 hole) c_b (c_o + 1) ([.int .i64 q8f, .int .i64 q8g, .slice q8h q8i q8j, .int .i64 q8k, .int .i64 q8l, .int .i64 q8m, .bool q8n, .int .i64 q8o, .int .i64 q8p]) ∧
 (((!decide (q92 = 0)) = true → R (.returned (.tuple #[])) (allocW u116 hole)) ∧
 ((!decide (q92 = 0)) = false → ∃ (q93 : ByteArray), 1 = szN 1 ∧
 Rd (allocW u116 hole) c_b (c_o + 10) ([.string q93]) ∧ inK .i64 (4000 - ((q93.size : Nat) : Int)) ∧
 (((decide ((4000 - ((q93.size : Nat) : Int)) < ((q8q.size : Nat) : Int))) = true →
 1 = szN 1 ∧ Wr (allocW u116 hole) c_b (c_o + 11) 1 ∧
 R (.returned (.tuple #[])) (putCells (allocW u116 hole) c_b (c_o + 11) ([.bool true]))) ∧
 ((decide ((4000 - ((q93.size : Nat) : Int)) < ((q8q.size : Nat) : Int))) = false →
 ∃ (q94 : ByteArray), 1 = szN 1 ∧
 Rd (allocW u116 hole) c_b (c_o + 10) ([.string q94]) ∧ ((q94.size + q8q.size : Nat) : Int) ≤ 9223372036854775807 ∧
 1 = szN 1 ∧ Wr (allocW u116 hole) c_b (c_o + 10) 1 ∧
 9 = szN 9 ∧
 Wr (putCells (allocW u116 hole) c_b (c_o + 10) ([.string (q94 ++ q8q)])) c_b (c_o + 1) 9 ∧
 1 = szN 1 ∧ Wr (putCells (putCells (allocW u116 hole) c_b (c_o + 10) ([.string (q94 ++ q8q)])) c_b (c_o + 1) ([.int .i64 q8r, .int .i64 q8s, .slice q8t q8u q8v, .int .i64 q8w, .int .i64 q8x, .int .i64 q8y, .bool q8z, .int .i64 q90, .int .i64 q91])) c_b (c_o + 11) 1 ∧
 R (.returned (.tuple #[])) (putCells (putCells (putCells (allocW u116 hole) c_b (c_o + 10) ([.string (q94 ++ q8q)])) c_b (c_o + 1) ([.int .i64 q8r, .int .i64 q8s, .slice q8t q8u q8v, .int .i64 q8w, .int .i64 q8x, .int .i64 q8y, .bool q8z, .int .i64 q90, .int .i64 q91])) c_b (c_o + 11) ([.bool false])))))))) ∧
 (Rd (allocW (drewW u115) hole) c_b (c_o + 1) ([.int .i64 q8f, .int .i64 q8g, .slice q8h q8i q8j, .int .i64 q8k, .int .i64 q8l, .int .i64 q8m, .bool q8n, .int .i64 q8o, .int .i64 q8p]) ∧
 Spec Tryd.prog 37 #[.agg #[.int .i64 q8f, .int .i64 q8g, .slice q8h q8i q8j, .int .i64 q8k, .int .i64 q8l, .int .i64 q8m, .bool q8n, .int .i64 q8o, .int .i64 q8p], .agg #[.int .i64 q83, .int .i64 q84, .slice q85 q86 q87, .int .i64 q88, .int .i64 q89, .int .i64 q8a, .bool q8b, .int .i64 q8c, .int .i64 q8d]] (allocW (drewW u115) hole) (fun e u117 => ∃ (q95 : ByteArray) (q96 q97 : Int) (q98 : Option Addr) (q99 q9a : Nat) (q9b q9c q9d : Int) (q9e : Bool) (q9f q9g q9h : Int), e = .returned (.tuple #[.string q95, .agg #[.int .i64 q96, .int .i64 q97, .slice q98 q99 q9a, .int .i64 q9b, .int .i64 q9c, .int .i64 q9d, .bool q9e, .int .i64 q9f, .int .i64 q9g], .int .i64 q9h]) ∧
 (((!decide (q9h = 0)) = true → R (.returned (.tuple #[])) u117) ∧
 ((!decide (q9h = 0)) = false → ∃ (q9i : ByteArray), 1 = szN 1 ∧
 Rd u117 c_b (c_o + 10) ([.string q9i]) ∧ inK .i64 (4000 - ((q9i.size : Nat) : Int)) ∧
 (((decide ((4000 - ((q9i.size : Nat) : Int)) < ((q95.size : Nat) : Int))) = true →
 1 = szN 1 ∧ Wr u117 c_b (c_o + 11) 1 ∧
 R (.returned (.tuple #[])) (putCells u117 c_b (c_o + 11) ([.bool true]))) ∧
 ((decide ((4000 - ((q9i.size : Nat) : Int)) < ((q95.size : Nat) : Int))) = false →
 ∃ (q9j : ByteArray), 1 = szN 1 ∧
 Rd u117 c_b (c_o + 10) ([.string q9j]) ∧ ((q9j.size + q95.size : Nat) : Int) ≤ 9223372036854775807 ∧
 1 = szN 1 ∧ Wr u117 c_b (c_o + 10) 1 ∧
 9 = szN 9 ∧
 Wr (putCells u117 c_b (c_o + 10) ([.string (q9j ++ q95)])) c_b (c_o + 1) 9 ∧
 1 = szN 1 ∧ Wr (putCells (putCells u117 c_b (c_o + 10) ([.string (q9j ++ q95)])) c_b (c_o + 1) ([.int .i64 q96, .int .i64 q97, .slice q98 q99 q9a, .int .i64 q9b, .int .i64 q9c, .int .i64 q9d, .bool q9e, .int .i64 q9f, .int .i64 q9g])) c_b (c_o + 11) 1 ∧
 R (.returned (.tuple #[])) (putCells (putCells (putCells u117 c_b (c_o + 10) ([.string (q9j ++ q95)])) c_b (c_o + 1) ([.int .i64 q96, .int .i64 q97, .slice q98 q99 q9a, .int .i64 q9b, .int .i64 q9c, .int .i64 q9d, .bool q9e, .int .i64 q9f, .int .i64 q9g])) c_b (c_o + 11) ([.bool false])))))))))) ∧
 (q8e = false → ∃ (q9k q9l : Int) (q9m : Option Addr) (q9n q9o : Nat) (q9p q9q q9r : Int) (q9s : Bool) (q9t q9u : Int), 9 = szN 9 ∧
 Rd (drewW u115) c_b (c_o + 1) ([.int .i64 q9k, .int .i64 q9l, .slice q9m q9n q9o, .int .i64 q9p, .int .i64 q9q, .int .i64 q9r, .bool q9s, .int .i64 q9t, .int .i64 q9u]) ∧
 ((Spec Tryd.prog 36 #[.agg #[.int .i64 q9k, .int .i64 q9l, .slice q9m q9n q9o, .int .i64 q9p, .int .i64 q9q, .int .i64 q9r, .bool q9s, .int .i64 q9t, .int .i64 q9u], .agg #[.int .i64 q83, .int .i64 q84, .slice q85 q86 q87, .int .i64 q88, .int .i64 q89, .int .i64 q8a, .bool q8b, .int .i64 q8c, .int .i64 q8d]] (drewW u115) (fun e u118 => ∃ (q9v : ByteArray) (q9w q9x : Int) (q9y : Option Addr) (q9z qa0 : Nat) (qa1 qa2 qa3 : Int) (qa4 : Bool) (qa5 qa6 qa7 : Int), e = .returned (.tuple #[.string q9v, .agg #[.int .i64 q9w, .int .i64 q9x, .slice q9y q9z qa0, .int .i64 qa1, .int .i64 qa2, .int .i64 qa3, .bool qa4, .int .i64 qa5, .int .i64 qa6], .int .i64 qa7]) ∧
 Rd (allocW u118 hole) c_b (c_o + 1) ([.int .i64 q9k, .int .i64 q9l, .slice q9m q9n q9o, .int .i64 q9p, .int .i64 q9q, .int .i64 q9r, .bool q9s, .int .i64 q9t, .int .i64 q9u]) ∧
 (((!decide (qa7 = 0)) = true → R (.returned (.tuple #[])) (allocW u118 hole)) ∧
 ((!decide (qa7 = 0)) = false → ∃ (qa8 : ByteArray), 1 = szN 1 ∧
 Rd (allocW u118 hole) c_b (c_o + 10) ([.string qa8]) ∧ inK .i64 (4000 - ((qa8.size : Nat) : Int)) ∧
 (((decide ((4000 - ((qa8.size : Nat) : Int)) < ((q9v.size : Nat) : Int))) = true →
 1 = szN 1 ∧ Wr (allocW u118 hole) c_b (c_o + 11) 1 ∧
 R (.returned (.tuple #[])) (putCells (allocW u118 hole) c_b (c_o + 11) ([.bool true]))) ∧
 ((decide ((4000 - ((qa8.size : Nat) : Int)) < ((q9v.size : Nat) : Int))) = false →
 ∃ (qa9 : ByteArray), 1 = szN 1 ∧
 Rd (allocW u118 hole) c_b (c_o + 10) ([.string qa9]) ∧ ((qa9.size + q9v.size : Nat) : Int) ≤ 9223372036854775807 ∧
 1 = szN 1 ∧ Wr (allocW u118 hole) c_b (c_o + 10) 1 ∧
 9 = szN 9 ∧
 Wr (putCells (allocW u118 hole) c_b (c_o + 10) ([.string (qa9 ++ q9v)])) c_b (c_o + 1) 9 ∧
 1 = szN 1 ∧ Wr (putCells (putCells (allocW u118 hole) c_b (c_o + 10) ([.string (qa9 ++ q9v)])) c_b (c_o + 1) ([.int .i64 q9w, .int .i64 q9x, .slice q9y q9z qa0, .int .i64 qa1, .int .i64 qa2, .int .i64 qa3, .bool qa4, .int .i64 qa5, .int .i64 qa6])) c_b (c_o + 11) 1 ∧
 R (.returned (.tuple #[])) (putCells (putCells (putCells (allocW u118 hole) c_b (c_o + 10) ([.string (qa9 ++ q9v)])) c_b (c_o + 1) ([.int .i64 q9w, .int .i64 q9x, .slice q9y q9z qa0, .int .i64 qa1, .int .i64 qa2, .int .i64 qa3, .bool qa4, .int .i64 qa5, .int .i64 qa6])) c_b (c_o + 11) ([.bool false])))))))) ∧
 (Rd (allocW (drewW u115) hole) c_b (c_o + 1) ([.int .i64 q9k, .int .i64 q9l, .slice q9m q9n q9o, .int .i64 q9p, .int .i64 q9q, .int .i64 q9r, .bool q9s, .int .i64 q9t, .int .i64 q9u]) ∧
 Spec Tryd.prog 36 #[.agg #[.int .i64 q9k, .int .i64 q9l, .slice q9m q9n q9o, .int .i64 q9p, .int .i64 q9q, .int .i64 q9r, .bool q9s, .int .i64 q9t, .int .i64 q9u], .agg #[.int .i64 q83, .int .i64 q84, .slice q85 q86 q87, .int .i64 q88, .int .i64 q89, .int .i64 q8a, .bool q8b, .int .i64 q8c, .int .i64 q8d]] (allocW (drewW u115) hole) (fun e u119 => ∃ (qaa : ByteArray) (qab qac : Int) (qad : Option Addr) (qae qaf : Nat) (qag qah qai : Int) (qaj : Bool) (qak qal qam : Int), e = .returned (.tuple #[.string qaa, .agg #[.int .i64 qab, .int .i64 qac, .slice qad qae qaf, .int .i64 qag, .int .i64 qah, .int .i64 qai, .bool qaj, .int .i64 qak, .int .i64 qal], .int .i64 qam]) ∧
 (((!decide (qam = 0)) = true → R (.returned (.tuple #[])) u119) ∧
 ((!decide (qam = 0)) = false → ∃ (qan : ByteArray), 1 = szN 1 ∧
 Rd u119 c_b (c_o + 10) ([.string qan]) ∧ inK .i64 (4000 - ((qan.size : Nat) : Int)) ∧
 (((decide ((4000 - ((qan.size : Nat) : Int)) < ((qaa.size : Nat) : Int))) = true →
 1 = szN 1 ∧ Wr u119 c_b (c_o + 11) 1 ∧
 R (.returned (.tuple #[])) (putCells u119 c_b (c_o + 11) ([.bool true]))) ∧
 ((decide ((4000 - ((qan.size : Nat) : Int)) < ((qaa.size : Nat) : Int))) = false →
 ∃ (qao : ByteArray), 1 = szN 1 ∧
 Rd u119 c_b (c_o + 10) ([.string qao]) ∧ ((qao.size + qaa.size : Nat) : Int) ≤ 9223372036854775807 ∧
 1 = szN 1 ∧ Wr u119 c_b (c_o + 10) 1 ∧
 9 = szN 9 ∧
 Wr (putCells u119 c_b (c_o + 10) ([.string (qao ++ qaa)])) c_b (c_o + 1) 9 ∧
 1 = szN 1 ∧ Wr (putCells (putCells u119 c_b (c_o + 10) ([.string (qao ++ qaa)])) c_b (c_o + 1) ([.int .i64 qab, .int .i64 qac, .slice qad qae qaf, .int .i64 qag, .int .i64 qah, .int .i64 qai, .bool qaj, .int .i64 qak, .int .i64 qal])) c_b (c_o + 11) 1 ∧
 R (.returned (.tuple #[])) (putCells (putCells (putCells u119 c_b (c_o + 10) ([.string (qao ++ qaa)])) c_b (c_o + 1) ([.int .i64 qab, .int .i64 qac, .slice qad qae qaf, .int .i64 qag, .int .i64 qah, .int .i64 qai, .bool qaj, .int .i64 qak, .int .i64 qal])) c_b (c_o + 11) ([.bool false]))))))))))))))))))
set_option maxRecDepth 100000 in
theorem vc_server_Server_show_eq (s_b s_o : Nat) (c_b c_o : Nat) (u : World) (R : Ending → World → Prop) : wFunc cx_server_Server_show Tryd.f20 [.pointer (some ⟨s_b, s_o, none⟩), .pointer (some ⟨c_b, c_o, none⟩)] u R = vc_server_Server_show s_b s_o c_b c_o u R := by kernel_rfl
theorem vc_server_Server_show_spec (s_b s_o : Nat) (c_b c_o : Nat) {u : World} {R : Ending → World → Prop} (h : vc_server_Server_show s_b s_o c_b c_o u R) : Spec Tryd.prog fn_server_Server_show #[.pointer (some ⟨s_b, s_o, none⟩), .pointer (some ⟨c_b, c_o, none⟩)] u R := func_spec (C := cx_server_Server_show) (fn := Tryd.f20) (args := [.pointer (some ⟨s_b, s_o, none⟩), .pointer (some ⟨c_b, c_o, none⟩)]) (ctxOk _ _ _ _ _) Tryd.func20 (vc_server_Server_show_eq s_b s_o c_b c_o u R) h

/-- (*fenestra/server.Server).show$1 -/
noncomputable def cx_server_Server_show_c1 : Ctx := ⟨Tryd.prog, tab, [], [], [], fns, [], []⟩
def vc_server_Server_show_c1 (from_Wide : Int) (from_High : Int) (from_Cells_p : Option Addr) (from_Cells_n from_Cells_c : Nat) (from_Row : Int) (from_Col : Int) (from_Ink : Int) (from_Bold : Bool) (from_Top : Int) (from_Bottom : Int) (to_Wide : Int) (to_High : Int) (to_Cells_p : Option Addr) (to_Cells_n to_Cells_c : Nat) (to_Row : Int) (to_Col : Int) (to_Ink : Int) (to_Bold : Bool) (to_Top : Int) (to_Bottom : Int) (u : World) (R : Ending → World → Prop) : Prop :=
 Spec Tryd.prog 38 #[.agg #[.int .i64 to_Wide, .int .i64 to_High, .slice to_Cells_p to_Cells_n to_Cells_c, .int .i64 to_Row, .int .i64 to_Col, .int .i64 to_Ink, .bool to_Bold, .int .i64 to_Top, .int .i64 to_Bottom]] (allocW (allocW (allocW u hole) hole) hole) (fun e u1 => ∃ (q0 : ByteArray) (q1 q2 : Int) (q3 : Option Addr) (q4 q5 : Nat) (q6 q7 q8 : Int) (q9 : Bool) (qa qb qc : Int), e = .returned (.tuple #[.string q0, .agg #[.int .i64 q1, .int .i64 q2, .slice q3 q4 q5, .int .i64 q6, .int .i64 q7, .int .i64 q8, .bool q9, .int .i64 qa, .int .i64 qb], .int .i64 qc]) ∧
 R (.returned (.tuple #[.string q0, .agg #[.int .i64 q1, .int .i64 q2, .slice q3 q4 q5, .int .i64 q6, .int .i64 q7, .int .i64 q8, .bool q9, .int .i64 qa, .int .i64 qb], .int .i64 qc])) u1)
set_option maxRecDepth 100000 in
theorem vc_server_Server_show_c1_eq (from_Wide : Int) (from_High : Int) (from_Cells_p : Option Addr) (from_Cells_n from_Cells_c : Nat) (from_Row : Int) (from_Col : Int) (from_Ink : Int) (from_Bold : Bool) (from_Top : Int) (from_Bottom : Int) (to_Wide : Int) (to_High : Int) (to_Cells_p : Option Addr) (to_Cells_n to_Cells_c : Nat) (to_Row : Int) (to_Col : Int) (to_Ink : Int) (to_Bold : Bool) (to_Top : Int) (to_Bottom : Int) (u : World) (R : Ending → World → Prop) : wFunc cx_server_Server_show_c1 Tryd.f37 [.agg #[.int .i64 from_Wide, .int .i64 from_High, .slice from_Cells_p from_Cells_n from_Cells_c, .int .i64 from_Row, .int .i64 from_Col, .int .i64 from_Ink, .bool from_Bold, .int .i64 from_Top, .int .i64 from_Bottom], .agg #[.int .i64 to_Wide, .int .i64 to_High, .slice to_Cells_p to_Cells_n to_Cells_c, .int .i64 to_Row, .int .i64 to_Col, .int .i64 to_Ink, .bool to_Bold, .int .i64 to_Top, .int .i64 to_Bottom]] u R = vc_server_Server_show_c1 from_Wide from_High from_Cells_p from_Cells_n from_Cells_c from_Row from_Col from_Ink from_Bold from_Top from_Bottom to_Wide to_High to_Cells_p to_Cells_n to_Cells_c to_Row to_Col to_Ink to_Bold to_Top to_Bottom u R := by kernel_rfl
theorem vc_server_Server_show_c1_spec (from_Wide : Int) (from_High : Int) (from_Cells_p : Option Addr) (from_Cells_n from_Cells_c : Nat) (from_Row : Int) (from_Col : Int) (from_Ink : Int) (from_Bold : Bool) (from_Top : Int) (from_Bottom : Int) (to_Wide : Int) (to_High : Int) (to_Cells_p : Option Addr) (to_Cells_n to_Cells_c : Nat) (to_Row : Int) (to_Col : Int) (to_Ink : Int) (to_Bold : Bool) (to_Top : Int) (to_Bottom : Int) {u : World} {R : Ending → World → Prop} (h : vc_server_Server_show_c1 from_Wide from_High from_Cells_p from_Cells_n from_Cells_c from_Row from_Col from_Ink from_Bold from_Top from_Bottom to_Wide to_High to_Cells_p to_Cells_n to_Cells_c to_Row to_Col to_Ink to_Bold to_Top to_Bottom u R) : Spec Tryd.prog fn_server_Server_show_c1 #[.agg #[.int .i64 from_Wide, .int .i64 from_High, .slice from_Cells_p from_Cells_n from_Cells_c, .int .i64 from_Row, .int .i64 from_Col, .int .i64 from_Ink, .bool from_Bold, .int .i64 from_Top, .int .i64 from_Bottom], .agg #[.int .i64 to_Wide, .int .i64 to_High, .slice to_Cells_p to_Cells_n to_Cells_c, .int .i64 to_Row, .int .i64 to_Col, .int .i64 to_Ink, .bool to_Bold, .int .i64 to_Top, .int .i64 to_Bottom]] u R := func_spec (C := cx_server_Server_show_c1) (fn := Tryd.f37) (args := [.agg #[.int .i64 from_Wide, .int .i64 from_High, .slice from_Cells_p from_Cells_n from_Cells_c, .int .i64 from_Row, .int .i64 from_Col, .int .i64 from_Ink, .bool from_Bold, .int .i64 from_Top, .int .i64 from_Bottom], .agg #[.int .i64 to_Wide, .int .i64 to_High, .slice to_Cells_p to_Cells_n to_Cells_c, .int .i64 to_Row, .int .i64 to_Col, .int .i64 to_Ink, .bool to_Bold, .int .i64 to_Top, .int .i64 to_Bottom]]) (ctxOk _ _ _ _ _) Tryd.func37 (vc_server_Server_show_c1_eq from_Wide from_High from_Cells_p from_Cells_n from_Cells_c from_Row from_Col from_Ink from_Bold from_Top from_Bottom to_Wide to_High to_Cells_p to_Cells_n to_Cells_c to_Row to_Col to_Ink to_Bold to_Top to_Bottom u R) h

end Go.Proofs.YtkmmphkjmamckabDoor

