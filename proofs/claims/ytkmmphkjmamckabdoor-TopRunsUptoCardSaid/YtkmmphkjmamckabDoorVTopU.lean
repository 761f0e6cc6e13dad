import Derived.Test.YtkmmphkjmamckabDoorCtx
namespace Go.Proofs.YtkmmphkjmamckabDoor
open Go
set_option linter.all false

/-- fenestra/fenestratop.TopRuns -/
noncomputable def cx_fenestratop_TopRuns : Ctx := ⟨Tryd.prog, tab, [], [44], [], fns, [(13, ⟨[.keep, .keep, .keep, .keep, .junk, .keep, .keep, .keep, .keep, .keep, .keep, .keep, .junk, .keep, .keep, .keep, .keep, .keep, .keep, .keep, .keep, .keep, .keep, .keep, .keep, .keep, .keep, .keep, .keep, .keep, .keep, .keep, .keep, .keep, .keep, .keep, .keep, .keep, .keep, .keep, .keep, .keep, .keep, .keep, .keep, .keep, .keep, .keep, .keep, .keep, .keep, .keep, .keep, .keep, .keep, .keep, .keep, .keep, .keep, .keep, .keep, .keep, .keep, .keep, .keep, .keep, .keep, .keep, .keep, .keep, .keep, .keep, .keep, .keep, .keep, .keep, .keep, .keep, .keep, .keep, .keep, .keep, .keep, .keep, .keep, .keep, .keep, .keep, .keep, .cell (.int .i64), .junk, .junk, .junk, .junk, .junk, .junk, .junk, .junk, .junk, .junk, .junk, .junk, .junk, .junk, .junk, .junk, .junk, .junk, .junk, .junk, .junk, .junk, .junk, .junk, .junk, .junk, .junk, .junk, .junk, .junk], []⟩)], []⟩
def vc_fenestratop_TopRuns (l_p : Option Addr) (l_n l_c : Nat) (k : Int) (u : World) (R : Ending → World → Prop) : Prop :=
 Spec Tryd.prog 5 #[] u (fun e u1 => ∃ (q0 : Bool), e = .returned (.bool q0) ∧
 (((!q0) = true → Spec Tryd.prog 6 #[.slice l_p l_n l_c] u1 (fun e u11 => ∃ (q1 : Option Addr) (q2 q3 : Nat) (q4 : Int), e = .returned (.tuple #[.slice q1 q2 q3, .int .i64 q4]) ∧
 Spec Tryd.prog 5 #[] u11 (fun e u12 => ∃ (q5 : Bool), e = .returned (.bool q5) ∧
 ((q5 = true → (((decide (((l_n : Nat) : Int) ≤ 300)) = true →
 R (.returned (.bool true)) u12) ∧ ((decide (((l_n : Nat) : Int) ≤ 300)) = false →
 R (.returned (.bool (decide (q4 = 5)))) u12))) ∧ (q5 = false →
 R (.returned (.bool false)) u12))))) ∧ ((!q0) = false → (((decide ((300 : Int) < ((l_n : Nat) : Int))) = true →
 Spec Tryd.prog 6 #[.slice l_p l_n l_c] u1 (fun e u13 => ∃ (q6 : Option Addr) (q7 q8 : Nat) (q9 : Int), e = .returned (.tuple #[.slice q6 q7 q8, .int .i64 q9]) ∧
 Spec Tryd.prog 5 #[] u13 (fun e u14 => ∃ (qa : Bool), e = .returned (.bool qa) ∧
 ((qa = true → (((decide (((l_n : Nat) : Int) ≤ 300)) = true →
 R (.returned (.bool true)) u14) ∧ ((decide (((l_n : Nat) : Int) ≤ 300)) = false →
 R (.returned (.bool (decide (q9 = 5)))) u14))) ∧ (qa = false →
 R (.returned (.bool false)) u14))))) ∧ ((decide ((300 : Int) < ((l_n : Nat) : Int))) = false →
 (((decide ((100 : Int) < ((l_n : Nat) : Int))) = true → 0 ≤ (0 : Int) ∧
 (0 : Int) ≤ (100 : Int) ∧ (100 : Int) ≤ ((l_c : Nat) : Int) ∧ inK .i64 ((((100 : Int).toNat - (0 : Int).toNat : Nat) : Int) + 1) ∧
 ((((100 : Int).toNat - (0 : Int).toNat : Nat) : Int) + 1) ≠ 0 ∧
 inK .i64 ((Int.tmod k ((((100 : Int).toNat - (0 : Int).toNat : Nat) : Int) + 1)) + (((100 : Int).toNat - (0 : Int).toNat : Nat) : Int)) ∧
 inK .i64 (((Int.tmod k ((((100 : Int).toNat - (0 : Int).toNat : Nat) : Int) + 1)) + (((100 : Int).toNat - (0 : Int).toNat : Nat) : Int)) + 1) ∧
 inK .i64 ((((100 : Int).toNat - (0 : Int).toNat : Nat) : Int) + 1) ∧
 0 ≤ (((Int.tmod k ((((100 : Int).toNat - (0 : Int).toNat : Nat) : Int) + 1)) + (((100 : Int).toNat - (0 : Int).toNat : Nat) : Int)) + 1) ∧
 0 < ((((100 : Int).toNat - (0 : Int).toNat : Nat) : Int) + 1) ∧
 ∃ old new : List Value, old.length = 0 * 5 ∧ Gets u1 none old ∧
 new.length = ((100 : Int).toNat - (0 : Int).toNat) * 5 ∧ Gets u1 (if l_c = (0 : Int).toNat then l_p else Option.map (fun a => Addr.add a ((0 : Int).toNat * 5)) l_p) new ∧
 0 < 48 ∧ (2 * (0 + ((100 : Int).toNat - (0 : Int).toNat)) + 192) * 48 ≤ 140737488355328 ∧
 okCells new True ∧ (0 + ((100 : Int).toNat - (0 : Int).toNat) ≤ 0 →
 WrS u1 none (0 * 5) (((100 : Int).toNat - (0 : Int).toNat) * 5)) ∧
 ∀ p cap u15, AppR u1 34 5 [.int .i64 0, .int .i64 0, .int .i64 0, .int .i64 0, .string (ByteArray.mk #[])] none 0 0 ((100 : Int).toNat - (0 : Int).toNat) old new p cap u15 →
 Spec Tryd.prog 6 #[.slice p (0 + ((100 : Int).toNat - (0 : Int).toNat)) cap] u15 (fun e u16 => ∃ (qb : Option Addr) (qc qd : Nat) (qe : Int), e = .returned (.tuple #[.slice qb qc qd, .int .i64 qe]) ∧
 0 ≤ (0 : Int) ∧ (0 : Int) ≤ ((((Int.tmod k ((((100 : Int).toNat - (0 : Int).toNat : Nat) : Int) + 1)) + (((100 : Int).toNat - (0 : Int).toNat : Nat) : Int)) + 1) % ((((100 : Int).toNat - (0 : Int).toNat : Nat) : Int) + 1)) ∧
 ((((Int.tmod k ((((100 : Int).toNat - (0 : Int).toNat : Nat) : Int) + 1)) + (((100 : Int).toNat - (0 : Int).toNat : Nat) : Int)) + 1) % ((((100 : Int).toNat - (0 : Int).toNat : Nat) : Int) + 1)) ≤ ((l_c - (0 : Int).toNat : Nat) : Int) ∧
 ∃ old1 new1 : List Value, old1.length = 0 * 5 ∧ Gets u16 none old1 ∧
 new1.length = (((((Int.tmod k ((((100 : Int).toNat - (0 : Int).toNat : Nat) : Int) + 1)) + (((100 : Int).toNat - (0 : Int).toNat : Nat) : Int)) + 1) % ((((100 : Int).toNat - (0 : Int).toNat : Nat) : Int) + 1)).toNat - (0 : Int).toNat) * 5 ∧
 Gets u16 (if l_c - (0 : Int).toNat = (0 : Int).toNat then (if l_c = (0 : Int).toNat then l_p else Option.map (fun a => Addr.add a ((0 : Int).toNat * 5)) l_p) else Option.map (fun a => Addr.add a ((0 : Int).toNat * 5)) (if l_c = (0 : Int).toNat then l_p else Option.map (fun a => Addr.add a ((0 : Int).toNat * 5)) l_p)) new1 ∧
 0 < 48 ∧ (2 * (0 + (((((Int.tmod k ((((100 : Int).toNat - (0 : Int).toNat : Nat) : Int) + 1)) + (((100 : Int).toNat - (0 : Int).toNat : Nat) : Int)) + 1) % ((((100 : Int).toNat - (0 : Int).toNat : Nat) : Int) + 1)).toNat - (0 : Int).toNat)) + 192) * 48 ≤ 140737488355328 ∧
 okCells new1 True ∧ (0 + (((((Int.tmod k ((((100 : Int).toNat - (0 : Int).toNat : Nat) : Int) + 1)) + (((100 : Int).toNat - (0 : Int).toNat : Nat) : Int)) + 1) % ((((100 : Int).toNat - (0 : Int).toNat : Nat) : Int) + 1)).toNat - (0 : Int).toNat) ≤ 0 →
 WrS u16 none (0 * 5) ((((((Int.tmod k ((((100 : Int).toNat - (0 : Int).toNat : Nat) : Int) + 1)) + (((100 : Int).toNat - (0 : Int).toNat : Nat) : Int)) + 1) % ((((100 : Int).toNat - (0 : Int).toNat : Nat) : Int) + 1)).toNat - (0 : Int).toNat) * 5)) ∧
 ∀ p1 cap1 u17, AppR u16 34 5 [.int .i64 0, .int .i64 0, .int .i64 0, .int .i64 0, .string (ByteArray.mk #[])] none 0 0 (((((Int.tmod k ((((100 : Int).toNat - (0 : Int).toNat : Nat) : Int) + 1)) + (((100 : Int).toNat - (0 : Int).toNat : Nat) : Int)) + 1) % ((((100 : Int).toNat - (0 : Int).toNat : Nat) : Int) + 1)).toNat - (0 : Int).toNat) old1 new1 p1 cap1 u17 →
 Spec Tryd.prog 6 #[.slice p1 (0 + (((((Int.tmod k ((((100 : Int).toNat - (0 : Int).toNat : Nat) : Int) + 1)) + (((100 : Int).toNat - (0 : Int).toNat : Nat) : Int)) + 1) % ((((100 : Int).toNat - (0 : Int).toNat : Nat) : Int) + 1)).toNat - (0 : Int).toNat)) cap1] u17 (fun e u18 => ∃ (qf : Option Addr) (qg qh : Nat) (qi : Int), e = .returned (.tuple #[.slice qf qg qh, .int .i64 qi]) ∧
 (((!decide (qe = 0)) = true → R (.returned (.bool false)) u18) ∧
 ((!decide (qe = 0)) = false → (((!decide (qi = 0)) = true →
 R (.returned (.bool false)) u18) ∧ ((!decide (qi = 0)) = false →
 (((!decide (((qc : Nat) : Int) = (((100 : Int).toNat - (0 : Int).toNat : Nat) : Int))) = true →
 R (.returned (.bool false)) u18) ∧ ((!decide (((qc : Nat) : Int) = (((100 : Int).toNat - (0 : Int).toNat : Nat) : Int))) = false →
 (((!decide (((qg : Nat) : Int) = ((((Int.tmod k ((((100 : Int).toNat - (0 : Int).toNat : Nat) : Int) + 1)) + (((100 : Int).toNat - (0 : Int).toNat : Nat) : Int)) + 1) % ((((100 : Int).toNat - (0 : Int).toNat : Nat) : Int) + 1)))) = true →
 R (.returned (.bool false)) u18) ∧ ((!decide (((qg : Nat) : Int) = ((((Int.tmod k ((((100 : Int).toNat - (0 : Int).toNat : Nat) : Int) + 1)) + (((100 : Int).toNat - (0 : Int).toNat : Nat) : Int)) + 1) % ((((100 : Int).toNat - (0 : Int).toNat : Nat) : Int) + 1)))) = false →
 Spec Tryd.prog 7 #[] u18 (fun e u19 => ∃ (qj qk : Nat), e = .returned (.pointer (some ⟨qj, qk, none⟩)) ∧
 ∃ (I_ : Int → World → Prop) (M_ : Int → World → Nat), (I_ 0 u19) ∧
 ∀ (ql : Int), ∀ u110 : World, I_ ql u110 → (((decide (ql < ((qc : Nat) : Int))) = true →
 ∃ b o, (if l_c = (0 : Int).toNat then l_p else Option.map (fun a => Addr.add a ((0 : Int).toNat * 5)) l_p) = some ⟨b, o, none⟩ ∧
 0 ≤ ql ∧ ql < (((100 : Int).toNat - (0 : Int).toNat : Nat) : Int) ∧
 ∃ (qm qn qo qp : Int) (qq : ByteArray), 5 = szN 5 ∧
 Rd (drewW u110) b (o + ql.toNat * 5) ([.int .i64 qm, .int .i64 qn, .int .i64 qo, .int .i64 qp, .string qq]) ∧
 ∃ b1 o1, qb = some ⟨b1, o1, none⟩ ∧ 0 ≤ ql ∧ ql < ((qc : Nat) : Int) ∧
 ∃ (qr qs : Int) (qt : ByteArray), 3 = szN 3 ∧
 Rd (drewW u110) b1 (o1 + ql.toNat * 3) ([.int .i64 qr, .int .i64 qs, .string qt]) ∧
 Spec Tryd.prog 8 #[.pointer (some ⟨qj, qk, none⟩), .agg #[.int .i64 qm, .int .i64 qn, .int .i64 qo, .int .i64 qp, .string qq]] (drewW u110) (fun e u111 => ∃ (qu qv : Int) (qw : ByteArray), e = .returned (.agg #[.int .i64 qu, .int .i64 qv, .string qw]) ∧
 Rd u111 b1 (o1 + ql.toNat * 3) ([.int .i64 qr, .int .i64 qs, .string qt]) ∧
 (((!(decide (qu = qr) && (decide (qv = qs) && (decide (qw.data.toList = qt.data.toList))))) = true →
 R (.returned (.bool false)) u111) ∧ ((!(decide (qu = qr) && (decide (qv = qs) && (decide (qw.data.toList = qt.data.toList))))) = false →
 (((decide (ql < ((((Int.tmod k ((((100 : Int).toNat - (0 : Int).toNat : Nat) : Int) + 1)) + (((100 : Int).toNat - (0 : Int).toNat : Nat) : Int)) + 1) % ((((100 : Int).toNat - (0 : Int).toNat : Nat) : Int) + 1)))) = true →
 ∃ b2 o2, qb = some ⟨b2, o2, none⟩ ∧ 0 ≤ ql ∧ ql < ((qc : Nat) : Int) ∧
 ∃ (qx qy : Int) (qz : ByteArray), 3 = szN 3 ∧
 Rd u111 b2 (o2 + ql.toNat * 3) ([.int .i64 qx, .int .i64 qy, .string qz]) ∧
 ∃ b3 o3, qf = some ⟨b3, o3, none⟩ ∧ 0 ≤ ql ∧ ql < ((qg : Nat) : Int) ∧
 ∃ (q10 q11 : Int) (q12 : ByteArray), 3 = szN 3 ∧
 Rd u111 b3 (o3 + ql.toNat * 3) ([.int .i64 q10, .int .i64 q11, .string q12]) ∧
 (((!(decide (qx = q10) && (decide (qy = q11) && (decide (qz.data.toList = q12.data.toList))))) = true →
 R (.returned (.bool false)) u111) ∧ ((!(decide (qx = q10) && (decide (qy = q11) && (decide (qz.data.toList = q12.data.toList))))) = false →
 inK .i64 (ql + 1) ∧ I_ (ql + 1) u111 ∧ M_ (ql + 1) u111 < M_ ql u110))) ∧
 ((decide (ql < ((((Int.tmod k ((((100 : Int).toNat - (0 : Int).toNat : Nat) : Int) + 1)) + (((100 : Int).toNat - (0 : Int).toNat : Nat) : Int)) + 1) % ((((100 : Int).toNat - (0 : Int).toNat : Nat) : Int) + 1)))) = false →
 inK .i64 (ql + 1) ∧ I_ (ql + 1) u111 ∧ M_ (ql + 1) u111 < M_ ql u110)))))) ∧
 ((decide (ql < ((qc : Nat) : Int))) = false → R (.returned (.bool true)) u110)))))))))))))) ∧
 ((decide ((100 : Int) < ((l_n : Nat) : Int))) = false → inK .i64 (((l_n : Nat) : Int) + 1) ∧
 (((l_n : Nat) : Int) + 1) ≠ 0 ∧ inK .i64 ((Int.tmod k (((l_n : Nat) : Int) + 1)) + ((l_n : Nat) : Int)) ∧
 inK .i64 (((Int.tmod k (((l_n : Nat) : Int) + 1)) + ((l_n : Nat) : Int)) + 1) ∧
 inK .i64 (((l_n : Nat) : Int) + 1) ∧ 0 ≤ (((Int.tmod k (((l_n : Nat) : Int) + 1)) + ((l_n : Nat) : Int)) + 1) ∧
 0 < (((l_n : Nat) : Int) + 1) ∧ ∃ old2 new2 : List Value, old2.length = 0 * 5 ∧
 Gets u1 none old2 ∧ new2.length = l_n * 5 ∧ Gets u1 l_p new2 ∧
 0 < 48 ∧ (2 * (0 + l_n) + 192) * 48 ≤ 140737488355328 ∧ okCells new2 True ∧
 (0 + l_n ≤ 0 → WrS u1 none (0 * 5) (l_n * 5)) ∧ ∀ p2 cap2 u112, AppR u1 34 5 [.int .i64 0, .int .i64 0, .int .i64 0, .int .i64 0, .string (ByteArray.mk #[])] none 0 0 l_n old2 new2 p2 cap2 u112 →
 Spec Tryd.prog 6 #[.slice p2 (0 + l_n) cap2] u112 (fun e u113 => ∃ (q13 : Option Addr) (q14 q15 : Nat) (q16 : Int), e = .returned (.tuple #[.slice q13 q14 q15, .int .i64 q16]) ∧
 0 ≤ (0 : Int) ∧ (0 : Int) ≤ ((((Int.tmod k (((l_n : Nat) : Int) + 1)) + ((l_n : Nat) : Int)) + 1) % (((l_n : Nat) : Int) + 1)) ∧
 ((((Int.tmod k (((l_n : Nat) : Int) + 1)) + ((l_n : Nat) : Int)) + 1) % (((l_n : Nat) : Int) + 1)) ≤ ((l_c : Nat) : Int) ∧
 ∃ old3 new3 : List Value, old3.length = 0 * 5 ∧ Gets u113 none old3 ∧
 new3.length = (((((Int.tmod k (((l_n : Nat) : Int) + 1)) + ((l_n : Nat) : Int)) + 1) % (((l_n : Nat) : Int) + 1)).toNat - (0 : Int).toNat) * 5 ∧
 Gets u113 (if l_c = (0 : Int).toNat then l_p else Option.map (fun a => Addr.add a ((0 : Int).toNat * 5)) l_p) new3 ∧
 0 < 48 ∧ (2 * (0 + (((((Int.tmod k (((l_n : Nat) : Int) + 1)) + ((l_n : Nat) : Int)) + 1) % (((l_n : Nat) : Int) + 1)).toNat - (0 : Int).toNat)) + 192) * 48 ≤ 140737488355328 ∧
 okCells new3 True ∧ (0 + (((((Int.tmod k (((l_n : Nat) : Int) + 1)) + ((l_n : Nat) : Int)) + 1) % (((l_n : Nat) : Int) + 1)).toNat - (0 : Int).toNat) ≤ 0 →
 WrS u113 none (0 * 5) ((((((Int.tmod k (((l_n : Nat) : Int) + 1)) + ((l_n : Nat) : Int)) + 1) % (((l_n : Nat) : Int) + 1)).toNat - (0 : Int).toNat) * 5)) ∧
 ∀ p3 cap3 u114, AppR u113 34 5 [.int .i64 0, .int .i64 0, .int .i64 0, .int .i64 0, .string (ByteArray.mk #[])] none 0 0 (((((Int.tmod k (((l_n : Nat) : Int) + 1)) + ((l_n : Nat) : Int)) + 1) % (((l_n : Nat) : Int) + 1)).toNat - (0 : Int).toNat) old3 new3 p3 cap3 u114 →
 Spec Tryd.prog 6 #[.slice p3 (0 + (((((Int.tmod k (((l_n : Nat) : Int) + 1)) + ((l_n : Nat) : Int)) + 1) % (((l_n : Nat) : Int) + 1)).toNat - (0 : Int).toNat)) cap3] u114 (fun e u115 => ∃ (q17 : Option Addr) (q18 q19 : Nat) (q1a : Int), e = .returned (.tuple #[.slice q17 q18 q19, .int .i64 q1a]) ∧
 (((!decide (q16 = 0)) = true → R (.returned (.bool false)) u115) ∧
 ((!decide (q16 = 0)) = false → (((!decide (q1a = 0)) = true →
 R (.returned (.bool false)) u115) ∧ ((!decide (q1a = 0)) = false →
 (((!decide (((q14 : Nat) : Int) = ((l_n : Nat) : Int))) = true →
 R (.returned (.bool false)) u115) ∧ ((!decide (((q14 : Nat) : Int) = ((l_n : Nat) : Int))) = false →
 (((!decide (((q18 : Nat) : Int) = ((((Int.tmod k (((l_n : Nat) : Int) + 1)) + ((l_n : Nat) : Int)) + 1) % (((l_n : Nat) : Int) + 1)))) = true →
 R (.returned (.bool false)) u115) ∧ ((!decide (((q18 : Nat) : Int) = ((((Int.tmod k (((l_n : Nat) : Int) + 1)) + ((l_n : Nat) : Int)) + 1) % (((l_n : Nat) : Int) + 1)))) = false →
 Spec Tryd.prog 7 #[] u115 (fun e u116 => ∃ (q1b q1c : Nat), e = .returned (.pointer (some ⟨q1b, q1c, none⟩)) ∧
 ∃ (I_1 : Int → World → Prop) (M_1 : Int → World → Nat), (I_1 0 u116) ∧
 ∀ (q1d : Int), ∀ u117 : World, I_1 q1d u117 → (((decide (q1d < ((q14 : Nat) : Int))) = true →
 ∃ b4 o4, l_p = some ⟨b4, o4, none⟩ ∧ 0 ≤ q1d ∧ q1d < ((l_n : Nat) : Int) ∧
 ∃ (q1e q1f q1g q1h : Int) (q1i : ByteArray), 5 = szN 5 ∧
 Rd (drewW u117) b4 (o4 + q1d.toNat * 5) ([.int .i64 q1e, .int .i64 q1f, .int .i64 q1g, .int .i64 q1h, .string q1i]) ∧
 ∃ b5 o5, q13 = some ⟨b5, o5, none⟩ ∧ 0 ≤ q1d ∧ q1d < ((q14 : Nat) : Int) ∧
 ∃ (q1j q1k : Int) (q1l : ByteArray), 3 = szN 3 ∧
 Rd (drewW u117) b5 (o5 + q1d.toNat * 3) ([.int .i64 q1j, .int .i64 q1k, .string q1l]) ∧
 Spec Tryd.prog 8 #[.pointer (some ⟨q1b, q1c, none⟩), .agg #[.int .i64 q1e, .int .i64 q1f, .int .i64 q1g, .int .i64 q1h, .string q1i]] (drewW u117) (fun e u118 => ∃ (q1m q1n : Int) (q1o : ByteArray), e = .returned (.agg #[.int .i64 q1m, .int .i64 q1n, .string q1o]) ∧
 Rd u118 b5 (o5 + q1d.toNat * 3) ([.int .i64 q1j, .int .i64 q1k, .string q1l]) ∧
 (((!(decide (q1m = q1j) && (decide (q1n = q1k) && (decide (q1o.data.toList = q1l.data.toList))))) = true →
 R (.returned (.bool false)) u118) ∧ ((!(decide (q1m = q1j) && (decide (q1n = q1k) && (decide (q1o.data.toList = q1l.data.toList))))) = false →
 (((decide (q1d < ((((Int.tmod k (((l_n : Nat) : Int) + 1)) + ((l_n : Nat) : Int)) + 1) % (((l_n : Nat) : Int) + 1)))) = true →
 ∃ b6 o6, q13 = some ⟨b6, o6, none⟩ ∧ 0 ≤ q1d ∧ q1d < ((q14 : Nat) : Int) ∧
 ∃ (q1p q1q : Int) (q1r : ByteArray), 3 = szN 3 ∧
 Rd u118 b6 (o6 + q1d.toNat * 3) ([.int .i64 q1p, .int .i64 q1q, .string q1r]) ∧
 ∃ b7 o7, q17 = some ⟨b7, o7, none⟩ ∧ 0 ≤ q1d ∧ q1d < ((q18 : Nat) : Int) ∧
 ∃ (q1s q1t : Int) (q1u : ByteArray), 3 = szN 3 ∧
 Rd u118 b7 (o7 + q1d.toNat * 3) ([.int .i64 q1s, .int .i64 q1t, .string q1u]) ∧
 (((!(decide (q1p = q1s) && (decide (q1q = q1t) && (decide (q1r.data.toList = q1u.data.toList))))) = true →
 R (.returned (.bool false)) u118) ∧ ((!(decide (q1p = q1s) && (decide (q1q = q1t) && (decide (q1r.data.toList = q1u.data.toList))))) = false →
 inK .i64 (q1d + 1) ∧ I_1 (q1d + 1) u118 ∧ M_1 (q1d + 1) u118 < M_1 q1d u117))) ∧
 ((decide (q1d < ((((Int.tmod k (((l_n : Nat) : Int) + 1)) + ((l_n : Nat) : Int)) + 1) % (((l_n : Nat) : Int) + 1)))) = false →
 inK .i64 (q1d + 1) ∧ I_1 (q1d + 1) u118 ∧ M_1 (q1d + 1) u118 < M_1 q1d u117)))))) ∧
 ((decide (q1d < ((q14 : Nat) : Int))) = false → R (.returned (.bool true)) u117))))))))))))))))))))
set_option maxRecDepth 100000 in
theorem vc_fenestratop_TopRuns_eq (l_p : Option Addr) (l_n l_c : Nat) (k : Int) (u : World) (R : Ending → World → Prop) : wFunc cx_fenestratop_TopRuns Tryd.f3 [.slice l_p l_n l_c, .int .i64 k] u R = vc_fenestratop_TopRuns l_p l_n l_c k u R := by kernel_rfl
theorem vc_fenestratop_TopRuns_spec (l_p : Option Addr) (l_n l_c : Nat) (k : Int) {u : World} {R : Ending → World → Prop} (h : vc_fenestratop_TopRuns l_p l_n l_c k u R) : Spec Tryd.prog fn_fenestratop_TopRuns #[.slice l_p l_n l_c, .int .i64 k] u R := func_spec (C := cx_fenestratop_TopRuns) (fn := Tryd.f3) (args := [.slice l_p l_n l_c, .int .i64 k]) (ctxOk _ _ _ _ _) Tryd.func3 (vc_fenestratop_TopRuns_eq l_p l_n l_c k u R) h

/-- fenestra/server.Run -/
noncomputable def cx_server_Run : Ctx := ⟨Tryd.prog, tab, [], [], [], fns, [(6, ⟨[.keep, .keep, .keep, .keep, .keep, .cell .slice, .keep, .junk, .keep, .keep, .keep, .keep, .keep, .keep, .cell (.int .i64), .junk, .junk, .junk, .junk, .junk, .junk, .junk, .junk, .junk, .junk, .keep], []⟩)], []⟩
def vc_server_Run (l_p : Option Addr) (l_n l_c : Nat) (u : World) (R : Ending → World → Prop) : Prop :=
 (((decide ((300 : Int) < ((l_n : Nat) : Int))) = true → R (.returned (.tuple #[.slice none 0 0, .int .i64 5])) u) ∧
 ((decide ((300 : Int) < ((l_n : Nat) : Int))) = false → Spec Tryd.prog 7 #[] u (fun e u1 => ∃ (q0 q1 : Nat), e = .returned (.pointer (some ⟨q0, q1, none⟩)) ∧
 ∃ (I_ : Option Addr → Nat → Nat → Int → World → Prop) (M_ : Option Addr →
 Nat → Nat → Int → World → Nat), (I_ none 0 0 0 u1) ∧ ∀ (out_p : Option Addr) (out_n out_c : Nat) (q2 : Int), ∀ u11 : World, I_ out_p out_n out_c q2 u11 →
 (((decide (q2 < ((l_n : Nat) : Int))) = true → ∃ b o, l_p = some ⟨b, o, none⟩ ∧
 0 ≤ q2 ∧ q2 < ((l_n : Nat) : Int) ∧ ∃ (q3 q4 q5 q6 : Int) (q7 : ByteArray), 5 = szN 5 ∧
 Rd u11 b (o + q2.toNat * 5) ([.int .i64 q3, .int .i64 q4, .int .i64 q5, .int .i64 q6, .string q7]) ∧
 Spec Tryd.prog 8 #[.pointer (some ⟨q0, q1, none⟩), .agg #[.int .i64 q3, .int .i64 q4, .int .i64 q5, .int .i64 q6, .string q7]] (allocW u11 hole) (fun e u12 => ∃ (q8 q9 : Int) (qa : ByteArray), e = .returned (.agg #[.int .i64 q8, .int .i64 q9, .string qa]) ∧
 ∃ old new : List Value, old.length = out_n * 3 ∧ Gets (allocW u12 (.cells #[.int .i64 q8, .int .i64 q9, .string qa] 31)) out_p old ∧
 new.length = 1 * 3 ∧ Gets (allocW u12 (.cells #[.int .i64 q8, .int .i64 q9, .string qa] 31)) (some (Addr.mk u12.heap.size 0 none)) new ∧
 0 < 32 ∧ (2 * (out_n + 1) + 192) * 32 ≤ 140737488355328 ∧ okCells new True ∧
 (out_n + 1 ≤ out_c → WrS (allocW u12 (.cells #[.int .i64 q8, .int .i64 q9, .string qa] 31)) out_p (out_n * 3) (1 * 3)) ∧
 ∀ p cap u13, AppR (allocW u12 (.cells #[.int .i64 q8, .int .i64 q9, .string qa] 31)) 31 3 [.int .i64 0, .int .i64 0, .string (ByteArray.mk #[])] out_p out_n out_c 1 old new p cap u13 →
 inK .i64 (q2 + 1) ∧ I_ p (out_n + 1) cap (q2 + 1) u13 ∧ M_ p (out_n + 1) cap (q2 + 1) u13 < M_ out_p out_n out_c q2 u11)) ∧
 ((decide (q2 < ((l_n : Nat) : Int))) = false → R (.returned (.tuple #[.slice out_p out_n out_c, .int .i64 0])) u11)))))
set_option maxRecDepth 100000 in
theorem vc_server_Run_eq (l_p : Option Addr) (l_n l_c : Nat) (u : World) (R : Ending → World → Prop) : wFunc cx_server_Run Tryd.f6 [.slice l_p l_n l_c] u R = vc_server_Run l_p l_n l_c u R := by kernel_rfl
theorem vc_server_Run_spec (l_p : Option Addr) (l_n l_c : Nat) {u : World} {R : Ending → World → Prop} (h : vc_server_Run l_p l_n l_c u R) : Spec Tryd.prog fn_server_Run #[.slice l_p l_n l_c] u R := func_spec (C := cx_server_Run) (fn := Tryd.f6) (args := [.slice l_p l_n l_c]) (ctxOk _ _ _ _ _) Tryd.func6 (vc_server_Run_eq l_p l_n l_c u R) h

end Go.Proofs.YtkmmphkjmamckabDoor
