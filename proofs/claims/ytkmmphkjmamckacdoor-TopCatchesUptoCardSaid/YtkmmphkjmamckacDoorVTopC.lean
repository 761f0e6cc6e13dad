import Derived.Test.YtkmmphkjmamckacDoorCtx
namespace Go.Proofs.YtkmmphkjmamckacDoor
open Go
set_option linter.all false

/-- fenestra/fenestratop.TopCatches -/
noncomputable def cx_fenestratop_TopCatches : Ctx := ⟨Tryd.prog, tab, [], [], [], fns, [(5, ⟨[.keep, .keep, .junk, .keep, .keep, .keep, .junk, .junk, .junk, .junk, .junk, .junk, .junk, .junk, .keep, .keep, .keep, .keep, .keep, .keep, .keep, .keep, .keep, .keep, .keep, .keep, .cell (.int .i64), .junk, .junk, .junk, .junk, .junk, .junk, .junk, .junk, .junk, .junk, .junk, .junk, .junk, .junk, .junk, .junk, .junk, .junk, .junk, .junk, .junk, .junk, .junk, .junk, .junk, .junk, .junk, .junk, .junk, .junk, .junk, .junk, .junk, .junk, .junk, .junk, .junk, .junk, .junk, .junk, .keep, .keep, .keep, .keep, .keep, .keep, .keep, .keep, .keep, .keep, .keep, .keep, .keep, .keep, .keep, .keep, .keep, .keep, .keep, .keep, .keep, .keep, .keep, .keep, .keep, .keep, .keep, .keep, .keep, .keep, .keep], []⟩), (17, ⟨[.keep, .keep, .junk, .keep, .keep, .keep, .keep, .keep, .keep, .keep, .keep, .keep, .keep, .keep, .junk, .junk, .junk, .junk, .keep, .keep, .keep, .keep, .keep, .keep, .keep, .keep, .keep, .keep, .keep, .keep, .keep, .keep, .keep, .keep, .keep, .keep, .keep, .keep, .keep, .keep, .keep, .keep, .keep, .keep, .keep, .keep, .keep, .keep, .keep, .keep, .keep, .keep, .keep, .keep, .keep, .keep, .keep, .keep, .keep, .keep, .keep, .keep, .keep, .keep, .keep, .keep, .keep, .keep, .keep, .keep, .keep, .keep, .cell (.int .i64), .junk, .junk, .junk, .junk, .junk, .junk, .junk, .junk, .junk, .junk, .junk, .junk, .junk, .junk, .junk, .junk, .junk, .junk, .junk, .junk, .junk, .junk, .junk, .junk, .junk], []⟩)], []⟩
def vc_fenestratop_TopCatches (l_p : Option Addr) (l_n l_c : Nat) (u : World) (R : Ending → World → Prop) : Prop :=
 Spec Tryd.prog 24 #[.slice l_p l_n l_c, .func (.func 25) #[] #[]] u (fun e u1 => ∃ (q0 q1 q2 q3 : Nat) (q4 : Bool), e = .returned (.tuple #[.pointer (some ⟨q0, q1, none⟩), .pointer (some ⟨q2, q3, none⟩), .bool q4]) ∧
 (((!q4) = true → R (.returned (.bool false)) u1) ∧ ((!q4) = false →
 ∃ (I_ : Int → World → Prop) (M_ : Int → World → Nat), (I_ 0 u1) ∧
 ∀ (q5 : Int), ∀ u11 : World, I_ q5 u11 → (((decide (q5 < 3)) = true →
 Spec Tryd.prog 20 #[.pointer (some ⟨q0, q1, none⟩), .int .i64 q5] u11 (fun e u12 => ∃ (q6 : ByteArray) (q7 q8 : Bool), e = .returned (.tuple #[.string q6, .bool q7, .bool q8]) ∧
 (((!q8) = true → inK .i64 (q5 + 1) ∧ I_ (q5 + 1) u12 ∧ M_ (q5 + 1) u12 < M_ q5 u11) ∧
 ((!q8) = false → Spec Tryd.prog 21 #[.pointer (some ⟨q0, q1, none⟩), .agg #[.int .i64 9, .int .i64 q5, .int .i64 4000, .int .i64 0, .string (ByteArray.mk #[])]] u12 (fun e u13 => ∃ (q9 qa : Int) (qb : ByteArray), e = .returned (.agg #[.int .i64 q9, .int .i64 qa, .string qb]) ∧
 Spec Tryd.prog 20 #[.pointer (some ⟨q0, q1, none⟩), .int .i64 q5] (allocW u13 hole) (fun e u14 => ∃ (qc : ByteArray) (qd qe : Bool), e = .returned (.tuple #[.string qc, .bool qd, .bool qe]) ∧
 (((!decide (q9 = 0)) = true → R (.returned (.bool false)) (drewW u14)) ∧
 ((!decide (q9 = 0)) = false → (((!decide (qc.data.toList = (ByteArray.mk #[]).data.toList)) = true →
 R (.returned (.bool false)) (drewW u14)) ∧ ((!decide (qc.data.toList = (ByteArray.mk #[]).data.toList)) = false →
 0 ≤ q5 ∧ q5 < ((3 : Nat) : Int) ∧ Spec Tryd.prog 26 #[.pointer (some ⟨q2, q3 + q5.toNat * 13, none⟩), .string qb] (drewW u14) (fun e u15 => ∃ (qf : Bool), e = .returned (.bool qf) ∧
 (((!qf) = true → R (.returned (.bool false)) u15) ∧ ((!qf) = false →
 inK .i64 (q5 + 1) ∧ I_ (q5 + 1) u15 ∧ M_ (q5 + 1) u15 < M_ q5 u11))))))))))))) ∧
 ((decide (q5 < 3)) = false → Spec Tryd.prog 21 #[.pointer (some ⟨q0, q1, none⟩), .agg #[.int .i64 8, .int .i64 0, .int .i64 0, .int .i64 0, .string (ByteArray.mk #[])]] u11 (fun e u16 => ∃ (qg qh : Int) (qi : ByteArray), e = .returned (.agg #[.int .i64 qg, .int .i64 qh, .string qi]) ∧
 (((!decide (qg = 0)) = true → R (.returned (.bool false)) u16) ∧
 ((!decide (qg = 0)) = false → ∃ (I_1 : Int → World → Prop) (M_1 : Int →
 World → Nat), (I_1 0 u16) ∧ ∀ (qj : Int), ∀ u17 : World, I_1 qj u17 →
 (((decide (qj < 3)) = true → Spec Tryd.prog 20 #[.pointer (some ⟨q0, q1, none⟩), .int .i64 qj] u17 (fun e u18 => ∃ (qk : ByteArray) (ql qm : Bool), e = .returned (.tuple #[.string qk, .bool ql, .bool qm]) ∧
 ((qm = true → ((ql = true → R (.returned (.bool false)) u18) ∧
 (ql = false → 0 ≤ qj ∧ qj < ((3 : Nat) : Int) ∧ ∃ (qn : List Value), 13 = qn.length ∧
 Rd u18 q2 (q3 + qj.toNat * 13) qn ∧ Spec Tryd.prog 27 #[.pointer (some ⟨q0, q1, none⟩), .agg qn.toArray, .int .i64 qj] u18 (fun e u19 => ∃ (qo : Bool), e = .returned (.bool qo) ∧
 (((!qo) = true → R (.returned (.bool false)) u19) ∧ ((!qo) = false →
 inK .i64 (qj + 1) ∧ I_1 (qj + 1) u19 ∧ M_1 (qj + 1) u19 < M_1 qj u17)))))) ∧
 (qm = false → inK .i64 (qj + 1) ∧ I_1 (qj + 1) u18 ∧ M_1 (qj + 1) u18 < M_1 qj u17)))) ∧
 ((decide (qj < 3)) = false → R (.returned (.bool true)) u17))))))))))
set_option maxRecDepth 100000 in
theorem vc_fenestratop_TopCatches_eq (l_p : Option Addr) (l_n l_c : Nat) (u : World) (R : Ending → World → Prop) : wFunc cx_fenestratop_TopCatches Tryd.f7 [.slice l_p l_n l_c] u R = vc_fenestratop_TopCatches l_p l_n l_c u R := by kernel_rfl
theorem vc_fenestratop_TopCatches_spec (l_p : Option Addr) (l_n l_c : Nat) {u : World} {R : Ending → World → Prop} (h : vc_fenestratop_TopCatches l_p l_n l_c u R) : Spec Tryd.prog fn_fenestratop_TopCatches #[.slice l_p l_n l_c] u R := func_spec (C := cx_fenestratop_TopCatches) (fn := Tryd.f7) (args := [.slice l_p l_n l_c]) (ctxOk _ _ _ _ _) Tryd.func7 (vc_fenestratop_TopCatches_eq l_p l_n l_c u R) h

end Go.Proofs.YtkmmphkjmamckacDoor
