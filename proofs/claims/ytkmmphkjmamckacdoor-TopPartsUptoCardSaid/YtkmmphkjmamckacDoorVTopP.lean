import Derived.Test.YtkmmphkjmamckacDoorCtx
namespace Go.Proofs.YtkmmphkjmamckacDoor
open Go
set_option linter.all false

/-- fenestra/fenestratop.TopParts -/
noncomputable def cx_fenestratop_TopParts : Ctx := ⟨Tryd.prog, tab, [], [49, 51], [], fns, [(5, ⟨[.keep, .keep, .keep, .keep, .junk, .keep, .keep, .cell (.int .i64), .junk, .junk, .junk, .junk, .junk, .junk, .keep, .keep, .keep, .keep, .junk, .junk, .junk, .junk, .junk, .junk, .junk, .junk, .junk, .junk, .junk, .junk, .junk, .junk, .junk, .junk, .junk, .junk, .junk, .junk, .junk, .junk, .junk, .junk, .junk, .junk, .junk, .junk, .junk, .junk, .junk, .junk, .junk, .junk, .junk, .junk, .junk, .junk, .junk, .junk, .junk, .junk, .junk, .junk, .junk, .junk, .junk, .junk, .junk, .junk, .junk, .junk, .junk, .junk, .junk, .junk, .junk, .junk, .junk, .junk, .junk, .junk, .junk, .junk, .junk, .junk, .keep, .keep, .keep], []⟩)], []⟩
def vc_fenestratop_TopParts (l_p : Option Addr) (l_n l_c : Nat) (cut : Int) (u : World) (R : Ending → World → Prop) : Prop :=
 Spec Tryd.prog 28 #[] u (fun e u1 => ∃ (q0 : Bool), e = .returned (.bool q0) ∧
 (((!q0) = true → R (.returned (.bool false)) u1) ∧ ((!q0) = false →
 Spec Tryd.prog 29 #[] u1 (fun e u11 => ∃ (q1 q2 : Nat), e = .returned (.pointer (some ⟨q1, q2, none⟩)) ∧
 Spec Tryd.prog 29 #[] u11 (fun e u12 => ∃ (q3 q4 : Nat), e = .returned (.pointer (some ⟨q3, q4, none⟩)) ∧
 ∃ (I_ : Int → World → Prop) (M_ : Int → World → Nat), (I_ 0 u12) ∧
 ∀ (i : Int), ∀ u13 : World, I_ i u13 → (((decide (i < ((l_n : Nat) : Int))) = true →
 (((decide (i < 100)) = true → ∃ b o, l_p = some ⟨b, o, none⟩ ∧
 0 ≤ i ∧ i < ((l_n : Nat) : Int) ∧ ∃ (q5 q6 q7 q8 : Int) (q9 : ByteArray), 5 = szN 5 ∧
 Rd u13 b (o + i.toNat * 5) ([.int .i64 q5, .int .i64 q6, .int .i64 q7, .int .i64 q8, .string q9]) ∧
 Spec Tryd.prog 21 #[.pointer (some ⟨q1, q2, none⟩), .agg #[.int .i64 q5, .int .i64 q6, .int .i64 q7, .int .i64 q8, .string q9]] (allocW u13 hole) (fun e u14 => ∃ (qa qb : Int) (qc : ByteArray), e = .returned (.agg #[.int .i64 qa, .int .i64 qb, .string qc]) ∧
 (((!decide (q5 = 3)) = true → Spec Tryd.prog 21 #[.pointer (some ⟨q3, q4, none⟩), .agg #[.int .i64 q5, .int .i64 q6, .int .i64 q7, .int .i64 q8, .string q9]] (drewW (allocW u14 hole)) (fun e u15 => ∃ (qd qe : Int) (qf : ByteArray), e = .returned (.agg #[.int .i64 qd, .int .i64 qe, .string qf]) ∧
 (((!(decide (qa = qd) && (decide (qb = qe) && (decide (qc.data.toList = qf.data.toList))))) = true →
 R (.returned (.bool false)) u15) ∧ ((!(decide (qa = qd) && (decide (qb = qe) && (decide (qc.data.toList = qf.data.toList))))) = false →
 inK .i64 (i + 1) ∧ I_ (i + 1) u15 ∧ M_ (i + 1) u15 < M_ i u13)))) ∧
 ((!decide (q5 = 3)) = false → inK .i64 (((q9.size : Nat) : Int) + 1) ∧
 (((q9.size : Nat) : Int) + 1) ≠ 0 ∧ inK .i64 ((Int.tmod (IntKind.i64.wrap (cut + i)) (((q9.size : Nat) : Int) + 1)) + (((q9.size : Nat) : Int) + 1)) ∧
 0 ≤ ((Int.tmod (IntKind.i64.wrap (cut + i)) (((q9.size : Nat) : Int) + 1)) + (((q9.size : Nat) : Int) + 1)) ∧
 0 < (((q9.size : Nat) : Int) + 1) ∧ ((0 ≤ (0 : Int) ∧ (0 : Int) ≤ (((Int.tmod (IntKind.i64.wrap (cut + i)) (((q9.size : Nat) : Int) + 1)) + (((q9.size : Nat) : Int) + 1)) % (((q9.size : Nat) : Int) + 1)) ∧
 (((Int.tmod (IntKind.i64.wrap (cut + i)) (((q9.size : Nat) : Int) + 1)) + (((q9.size : Nat) : Int) + 1)) % (((q9.size : Nat) : Int) + 1)) ≤ ((q9.size : Nat) : Int) ∧
 0 ≤ (((Int.tmod (IntKind.i64.wrap (cut + i)) (((q9.size : Nat) : Int) + 1)) + (((q9.size : Nat) : Int) + 1)) % (((q9.size : Nat) : Int) + 1)) ∧
 (((Int.tmod (IntKind.i64.wrap (cut + i)) (((q9.size : Nat) : Int) + 1)) + (((q9.size : Nat) : Int) + 1)) % (((q9.size : Nat) : Int) + 1)) ≤ ((q9.size : Nat) : Int) ∧
 ((q9.size : Nat) : Int) ≤ ((q9.size : Nat) : Int) ∧
 Spec Tryd.prog 21 #[.pointer (some ⟨q3, q4, none⟩), .agg #[.int .i64 q5, .int .i64 q6, .int .i64 q7, .int .i64 q8, .string (q9.extract (0 : Int).toNat (((Int.tmod (IntKind.i64.wrap (cut + i)) (((q9.size : Nat) : Int) + 1)) + (((q9.size : Nat) : Int) + 1)) % (((q9.size : Nat) : Int) + 1)).toNat)]] (drewW (drewW (allocW (allocW (drewW (allocW u14 hole)) hole) hole))) (fun e u16 => ∃ (qg qh : Int) (qi : ByteArray), e = .returned (.agg #[.int .i64 qg, .int .i64 qh, .string qi]) ∧
 (((!decide (qg = qa)) = true → R (.returned (.bool false)) u16) ∧
 ((!decide (qg = qa)) = false → Spec Tryd.prog 21 #[.pointer (some ⟨q3, q4, none⟩), .agg #[.int .i64 q5, .int .i64 q6, .int .i64 q7, .int .i64 q8, .string (q9.extract (((Int.tmod (IntKind.i64.wrap (cut + i)) (((q9.size : Nat) : Int) + 1)) + (((q9.size : Nat) : Int) + 1)) % (((q9.size : Nat) : Int) + 1)).toNat ((q9.size : Nat) : Int).toNat)]] u16 (fun e u17 => ∃ (qj qk : Int) (ql : ByteArray), e = .returned (.agg #[.int .i64 qj, .int .i64 qk, .string ql]) ∧
 (((!decide (qj = qa)) = true → R (.returned (.bool false)) u17) ∧
 ((!decide (qj = qa)) = false → inK .i64 (i + 1) ∧
 I_ (i + 1) u17 ∧ M_ (i + 1) u17 < M_ i u13))))))) ∧ (0 ≤ (0 : Int) ∧
 (0 : Int) ≤ (((Int.tmod (IntKind.i64.wrap (cut + i)) (((q9.size : Nat) : Int) + 1)) + (((q9.size : Nat) : Int) + 1)) % (((q9.size : Nat) : Int) + 1)) ∧
 (((Int.tmod (IntKind.i64.wrap (cut + i)) (((q9.size : Nat) : Int) + 1)) + (((q9.size : Nat) : Int) + 1)) % (((q9.size : Nat) : Int) + 1)) ≤ ((q9.size : Nat) : Int) ∧
 0 ≤ (((Int.tmod (IntKind.i64.wrap (cut + i)) (((q9.size : Nat) : Int) + 1)) + (((q9.size : Nat) : Int) + 1)) % (((q9.size : Nat) : Int) + 1)) ∧
 (((Int.tmod (IntKind.i64.wrap (cut + i)) (((q9.size : Nat) : Int) + 1)) + (((q9.size : Nat) : Int) + 1)) % (((q9.size : Nat) : Int) + 1)) ≤ ((q9.size : Nat) : Int) ∧
 ((q9.size : Nat) : Int) ≤ ((q9.size : Nat) : Int) ∧
 Spec Tryd.prog 21 #[.pointer (some ⟨q3, q4, none⟩), .agg #[.int .i64 q5, .int .i64 q6, .int .i64 q7, .int .i64 q8, .string (q9.extract (0 : Int).toNat (((Int.tmod (IntKind.i64.wrap (cut + i)) (((q9.size : Nat) : Int) + 1)) + (((q9.size : Nat) : Int) + 1)) % (((q9.size : Nat) : Int) + 1)).toNat)]] (drewW (drewW (allocW (allocW (drewW (allocW u14 hole)) hole) hole))) (fun e u18 => ∃ (qm qn : Int) (qo : ByteArray), e = .returned (.agg #[.int .i64 qm, .int .i64 qn, .string qo]) ∧
 (((!decide (qm = qa)) = true → R (.returned (.bool false)) u18) ∧
 ((!decide (qm = qa)) = false → Spec Tryd.prog 21 #[.pointer (some ⟨q3, q4, none⟩), .agg #[.int .i64 q5, .int .i64 q6, .int .i64 q7, .int .i64 q8, .string (q9.extract (((Int.tmod (IntKind.i64.wrap (cut + i)) (((q9.size : Nat) : Int) + 1)) + (((q9.size : Nat) : Int) + 1)) % (((q9.size : Nat) : Int) + 1)).toNat ((q9.size : Nat) : Int).toNat)]] u18 (fun e u19 => ∃ (qp qq : Int) (qr : ByteArray), e = .returned (.agg #[.int .i64 qp, .int .i64 qq, .string qr]) ∧
 (((!decide (qp = qa)) = true → R (.returned (.bool false)) u19) ∧
 ((!decide (qp = qa)) = false → inK .i64 (i + 1) ∧
 I_ (i + 1) u19 ∧ M_ (i + 1) u19 < M_ i u13)))))))))))) ∧ ((decide (i < 100)) = false →
 Spec Tryd.prog 30 #[.pointer (some ⟨q1, q2, none⟩), .pointer (some ⟨q3, q4, none⟩)] u13 (fun e u110 => ∃ (qs : Bool), e = .returned (.bool qs) ∧
 R (.returned (.bool qs)) u110)))) ∧ ((decide (i < ((l_n : Nat) : Int))) = false →
 Spec Tryd.prog 30 #[.pointer (some ⟨q1, q2, none⟩), .pointer (some ⟨q3, q4, none⟩)] u13 (fun e u111 => ∃ (qt : Bool), e = .returned (.bool qt) ∧
 R (.returned (.bool qt)) u111))))))))
set_option maxRecDepth 100000 in
theorem vc_fenestratop_TopParts_eq (l_p : Option Addr) (l_n l_c : Nat) (cut : Int) (u : World) (R : Ending → World → Prop) : wFunc cx_fenestratop_TopParts Tryd.f8 [.slice l_p l_n l_c, .int .i64 cut] u R = vc_fenestratop_TopParts l_p l_n l_c cut u R := by kernel_rfl
theorem vc_fenestratop_TopParts_spec (l_p : Option Addr) (l_n l_c : Nat) (cut : Int) {u : World} {R : Ending → World → Prop} (h : vc_fenestratop_TopParts l_p l_n l_c cut u R) : Spec Tryd.prog fn_fenestratop_TopParts #[.slice l_p l_n l_c, .int .i64 cut] u R := func_spec (C := cx_fenestratop_TopParts) (fn := Tryd.f8) (args := [.slice l_p l_n l_c, .int .i64 cut]) (ctxOk _ _ _ _ _) Tryd.func8 (vc_fenestratop_TopParts_eq l_p l_n l_c cut u R) h

end Go.Proofs.YtkmmphkjmamckacDoor
