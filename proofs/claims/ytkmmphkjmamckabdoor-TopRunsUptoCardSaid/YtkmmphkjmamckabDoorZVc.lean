/-
  Texts that belong together, joined: VDraw, VDraw2, VParse.
-/
import Derived.Test.YtkmmphkjmamckabDoorCtx
namespace Go.Proofs.YtkmmphkjmamckabDoor
open Go
set_option linter.all false

/-- (*fenestra/draw.pen).write -/
noncomputable def cx_draw_pen_write : Ctx := ⟨Tryd.prog, tab, [], [], [], fns, [], []⟩
def vc_draw_pen_write (p_b p_o : Nat) (s : ByteArray) (u : World) (R : Ending → World → Prop) : Prop :=
 Spec Tryd.prog 18 #[.agg #[.int .i64 0, .slice none 0 0, .string (ByteArray.mk #[]), .bool false], .string s] u (fun e u1 => ∃ (q0 : Int) (q1 : Option Addr) (q2 q3 : Nat) (q4 : ByteArray) (q5 : Bool) (q6 : Option Addr) (q7 q8 : Nat) (q9 : Int), e = .returned (.tuple #[.agg #[.int .i64 q0, .slice q1 q2 q3, .string q4, .bool q5], .slice q6 q7 q8, .int .i64 q9]) ∧
 ∃ (qa qb : Int) (qc : Option Addr) (qd qe : Nat) (qf qg qh : Int) (qi : Bool) (qj qk : Int), 9 = szN 9 ∧
 Rd (allocW u1 hole) p_b (p_o + 0) ([.int .i64 qa, .int .i64 qb, .slice qc qd qe, .int .i64 qf, .int .i64 qg, .int .i64 qh, .bool qi, .int .i64 qj, .int .i64 qk]) ∧
 Spec Tryd.prog 19 #[.agg #[.int .i64 qa, .int .i64 qb, .slice qc qd qe, .int .i64 qf, .int .i64 qg, .int .i64 qh, .bool qi, .int .i64 qj, .int .i64 qk], .slice q6 q7 q8] (allocW u1 hole) (fun e u11 => ∃ (ql qm : Int) (qn : Option Addr) (qo qp : Nat) (qq qr qs : Int) (qt : Bool) (qu qv qw : Int), e = .returned (.tuple #[.agg #[.int .i64 ql, .int .i64 qm, .slice qn qo qp, .int .i64 qq, .int .i64 qr, .int .i64 qs, .bool qt, .int .i64 qu, .int .i64 qv], .int .i64 qw]) ∧
 9 = szN 9 ∧
 Wr u11 p_b (p_o + 0) 9 ∧ ∃ (qx : Option Addr) (qy qz : Nat), 1 = szN 1 ∧
 Rd (putCells u11 p_b (p_o + 0) ([.int .i64 ql, .int .i64 qm, .slice qn qo qp, .int .i64 qq, .int .i64 qr, .int .i64 qs, .bool qt, .int .i64 qu, .int .i64 qv])) p_b (p_o + 9) ([.slice qx qy qz]) ∧
 ∃ old new : List Value, old.length = qy * 1 ∧ Gets (putCells u11 p_b (p_o + 0) ([.int .i64 ql, .int .i64 qm, .slice qn qo qp, .int .i64 qq, .int .i64 qr, .int .i64 qs, .bool qt, .int .i64 qu, .int .i64 qv])) qx old ∧
 new.length = s.size * 1 ∧ (new = bytesV s ∧ 1 = 1) ∧ 0 < 1 ∧ (2 * (qy + s.size) + 192) * 1 ≤ 140737488355328 ∧
 okCells new True ∧ (qy + s.size ≤ qz → WrS (putCells u11 p_b (p_o + 0) ([.int .i64 ql, .int .i64 qm, .slice qn qo qp, .int .i64 qq, .int .i64 qr, .int .i64 qs, .bool qt, .int .i64 qu, .int .i64 qv])) qx (qy * 1) (s.size * 1)) ∧
 ∀ p cap u12, AppR (putCells u11 p_b (p_o + 0) ([.int .i64 ql, .int .i64 qm, .slice qn qo qp, .int .i64 qq, .int .i64 qr, .int .i64 qs, .bool qt, .int .i64 qu, .int .i64 qv])) 5 1 [.int .u8 0] qx qy qz s.size old new p cap u12 →
 1 = szN 1 ∧ Wr u12 p_b (p_o + 9) 1 ∧
 R (.returned (.tuple #[])) (putCells u12 p_b (p_o + 9) ([.slice p (qy + s.size) cap]))))
set_option maxRecDepth 100000 in
theorem vc_draw_pen_write_eq (p_b p_o : Nat) (s : ByteArray) (u : World) (R : Ending → World → Prop) : wFunc cx_draw_pen_write Tryd.f75 [.pointer (some ⟨p_b, p_o, none⟩), .string s] u R = vc_draw_pen_write p_b p_o s u R := by kernel_rfl
theorem vc_draw_pen_write_spec (p_b p_o : Nat) (s : ByteArray) {u : World} {R : Ending → World → Prop} (h : vc_draw_pen_write p_b p_o s u R) : Spec Tryd.prog fn_draw_pen_write #[.pointer (some ⟨p_b, p_o, none⟩), .string s] u R := func_spec (C := cx_draw_pen_write) (fn := Tryd.f75) (args := [.pointer (some ⟨p_b, p_o, none⟩), .string s]) (ctxOk _ _ _ _ _) Tryd.func75 (vc_draw_pen_write_eq p_b p_o s u R) h

/-- (*fenestra/draw.pen).move -/
noncomputable def cx_draw_pen_move : Ctx := ⟨Tryd.prog, tab, [], [], [], fns, [], []⟩
def vc_draw_pen_move (p_b p_o : Nat) (row : Int) (col : Int) (u : World) (R : Ending → World → Prop) : Prop :=
 ∃ (q0 : Int), 1 = szN 1 ∧ Rd u p_b (p_o + 0 + 3) ([.int .i64 q0]) ∧
 (((!decide (q0 = row)) = true → inK .i64 (row + 1) ∧ Spec Tryd.prog 77 #[.int .i64 (row + 1)] u (fun e u1 => ∃ (q1 : ByteArray), e = .returned (.string q1) ∧
 (((ByteArray.mk #[27, 91]).size + q1.size : Nat) : Int) ≤ 9223372036854775807 ∧
 ((((ByteArray.mk #[27, 91]) ++ q1).size + (ByteArray.mk #[59]).size : Nat) : Int) ≤ 9223372036854775807 ∧
 inK .i64 (col + 1) ∧ Spec Tryd.prog 77 #[.int .i64 (col + 1)] u1 (fun e u11 => ∃ (q2 : ByteArray), e = .returned (.string q2) ∧
 (((((ByteArray.mk #[27, 91]) ++ q1) ++ (ByteArray.mk #[59])).size + q2.size : Nat) : Int) ≤ 9223372036854775807 ∧
 ((((((ByteArray.mk #[27, 91]) ++ q1) ++ (ByteArray.mk #[59])) ++ q2).size + (ByteArray.mk #[72]).size : Nat) : Int) ≤ 9223372036854775807 ∧
 Spec Tryd.prog 75 #[.pointer (some ⟨p_b, p_o, none⟩), .string (((((ByteArray.mk #[27, 91]) ++ q1) ++ (ByteArray.mk #[59])) ++ q2) ++ (ByteArray.mk #[72]))] u11 (fun e u12 => e = .returned (.tuple #[]) ∧
 R (.returned (.tuple #[])) u12)))) ∧ ((!decide (q0 = row)) = false →
 ∃ (q3 : Int), 1 = szN 1 ∧ Rd u p_b (p_o + 0 + 4) ([.int .i64 q3]) ∧
 (((!decide (q3 = col)) = true → inK .i64 (row + 1) ∧ Spec Tryd.prog 77 #[.int .i64 (row + 1)] u (fun e u13 => ∃ (q4 : ByteArray), e = .returned (.string q4) ∧
 (((ByteArray.mk #[27, 91]).size + q4.size : Nat) : Int) ≤ 9223372036854775807 ∧
 ((((ByteArray.mk #[27, 91]) ++ q4).size + (ByteArray.mk #[59]).size : Nat) : Int) ≤ 9223372036854775807 ∧
 inK .i64 (col + 1) ∧ Spec Tryd.prog 77 #[.int .i64 (col + 1)] u13 (fun e u14 => ∃ (q5 : ByteArray), e = .returned (.string q5) ∧
 (((((ByteArray.mk #[27, 91]) ++ q4) ++ (ByteArray.mk #[59])).size + q5.size : Nat) : Int) ≤ 9223372036854775807 ∧
 ((((((ByteArray.mk #[27, 91]) ++ q4) ++ (ByteArray.mk #[59])) ++ q5).size + (ByteArray.mk #[72]).size : Nat) : Int) ≤ 9223372036854775807 ∧
 Spec Tryd.prog 75 #[.pointer (some ⟨p_b, p_o, none⟩), .string (((((ByteArray.mk #[27, 91]) ++ q4) ++ (ByteArray.mk #[59])) ++ q5) ++ (ByteArray.mk #[72]))] u14 (fun e u15 => e = .returned (.tuple #[]) ∧
 R (.returned (.tuple #[])) u15)))) ∧ ((!decide (q3 = col)) = false →
 R (.returned (.tuple #[])) u))))
set_option maxRecDepth 100000 in
theorem vc_draw_pen_move_eq (p_b p_o : Nat) (row : Int) (col : Int) (u : World) (R : Ending → World → Prop) : wFunc cx_draw_pen_move Tryd.f60 [.pointer (some ⟨p_b, p_o, none⟩), .int .i64 row, .int .i64 col] u R = vc_draw_pen_move p_b p_o row col u R := by kernel_rfl
theorem vc_draw_pen_move_spec (p_b p_o : Nat) (row : Int) (col : Int) {u : World} {R : Ending → World → Prop} (h : vc_draw_pen_move p_b p_o row col u R) : Spec Tryd.prog fn_draw_pen_move #[.pointer (some ⟨p_b, p_o, none⟩), .int .i64 row, .int .i64 col] u R := func_spec (C := cx_draw_pen_move) (fn := Tryd.f60) (args := [.pointer (some ⟨p_b, p_o, none⟩), .int .i64 row, .int .i64 col]) (ctxOk _ _ _ _ _) Tryd.func60 (vc_draw_pen_move_eq p_b p_o row col u R) h

/-- (*fenestra/draw.pen).ink -/
noncomputable def cx_draw_pen_ink : Ctx := ⟨Tryd.prog, tab, [], [], [], fns, [], []⟩
def vc_draw_pen_ink (p_b p_o : Nat) (c_Ch : Int) (c_Ink : Int) (c_Pic : Int) (c_Bold : Bool) (u : World) (R : Ending → World → Prop) : Prop :=
 ∃ (q0 : Int), 1 = szN 1 ∧ Rd (drewW (allocW u hole)) p_b (p_o + 0 + 5) ([.int .i64 q0]) ∧
 (((decide (q0 = c_Ink)) = true → ∃ (q1 : Bool), 1 = szN 1 ∧
 Rd (drewW (allocW u hole)) p_b (p_o + 0 + 6) ([.bool q1]) ∧ (((q1 == c_Bold) = true →
 R (.returned (.tuple #[])) (drewW (allocW u hole))) ∧ ((q1 == c_Bold) = false →
 ((c_Bold = true → (((ByteArray.mk #[27, 91, 48]).size + (ByteArray.mk #[59, 49]).size : Nat) : Int) ≤ 9223372036854775807 ∧
 (((decide ((0 : Int) < c_Ink)) = true → inK .i64 (29 + c_Ink) ∧
 Spec Tryd.prog 77 #[.int .i64 (29 + c_Ink)] (drewW (allocW u hole)) (fun e u1 => ∃ (q2 : ByteArray), e = .returned (.string q2) ∧
 (((ByteArray.mk #[59]).size + q2.size : Nat) : Int) ≤ 9223372036854775807 ∧
 ((((ByteArray.mk #[27, 91, 48]) ++ (ByteArray.mk #[59, 49])).size + ((ByteArray.mk #[59]) ++ q2).size : Nat) : Int) ≤ 9223372036854775807 ∧
 (((((ByteArray.mk #[27, 91, 48]) ++ (ByteArray.mk #[59, 49])) ++ ((ByteArray.mk #[59]) ++ q2)).size + (ByteArray.mk #[109]).size : Nat) : Int) ≤ 9223372036854775807 ∧
 Spec Tryd.prog 75 #[.pointer (some ⟨p_b, p_o, none⟩), .string ((((ByteArray.mk #[27, 91, 48]) ++ (ByteArray.mk #[59, 49])) ++ ((ByteArray.mk #[59]) ++ q2)) ++ (ByteArray.mk #[109]))] u1 (fun e u11 => e = .returned (.tuple #[]) ∧
 R (.returned (.tuple #[])) u11))) ∧ ((decide ((0 : Int) < c_Ink)) = false →
 ((((ByteArray.mk #[27, 91, 48]) ++ (ByteArray.mk #[59, 49])).size + (ByteArray.mk #[109]).size : Nat) : Int) ≤ 9223372036854775807 ∧
 Spec Tryd.prog 75 #[.pointer (some ⟨p_b, p_o, none⟩), .string (((ByteArray.mk #[27, 91, 48]) ++ (ByteArray.mk #[59, 49])) ++ (ByteArray.mk #[109]))] (drewW (allocW u hole)) (fun e u12 => e = .returned (.tuple #[]) ∧
 R (.returned (.tuple #[])) u12)))) ∧ (c_Bold = false → (((decide ((0 : Int) < c_Ink)) = true →
 inK .i64 (29 + c_Ink) ∧ Spec Tryd.prog 77 #[.int .i64 (29 + c_Ink)] (drewW (allocW u hole)) (fun e u13 => ∃ (q3 : ByteArray), e = .returned (.string q3) ∧
 (((ByteArray.mk #[59]).size + q3.size : Nat) : Int) ≤ 9223372036854775807 ∧
 (((ByteArray.mk #[27, 91, 48]).size + ((ByteArray.mk #[59]) ++ q3).size : Nat) : Int) ≤ 9223372036854775807 ∧
 ((((ByteArray.mk #[27, 91, 48]) ++ ((ByteArray.mk #[59]) ++ q3)).size + (ByteArray.mk #[109]).size : Nat) : Int) ≤ 9223372036854775807 ∧
 Spec Tryd.prog 75 #[.pointer (some ⟨p_b, p_o, none⟩), .string (((ByteArray.mk #[27, 91, 48]) ++ ((ByteArray.mk #[59]) ++ q3)) ++ (ByteArray.mk #[109]))] u13 (fun e u14 => e = .returned (.tuple #[]) ∧
 R (.returned (.tuple #[])) u14))) ∧ ((decide ((0 : Int) < c_Ink)) = false →
 (((ByteArray.mk #[27, 91, 48]).size + (ByteArray.mk #[109]).size : Nat) : Int) ≤ 9223372036854775807 ∧
 Spec Tryd.prog 75 #[.pointer (some ⟨p_b, p_o, none⟩), .string ((ByteArray.mk #[27, 91, 48]) ++ (ByteArray.mk #[109]))] (drewW (allocW u hole)) (fun e u15 => e = .returned (.tuple #[]) ∧
 R (.returned (.tuple #[])) u15)))))))) ∧ ((decide (q0 = c_Ink)) = false →
 ((c_Bold = true → (((ByteArray.mk #[27, 91, 48]).size + (ByteArray.mk #[59, 49]).size : Nat) : Int) ≤ 9223372036854775807 ∧
 (((decide ((0 : Int) < c_Ink)) = true → inK .i64 (29 + c_Ink) ∧
 Spec Tryd.prog 77 #[.int .i64 (29 + c_Ink)] (drewW (allocW u hole)) (fun e u16 => ∃ (q4 : ByteArray), e = .returned (.string q4) ∧
 (((ByteArray.mk #[59]).size + q4.size : Nat) : Int) ≤ 9223372036854775807 ∧
 ((((ByteArray.mk #[27, 91, 48]) ++ (ByteArray.mk #[59, 49])).size + ((ByteArray.mk #[59]) ++ q4).size : Nat) : Int) ≤ 9223372036854775807 ∧
 (((((ByteArray.mk #[27, 91, 48]) ++ (ByteArray.mk #[59, 49])) ++ ((ByteArray.mk #[59]) ++ q4)).size + (ByteArray.mk #[109]).size : Nat) : Int) ≤ 9223372036854775807 ∧
 Spec Tryd.prog 75 #[.pointer (some ⟨p_b, p_o, none⟩), .string ((((ByteArray.mk #[27, 91, 48]) ++ (ByteArray.mk #[59, 49])) ++ ((ByteArray.mk #[59]) ++ q4)) ++ (ByteArray.mk #[109]))] u16 (fun e u17 => e = .returned (.tuple #[]) ∧
 R (.returned (.tuple #[])) u17))) ∧ ((decide ((0 : Int) < c_Ink)) = false →
 ((((ByteArray.mk #[27, 91, 48]) ++ (ByteArray.mk #[59, 49])).size + (ByteArray.mk #[109]).size : Nat) : Int) ≤ 9223372036854775807 ∧
 Spec Tryd.prog 75 #[.pointer (some ⟨p_b, p_o, none⟩), .string (((ByteArray.mk #[27, 91, 48]) ++ (ByteArray.mk #[59, 49])) ++ (ByteArray.mk #[109]))] (drewW (allocW u hole)) (fun e u18 => e = .returned (.tuple #[]) ∧
 R (.returned (.tuple #[])) u18)))) ∧ (c_Bold = false → (((decide ((0 : Int) < c_Ink)) = true →
 inK .i64 (29 + c_Ink) ∧ Spec Tryd.prog 77 #[.int .i64 (29 + c_Ink)] (drewW (allocW u hole)) (fun e u19 => ∃ (q5 : ByteArray), e = .returned (.string q5) ∧
 (((ByteArray.mk #[59]).size + q5.size : Nat) : Int) ≤ 9223372036854775807 ∧
 (((ByteArray.mk #[27, 91, 48]).size + ((ByteArray.mk #[59]) ++ q5).size : Nat) : Int) ≤ 9223372036854775807 ∧
 ((((ByteArray.mk #[27, 91, 48]) ++ ((ByteArray.mk #[59]) ++ q5)).size + (ByteArray.mk #[109]).size : Nat) : Int) ≤ 9223372036854775807 ∧
 Spec Tryd.prog 75 #[.pointer (some ⟨p_b, p_o, none⟩), .string (((ByteArray.mk #[27, 91, 48]) ++ ((ByteArray.mk #[59]) ++ q5)) ++ (ByteArray.mk #[109]))] u19 (fun e u110 => e = .returned (.tuple #[]) ∧
 R (.returned (.tuple #[])) u110))) ∧ ((decide ((0 : Int) < c_Ink)) = false →
 (((ByteArray.mk #[27, 91, 48]).size + (ByteArray.mk #[109]).size : Nat) : Int) ≤ 9223372036854775807 ∧
 Spec Tryd.prog 75 #[.pointer (some ⟨p_b, p_o, none⟩), .string ((ByteArray.mk #[27, 91, 48]) ++ (ByteArray.mk #[109]))] (drewW (allocW u hole)) (fun e u111 => e = .returned (.tuple #[]) ∧
 R (.returned (.tuple #[])) u111)))))))
set_option maxRecDepth 100000 in
theorem vc_draw_pen_ink_eq (p_b p_o : Nat) (c_Ch : Int) (c_Ink : Int) (c_Pic : Int) (c_Bold : Bool) (u : World) (R : Ending → World → Prop) : wFunc cx_draw_pen_ink Tryd.f76 [.pointer (some ⟨p_b, p_o, none⟩), .agg #[.int .i64 c_Ch, .int .i64 c_Ink, .int .i64 c_Pic, .bool c_Bold]] u R = vc_draw_pen_ink p_b p_o c_Ch c_Ink c_Pic c_Bold u R := by kernel_rfl
theorem vc_draw_pen_ink_spec (p_b p_o : Nat) (c_Ch : Int) (c_Ink : Int) (c_Pic : Int) (c_Bold : Bool) {u : World} {R : Ending → World → Prop} (h : vc_draw_pen_ink p_b p_o c_Ch c_Ink c_Pic c_Bold u R) : Spec Tryd.prog fn_draw_pen_ink #[.pointer (some ⟨p_b, p_o, none⟩), .agg #[.int .i64 c_Ch, .int .i64 c_Ink, .int .i64 c_Pic, .bool c_Bold]] u R := func_spec (C := cx_draw_pen_ink) (fn := Tryd.f76) (args := [.pointer (some ⟨p_b, p_o, none⟩), .agg #[.int .i64 c_Ch, .int .i64 c_Ink, .int .i64 c_Pic, .bool c_Bold]]) (ctxOk _ _ _ _ _) Tryd.func76 (vc_draw_pen_ink_eq p_b p_o c_Ch c_Ink c_Pic c_Bold u R) h

/-- (*fenestra/draw.pen).cell -/
noncomputable def cx_draw_pen_cell : Ctx := ⟨Tryd.prog, tab, [], [], [], fns, [], []⟩
def vc_draw_pen_cell (p_b p_o : Nat) (row : Int) (col : Int) (c_Ch : Int) (c_Ink : Int) (c_Pic : Int) (c_Bold : Bool) (u : World) (R : Ending → World → Prop) : Prop :=
 Spec Tryd.prog 60 #[.pointer (some ⟨p_b, p_o, none⟩), .int .i64 row, .int .i64 col] (allocW u hole) (fun e u1 => e = .returned (.tuple #[]) ∧
 (((decide ((0 : Int) < c_Pic)) = true → inK .i64 (97 + c_Pic) ∧
 inK .i64 ((97 + c_Pic) - 1) ∧ inK .u8 ((97 + c_Pic) - 1) ∧ ∃ s : ByteArray, s.size = 1 ∧
 Gets (allocW u1 (.cells #[.int .u8 ((97 + c_Pic) - 1)] 5)) (some (Addr.mk u1.heap.size 0 none)) (bytesV s) ∧
 (((ByteArray.mk #[27, 80]).size + s.size : Nat) : Int) ≤ 9223372036854775807 ∧
 ((((ByteArray.mk #[27, 80]) ++ s).size + (ByteArray.mk #[27, 92]).size : Nat) : Int) ≤ 9223372036854775807 ∧
 Spec Tryd.prog 75 #[.pointer (some ⟨p_b, p_o, none⟩), .string (((ByteArray.mk #[27, 80]) ++ s) ++ (ByteArray.mk #[27, 92]))] (allocW u1 (.cells #[.int .u8 ((97 + c_Pic) - 1)] 5)) (fun e u11 => e = .returned (.tuple #[]) ∧
 R (.returned (.tuple #[])) u11)) ∧ ((decide ((0 : Int) < c_Pic)) = false →
 (((decide (c_Ch = 0)) = true → Spec Tryd.prog 75 #[.pointer (some ⟨p_b, p_o, none⟩), .string (ByteArray.mk #[27, 91, 75])] u1 (fun e u12 => e = .returned (.tuple #[]) ∧
 R (.returned (.tuple #[])) u12)) ∧ ((decide (c_Ch = 0)) = false →
 Spec Tryd.prog 76 #[.pointer (some ⟨p_b, p_o, none⟩), .agg #[.int .i64 c_Ch, .int .i64 c_Ink, .int .i64 c_Pic, .bool c_Bold]] u1 (fun e u13 => e = .returned (.tuple #[]) ∧
 inK .u8 c_Ch ∧ ∃ s1 : ByteArray, s1.size = 1 ∧ Gets (allocW u13 (.cells #[.int .u8 c_Ch] 5)) (some (Addr.mk u13.heap.size 0 none)) (bytesV s1) ∧
 Spec Tryd.prog 75 #[.pointer (some ⟨p_b, p_o, none⟩), .string s1] (allocW u13 (.cells #[.int .u8 c_Ch] 5)) (fun e u14 => e = .returned (.tuple #[]) ∧
 R (.returned (.tuple #[])) u14)))))))
set_option maxRecDepth 100000 in
theorem vc_draw_pen_cell_eq (p_b p_o : Nat) (row : Int) (col : Int) (c_Ch : Int) (c_Ink : Int) (c_Pic : Int) (c_Bold : Bool) (u : World) (R : Ending → World → Prop) : wFunc cx_draw_pen_cell Tryd.f59 [.pointer (some ⟨p_b, p_o, none⟩), .int .i64 row, .int .i64 col, .agg #[.int .i64 c_Ch, .int .i64 c_Ink, .int .i64 c_Pic, .bool c_Bold]] u R = vc_draw_pen_cell p_b p_o row col c_Ch c_Ink c_Pic c_Bold u R := by kernel_rfl
theorem vc_draw_pen_cell_spec (p_b p_o : Nat) (row : Int) (col : Int) (c_Ch : Int) (c_Ink : Int) (c_Pic : Int) (c_Bold : Bool) {u : World} {R : Ending → World → Prop} (h : vc_draw_pen_cell p_b p_o row col c_Ch c_Ink c_Pic c_Bold u R) : Spec Tryd.prog fn_draw_pen_cell #[.pointer (some ⟨p_b, p_o, none⟩), .int .i64 row, .int .i64 col, .agg #[.int .i64 c_Ch, .int .i64 c_Ink, .int .i64 c_Pic, .bool c_Bold]] u R := func_spec (C := cx_draw_pen_cell) (fn := Tryd.f59) (args := [.pointer (some ⟨p_b, p_o, none⟩), .int .i64 row, .int .i64 col, .agg #[.int .i64 c_Ch, .int .i64 c_Ink, .int .i64 c_Pic, .bool c_Bold]]) (ctxOk _ _ _ _ _) Tryd.func59 (vc_draw_pen_cell_eq p_b p_o row col c_Ch c_Ink c_Pic c_Bold u R) h

/-- fenestra/draw.Turn -/
noncomputable def cx_draw_Turn : Ctx := ⟨Tryd.prog, tab, [43], [], [], fns, [(5, ⟨[.keep, .keep, .keep, .keep, .keep, .keep, .keep, .keep, .junk, .junk, .junk, .keep, .keep, .keep, .keep, .keep, .keep, .keep, .keep, .keep, .keep, .keep, .keep, .keep, .keep, .keep, .keep, .keep, .keep, .keep, .keep, .keep, .keep, .keep, .keep, .keep, .keep, .keep, .keep, .keep, .keep, .keep, .keep, .keep, .keep, .keep, .cell (.int .i64), .junk, .junk, .junk, .junk, .junk, .junk, .junk, .junk, .junk, .junk, .junk, .junk, .junk, .junk, .junk, .junk, .junk, .junk, .junk, .junk, .junk, .junk, .junk, .junk, .junk, .junk, .junk, .keep, .keep, .keep, .keep, .keep, .keep, .keep, .keep, .keep, .keep, .keep, .keep, .keep, .keep, .keep], [.keep, .keep, .keep]⟩), (8, ⟨[.keep, .keep, .keep, .keep, .keep, .keep, .keep, .keep, .keep, .junk, .junk, .keep, .keep, .keep, .keep, .keep, .keep, .keep, .keep, .keep, .keep, .keep, .keep, .keep, .keep, .keep, .keep, .keep, .keep, .keep, .keep, .keep, .keep, .keep, .keep, .keep, .keep, .keep, .keep, .keep, .keep, .keep, .keep, .keep, .keep, .keep, .keep, .keep, .keep, .keep, .keep, .cell (.int .i64), .junk, .junk, .junk, .junk, .junk, .junk, .junk, .junk, .junk, .junk, .junk, .junk, .junk, .junk, .junk, .junk, .junk, .junk, .junk, .junk, .junk, .keep, .keep, .keep, .keep, .keep, .keep, .keep, .keep, .keep, .keep, .keep, .keep, .keep, .keep, .keep, .keep], [.keep, .keep, .keep]⟩)], []⟩
def vc_draw_Turn (from_Wide : Int) (from_High : Int) (from_Cells_p : Option Addr) (from_Cells_n from_Cells_c : Nat) (from_Row : Int) (from_Col : Int) (from_Ink : Int) (from_Bold : Bool) (from_Top : Int) (from_Bottom : Int) (to_Wide : Int) (to_High : Int) (to_Cells_p : Option Addr) (to_Cells_n to_Cells_c : Nat) (to_Row : Int) (to_Col : Int) (to_Ink : Int) (to_Bold : Bool) (to_Top : Int) (to_Bottom : Int) (u : World) (R : Ending → World → Prop) : Prop :=
 Spec Tryd.prog 43 #[.agg #[.int .i64 from_Wide, .int .i64 from_High, .slice from_Cells_p from_Cells_n from_Cells_c, .int .i64 from_Row, .int .i64 from_Col, .int .i64 from_Ink, .bool from_Bold, .int .i64 from_Top, .int .i64 from_Bottom]] (allocW (allocW (allocW u hole) hole) hole) (fun e u1 => ∃ (q0 : Bool), e = .returned (.bool q0) ∧
 (((!q0) = true → R (.returned (.tuple #[.string (ByteArray.mk #[]), .agg #[.int .i64 from_Wide, .int .i64 from_High, .slice from_Cells_p from_Cells_n from_Cells_c, .int .i64 from_Row, .int .i64 from_Col, .int .i64 from_Ink, .bool from_Bold, .int .i64 from_Top, .int .i64 from_Bottom], .int .i64 1])) (drewW u1)) ∧
 ((!q0) = false → Spec Tryd.prog 43 #[.agg #[.int .i64 to_Wide, .int .i64 to_High, .slice to_Cells_p to_Cells_n to_Cells_c, .int .i64 to_Row, .int .i64 to_Col, .int .i64 to_Ink, .bool to_Bold, .int .i64 to_Top, .int .i64 to_Bottom]] u1 (fun e u11 => ∃ (q1 : Bool), e = .returned (.bool q1) ∧
 (((!q1) = true → R (.returned (.tuple #[.string (ByteArray.mk #[]), .agg #[.int .i64 from_Wide, .int .i64 from_High, .slice from_Cells_p from_Cells_n from_Cells_c, .int .i64 from_Row, .int .i64 from_Col, .int .i64 from_Ink, .bool from_Bold, .int .i64 from_Top, .int .i64 from_Bottom], .int .i64 1])) (drewW u11)) ∧
 ((!q1) = false → (((!decide (from_Wide = to_Wide)) = true → R (.returned (.tuple #[.string (ByteArray.mk #[]), .agg #[.int .i64 from_Wide, .int .i64 from_High, .slice from_Cells_p from_Cells_n from_Cells_c, .int .i64 from_Row, .int .i64 from_Col, .int .i64 from_Ink, .bool from_Bold, .int .i64 from_Top, .int .i64 from_Bottom], .int .i64 1])) (drewW u11)) ∧
 ((!decide (from_Wide = to_Wide)) = false → (((!decide (from_High = to_High)) = true →
 R (.returned (.tuple #[.string (ByteArray.mk #[]), .agg #[.int .i64 from_Wide, .int .i64 from_High, .slice from_Cells_p from_Cells_n from_Cells_c, .int .i64 from_Row, .int .i64 from_Col, .int .i64 from_Ink, .bool from_Bold, .int .i64 from_Top, .int .i64 from_Bottom], .int .i64 1])) (drewW u11)) ∧
 ((!decide (from_High = to_High)) = false → (((decide (to_Wide ≤ to_Col)) = true →
 R (.returned (.tuple #[.string (ByteArray.mk #[]), .agg #[.int .i64 from_Wide, .int .i64 from_High, .slice from_Cells_p from_Cells_n from_Cells_c, .int .i64 from_Row, .int .i64 from_Col, .int .i64 from_Ink, .bool from_Bold, .int .i64 from_Top, .int .i64 from_Bottom], .int .i64 1])) (drewW u11)) ∧
 ((decide (to_Wide ≤ to_Col)) = false → ∃ (I_ : Int → World → Prop) (M_ : Int →
 World → Nat), ((Loc.mk 47 false ([.int .i64 from_Wide, .int .i64 from_High, .slice from_Cells_p from_Cells_n from_Cells_c, .int .i64 from_Row, .int .i64 from_Col, .int .i64 from_Ink, .bool from_Bold, .int .i64 from_Top, .int .i64 from_Bottom])) = (Loc.mk 47 false ([.int .i64 from_Wide, .int .i64 from_High, .slice from_Cells_p from_Cells_n from_Cells_c, .int .i64 from_Row, .int .i64 from_Col, .int .i64 from_Ink, .bool from_Bold, .int .i64 from_Top, .int .i64 from_Bottom])) ∧
 (Loc.mk 47 false ([.int .i64 to_Wide, .int .i64 to_High, .slice to_Cells_p to_Cells_n to_Cells_c, .int .i64 to_Row, .int .i64 to_Col, .int .i64 to_Ink, .bool to_Bold, .int .i64 to_Top, .int .i64 to_Bottom])) = (Loc.mk 47 false ([.int .i64 to_Wide, .int .i64 to_High, .slice to_Cells_p to_Cells_n to_Cells_c, .int .i64 to_Row, .int .i64 to_Col, .int .i64 to_Ink, .bool to_Bold, .int .i64 to_Top, .int .i64 to_Bottom])) ∧
 (Loc.mk 47 false ([.int .i64 0, .int .i64 0, .slice none 0 0, .int .i64 0, .int .i64 0, .int .i64 0, .bool false, .int .i64 0, .int .i64 0])) = (Loc.mk 47 false ([.int .i64 0, .int .i64 0, .slice none 0 0, .int .i64 0, .int .i64 0, .int .i64 0, .bool false, .int .i64 0, .int .i64 0])) ∧
 I_ 0 (allocW u11 (.cells ([.int .i64 from_Wide, .int .i64 from_High, .slice from_Cells_p from_Cells_n from_Cells_c, .int .i64 from_Row, .int .i64 from_Col, .int .i64 from_Ink, .bool from_Bold, .int .i64 from_Top, .int .i64 from_Bottom, .slice none 0 0] : List Value).toArray 124))) ∧
 ∀ (q2 : Int), (Loc.mk 47 false ([.int .i64 from_Wide, .int .i64 from_High, .slice from_Cells_p from_Cells_n from_Cells_c, .int .i64 from_Row, .int .i64 from_Col, .int .i64 from_Ink, .bool from_Bold, .int .i64 from_Top, .int .i64 from_Bottom])) = (Loc.mk 47 false ([.int .i64 from_Wide, .int .i64 from_High, .slice from_Cells_p from_Cells_n from_Cells_c, .int .i64 from_Row, .int .i64 from_Col, .int .i64 from_Ink, .bool from_Bold, .int .i64 from_Top, .int .i64 from_Bottom])) ∧
 (Loc.mk 47 false ([.int .i64 to_Wide, .int .i64 to_High, .slice to_Cells_p to_Cells_n to_Cells_c, .int .i64 to_Row, .int .i64 to_Col, .int .i64 to_Ink, .bool to_Bold, .int .i64 to_Top, .int .i64 to_Bottom])) = (Loc.mk 47 false ([.int .i64 to_Wide, .int .i64 to_High, .slice to_Cells_p to_Cells_n to_Cells_c, .int .i64 to_Row, .int .i64 to_Col, .int .i64 to_Ink, .bool to_Bold, .int .i64 to_Top, .int .i64 to_Bottom])) ∧
 (Loc.mk 47 false ([.int .i64 0, .int .i64 0, .slice none 0 0, .int .i64 0, .int .i64 0, .int .i64 0, .bool false, .int .i64 0, .int .i64 0])) = (Loc.mk 47 false ([.int .i64 0, .int .i64 0, .slice none 0 0, .int .i64 0, .int .i64 0, .int .i64 0, .bool false, .int .i64 0, .int .i64 0])) ∧
 ∀ u12 : World, I_ q2 u12 → (((decide (q2 < to_High)) = true →
 ∃ (I_1 : Int → World → Prop) (M_1 : Int → World → Nat), ((Loc.mk 47 false ([.int .i64 from_Wide, .int .i64 from_High, .slice from_Cells_p from_Cells_n from_Cells_c, .int .i64 from_Row, .int .i64 from_Col, .int .i64 from_Ink, .bool from_Bold, .int .i64 from_Top, .int .i64 from_Bottom])) = (Loc.mk 47 false ([.int .i64 from_Wide, .int .i64 from_High, .slice from_Cells_p from_Cells_n from_Cells_c, .int .i64 from_Row, .int .i64 from_Col, .int .i64 from_Ink, .bool from_Bold, .int .i64 from_Top, .int .i64 from_Bottom])) ∧
 (Loc.mk 47 false ([.int .i64 to_Wide, .int .i64 to_High, .slice to_Cells_p to_Cells_n to_Cells_c, .int .i64 to_Row, .int .i64 to_Col, .int .i64 to_Ink, .bool to_Bold, .int .i64 to_Top, .int .i64 to_Bottom])) = (Loc.mk 47 false ([.int .i64 to_Wide, .int .i64 to_High, .slice to_Cells_p to_Cells_n to_Cells_c, .int .i64 to_Row, .int .i64 to_Col, .int .i64 to_Ink, .bool to_Bold, .int .i64 to_Top, .int .i64 to_Bottom])) ∧
 (Loc.mk 47 false ([.int .i64 0, .int .i64 0, .slice none 0 0, .int .i64 0, .int .i64 0, .int .i64 0, .bool false, .int .i64 0, .int .i64 0])) = (Loc.mk 47 false ([.int .i64 0, .int .i64 0, .slice none 0 0, .int .i64 0, .int .i64 0, .int .i64 0, .bool false, .int .i64 0, .int .i64 0])) ∧
 I_1 0 u12) ∧ ∀ (q3 : Int), (Loc.mk 47 false ([.int .i64 from_Wide, .int .i64 from_High, .slice from_Cells_p from_Cells_n from_Cells_c, .int .i64 from_Row, .int .i64 from_Col, .int .i64 from_Ink, .bool from_Bold, .int .i64 from_Top, .int .i64 from_Bottom])) = (Loc.mk 47 false ([.int .i64 from_Wide, .int .i64 from_High, .slice from_Cells_p from_Cells_n from_Cells_c, .int .i64 from_Row, .int .i64 from_Col, .int .i64 from_Ink, .bool from_Bold, .int .i64 from_Top, .int .i64 from_Bottom])) ∧
 (Loc.mk 47 false ([.int .i64 to_Wide, .int .i64 to_High, .slice to_Cells_p to_Cells_n to_Cells_c, .int .i64 to_Row, .int .i64 to_Col, .int .i64 to_Ink, .bool to_Bold, .int .i64 to_Top, .int .i64 to_Bottom])) = (Loc.mk 47 false ([.int .i64 to_Wide, .int .i64 to_High, .slice to_Cells_p to_Cells_n to_Cells_c, .int .i64 to_Row, .int .i64 to_Col, .int .i64 to_Ink, .bool to_Bold, .int .i64 to_Top, .int .i64 to_Bottom])) ∧
 (Loc.mk 47 false ([.int .i64 0, .int .i64 0, .slice none 0 0, .int .i64 0, .int .i64 0, .int .i64 0, .bool false, .int .i64 0, .int .i64 0])) = (Loc.mk 47 false ([.int .i64 0, .int .i64 0, .slice none 0 0, .int .i64 0, .int .i64 0, .int .i64 0, .bool false, .int .i64 0, .int .i64 0])) ∧
 ∀ u13 : World, I_1 q3 u13 → (((decide (q3 < to_Wide)) = true →
 Spec Tryd.prog 58 #[.agg #[.int .i64 to_Wide, .int .i64 to_High, .slice to_Cells_p to_Cells_n to_Cells_c, .int .i64 to_Row, .int .i64 to_Col, .int .i64 to_Ink, .bool to_Bold, .int .i64 to_Top, .int .i64 to_Bottom], .int .i64 q2, .int .i64 q3] u13 (fun e u14 => ∃ (q4 q5 q6 : Int) (q7 : Bool), e = .returned (.agg #[.int .i64 q4, .int .i64 q5, .int .i64 q6, .bool q7]) ∧
 ∃ (q8 q9 : Int) (qa : Option Addr) (qb qc : Nat) (qd qe qf : Int) (qg : Bool) (qh qi : Int), 9 = szN 9 ∧
 Rd (drewW (allocW u14 hole)) u11.heap.size (0 + 0) ([.int .i64 q8, .int .i64 q9, .slice qa qb qc, .int .i64 qd, .int .i64 qe, .int .i64 qf, .bool qg, .int .i64 qh, .int .i64 qi]) ∧
 Spec Tryd.prog 58 #[.agg #[.int .i64 q8, .int .i64 q9, .slice qa qb qc, .int .i64 qd, .int .i64 qe, .int .i64 qf, .bool qg, .int .i64 qh, .int .i64 qi], .int .i64 q2, .int .i64 q3] (drewW (allocW u14 hole)) (fun e u15 => ∃ (qj qk ql : Int) (qm : Bool), e = .returned (.agg #[.int .i64 qj, .int .i64 qk, .int .i64 ql, .bool qm]) ∧
 (((!(decide (qj = q4) && (decide (qk = q5) && (decide (ql = q6) && (qm == q7))))) = true →
 Spec Tryd.prog 59 #[.pointer (some ⟨u11.heap.size, 0, none⟩), .int .i64 q2, .int .i64 q3, .agg #[.int .i64 q4, .int .i64 q5, .int .i64 q6, .bool q7]] u15 (fun e u16 => e = .returned (.tuple #[]) ∧
 inK .i64 (q3 + 1) ∧ (Loc.mk 47 false ([.int .i64 from_Wide, .int .i64 from_High, .slice from_Cells_p from_Cells_n from_Cells_c, .int .i64 from_Row, .int .i64 from_Col, .int .i64 from_Ink, .bool from_Bold, .int .i64 from_Top, .int .i64 from_Bottom])) = (Loc.mk 47 false ([.int .i64 from_Wide, .int .i64 from_High, .slice from_Cells_p from_Cells_n from_Cells_c, .int .i64 from_Row, .int .i64 from_Col, .int .i64 from_Ink, .bool from_Bold, .int .i64 from_Top, .int .i64 from_Bottom])) ∧
 (Loc.mk 47 false ([.int .i64 to_Wide, .int .i64 to_High, .slice to_Cells_p to_Cells_n to_Cells_c, .int .i64 to_Row, .int .i64 to_Col, .int .i64 to_Ink, .bool to_Bold, .int .i64 to_Top, .int .i64 to_Bottom])) = (Loc.mk 47 false ([.int .i64 to_Wide, .int .i64 to_High, .slice to_Cells_p to_Cells_n to_Cells_c, .int .i64 to_Row, .int .i64 to_Col, .int .i64 to_Ink, .bool to_Bold, .int .i64 to_Top, .int .i64 to_Bottom])) ∧
 (Loc.mk 47 false ([.int .i64 0, .int .i64 0, .slice none 0 0, .int .i64 0, .int .i64 0, .int .i64 0, .bool false, .int .i64 0, .int .i64 0])) = (Loc.mk 47 false ([.int .i64 0, .int .i64 0, .slice none 0 0, .int .i64 0, .int .i64 0, .int .i64 0, .bool false, .int .i64 0, .int .i64 0])) ∧
 I_1 (q3 + 1) u16 ∧ (Loc.mk 47 false ([.int .i64 from_Wide, .int .i64 from_High, .slice from_Cells_p from_Cells_n from_Cells_c, .int .i64 from_Row, .int .i64 from_Col, .int .i64 from_Ink, .bool from_Bold, .int .i64 from_Top, .int .i64 from_Bottom])) = (Loc.mk 47 false ([.int .i64 from_Wide, .int .i64 from_High, .slice from_Cells_p from_Cells_n from_Cells_c, .int .i64 from_Row, .int .i64 from_Col, .int .i64 from_Ink, .bool from_Bold, .int .i64 from_Top, .int .i64 from_Bottom])) ∧
 (Loc.mk 47 false ([.int .i64 to_Wide, .int .i64 to_High, .slice to_Cells_p to_Cells_n to_Cells_c, .int .i64 to_Row, .int .i64 to_Col, .int .i64 to_Ink, .bool to_Bold, .int .i64 to_Top, .int .i64 to_Bottom])) = (Loc.mk 47 false ([.int .i64 to_Wide, .int .i64 to_High, .slice to_Cells_p to_Cells_n to_Cells_c, .int .i64 to_Row, .int .i64 to_Col, .int .i64 to_Ink, .bool to_Bold, .int .i64 to_Top, .int .i64 to_Bottom])) ∧
 (Loc.mk 47 false ([.int .i64 0, .int .i64 0, .slice none 0 0, .int .i64 0, .int .i64 0, .int .i64 0, .bool false, .int .i64 0, .int .i64 0])) = (Loc.mk 47 false ([.int .i64 0, .int .i64 0, .slice none 0 0, .int .i64 0, .int .i64 0, .int .i64 0, .bool false, .int .i64 0, .int .i64 0])) ∧
 M_1 (q3 + 1) u16 < M_1 q3 u13)) ∧ ((!(decide (qj = q4) && (decide (qk = q5) && (decide (ql = q6) && (qm == q7))))) = false →
 inK .i64 (q3 + 1) ∧ (Loc.mk 47 false ([.int .i64 from_Wide, .int .i64 from_High, .slice from_Cells_p from_Cells_n from_Cells_c, .int .i64 from_Row, .int .i64 from_Col, .int .i64 from_Ink, .bool from_Bold, .int .i64 from_Top, .int .i64 from_Bottom])) = (Loc.mk 47 false ([.int .i64 from_Wide, .int .i64 from_High, .slice from_Cells_p from_Cells_n from_Cells_c, .int .i64 from_Row, .int .i64 from_Col, .int .i64 from_Ink, .bool from_Bold, .int .i64 from_Top, .int .i64 from_Bottom])) ∧
 (Loc.mk 47 false ([.int .i64 to_Wide, .int .i64 to_High, .slice to_Cells_p to_Cells_n to_Cells_c, .int .i64 to_Row, .int .i64 to_Col, .int .i64 to_Ink, .bool to_Bold, .int .i64 to_Top, .int .i64 to_Bottom])) = (Loc.mk 47 false ([.int .i64 to_Wide, .int .i64 to_High, .slice to_Cells_p to_Cells_n to_Cells_c, .int .i64 to_Row, .int .i64 to_Col, .int .i64 to_Ink, .bool to_Bold, .int .i64 to_Top, .int .i64 to_Bottom])) ∧
 (Loc.mk 47 false ([.int .i64 0, .int .i64 0, .slice none 0 0, .int .i64 0, .int .i64 0, .int .i64 0, .bool false, .int .i64 0, .int .i64 0])) = (Loc.mk 47 false ([.int .i64 0, .int .i64 0, .slice none 0 0, .int .i64 0, .int .i64 0, .int .i64 0, .bool false, .int .i64 0, .int .i64 0])) ∧
 I_1 (q3 + 1) u15 ∧ (Loc.mk 47 false ([.int .i64 from_Wide, .int .i64 from_High, .slice from_Cells_p from_Cells_n from_Cells_c, .int .i64 from_Row, .int .i64 from_Col, .int .i64 from_Ink, .bool from_Bold, .int .i64 from_Top, .int .i64 from_Bottom])) = (Loc.mk 47 false ([.int .i64 from_Wide, .int .i64 from_High, .slice from_Cells_p from_Cells_n from_Cells_c, .int .i64 from_Row, .int .i64 from_Col, .int .i64 from_Ink, .bool from_Bold, .int .i64 from_Top, .int .i64 from_Bottom])) ∧
 (Loc.mk 47 false ([.int .i64 to_Wide, .int .i64 to_High, .slice to_Cells_p to_Cells_n to_Cells_c, .int .i64 to_Row, .int .i64 to_Col, .int .i64 to_Ink, .bool to_Bold, .int .i64 to_Top, .int .i64 to_Bottom])) = (Loc.mk 47 false ([.int .i64 to_Wide, .int .i64 to_High, .slice to_Cells_p to_Cells_n to_Cells_c, .int .i64 to_Row, .int .i64 to_Col, .int .i64 to_Ink, .bool to_Bold, .int .i64 to_Top, .int .i64 to_Bottom])) ∧
 (Loc.mk 47 false ([.int .i64 0, .int .i64 0, .slice none 0 0, .int .i64 0, .int .i64 0, .int .i64 0, .bool false, .int .i64 0, .int .i64 0])) = (Loc.mk 47 false ([.int .i64 0, .int .i64 0, .slice none 0 0, .int .i64 0, .int .i64 0, .int .i64 0, .bool false, .int .i64 0, .int .i64 0])) ∧
 M_1 (q3 + 1) u15 < M_1 q3 u13))))) ∧ ((decide (q3 < to_Wide)) = false →
 inK .i64 (q2 + 1) ∧ (Loc.mk 47 false ([.int .i64 from_Wide, .int .i64 from_High, .slice from_Cells_p from_Cells_n from_Cells_c, .int .i64 from_Row, .int .i64 from_Col, .int .i64 from_Ink, .bool from_Bold, .int .i64 from_Top, .int .i64 from_Bottom])) = (Loc.mk 47 false ([.int .i64 from_Wide, .int .i64 from_High, .slice from_Cells_p from_Cells_n from_Cells_c, .int .i64 from_Row, .int .i64 from_Col, .int .i64 from_Ink, .bool from_Bold, .int .i64 from_Top, .int .i64 from_Bottom])) ∧
 (Loc.mk 47 false ([.int .i64 to_Wide, .int .i64 to_High, .slice to_Cells_p to_Cells_n to_Cells_c, .int .i64 to_Row, .int .i64 to_Col, .int .i64 to_Ink, .bool to_Bold, .int .i64 to_Top, .int .i64 to_Bottom])) = (Loc.mk 47 false ([.int .i64 to_Wide, .int .i64 to_High, .slice to_Cells_p to_Cells_n to_Cells_c, .int .i64 to_Row, .int .i64 to_Col, .int .i64 to_Ink, .bool to_Bold, .int .i64 to_Top, .int .i64 to_Bottom])) ∧
 (Loc.mk 47 false ([.int .i64 0, .int .i64 0, .slice none 0 0, .int .i64 0, .int .i64 0, .int .i64 0, .bool false, .int .i64 0, .int .i64 0])) = (Loc.mk 47 false ([.int .i64 0, .int .i64 0, .slice none 0 0, .int .i64 0, .int .i64 0, .int .i64 0, .bool false, .int .i64 0, .int .i64 0])) ∧
 I_ (q2 + 1) u13 ∧ (Loc.mk 47 false ([.int .i64 from_Wide, .int .i64 from_High, .slice from_Cells_p from_Cells_n from_Cells_c, .int .i64 from_Row, .int .i64 from_Col, .int .i64 from_Ink, .bool from_Bold, .int .i64 from_Top, .int .i64 from_Bottom])) = (Loc.mk 47 false ([.int .i64 from_Wide, .int .i64 from_High, .slice from_Cells_p from_Cells_n from_Cells_c, .int .i64 from_Row, .int .i64 from_Col, .int .i64 from_Ink, .bool from_Bold, .int .i64 from_Top, .int .i64 from_Bottom])) ∧
 (Loc.mk 47 false ([.int .i64 to_Wide, .int .i64 to_High, .slice to_Cells_p to_Cells_n to_Cells_c, .int .i64 to_Row, .int .i64 to_Col, .int .i64 to_Ink, .bool to_Bold, .int .i64 to_Top, .int .i64 to_Bottom])) = (Loc.mk 47 false ([.int .i64 to_Wide, .int .i64 to_High, .slice to_Cells_p to_Cells_n to_Cells_c, .int .i64 to_Row, .int .i64 to_Col, .int .i64 to_Ink, .bool to_Bold, .int .i64 to_Top, .int .i64 to_Bottom])) ∧
 (Loc.mk 47 false ([.int .i64 0, .int .i64 0, .slice none 0 0, .int .i64 0, .int .i64 0, .int .i64 0, .bool false, .int .i64 0, .int .i64 0])) = (Loc.mk 47 false ([.int .i64 0, .int .i64 0, .slice none 0 0, .int .i64 0, .int .i64 0, .int .i64 0, .bool false, .int .i64 0, .int .i64 0])) ∧
 M_ (q2 + 1) u13 < M_ q2 u12))) ∧ ((decide (q2 < to_High)) = false →
 Spec Tryd.prog 60 #[.pointer (some ⟨u11.heap.size, 0, none⟩), .int .i64 to_Row, .int .i64 to_Col] u12 (fun e u17 => e = .returned (.tuple #[]) ∧
 ∃ (qn : Option Addr) (qo qp : Nat), 1 = szN 1 ∧
 Rd (drewW u17) u11.heap.size (0 + 9) ([.slice qn qo qp]) ∧
 ∃ (qq qr : Int) (qs : Option Addr) (qt qu : Nat) (qv qw qx : Int) (qy : Bool) (qz q10 : Int), 9 = szN 9 ∧
 Rd (drewW u17) u11.heap.size (0 + 0) ([.int .i64 qq, .int .i64 qr, .slice qs qt qu, .int .i64 qv, .int .i64 qw, .int .i64 qx, .bool qy, .int .i64 qz, .int .i64 q10]) ∧
 ∃ s : ByteArray, s.size = qo ∧ Gets (drewW u17) qn (bytesV s) ∧
 Rd (drewW u17) u11.heap.size (0 + 0) ([.int .i64 qq, .int .i64 qr, .slice qs qt qu, .int .i64 qv, .int .i64 qw, .int .i64 qx, .bool qy, .int .i64 qz, .int .i64 q10]) ∧
 R (.returned (.tuple #[.string s, .agg #[.int .i64 qq, .int .i64 qr, .slice qs qt qu, .int .i64 qv, .int .i64 qw, .int .i64 qx, .bool qy, .int .i64 qz, .int .i64 q10], .int .i64 0])) (drewW u17))))))))))))))))
set_option maxRecDepth 100000 in
theorem vc_draw_Turn_eq (from_Wide : Int) (from_High : Int) (from_Cells_p : Option Addr) (from_Cells_n from_Cells_c : Nat) (from_Row : Int) (from_Col : Int) (from_Ink : Int) (from_Bold : Bool) (from_Top : Int) (from_Bottom : Int) (to_Wide : Int) (to_High : Int) (to_Cells_p : Option Addr) (to_Cells_n to_Cells_c : Nat) (to_Row : Int) (to_Col : Int) (to_Ink : Int) (to_Bold : Bool) (to_Top : Int) (to_Bottom : Int) (u : World) (R : Ending → World → Prop) : wFunc cx_draw_Turn Tryd.f36 [.agg #[.int .i64 from_Wide, .int .i64 from_High, .slice from_Cells_p from_Cells_n from_Cells_c, .int .i64 from_Row, .int .i64 from_Col, .int .i64 from_Ink, .bool from_Bold, .int .i64 from_Top, .int .i64 from_Bottom], .agg #[.int .i64 to_Wide, .int .i64 to_High, .slice to_Cells_p to_Cells_n to_Cells_c, .int .i64 to_Row, .int .i64 to_Col, .int .i64 to_Ink, .bool to_Bold, .int .i64 to_Top, .int .i64 to_Bottom]] u R = vc_draw_Turn from_Wide from_High from_Cells_p from_Cells_n from_Cells_c from_Row from_Col from_Ink from_Bold from_Top from_Bottom to_Wide to_High to_Cells_p to_Cells_n to_Cells_c to_Row to_Col to_Ink to_Bold to_Top to_Bottom u R := by kernel_rfl
theorem vc_draw_Turn_spec (from_Wide : Int) (from_High : Int) (from_Cells_p : Option Addr) (from_Cells_n from_Cells_c : Nat) (from_Row : Int) (from_Col : Int) (from_Ink : Int) (from_Bold : Bool) (from_Top : Int) (from_Bottom : Int) (to_Wide : Int) (to_High : Int) (to_Cells_p : Option Addr) (to_Cells_n to_Cells_c : Nat) (to_Row : Int) (to_Col : Int) (to_Ink : Int) (to_Bold : Bool) (to_Top : Int) (to_Bottom : Int) {u : World} {R : Ending → World → Prop} (h : vc_draw_Turn from_Wide from_High from_Cells_p from_Cells_n from_Cells_c from_Row from_Col from_Ink from_Bold from_Top from_Bottom to_Wide to_High to_Cells_p to_Cells_n to_Cells_c to_Row to_Col to_Ink to_Bold to_Top to_Bottom u R) : Spec Tryd.prog fn_draw_Turn #[.agg #[.int .i64 from_Wide, .int .i64 from_High, .slice from_Cells_p from_Cells_n from_Cells_c, .int .i64 from_Row, .int .i64 from_Col, .int .i64 from_Ink, .bool from_Bold, .int .i64 from_Top, .int .i64 from_Bottom], .agg #[.int .i64 to_Wide, .int .i64 to_High, .slice to_Cells_p to_Cells_n to_Cells_c, .int .i64 to_Row, .int .i64 to_Col, .int .i64 to_Ink, .bool to_Bold, .int .i64 to_Top, .int .i64 to_Bottom]] u R := func_spec (C := cx_draw_Turn) (fn := Tryd.f36) (args := [.agg #[.int .i64 from_Wide, .int .i64 from_High, .slice from_Cells_p from_Cells_n from_Cells_c, .int .i64 from_Row, .int .i64 from_Col, .int .i64 from_Ink, .bool from_Bold, .int .i64 from_Top, .int .i64 from_Bottom], .agg #[.int .i64 to_Wide, .int .i64 to_High, .slice to_Cells_p to_Cells_n to_Cells_c, .int .i64 to_Row, .int .i64 to_Col, .int .i64 to_Ink, .bool to_Bold, .int .i64 to_Top, .int .i64 to_Bottom]]) (ctxOk _ _ _ _ _) Tryd.func36 (vc_draw_Turn_eq from_Wide from_High from_Cells_p from_Cells_n from_Cells_c from_Row from_Col from_Ink from_Bold from_Top from_Bottom to_Wide to_High to_Cells_p to_Cells_n to_Cells_c to_Row to_Col to_Ink to_Bold to_Top to_Bottom u R) h

end Go.Proofs.YtkmmphkjmamckabDoor

namespace Go.Proofs.YtkmmphkjmamckabDoor
open Go
set_option linter.all false

/-- fenestra/draw.Anew -/
noncomputable def cx_draw_Anew : Ctx := ⟨Tryd.prog, tab, [], [], [], fns, [], []⟩
def vc_draw_Anew (to_Wide : Int) (to_High : Int) (to_Cells_p : Option Addr) (to_Cells_n to_Cells_c : Nat) (to_Row : Int) (to_Col : Int) (to_Ink : Int) (to_Bold : Bool) (to_Top : Int) (to_Bottom : Int) (u : World) (R : Ending → World → Prop) : Prop :=
 Spec Tryd.prog 43 #[.agg #[.int .i64 to_Wide, .int .i64 to_High, .slice to_Cells_p to_Cells_n to_Cells_c, .int .i64 to_Row, .int .i64 to_Col, .int .i64 to_Ink, .bool to_Bold, .int .i64 to_Top, .int .i64 to_Bottom]] (allocW (allocW u hole) hole) (fun e u1 => ∃ (q0 : Bool), e = .returned (.bool q0) ∧
 (((!q0) = true → R (.returned (.tuple #[.string (ByteArray.mk #[]), .agg #[.int .i64 to_Wide, .int .i64 to_High, .slice to_Cells_p to_Cells_n to_Cells_c, .int .i64 to_Row, .int .i64 to_Col, .int .i64 to_Ink, .bool to_Bold, .int .i64 to_Top, .int .i64 to_Bottom], .int .i64 1])) (drewW u1)) ∧
 ((!q0) = false → (((decide (to_Wide ≤ to_Col)) = true → R (.returned (.tuple #[.string (ByteArray.mk #[]), .agg #[.int .i64 to_Wide, .int .i64 to_High, .slice to_Cells_p to_Cells_n to_Cells_c, .int .i64 to_Row, .int .i64 to_Col, .int .i64 to_Ink, .bool to_Bold, .int .i64 to_Top, .int .i64 to_Bottom], .int .i64 1])) (drewW u1)) ∧
 ((decide (to_Wide ≤ to_Col)) = false → ((Spec Tryd.prog 22 #[.int .i64 to_Wide, .int .i64 to_High] (drewW u1) (fun e u11 => ∃ (q1 q2 : Int) (q3 : Option Addr) (q4 q5 : Nat) (q6 q7 q8 : Int) (q9 : Bool) (qa qb : Int), e = .returned (.agg #[.int .i64 q1, .int .i64 q2, .slice q3 q4 q5, .int .i64 q6, .int .i64 q7, .int .i64 q8, .bool q9, .int .i64 qa, .int .i64 qb]) ∧
 ((Spec Tryd.prog 36 #[.agg #[.int .i64 q1, .int .i64 q2, .slice q3 q4 q5, .int .i64 q6, .int .i64 q7, .int .i64 q8, .bool q9, .int .i64 qa, .int .i64 qb], .agg #[.int .i64 to_Wide, .int .i64 to_High, .slice to_Cells_p to_Cells_n to_Cells_c, .int .i64 to_Row, .int .i64 to_Col, .int .i64 to_Ink, .bool to_Bold, .int .i64 to_Top, .int .i64 to_Bottom]] u11 (fun e u12 => ∃ (qc : ByteArray) (qd qe : Int) (qf : Option Addr) (qg qh : Nat) (qi qj qk : Int) (ql : Bool) (qm qn qo : Int), e = .returned (.tuple #[.string qc, .agg #[.int .i64 qd, .int .i64 qe, .slice qf qg qh, .int .i64 qi, .int .i64 qj, .int .i64 qk, .bool ql, .int .i64 qm, .int .i64 qn], .int .i64 qo]) ∧
 (((ByteArray.mk #[27, 99]).size + qc.size : Nat) : Int) ≤ 9223372036854775807 ∧
 R (.returned (.tuple #[.string ((ByteArray.mk #[27, 99]) ++ qc), .agg #[.int .i64 qd, .int .i64 qe, .slice qf qg qh, .int .i64 qi, .int .i64 qj, .int .i64 qk, .bool ql, .int .i64 qm, .int .i64 qn], .int .i64 qo])) (drewW (allocW u12 hole)))) ∧
 (Spec Tryd.prog 36 #[.agg #[.int .i64 q1, .int .i64 q2, .slice q3 q4 q5, .int .i64 q6, .int .i64 q7, .int .i64 q8, .bool q9, .int .i64 qa, .int .i64 qb], .agg #[.int .i64 to_Wide, .int .i64 to_High, .slice to_Cells_p to_Cells_n to_Cells_c, .int .i64 to_Row, .int .i64 to_Col, .int .i64 to_Ink, .bool to_Bold, .int .i64 to_Top, .int .i64 to_Bottom]] (allocW u11 hole) (fun e u13 => ∃ (qp : ByteArray) (qq qr : Int) (qs : Option Addr) (qt qu : Nat) (qv qw qx : Int) (qy : Bool) (qz q10 q11 : Int), e = .returned (.tuple #[.string qp, .agg #[.int .i64 qq, .int .i64 qr, .slice qs qt qu, .int .i64 qv, .int .i64 qw, .int .i64 qx, .bool qy, .int .i64 qz, .int .i64 q10], .int .i64 q11]) ∧
 (((ByteArray.mk #[27, 99]).size + qp.size : Nat) : Int) ≤ 9223372036854775807 ∧
 R (.returned (.tuple #[.string ((ByteArray.mk #[27, 99]) ++ qp), .agg #[.int .i64 qq, .int .i64 qr, .slice qs qt qu, .int .i64 qv, .int .i64 qw, .int .i64 qx, .bool qy, .int .i64 qz, .int .i64 q10], .int .i64 q11])) (drewW u13)))))) ∧
 (Spec Tryd.prog 22 #[.int .i64 to_Wide, .int .i64 to_High] (allocW (drewW u1) hole) (fun e u14 => ∃ (q12 q13 : Int) (q14 : Option Addr) (q15 q16 : Nat) (q17 q18 q19 : Int) (q1a : Bool) (q1b q1c : Int), e = .returned (.agg #[.int .i64 q12, .int .i64 q13, .slice q14 q15 q16, .int .i64 q17, .int .i64 q18, .int .i64 q19, .bool q1a, .int .i64 q1b, .int .i64 q1c]) ∧
 Spec Tryd.prog 36 #[.agg #[.int .i64 q12, .int .i64 q13, .slice q14 q15 q16, .int .i64 q17, .int .i64 q18, .int .i64 q19, .bool q1a, .int .i64 q1b, .int .i64 q1c], .agg #[.int .i64 to_Wide, .int .i64 to_High, .slice to_Cells_p to_Cells_n to_Cells_c, .int .i64 to_Row, .int .i64 to_Col, .int .i64 to_Ink, .bool to_Bold, .int .i64 to_Top, .int .i64 to_Bottom]] u14 (fun e u15 => ∃ (q1d : ByteArray) (q1e q1f : Int) (q1g : Option Addr) (q1h q1i : Nat) (q1j q1k q1l : Int) (q1m : Bool) (q1n q1o q1p : Int), e = .returned (.tuple #[.string q1d, .agg #[.int .i64 q1e, .int .i64 q1f, .slice q1g q1h q1i, .int .i64 q1j, .int .i64 q1k, .int .i64 q1l, .bool q1m, .int .i64 q1n, .int .i64 q1o], .int .i64 q1p]) ∧
 (((ByteArray.mk #[27, 99]).size + q1d.size : Nat) : Int) ≤ 9223372036854775807 ∧
 R (.returned (.tuple #[.string ((ByteArray.mk #[27, 99]) ++ q1d), .agg #[.int .i64 q1e, .int .i64 q1f, .slice q1g q1h q1i, .int .i64 q1j, .int .i64 q1k, .int .i64 q1l, .bool q1m, .int .i64 q1n, .int .i64 q1o], .int .i64 q1p])) (drewW u15))))))))))
set_option maxRecDepth 100000 in
theorem vc_draw_Anew_eq (to_Wide : Int) (to_High : Int) (to_Cells_p : Option Addr) (to_Cells_n to_Cells_c : Nat) (to_Row : Int) (to_Col : Int) (to_Ink : Int) (to_Bold : Bool) (to_Top : Int) (to_Bottom : Int) (u : World) (R : Ending → World → Prop) : wFunc cx_draw_Anew Tryd.f38 [.agg #[.int .i64 to_Wide, .int .i64 to_High, .slice to_Cells_p to_Cells_n to_Cells_c, .int .i64 to_Row, .int .i64 to_Col, .int .i64 to_Ink, .bool to_Bold, .int .i64 to_Top, .int .i64 to_Bottom]] u R = vc_draw_Anew to_Wide to_High to_Cells_p to_Cells_n to_Cells_c to_Row to_Col to_Ink to_Bold to_Top to_Bottom u R := by kernel_rfl
theorem vc_draw_Anew_spec (to_Wide : Int) (to_High : Int) (to_Cells_p : Option Addr) (to_Cells_n to_Cells_c : Nat) (to_Row : Int) (to_Col : Int) (to_Ink : Int) (to_Bold : Bool) (to_Top : Int) (to_Bottom : Int) {u : World} {R : Ending → World → Prop} (h : vc_draw_Anew to_Wide to_High to_Cells_p to_Cells_n to_Cells_c to_Row to_Col to_Ink to_Bold to_Top to_Bottom u R) : Spec Tryd.prog fn_draw_Anew #[.agg #[.int .i64 to_Wide, .int .i64 to_High, .slice to_Cells_p to_Cells_n to_Cells_c, .int .i64 to_Row, .int .i64 to_Col, .int .i64 to_Ink, .bool to_Bold, .int .i64 to_Top, .int .i64 to_Bottom]] u R := func_spec (C := cx_draw_Anew) (fn := Tryd.f38) (args := [.agg #[.int .i64 to_Wide, .int .i64 to_High, .slice to_Cells_p to_Cells_n to_Cells_c, .int .i64 to_Row, .int .i64 to_Col, .int .i64 to_Ink, .bool to_Bold, .int .i64 to_Top, .int .i64 to_Bottom]]) (ctxOk _ _ _ _ _) Tryd.func38 (vc_draw_Anew_eq to_Wide to_High to_Cells_p to_Cells_n to_Cells_c to_Row to_Col to_Ink to_Bold to_Top to_Bottom u R) h

end Go.Proofs.YtkmmphkjmamckabDoor

namespace Go.Proofs.YtkmmphkjmamckabDoor
open Go
set_option linter.all false

/-- fenestra/parse.Good -/
noncomputable def cx_parse_Good : Ctx := ⟨Tryd.prog, tab, [], [], [], fns, [(4, ⟨[.keep, .keep, .junk, .keep, .junk, .keep, .keep, .keep, .keep, .keep, .keep, .keep, .keep, .keep, .keep, .keep, .keep, .keep, .keep, .keep, .keep, .keep, .keep, .keep, .keep, .keep, .keep, .keep, .keep, .cell (.int .i64), .junk, .junk, .junk, .junk, .junk, .junk, .junk, .junk, .junk, .junk, .keep, .keep, .keep, .keep, .keep, .keep, .keep, .keep, .keep, .keep, .keep, .keep, .keep, .keep, .keep, .keep, .keep, .keep, .keep, .keep, .keep, .keep, .keep, .keep, .keep, .keep, .keep, .keep, .keep], [.keep]⟩)], []⟩
def vc_parse_Good (p_At : Int) (p_Params_p : Option Addr) (p_Params_n p_Params_c : Nat) (p_Payload : ByteArray) (p_Long : Bool) (u : World) (R : Ending → World → Prop) : Prop :=
 (((decide (p_At < 0)) = true → R (.returned (.bool false)) (allocW u hole)) ∧
 ((decide (p_At < 0)) = false → (((decide ((4 : Int) < p_At)) = true →
 R (.returned (.bool false)) (allocW u hole)) ∧ ((decide ((4 : Int) < p_At)) = false →
 (((decide ((4 : Int) < ((p_Params_n : Nat) : Int))) = true → R (.returned (.bool false)) (allocW u hole)) ∧
 ((decide ((4 : Int) < ((p_Params_n : Nat) : Int))) = false → (((decide ((48 : Int) < ((p_Payload.size : Nat) : Int))) = true →
 R (.returned (.bool false)) (allocW u hole)) ∧ ((decide ((48 : Int) < ((p_Payload.size : Nat) : Int))) = false →
 ∃ (I_ : Int → World → Prop) (M_ : Int → World → Nat), ((Loc.mk 44 false ([.int .i64 p_At, .slice p_Params_p p_Params_n p_Params_c, .string p_Payload, .bool p_Long])) = (Loc.mk 44 false ([.int .i64 p_At, .slice p_Params_p p_Params_n p_Params_c, .string p_Payload, .bool p_Long])) ∧
 I_ 0 (allocW u hole)) ∧ ∀ (q0 : Int), (Loc.mk 44 false ([.int .i64 p_At, .slice p_Params_p p_Params_n p_Params_c, .string p_Payload, .bool p_Long])) = (Loc.mk 44 false ([.int .i64 p_At, .slice p_Params_p p_Params_n p_Params_c, .string p_Payload, .bool p_Long])) ∧
 ∀ u1 : World, I_ q0 u1 → (((decide (q0 < ((p_Params_n : Nat) : Int))) = true →
 ∃ b o, p_Params_p = some ⟨b, o, none⟩ ∧ 0 ≤ q0 ∧ q0 < ((p_Params_n : Nat) : Int) ∧
 ∃ (q1 : Int), 1 = szN 1 ∧ Rd u1 b (o + q0.toNat * 1) ([.int .i64 q1]) ∧
 (((decide (q1 < 0)) = true → R (.returned (.bool false)) u1) ∧
 ((decide (q1 < 0)) = false → (((decide ((999 : Int) < q1)) = true →
 R (.returned (.bool false)) u1) ∧ ((decide ((999 : Int) < q1)) = false →
 inK .i64 (q0 + 1) ∧ (Loc.mk 44 false ([.int .i64 p_At, .slice p_Params_p p_Params_n p_Params_c, .string p_Payload, .bool p_Long])) = (Loc.mk 44 false ([.int .i64 p_At, .slice p_Params_p p_Params_n p_Params_c, .string p_Payload, .bool p_Long])) ∧
 I_ (q0 + 1) u1 ∧ (Loc.mk 44 false ([.int .i64 p_At, .slice p_Params_p p_Params_n p_Params_c, .string p_Payload, .bool p_Long])) = (Loc.mk 44 false ([.int .i64 p_At, .slice p_Params_p p_Params_n p_Params_c, .string p_Payload, .bool p_Long])) ∧
 M_ (q0 + 1) u1 < M_ q0 u1))))) ∧ ((decide (q0 < ((p_Params_n : Nat) : Int))) = false →
 (((decide (p_At = 3)) = true → ((((decide (p_At = 2)) == (decide ((0 : Int) < ((p_Params_n : Nat) : Int)))) = true →
 R (.returned (.bool true)) u1) ∧ (((decide (p_At = 2)) == (decide ((0 : Int) < ((p_Params_n : Nat) : Int)))) = false →
 R (.returned (.bool false)) u1))) ∧ ((decide (p_At = 3)) = false →
 ((((decide (p_At = 2)) == (decide ((0 : Int) < ((p_Params_n : Nat) : Int)))) = true →
 (((decide (p_At = 4)) = true → R (.returned (.bool true)) u1) ∧
 ((decide (p_At = 4)) = false → (((decide (p_Payload.data.toList = (ByteArray.mk #[]).data.toList)) = true →
 R (.returned (.bool (!p_Long))) u1) ∧ ((decide (p_Payload.data.toList = (ByteArray.mk #[]).data.toList)) = false →
 R (.returned (.bool false)) u1))))) ∧ (((decide (p_At = 2)) == (decide ((0 : Int) < ((p_Params_n : Nat) : Int)))) = false →
 R (.returned (.bool false)) u1))))))))))))))
set_option maxRecDepth 100000 in
theorem vc_parse_Good_eq (p_At : Int) (p_Params_p : Option Addr) (p_Params_n p_Params_c : Nat) (p_Payload : ByteArray) (p_Long : Bool) (u : World) (R : Ending → World → Prop) : wFunc cx_parse_Good Tryd.f32 [.agg #[.int .i64 p_At, .slice p_Params_p p_Params_n p_Params_c, .string p_Payload, .bool p_Long]] u R = vc_parse_Good p_At p_Params_p p_Params_n p_Params_c p_Payload p_Long u R := by kernel_rfl
theorem vc_parse_Good_spec (p_At : Int) (p_Params_p : Option Addr) (p_Params_n p_Params_c : Nat) (p_Payload : ByteArray) (p_Long : Bool) {u : World} {R : Ending → World → Prop} (h : vc_parse_Good p_At p_Params_p p_Params_n p_Params_c p_Payload p_Long u R) : Spec Tryd.prog fn_parse_Good #[.agg #[.int .i64 p_At, .slice p_Params_p p_Params_n p_Params_c, .string p_Payload, .bool p_Long]] u R := func_spec (C := cx_parse_Good) (fn := Tryd.f32) (args := [.agg #[.int .i64 p_At, .slice p_Params_p p_Params_n p_Params_c, .string p_Payload, .bool p_Long]]) (ctxOk _ _ _ _ _) Tryd.func32 (vc_parse_Good_eq p_At p_Params_p p_Params_n p_Params_c p_Payload p_Long u R) h

/-- fenestra/parse.Feed -/
noncomputable def cx_parse_Feed : Ctx := ⟨Tryd.prog, tab, [], [], [], fns, [(6, ⟨[.keep, .keep, .keep, .keep, .keep, .keep, .keep, .cell .slice, .junk, .junk, .keep, .keep, .keep, .keep, .keep, .keep, .keep, .keep, .keep, .keep, .cell (.int .i64), .junk, .junk, .junk, .junk, .junk, .junk, .junk, .junk, .junk, .junk, .junk, .junk, .junk, .junk, .junk, .junk, .junk, .junk, .junk, .keep, .keep], [.cells [.int .i64, .slice, .str, .bool], .keep]⟩)], []⟩
def vc_parse_Feed (p_At : Int) (p_Params_p : Option Addr) (p_Params_n p_Params_c : Nat) (p_Payload : ByteArray) (p_Long : Bool) (s : ByteArray) (u : World) (R : Ending → World → Prop) : Prop :=
 Spec Tryd.prog 32 #[.agg #[.int .i64 p_At, .slice p_Params_p p_Params_n p_Params_c, .string p_Payload, .bool p_Long]] (allocW (allocW u hole) hole) (fun e u1 => ∃ (q0 : Bool), e = .returned (.bool q0) ∧
 (((!q0) = true → R (.returned (.tuple #[.agg #[.int .i64 p_At, .slice p_Params_p p_Params_n p_Params_c, .string p_Payload, .bool p_Long], .slice none 0 0, .int .i64 1])) u1) ∧
 ((!q0) = false → Spec Tryd.prog 33 #[.slice p_Params_p p_Params_n p_Params_c] u1 (fun e u11 => ∃ (q1 : Option Addr) (q2 q3 : Nat), e = .returned (.slice q1 q2 q3) ∧
 ∃ (I_ : Option Addr → Nat → Nat → Int → Int → Option Addr → Nat →
 Nat → ByteArray → Bool → World → Prop) (M_ : Option Addr → Nat →
 Nat → Int → Int → Option Addr → Nat → Nat → ByteArray → Bool →
 World → Nat), ((Loc.mk 44 false ([.int .i64 0, .slice none 0 0, .string (ByteArray.mk #[]), .bool false])) = (Loc.mk 44 false ([.int .i64 0, .slice none 0 0, .string (ByteArray.mk #[]), .bool false])) ∧
 I_ none 0 0 0 p_At q1 q2 q3 p_Payload p_Long u11) ∧
 ∀ (l_p : Option Addr) (l_n l_c : Nat) (q4 : Int) (p_At1 : Int) (p_Params_p1 : Option Addr) (p_Params_n1 p_Params_c1 : Nat) (p_Payload1 : ByteArray) (p_Long1 : Bool), (Loc.mk 44 false ([.int .i64 0, .slice none 0 0, .string (ByteArray.mk #[]), .bool false])) = (Loc.mk 44 false ([.int .i64 0, .slice none 0 0, .string (ByteArray.mk #[]), .bool false])) ∧
 ∀ u12 : World, I_ l_p l_n l_c q4 p_At1 p_Params_p1 p_Params_n1 p_Params_c1 p_Payload1 p_Long1 u12 →
 (((decide (q4 < ((s.size : Nat) : Int))) = true → 0 ≤ q4 ∧ ∃ c : UInt8, s.data.toList[q4.toNat]? = some c ∧
 inK .i64 ((c.toNat : Nat) : Int) ∧ Spec Tryd.prog 34 #[.agg #[.int .i64 p_At1, .slice p_Params_p1 p_Params_n1 p_Params_c1, .string p_Payload1, .bool p_Long1], .int .i64 ((c.toNat : Nat) : Int)] (drewW (allocW u12 hole)) (fun e u13 => ∃ (q5 : Int) (q6 : Option Addr) (q7 q8 : Nat) (q9 : ByteArray) (qa : Bool) (qb qc : Int) (qd : Option Addr) (qe qf : Nat) (qg : ByteArray), e = .returned (.tuple #[.agg #[.int .i64 q5, .slice q6 q7 q8, .string q9, .bool qa], .agg #[.int .i64 qb, .int .i64 qc, .slice qd qe qf, .string qg]]) ∧
 (((!decide (qb = 0)) = true → ∃ old new : List Value, old.length = l_n * 4 ∧
 Gets (allocW u13 (.cells #[.int .i64 qb, .int .i64 qc, .slice qd qe qf, .string qg] 92)) l_p old ∧
 new.length = 1 * 4 ∧ Gets (allocW u13 (.cells #[.int .i64 qb, .int .i64 qc, .slice qd qe qf, .string qg] 92)) (some (Addr.mk u13.heap.size 0 none)) new ∧
 0 < 56 ∧ (2 * (l_n + 1) + 192) * 56 ≤ 140737488355328 ∧ okCells new True ∧
 (l_n + 1 ≤ l_c → WrS (allocW u13 (.cells #[.int .i64 qb, .int .i64 qc, .slice qd qe qf, .string qg] 92)) l_p (l_n * 4) (1 * 4)) ∧
 ∀ p cap u14, AppR (allocW u13 (.cells #[.int .i64 qb, .int .i64 qc, .slice qd qe qf, .string qg] 92)) 92 4 [.int .i64 0, .int .i64 0, .slice none 0 0, .string (ByteArray.mk #[])] l_p l_n l_c 1 old new p cap u14 →
 inK .i64 (q4 + 1) ∧ (Loc.mk 44 false ([.int .i64 0, .slice none 0 0, .string (ByteArray.mk #[]), .bool false])) = (Loc.mk 44 false ([.int .i64 0, .slice none 0 0, .string (ByteArray.mk #[]), .bool false])) ∧
 I_ p (l_n + 1) cap (q4 + 1) q5 q6 q7 q8 q9 qa u14 ∧
 (Loc.mk 44 false ([.int .i64 0, .slice none 0 0, .string (ByteArray.mk #[]), .bool false])) = (Loc.mk 44 false ([.int .i64 0, .slice none 0 0, .string (ByteArray.mk #[]), .bool false])) ∧
 M_ p (l_n + 1) cap (q4 + 1) q5 q6 q7 q8 q9 qa u14 < M_ l_p l_n l_c q4 p_At1 p_Params_p1 p_Params_n1 p_Params_c1 p_Payload1 p_Long1 u12) ∧
 ((!decide (qb = 0)) = false → inK .i64 (q4 + 1) ∧ (Loc.mk 44 false ([.int .i64 0, .slice none 0 0, .string (ByteArray.mk #[]), .bool false])) = (Loc.mk 44 false ([.int .i64 0, .slice none 0 0, .string (ByteArray.mk #[]), .bool false])) ∧
 I_ l_p l_n l_c (q4 + 1) q5 q6 q7 q8 q9 qa u13 ∧
 (Loc.mk 44 false ([.int .i64 0, .slice none 0 0, .string (ByteArray.mk #[]), .bool false])) = (Loc.mk 44 false ([.int .i64 0, .slice none 0 0, .string (ByteArray.mk #[]), .bool false])) ∧
 M_ l_p l_n l_c (q4 + 1) q5 q6 q7 q8 q9 qa u13 < M_ l_p l_n l_c q4 p_At1 p_Params_p1 p_Params_n1 p_Params_c1 p_Payload1 p_Long1 u12)))) ∧
 ((decide (q4 < ((s.size : Nat) : Int))) = false → R (.returned (.tuple #[.agg #[.int .i64 p_At1, .slice p_Params_p1 p_Params_n1 p_Params_c1, .string p_Payload1, .bool p_Long1], .slice l_p l_n l_c, .int .i64 0])) u12))))))
set_option maxRecDepth 100000 in
theorem vc_parse_Feed_eq (p_At : Int) (p_Params_p : Option Addr) (p_Params_n p_Params_c : Nat) (p_Payload : ByteArray) (p_Long : Bool) (s : ByteArray) (u : World) (R : Ending → World → Prop) : wFunc cx_parse_Feed Tryd.f18 [.agg #[.int .i64 p_At, .slice p_Params_p p_Params_n p_Params_c, .string p_Payload, .bool p_Long], .string s] u R = vc_parse_Feed p_At p_Params_p p_Params_n p_Params_c p_Payload p_Long s u R := by kernel_rfl
theorem vc_parse_Feed_spec (p_At : Int) (p_Params_p : Option Addr) (p_Params_n p_Params_c : Nat) (p_Payload : ByteArray) (p_Long : Bool) (s : ByteArray) {u : World} {R : Ending → World → Prop} (h : vc_parse_Feed p_At p_Params_p p_Params_n p_Params_c p_Payload p_Long s u R) : Spec Tryd.prog fn_parse_Feed #[.agg #[.int .i64 p_At, .slice p_Params_p p_Params_n p_Params_c, .string p_Payload, .bool p_Long], .string s] u R := func_spec (C := cx_parse_Feed) (fn := Tryd.f18) (args := [.agg #[.int .i64 p_At, .slice p_Params_p p_Params_n p_Params_c, .string p_Payload, .bool p_Long], .string s]) (ctxOk _ _ _ _ _) Tryd.func18 (vc_parse_Feed_eq p_At p_Params_p p_Params_n p_Params_c p_Payload p_Long s u R) h

/-- fenestra/parse.step -/
noncomputable def cx_parse_step : Ctx := ⟨Tryd.prog, tab, [], [], [], fns, [], []⟩
def vc_parse_step (p_At : Int) (p_Params_p : Option Addr) (p_Params_n p_Params_c : Nat) (p_Payload : ByteArray) (p_Long : Bool) (c : Int) (u : World) (R : Ending → World → Prop) : Prop :=
 (((decide (p_At = 0)) = true → (((decide (c = 27)) = true → R (.returned (.tuple #[.agg #[.int .i64 1, .slice p_Params_p p_Params_n p_Params_c, .string p_Payload, .bool p_Long], .agg #[.int .i64 0, .int .i64 0, .slice none 0 0, .string (ByteArray.mk #[])]])) (drewW (allocW (allocW (allocW (allocW u hole) hole) hole) hole))) ∧
 ((decide (c = 27)) = false → (((decide ((32 : Int) ≤ c)) = true →
 (((decide (c < 127)) = true → R (.returned (.tuple #[.agg #[.int .i64 p_At, .slice p_Params_p p_Params_n p_Params_c, .string p_Payload, .bool p_Long], .agg #[.int .i64 1, .int .i64 c, .slice none 0 0, .string (ByteArray.mk #[])]])) (allocW (allocW (allocW (allocW u hole) hole) hole) hole)) ∧
 ((decide (c < 127)) = false → (((decide ((8 : Int) ≤ c)) = true →
 (((decide (c ≤ 10)) = true → R (.returned (.tuple #[.agg #[.int .i64 p_At, .slice p_Params_p p_Params_n p_Params_c, .string p_Payload, .bool p_Long], .agg #[.int .i64 2, .int .i64 c, .slice none 0 0, .string (ByteArray.mk #[])]])) (allocW (allocW (allocW (allocW u hole) hole) hole) hole)) ∧
 ((decide (c ≤ 10)) = false → (((decide (c = 13)) = true → R (.returned (.tuple #[.agg #[.int .i64 p_At, .slice p_Params_p p_Params_n p_Params_c, .string p_Payload, .bool p_Long], .agg #[.int .i64 2, .int .i64 c, .slice none 0 0, .string (ByteArray.mk #[])]])) (allocW (allocW (allocW (allocW u hole) hole) hole) hole)) ∧
 ((decide (c = 13)) = false → R (.returned (.tuple #[.agg #[.int .i64 p_At, .slice p_Params_p p_Params_n p_Params_c, .string p_Payload, .bool p_Long], .agg #[.int .i64 0, .int .i64 0, .slice none 0 0, .string (ByteArray.mk #[])]])) (drewW (allocW (allocW (allocW (allocW u hole) hole) hole) hole))))))) ∧
 ((decide ((8 : Int) ≤ c)) = false → (((decide (c = 13)) = true →
 R (.returned (.tuple #[.agg #[.int .i64 p_At, .slice p_Params_p p_Params_n p_Params_c, .string p_Payload, .bool p_Long], .agg #[.int .i64 2, .int .i64 c, .slice none 0 0, .string (ByteArray.mk #[])]])) (allocW (allocW (allocW (allocW u hole) hole) hole) hole)) ∧
 ((decide (c = 13)) = false → R (.returned (.tuple #[.agg #[.int .i64 p_At, .slice p_Params_p p_Params_n p_Params_c, .string p_Payload, .bool p_Long], .agg #[.int .i64 0, .int .i64 0, .slice none 0 0, .string (ByteArray.mk #[])]])) (drewW (allocW (allocW (allocW (allocW u hole) hole) hole) hole))))))))) ∧
 ((decide ((32 : Int) ≤ c)) = false → (((decide ((8 : Int) ≤ c)) = true →
 (((decide (c ≤ 10)) = true → R (.returned (.tuple #[.agg #[.int .i64 p_At, .slice p_Params_p p_Params_n p_Params_c, .string p_Payload, .bool p_Long], .agg #[.int .i64 2, .int .i64 c, .slice none 0 0, .string (ByteArray.mk #[])]])) (allocW (allocW (allocW (allocW u hole) hole) hole) hole)) ∧
 ((decide (c ≤ 10)) = false → (((decide (c = 13)) = true → R (.returned (.tuple #[.agg #[.int .i64 p_At, .slice p_Params_p p_Params_n p_Params_c, .string p_Payload, .bool p_Long], .agg #[.int .i64 2, .int .i64 c, .slice none 0 0, .string (ByteArray.mk #[])]])) (allocW (allocW (allocW (allocW u hole) hole) hole) hole)) ∧
 ((decide (c = 13)) = false → R (.returned (.tuple #[.agg #[.int .i64 p_At, .slice p_Params_p p_Params_n p_Params_c, .string p_Payload, .bool p_Long], .agg #[.int .i64 0, .int .i64 0, .slice none 0 0, .string (ByteArray.mk #[])]])) (drewW (allocW (allocW (allocW (allocW u hole) hole) hole) hole))))))) ∧
 ((decide ((8 : Int) ≤ c)) = false → (((decide (c = 13)) = true →
 R (.returned (.tuple #[.agg #[.int .i64 p_At, .slice p_Params_p p_Params_n p_Params_c, .string p_Payload, .bool p_Long], .agg #[.int .i64 2, .int .i64 c, .slice none 0 0, .string (ByteArray.mk #[])]])) (allocW (allocW (allocW (allocW u hole) hole) hole) hole)) ∧
 ((decide (c = 13)) = false → R (.returned (.tuple #[.agg #[.int .i64 p_At, .slice p_Params_p p_Params_n p_Params_c, .string p_Payload, .bool p_Long], .agg #[.int .i64 0, .int .i64 0, .slice none 0 0, .string (ByteArray.mk #[])]])) (drewW (allocW (allocW (allocW (allocW u hole) hole) hole) hole))))))))))) ∧
 ((decide (p_At = 0)) = false → (((decide (p_At = 1)) = true → (((decide (c = 27)) = true →
 R (.returned (.tuple #[.agg #[.int .i64 1, .slice p_Params_p p_Params_n p_Params_c, .string p_Payload, .bool p_Long], .agg #[.int .i64 0, .int .i64 0, .slice none 0 0, .string (ByteArray.mk #[])]])) (drewW (allocW (allocW (allocW (allocW u hole) hole) hole) hole))) ∧
 ((decide (c = 27)) = false → (((decide (c = 91)) = true → R (.returned (.tuple #[.agg #[.int .i64 2, .slice (some (Addr.mk (allocW (allocW (allocW (allocW u hole) hole) hole) hole).heap.size 0 none)) 1 1, .string p_Payload, .bool p_Long], .agg #[.int .i64 0, .int .i64 0, .slice none 0 0, .string (ByteArray.mk #[])]])) (drewW (allocW (allocW (allocW (allocW (allocW u hole) hole) hole) hole) (.cells #[.int .i64 0] 3)))) ∧
 ((decide (c = 91)) = false → (((decide (c = 80)) = true → R (.returned (.tuple #[.agg #[.int .i64 3, .slice p_Params_p p_Params_n p_Params_c, .string p_Payload, .bool p_Long], .agg #[.int .i64 0, .int .i64 0, .slice none 0 0, .string (ByteArray.mk #[])]])) (drewW (allocW (allocW (allocW (allocW u hole) hole) hole) hole))) ∧
 ((decide (c = 80)) = false → (((decide (c = 99)) = true → R (.returned (.tuple #[.agg #[.int .i64 0, .slice p_Params_p p_Params_n p_Params_c, .string p_Payload, .bool p_Long], .agg #[.int .i64 5, .int .i64 0, .slice none 0 0, .string (ByteArray.mk #[])]])) (allocW (allocW (allocW (allocW u hole) hole) hole) hole)) ∧
 ((decide (c = 99)) = false → R (.returned (.tuple #[.agg #[.int .i64 0, .slice p_Params_p p_Params_n p_Params_c, .string p_Payload, .bool p_Long], .agg #[.int .i64 0, .int .i64 0, .slice none 0 0, .string (ByteArray.mk #[])]])) (drewW (allocW (allocW (allocW (allocW u hole) hole) hole) hole))))))))))) ∧
 ((decide (p_At = 1)) = false → (((decide (p_At = 2)) = true → Spec Tryd.prog 52 #[.agg #[.int .i64 p_At, .slice p_Params_p p_Params_n p_Params_c, .string p_Payload, .bool p_Long], .int .i64 c] (allocW (allocW (allocW (allocW u hole) hole) hole) hole) (fun e u1 => ∃ (q0 : Int) (q1 : Option Addr) (q2 q3 : Nat) (q4 : ByteArray) (q5 : Bool) (q6 q7 : Int) (q8 : Option Addr) (q9 qa : Nat) (qb : ByteArray), e = .returned (.tuple #[.agg #[.int .i64 q0, .slice q1 q2 q3, .string q4, .bool q5], .agg #[.int .i64 q6, .int .i64 q7, .slice q8 q9 qa, .string qb]]) ∧
 R (.returned (.tuple #[.agg #[.int .i64 q0, .slice q1 q2 q3, .string q4, .bool q5], .agg #[.int .i64 q6, .int .i64 q7, .slice q8 q9 qa, .string qb]])) u1)) ∧
 ((decide (p_At = 2)) = false → (((decide (p_At = 3)) = true → (((decide (c = 27)) = true →
 R (.returned (.tuple #[.agg #[.int .i64 4, .slice p_Params_p p_Params_n p_Params_c, .string p_Payload, .bool p_Long], .agg #[.int .i64 0, .int .i64 0, .slice none 0 0, .string (ByteArray.mk #[])]])) (drewW (allocW (allocW (allocW (allocW u hole) hole) hole) hole))) ∧
 ((decide (c = 27)) = false → (((decide (c = 24)) = true → R (.returned (.tuple #[.agg #[.int .i64 0, .slice none 0 0, .string (ByteArray.mk #[]), .bool false], .agg #[.int .i64 0, .int .i64 0, .slice none 0 0, .string (ByteArray.mk #[])]])) (drewW (allocW (allocW (allocW (allocW u hole) hole) hole) hole))) ∧
 ((decide (c = 24)) = false → (((decide ((32 : Int) ≤ c)) = true →
 (((decide (c < 127)) = true → (((decide ((48 : Int) ≤ ((p_Payload.size : Nat) : Int))) = true →
 R (.returned (.tuple #[.agg #[.int .i64 p_At, .slice p_Params_p p_Params_n p_Params_c, .string p_Payload, .bool true], .agg #[.int .i64 0, .int .i64 0, .slice none 0 0, .string (ByteArray.mk #[])]])) (drewW (allocW (allocW (allocW (allocW u hole) hole) hole) hole))) ∧
 ((decide ((48 : Int) ≤ ((p_Payload.size : Nat) : Int))) = false →
 (((decide ((32 : Int) ≤ c)) = true → (((decide (c < 127)) = true →
 inK .u8 c ∧ ∃ s : ByteArray, s.size = 1 ∧ Gets (allocW (allocW (allocW (allocW (allocW u hole) hole) hole) hole) (.cells #[.int .u8 c] 5)) (some (Addr.mk (allocW (allocW (allocW (allocW u hole) hole) hole) hole).heap.size 0 none)) (bytesV s) ∧
 ((p_Payload.size + s.size : Nat) : Int) ≤ 9223372036854775807 ∧
 R (.returned (.tuple #[.agg #[.int .i64 p_At, .slice p_Params_p p_Params_n p_Params_c, .string (p_Payload ++ s), .bool p_Long], .agg #[.int .i64 0, .int .i64 0, .slice none 0 0, .string (ByteArray.mk #[])]])) (drewW (allocW (allocW (allocW (allocW (allocW u hole) hole) hole) hole) (.cells #[.int .u8 c] 5)))) ∧
 ((decide (c < 127)) = false → R (.returned (.tuple #[.agg #[.int .i64 p_At, .slice p_Params_p p_Params_n p_Params_c, .string p_Payload, .bool p_Long], .agg #[.int .i64 0, .int .i64 0, .slice none 0 0, .string (ByteArray.mk #[])]])) (drewW (allocW (allocW (allocW (allocW u hole) hole) hole) hole))))) ∧
 ((decide ((32 : Int) ≤ c)) = false → R (.returned (.tuple #[.agg #[.int .i64 p_At, .slice p_Params_p p_Params_n p_Params_c, .string p_Payload, .bool p_Long], .agg #[.int .i64 0, .int .i64 0, .slice none 0 0, .string (ByteArray.mk #[])]])) (drewW (allocW (allocW (allocW (allocW u hole) hole) hole) hole))))))) ∧
 ((decide (c < 127)) = false → (((decide ((32 : Int) ≤ c)) = true →
 (((decide (c < 127)) = true → inK .u8 c ∧ ∃ s1 : ByteArray, s1.size = 1 ∧
 Gets (allocW (allocW (allocW (allocW (allocW u hole) hole) hole) hole) (.cells #[.int .u8 c] 5)) (some (Addr.mk (allocW (allocW (allocW (allocW u hole) hole) hole) hole).heap.size 0 none)) (bytesV s1) ∧
 ((p_Payload.size + s1.size : Nat) : Int) ≤ 9223372036854775807 ∧
 R (.returned (.tuple #[.agg #[.int .i64 p_At, .slice p_Params_p p_Params_n p_Params_c, .string (p_Payload ++ s1), .bool p_Long], .agg #[.int .i64 0, .int .i64 0, .slice none 0 0, .string (ByteArray.mk #[])]])) (drewW (allocW (allocW (allocW (allocW (allocW u hole) hole) hole) hole) (.cells #[.int .u8 c] 5)))) ∧
 ((decide (c < 127)) = false → R (.returned (.tuple #[.agg #[.int .i64 p_At, .slice p_Params_p p_Params_n p_Params_c, .string p_Payload, .bool p_Long], .agg #[.int .i64 0, .int .i64 0, .slice none 0 0, .string (ByteArray.mk #[])]])) (drewW (allocW (allocW (allocW (allocW u hole) hole) hole) hole))))) ∧
 ((decide ((32 : Int) ≤ c)) = false → R (.returned (.tuple #[.agg #[.int .i64 p_At, .slice p_Params_p p_Params_n p_Params_c, .string p_Payload, .bool p_Long], .agg #[.int .i64 0, .int .i64 0, .slice none 0 0, .string (ByteArray.mk #[])]])) (drewW (allocW (allocW (allocW (allocW u hole) hole) hole) hole))))))) ∧
 ((decide ((32 : Int) ≤ c)) = false → (((decide ((32 : Int) ≤ c)) = true →
 (((decide (c < 127)) = true → inK .u8 c ∧ ∃ s2 : ByteArray, s2.size = 1 ∧
 Gets (allocW (allocW (allocW (allocW (allocW u hole) hole) hole) hole) (.cells #[.int .u8 c] 5)) (some (Addr.mk (allocW (allocW (allocW (allocW u hole) hole) hole) hole).heap.size 0 none)) (bytesV s2) ∧
 ((p_Payload.size + s2.size : Nat) : Int) ≤ 9223372036854775807 ∧
 R (.returned (.tuple #[.agg #[.int .i64 p_At, .slice p_Params_p p_Params_n p_Params_c, .string (p_Payload ++ s2), .bool p_Long], .agg #[.int .i64 0, .int .i64 0, .slice none 0 0, .string (ByteArray.mk #[])]])) (drewW (allocW (allocW (allocW (allocW (allocW u hole) hole) hole) hole) (.cells #[.int .u8 c] 5)))) ∧
 ((decide (c < 127)) = false → R (.returned (.tuple #[.agg #[.int .i64 p_At, .slice p_Params_p p_Params_n p_Params_c, .string p_Payload, .bool p_Long], .agg #[.int .i64 0, .int .i64 0, .slice none 0 0, .string (ByteArray.mk #[])]])) (drewW (allocW (allocW (allocW (allocW u hole) hole) hole) hole))))) ∧
 ((decide ((32 : Int) ≤ c)) = false → R (.returned (.tuple #[.agg #[.int .i64 p_At, .slice p_Params_p p_Params_n p_Params_c, .string p_Payload, .bool p_Long], .agg #[.int .i64 0, .int .i64 0, .slice none 0 0, .string (ByteArray.mk #[])]])) (drewW (allocW (allocW (allocW (allocW u hole) hole) hole) hole))))))))))) ∧
 ((decide (p_At = 3)) = false → (((decide (p_At = 4)) = true → (((decide (c = 92)) = true →
 (((!p_Long) = true → R (.returned (.tuple #[.agg #[.int .i64 0, .slice none 0 0, .string (ByteArray.mk #[]), .bool false], .agg #[.int .i64 4, .int .i64 0, .slice none 0 0, .string p_Payload]])) (drewW (allocW (allocW (allocW (allocW u hole) hole) hole) hole))) ∧
 ((!p_Long) = false → R (.returned (.tuple #[.agg #[.int .i64 0, .slice none 0 0, .string (ByteArray.mk #[]), .bool false], .agg #[.int .i64 0, .int .i64 0, .slice none 0 0, .string (ByteArray.mk #[])]])) (drewW (drewW (allocW (allocW (allocW (allocW u hole) hole) hole) hole)))))) ∧
 ((decide (c = 92)) = false → R (.returned (.tuple #[.agg #[.int .i64 0, .slice none 0 0, .string (ByteArray.mk #[]), .bool false], .agg #[.int .i64 0, .int .i64 0, .slice none 0 0, .string (ByteArray.mk #[])]])) (drewW (drewW (allocW (allocW (allocW (allocW u hole) hole) hole) hole)))))) ∧
 ((decide (p_At = 4)) = false → R (.returned (.tuple #[.agg #[.int .i64 p_At, .slice p_Params_p p_Params_n p_Params_c, .string p_Payload, .bool p_Long], .agg #[.int .i64 0, .int .i64 0, .slice none 0 0, .string (ByteArray.mk #[])]])) (drewW (allocW (allocW (allocW (allocW u hole) hole) hole) hole))))))))))))
set_option maxRecDepth 100000 in
theorem vc_parse_step_eq (p_At : Int) (p_Params_p : Option Addr) (p_Params_n p_Params_c : Nat) (p_Payload : ByteArray) (p_Long : Bool) (c : Int) (u : World) (R : Ending → World → Prop) : wFunc cx_parse_step Tryd.f34 [.agg #[.int .i64 p_At, .slice p_Params_p p_Params_n p_Params_c, .string p_Payload, .bool p_Long], .int .i64 c] u R = vc_parse_step p_At p_Params_p p_Params_n p_Params_c p_Payload p_Long c u R := by kernel_rfl
theorem vc_parse_step_spec (p_At : Int) (p_Params_p : Option Addr) (p_Params_n p_Params_c : Nat) (p_Payload : ByteArray) (p_Long : Bool) (c : Int) {u : World} {R : Ending → World → Prop} (h : vc_parse_step p_At p_Params_p p_Params_n p_Params_c p_Payload p_Long c u R) : Spec Tryd.prog fn_parse_step #[.agg #[.int .i64 p_At, .slice p_Params_p p_Params_n p_Params_c, .string p_Payload, .bool p_Long], .int .i64 c] u R := func_spec (C := cx_parse_step) (fn := Tryd.f34) (args := [.agg #[.int .i64 p_At, .slice p_Params_p p_Params_n p_Params_c, .string p_Payload, .bool p_Long], .int .i64 c]) (ctxOk _ _ _ _ _) Tryd.func34 (vc_parse_step_eq p_At p_Params_p p_Params_n p_Params_c p_Payload p_Long c u R) h

/-- fenestra/parse.command -/
noncomputable def cx_parse_command : Ctx := ⟨Tryd.prog, tab, [], [], [], fns, [], []⟩
def vc_parse_command (p_At : Int) (p_Params_p : Option Addr) (p_Params_n p_Params_c : Nat) (p_Payload : ByteArray) (p_Long : Bool) (c : Int) (u : World) (R : Ending → World → Prop) : Prop :=
 inK .i64 (((p_Params_n : Nat) : Int) - 1) ∧ (((decide ((48 : Int) ≤ c)) = true →
 (((decide (c ≤ 57)) = true → ∃ b o, p_Params_p = some ⟨b, o, none⟩ ∧
 0 ≤ (((p_Params_n : Nat) : Int) - 1) ∧ (((p_Params_n : Nat) : Int) - 1) < ((p_Params_n : Nat) : Int) ∧
 ∃ (q0 : Int), 1 = szN 1 ∧ Rd (drewW (allocW (allocW (allocW u hole) hole) hole)) b (o + (((p_Params_n : Nat) : Int) - 1).toNat * 1) ([.int .i64 q0]) ∧
 inK .i64 (10 * q0) ∧ inK .i64 ((10 * q0) + c) ∧ inK .i64 (((10 * q0) + c) - 48) ∧
 ∃ b1 o1, p_Params_p = some ⟨b1, o1, none⟩ ∧ 0 ≤ (((p_Params_n : Nat) : Int) - 1) ∧
 (((p_Params_n : Nat) : Int) - 1) < ((p_Params_n : Nat) : Int) ∧
 1 = szN 1 ∧
 Wr (drewW (allocW (allocW (allocW u hole) hole) hole)) b1 (o1 + (((p_Params_n : Nat) : Int) - 1).toNat * 1) 1 ∧
 R (.returned (.tuple #[.agg #[.int .i64 p_At, .slice p_Params_p p_Params_n p_Params_c, .string p_Payload, .bool p_Long], .agg #[.int .i64 0, .int .i64 0, .slice none 0 0, .string (ByteArray.mk #[])]])) (putCells (drewW (allocW (allocW (allocW u hole) hole) hole)) b1 (o1 + (((p_Params_n : Nat) : Int) - 1).toNat * 1) ([.int .i64 (min (((10 * q0) + c) - 48) 999)]))) ∧
 ((decide (c ≤ 57)) = false → (((decide (c = 59)) = true → (((decide (((p_Params_n : Nat) : Int) < 4)) = true →
 ∃ old new : List Value, old.length = p_Params_n * 1 ∧ Gets (allocW (allocW (allocW (allocW u hole) hole) hole) (.cells #[.int .i64 0] 3)) p_Params_p old ∧
 new.length = 1 * 1 ∧ Gets (allocW (allocW (allocW (allocW u hole) hole) hole) (.cells #[.int .i64 0] 3)) (some (Addr.mk (allocW (allocW (allocW u hole) hole) hole).heap.size 0 none)) new ∧
 0 < 8 ∧ (2 * (p_Params_n + 1) + 192) * 8 ≤ 140737488355328 ∧ okCells new True ∧
 (p_Params_n + 1 ≤ p_Params_c → WrS (allocW (allocW (allocW (allocW u hole) hole) hole) (.cells #[.int .i64 0] 3)) p_Params_p (p_Params_n * 1) (1 * 1)) ∧
 ∀ p cap u1, AppR (allocW (allocW (allocW (allocW u hole) hole) hole) (.cells #[.int .i64 0] 3)) 3 1 [.int .i64 0] p_Params_p p_Params_n p_Params_c 1 old new p cap u1 →
 R (.returned (.tuple #[.agg #[.int .i64 p_At, .slice p (p_Params_n + 1) cap, .string p_Payload, .bool p_Long], .agg #[.int .i64 0, .int .i64 0, .slice none 0 0, .string (ByteArray.mk #[])]])) u1) ∧
 ((decide (((p_Params_n : Nat) : Int) < 4)) = false → (((decide ((64 : Int) ≤ c)) = true →
 (((decide (c < 127)) = true → R (.returned (.tuple #[.agg #[.int .i64 0, .slice none 0 0, .string (ByteArray.mk #[]), .bool false], .agg #[.int .i64 3, .int .i64 c, .slice p_Params_p p_Params_n p_Params_c, .string (ByteArray.mk #[])]])) (drewW (allocW (allocW (allocW u hole) hole) hole))) ∧
 ((decide (c < 127)) = false → (((decide (c = 27)) = true → R (.returned (.tuple #[.agg #[.int .i64 1, .slice none 0 0, .string (ByteArray.mk #[]), .bool false], .agg #[.int .i64 0, .int .i64 0, .slice none 0 0, .string (ByteArray.mk #[])]])) (allocW (allocW (allocW u hole) hole) hole)) ∧
 ((decide (c = 27)) = false → R (.returned (.tuple #[.agg #[.int .i64 0, .slice none 0 0, .string (ByteArray.mk #[]), .bool false], .agg #[.int .i64 0, .int .i64 0, .slice none 0 0, .string (ByteArray.mk #[])]])) (allocW (allocW (allocW u hole) hole) hole)))))) ∧
 ((decide ((64 : Int) ≤ c)) = false → (((decide (c = 27)) = true →
 R (.returned (.tuple #[.agg #[.int .i64 1, .slice none 0 0, .string (ByteArray.mk #[]), .bool false], .agg #[.int .i64 0, .int .i64 0, .slice none 0 0, .string (ByteArray.mk #[])]])) (allocW (allocW (allocW u hole) hole) hole)) ∧
 ((decide (c = 27)) = false → R (.returned (.tuple #[.agg #[.int .i64 0, .slice none 0 0, .string (ByteArray.mk #[]), .bool false], .agg #[.int .i64 0, .int .i64 0, .slice none 0 0, .string (ByteArray.mk #[])]])) (allocW (allocW (allocW u hole) hole) hole)))))))) ∧
 ((decide (c = 59)) = false → (((decide ((64 : Int) ≤ c)) = true →
 (((decide (c < 127)) = true → R (.returned (.tuple #[.agg #[.int .i64 0, .slice none 0 0, .string (ByteArray.mk #[]), .bool false], .agg #[.int .i64 3, .int .i64 c, .slice p_Params_p p_Params_n p_Params_c, .string (ByteArray.mk #[])]])) (drewW (allocW (allocW (allocW u hole) hole) hole))) ∧
 ((decide (c < 127)) = false → (((decide (c = 27)) = true → R (.returned (.tuple #[.agg #[.int .i64 1, .slice none 0 0, .string (ByteArray.mk #[]), .bool false], .agg #[.int .i64 0, .int .i64 0, .slice none 0 0, .string (ByteArray.mk #[])]])) (allocW (allocW (allocW u hole) hole) hole)) ∧
 ((decide (c = 27)) = false → R (.returned (.tuple #[.agg #[.int .i64 0, .slice none 0 0, .string (ByteArray.mk #[]), .bool false], .agg #[.int .i64 0, .int .i64 0, .slice none 0 0, .string (ByteArray.mk #[])]])) (allocW (allocW (allocW u hole) hole) hole)))))) ∧
 ((decide ((64 : Int) ≤ c)) = false → (((decide (c = 27)) = true →
 R (.returned (.tuple #[.agg #[.int .i64 1, .slice none 0 0, .string (ByteArray.mk #[]), .bool false], .agg #[.int .i64 0, .int .i64 0, .slice none 0 0, .string (ByteArray.mk #[])]])) (allocW (allocW (allocW u hole) hole) hole)) ∧
 ((decide (c = 27)) = false → R (.returned (.tuple #[.agg #[.int .i64 0, .slice none 0 0, .string (ByteArray.mk #[]), .bool false], .agg #[.int .i64 0, .int .i64 0, .slice none 0 0, .string (ByteArray.mk #[])]])) (allocW (allocW (allocW u hole) hole) hole)))))))))) ∧
 ((decide ((48 : Int) ≤ c)) = false → (((decide (c = 59)) = true →
 (((decide (((p_Params_n : Nat) : Int) < 4)) = true → ∃ old1 new1 : List Value, old1.length = p_Params_n * 1 ∧
 Gets (allocW (allocW (allocW (allocW u hole) hole) hole) (.cells #[.int .i64 0] 3)) p_Params_p old1 ∧
 new1.length = 1 * 1 ∧ Gets (allocW (allocW (allocW (allocW u hole) hole) hole) (.cells #[.int .i64 0] 3)) (some (Addr.mk (allocW (allocW (allocW u hole) hole) hole).heap.size 0 none)) new1 ∧
 0 < 8 ∧ (2 * (p_Params_n + 1) + 192) * 8 ≤ 140737488355328 ∧ okCells new1 True ∧
 (p_Params_n + 1 ≤ p_Params_c → WrS (allocW (allocW (allocW (allocW u hole) hole) hole) (.cells #[.int .i64 0] 3)) p_Params_p (p_Params_n * 1) (1 * 1)) ∧
 ∀ p1 cap1 u11, AppR (allocW (allocW (allocW (allocW u hole) hole) hole) (.cells #[.int .i64 0] 3)) 3 1 [.int .i64 0] p_Params_p p_Params_n p_Params_c 1 old1 new1 p1 cap1 u11 →
 R (.returned (.tuple #[.agg #[.int .i64 p_At, .slice p1 (p_Params_n + 1) cap1, .string p_Payload, .bool p_Long], .agg #[.int .i64 0, .int .i64 0, .slice none 0 0, .string (ByteArray.mk #[])]])) u11) ∧
 ((decide (((p_Params_n : Nat) : Int) < 4)) = false → (((decide ((64 : Int) ≤ c)) = true →
 (((decide (c < 127)) = true → R (.returned (.tuple #[.agg #[.int .i64 0, .slice none 0 0, .string (ByteArray.mk #[]), .bool false], .agg #[.int .i64 3, .int .i64 c, .slice p_Params_p p_Params_n p_Params_c, .string (ByteArray.mk #[])]])) (drewW (allocW (allocW (allocW u hole) hole) hole))) ∧
 ((decide (c < 127)) = false → (((decide (c = 27)) = true → R (.returned (.tuple #[.agg #[.int .i64 1, .slice none 0 0, .string (ByteArray.mk #[]), .bool false], .agg #[.int .i64 0, .int .i64 0, .slice none 0 0, .string (ByteArray.mk #[])]])) (allocW (allocW (allocW u hole) hole) hole)) ∧
 ((decide (c = 27)) = false → R (.returned (.tuple #[.agg #[.int .i64 0, .slice none 0 0, .string (ByteArray.mk #[]), .bool false], .agg #[.int .i64 0, .int .i64 0, .slice none 0 0, .string (ByteArray.mk #[])]])) (allocW (allocW (allocW u hole) hole) hole)))))) ∧
 ((decide ((64 : Int) ≤ c)) = false → (((decide (c = 27)) = true →
 R (.returned (.tuple #[.agg #[.int .i64 1, .slice none 0 0, .string (ByteArray.mk #[]), .bool false], .agg #[.int .i64 0, .int .i64 0, .slice none 0 0, .string (ByteArray.mk #[])]])) (allocW (allocW (allocW u hole) hole) hole)) ∧
 ((decide (c = 27)) = false → R (.returned (.tuple #[.agg #[.int .i64 0, .slice none 0 0, .string (ByteArray.mk #[]), .bool false], .agg #[.int .i64 0, .int .i64 0, .slice none 0 0, .string (ByteArray.mk #[])]])) (allocW (allocW (allocW u hole) hole) hole)))))))) ∧
 ((decide (c = 59)) = false → (((decide ((64 : Int) ≤ c)) = true →
 (((decide (c < 127)) = true → R (.returned (.tuple #[.agg #[.int .i64 0, .slice none 0 0, .string (ByteArray.mk #[]), .bool false], .agg #[.int .i64 3, .int .i64 c, .slice p_Params_p p_Params_n p_Params_c, .string (ByteArray.mk #[])]])) (drewW (allocW (allocW (allocW u hole) hole) hole))) ∧
 ((decide (c < 127)) = false → (((decide (c = 27)) = true → R (.returned (.tuple #[.agg #[.int .i64 1, .slice none 0 0, .string (ByteArray.mk #[]), .bool false], .agg #[.int .i64 0, .int .i64 0, .slice none 0 0, .string (ByteArray.mk #[])]])) (allocW (allocW (allocW u hole) hole) hole)) ∧
 ((decide (c = 27)) = false → R (.returned (.tuple #[.agg #[.int .i64 0, .slice none 0 0, .string (ByteArray.mk #[]), .bool false], .agg #[.int .i64 0, .int .i64 0, .slice none 0 0, .string (ByteArray.mk #[])]])) (allocW (allocW (allocW u hole) hole) hole)))))) ∧
 ((decide ((64 : Int) ≤ c)) = false → (((decide (c = 27)) = true →
 R (.returned (.tuple #[.agg #[.int .i64 1, .slice none 0 0, .string (ByteArray.mk #[]), .bool false], .agg #[.int .i64 0, .int .i64 0, .slice none 0 0, .string (ByteArray.mk #[])]])) (allocW (allocW (allocW u hole) hole) hole)) ∧
 ((decide (c = 27)) = false → R (.returned (.tuple #[.agg #[.int .i64 0, .slice none 0 0, .string (ByteArray.mk #[]), .bool false], .agg #[.int .i64 0, .int .i64 0, .slice none 0 0, .string (ByteArray.mk #[])]])) (allocW (allocW (allocW u hole) hole) hole)))))))))
set_option maxRecDepth 100000 in
theorem vc_parse_command_eq (p_At : Int) (p_Params_p : Option Addr) (p_Params_n p_Params_c : Nat) (p_Payload : ByteArray) (p_Long : Bool) (c : Int) (u : World) (R : Ending → World → Prop) : wFunc cx_parse_command Tryd.f52 [.agg #[.int .i64 p_At, .slice p_Params_p p_Params_n p_Params_c, .string p_Payload, .bool p_Long], .int .i64 c] u R = vc_parse_command p_At p_Params_p p_Params_n p_Params_c p_Payload p_Long c u R := by kernel_rfl
theorem vc_parse_command_spec (p_At : Int) (p_Params_p : Option Addr) (p_Params_n p_Params_c : Nat) (p_Payload : ByteArray) (p_Long : Bool) (c : Int) {u : World} {R : Ending → World → Prop} (h : vc_parse_command p_At p_Params_p p_Params_n p_Params_c p_Payload p_Long c u R) : Spec Tryd.prog fn_parse_command #[.agg #[.int .i64 p_At, .slice p_Params_p p_Params_n p_Params_c, .string p_Payload, .bool p_Long], .int .i64 c] u R := func_spec (C := cx_parse_command) (fn := Tryd.f52) (args := [.agg #[.int .i64 p_At, .slice p_Params_p p_Params_n p_Params_c, .string p_Payload, .bool p_Long], .int .i64 c]) (ctxOk _ _ _ _ _) Tryd.func52 (vc_parse_command_eq p_At p_Params_p p_Params_n p_Params_c p_Payload p_Long c u R) h

end Go.Proofs.YtkmmphkjmamckabDoor

