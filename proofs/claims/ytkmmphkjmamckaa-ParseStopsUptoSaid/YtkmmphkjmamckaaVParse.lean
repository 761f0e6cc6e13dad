import Derived.Test.YtkmmphkjmamckaaCtx
namespace Go.Proofs.Ytkmmphkjmamckaa
open Go
set_option linter.all false

/-- fenestra/parse.Good -/
noncomputable def cx_parse_Good : Ctx := ⟨Try.prog, tab, [], [], [], fns, [(4, ⟨[.keep, .keep, .junk, .keep, .junk, .keep, .keep, .keep, .keep, .keep, .keep, .keep, .keep, .keep, .keep, .keep, .keep, .keep, .keep, .keep, .keep, .keep, .keep, .keep, .keep, .keep, .keep, .keep, .keep, .cell (.int .i64), .junk, .junk, .junk, .junk, .junk, .junk, .junk, .junk, .junk, .junk, .keep, .keep, .keep, .keep, .keep, .keep, .keep, .keep, .keep, .keep, .keep, .keep, .keep, .keep, .keep, .keep, .keep, .keep, .keep, .keep, .keep, .keep, .keep, .keep, .keep, .keep, .keep, .keep, .keep], [.keep]⟩)], []⟩
def vc_parse_Good (p_At : Int) (p_Params_p : Option Addr) (p_Params_n p_Params_c : Nat) (p_Payload : ByteArray) (p_Long : Bool) (u : World) (R : Ending → World → Prop) : Prop :=
    (((decide (p_At < 0)) = true → R (.returned (.bool false)) (allocW u hole)) ∧
          ((decide (p_At < 0)) = false → (((decide ((4 : Int) < p_At)) = true →
          R (.returned (.bool false)) (allocW u hole)) ∧ ((decide ((4 : Int) < p_At)) = false →
            (((decide ((4 : Int) < ((p_Params_n : Nat) : Int))) = true → R (.returned (.bool false)) (allocW u hole)) ∧
                  ((decide ((4 : Int) < ((p_Params_n : Nat) : Int))) = false → (((decide ((48 : Int) < ((p_Payload.size : Nat) : Int))) = true →
                  R (.returned (.bool false)) (allocW u hole)) ∧ ((decide ((48 : Int) < ((p_Payload.size : Nat) : Int))) = false →
                    ∃ (I_ : Int → World → Prop) (M_ : Int → World → Nat), ((Loc.mk 25 false ([.int .i64 p_At, .slice p_Params_p p_Params_n p_Params_c, .string p_Payload, .bool p_Long])) = (Loc.mk 25 false ([.int .i64 p_At, .slice p_Params_p p_Params_n p_Params_c, .string p_Payload, .bool p_Long])) ∧
                  I_ 0 (allocW u hole)) ∧ ∀ (x29 : Int), (Loc.mk 25 false ([.int .i64 p_At, .slice p_Params_p p_Params_n p_Params_c, .string p_Payload, .bool p_Long])) = (Loc.mk 25 false ([.int .i64 p_At, .slice p_Params_p p_Params_n p_Params_c, .string p_Payload, .bool p_Long])) ∧
                      ∀ u1 : World, I_ x29 u1 → (((decide (x29 < ((p_Params_n : Nat) : Int))) = true →
                      ∃ b o, p_Params_p = some ⟨b, o, none⟩ ∧ 0 ≤ x29 ∧ x29 < ((p_Params_n : Nat) : Int) ∧
                      ∃ (x32 : Int), 1 = ([.int .i64 x32] : List Value).length ∧ Rd u1 b (o + x29.toNat * 1) ([.int .i64 x32]) ∧
                        (((decide (x32 < 0)) = true → R (.returned (.bool false)) u1) ∧
                              ((decide (x32 < 0)) = false → (((decide ((999 : Int) < x32)) = true →
                              R (.returned (.bool false)) u1) ∧ ((decide ((999 : Int) < x32)) = false →
                              inK .i64 (x29 + 1) ∧ (Loc.mk 25 false ([.int .i64 p_At, .slice p_Params_p p_Params_n p_Params_c, .string p_Payload, .bool p_Long])) = (Loc.mk 25 false ([.int .i64 p_At, .slice p_Params_p p_Params_n p_Params_c, .string p_Payload, .bool p_Long])) ∧
                              I_ (x29 + 1) u1 ∧ (Loc.mk 25 false ([.int .i64 p_At, .slice p_Params_p p_Params_n p_Params_c, .string p_Payload, .bool p_Long])) = (Loc.mk 25 false ([.int .i64 p_At, .slice p_Params_p p_Params_n p_Params_c, .string p_Payload, .bool p_Long])) ∧
                      M_ (x29 + 1) u1 < M_ x29 u1))))) ∧ ((decide (x29 < ((p_Params_n : Nat) : Int))) = false →
                              (((decide (p_At = 3)) = true → ((((decide (p_At = 2)) == (decide ((0 : Int) < ((p_Params_n : Nat) : Int)))) = true →
                              R (.returned (.bool true)) u1) ∧ (((decide (p_At = 2)) == (decide ((0 : Int) < ((p_Params_n : Nat) : Int)))) = false →
                          R (.returned (.bool false)) u1))) ∧ ((decide (p_At = 3)) = false →
                              ((((decide (p_At = 2)) == (decide ((0 : Int) < ((p_Params_n : Nat) : Int)))) = true →
                                (((decide (p_At = 4)) = true → R (.returned (.bool true)) u1) ∧
                                      ((decide (p_At = 4)) = false → (((decide (p_Payload.data.toList = (ByteArray.mk #[]).data.toList)) = true →
                                      R (.returned (.bool (!p_Long))) u1) ∧ ((decide (p_Payload.data.toList = (ByteArray.mk #[]).data.toList)) = false →
                              R (.returned (.bool false)) u1))))) ∧ (((decide (p_At = 2)) == (decide ((0 : Int) < ((p_Params_n : Nat) : Int)))) = false →
  R (.returned (.bool false)) u1))))))))))))))
set_option maxRecDepth 100000 in
theorem vc_parse_Good_eq (p_At : Int) (p_Params_p : Option Addr) (p_Params_n p_Params_c : Nat) (p_Payload : ByteArray) (p_Long : Bool) (u : World) (R : Ending → World → Prop) : wFunc cx_parse_Good Try.f19 [.agg #[.int .i64 p_At, .slice p_Params_p p_Params_n p_Params_c, .string p_Payload, .bool p_Long]] u R = vc_parse_Good p_At p_Params_p p_Params_n p_Params_c p_Payload p_Long u R := by kernel_rfl
theorem vc_parse_Good_spec (p_At : Int) (p_Params_p : Option Addr) (p_Params_n p_Params_c : Nat) (p_Payload : ByteArray) (p_Long : Bool) {u : World} {R : Ending → World → Prop} (h : vc_parse_Good p_At p_Params_p p_Params_n p_Params_c p_Payload p_Long u R) : Spec Try.prog fn_parse_Good #[.agg #[.int .i64 p_At, .slice p_Params_p p_Params_n p_Params_c, .string p_Payload, .bool p_Long]] u R := func_spec (C := cx_parse_Good) (fn := Try.f19) (args := [.agg #[.int .i64 p_At, .slice p_Params_p p_Params_n p_Params_c, .string p_Payload, .bool p_Long]]) (ctxOk _ _ _ _ _) Try.func19 (vc_parse_Good_eq p_At p_Params_p p_Params_n p_Params_c p_Payload p_Long u R) h

/-- fenestra/parse.Feed -/
noncomputable def cx_parse_Feed : Ctx := ⟨Try.prog, tab, [], [], [], fns, [(6, ⟨[.keep, .keep, .keep, .keep, .keep, .keep, .keep, .cell .slice, .junk, .junk, .keep, .keep, .keep, .keep, .keep, .keep, .keep, .keep, .keep, .keep, .cell (.int .i64), .junk, .junk, .junk, .junk, .junk, .junk, .junk, .junk, .junk, .junk, .junk, .junk, .junk, .junk, .junk, .junk, .junk, .junk, .junk, .keep, .keep], [.cells [.int .i64, .slice, .str, .bool], .keep]⟩)], []⟩
def vc_parse_Feed (p_At : Int) (p_Params_p : Option Addr) (p_Params_n p_Params_c : Nat) (p_Payload : ByteArray) (p_Long : Bool) (s : ByteArray) (u : World) (R : Ending → World → Prop) : Prop :=
    Spec Try.prog 19 #[.agg #[.int .i64 p_At, .slice p_Params_p p_Params_n p_Params_c, .string p_Payload, .bool p_Long]] (allocW (allocW u hole) hole) (fun e u1 => ∃ (x11 : Bool), e = .returned (.bool x11) ∧
      (((!x11) = true → R (.returned (.tuple #[.agg #[.int .i64 p_At, .slice p_Params_p p_Params_n p_Params_c, .string p_Payload, .bool p_Long], .slice none 0 0, .int .i64 1])) u1) ∧
          ((!x11) = false → Spec Try.prog 43 #[.slice p_Params_p p_Params_n p_Params_c] u1 (fun e u11 => ∃ (x16q_p : Option Addr) (x16q_n x16q_c : Nat), e = .returned (.slice x16q_p x16q_n x16q_c) ∧
            ∃ (I_ : Option Addr → Nat → Nat → Int → Int → Option Addr → Nat →
            Nat → ByteArray → Bool → World → Prop) (M_ : Option Addr → Nat →
            Nat → Int → Int → Option Addr → Nat → Nat → ByteArray → Bool →
            World → Nat), ((Loc.mk 25 false ([.int .i64 0, .slice none 0 0, .string (ByteArray.mk #[]), .bool false])) = (Loc.mk 25 false ([.int .i64 0, .slice none 0 0, .string (ByteArray.mk #[]), .bool false])) ∧
          I_ none 0 0 0 p_At x16q_p x16q_n x16q_c p_Payload p_Long u11) ∧
          ∀ (l_p : Option Addr) (l_n l_c : Nat) (x20 : Int) (p_At1 : Int) (p_Params_p1 : Option Addr) (p_Params_n1 p_Params_c1 : Nat) (p_Payload1 : ByteArray) (p_Long1 : Bool), (Loc.mk 25 false ([.int .i64 0, .slice none 0 0, .string (ByteArray.mk #[]), .bool false])) = (Loc.mk 25 false ([.int .i64 0, .slice none 0 0, .string (ByteArray.mk #[]), .bool false])) ∧
          ∀ u12 : World, I_ l_p l_n l_c x20 p_At1 p_Params_p1 p_Params_n1 p_Params_c1 p_Payload1 p_Long1 u12 →
              (((decide (x20 < ((s.size : Nat) : Int))) = true → 0 ≤ x20 ∧ ∃ c : UInt8, s.data.toList[x20.toNat]? = some c ∧
                inK .i64 ((c.toNat : Nat) : Int) ∧ Spec Try.prog 44 #[.agg #[.int .i64 p_At1, .slice p_Params_p1 p_Params_n1 p_Params_c1, .string p_Payload1, .bool p_Long1], .int .i64 ((c.toNat : Nat) : Int)] (drewW (allocW u12 hole)) (fun e u13 => ∃ (x290q_At : Int) (x290q_Params_p : Option Addr) (x290q_Params_n x290q_Params_c : Nat) (x290q_Payload : ByteArray) (x290q_Long : Bool) (x291q_Kind : Int) (x291q_B : Int) (x291q_Params_p : Option Addr) (x291q_Params_n x291q_Params_c : Nat) (x291q_Payload : ByteArray), e = .returned (.tuple #[.agg #[.int .i64 x290q_At, .slice x290q_Params_p x290q_Params_n x290q_Params_c, .string x290q_Payload, .bool x290q_Long], .agg #[.int .i64 x291q_Kind, .int .i64 x291q_B, .slice x291q_Params_p x291q_Params_n x291q_Params_c, .string x291q_Payload]]) ∧
                    (((!decide (x291q_Kind = 0)) = true → ∃ old new : List Value, old.length = l_n * 4 ∧
                    Gets (allocW u13 (.cells #[.int .i64 x291q_Kind, .int .i64 x291q_B, .slice x291q_Params_p x291q_Params_n x291q_Params_c, .string x291q_Payload] 37)) l_p old ∧
                    new.length = 1 * 4 ∧ Gets (allocW u13 (.cells #[.int .i64 x291q_Kind, .int .i64 x291q_B, .slice x291q_Params_p x291q_Params_n x291q_Params_c, .string x291q_Payload] 37)) (some (Addr.mk u13.heap.size 0 none)) new ∧
                    0 < 56 ∧ (2 * (l_n + 1) + 192) * 56 ≤ 140737488355328 ∧ okCells new True ∧
                    (l_n + 1 ≤ l_c → WrS (allocW u13 (.cells #[.int .i64 x291q_Kind, .int .i64 x291q_B, .slice x291q_Params_p x291q_Params_n x291q_Params_c, .string x291q_Payload] 37)) l_p (l_n * 4) (1 * 4)) ∧
                    ∀ p cap u14, AppR (allocW u13 (.cells #[.int .i64 x291q_Kind, .int .i64 x291q_B, .slice x291q_Params_p x291q_Params_n x291q_Params_c, .string x291q_Payload] 37)) 37 4 [.int .i64 0, .int .i64 0, .slice none 0 0, .string (ByteArray.mk #[])] l_p l_n l_c 1 old new p cap u14 →
                    inK .i64 (x20 + 1) ∧ (Loc.mk 25 false ([.int .i64 0, .slice none 0 0, .string (ByteArray.mk #[]), .bool false])) = (Loc.mk 25 false ([.int .i64 0, .slice none 0 0, .string (ByteArray.mk #[]), .bool false])) ∧
                    I_ p (l_n + 1) cap (x20 + 1) x290q_At x290q_Params_p x290q_Params_n x290q_Params_c x290q_Payload x290q_Long u14 ∧
                    (Loc.mk 25 false ([.int .i64 0, .slice none 0 0, .string (ByteArray.mk #[]), .bool false])) = (Loc.mk 25 false ([.int .i64 0, .slice none 0 0, .string (ByteArray.mk #[]), .bool false])) ∧
                  M_ p (l_n + 1) cap (x20 + 1) x290q_At x290q_Params_p x290q_Params_n x290q_Params_c x290q_Payload x290q_Long u14 < M_ l_p l_n l_c x20 p_At1 p_Params_p1 p_Params_n1 p_Params_c1 p_Payload1 p_Long1 u12) ∧
                    ((!decide (x291q_Kind = 0)) = false → inK .i64 (x20 + 1) ∧ (Loc.mk 25 false ([.int .i64 0, .slice none 0 0, .string (ByteArray.mk #[]), .bool false])) = (Loc.mk 25 false ([.int .i64 0, .slice none 0 0, .string (ByteArray.mk #[]), .bool false])) ∧
                    I_ l_p l_n l_c (x20 + 1) x290q_At x290q_Params_p x290q_Params_n x290q_Params_c x290q_Payload x290q_Long u13 ∧
                    (Loc.mk 25 false ([.int .i64 0, .slice none 0 0, .string (ByteArray.mk #[]), .bool false])) = (Loc.mk 25 false ([.int .i64 0, .slice none 0 0, .string (ByteArray.mk #[]), .bool false])) ∧
            M_ l_p l_n l_c (x20 + 1) x290q_At x290q_Params_p x290q_Params_n x290q_Params_c x290q_Payload x290q_Long u13 < M_ l_p l_n l_c x20 p_At1 p_Params_p1 p_Params_n1 p_Params_c1 p_Payload1 p_Long1 u12)))) ∧
  ((decide (x20 < ((s.size : Nat) : Int))) = false → R (.returned (.tuple #[.agg #[.int .i64 p_At1, .slice p_Params_p1 p_Params_n1 p_Params_c1, .string p_Payload1, .bool p_Long1], .slice l_p l_n l_c, .int .i64 0])) u12))))))
set_option maxRecDepth 100000 in
theorem vc_parse_Feed_eq (p_At : Int) (p_Params_p : Option Addr) (p_Params_n p_Params_c : Nat) (p_Payload : ByteArray) (p_Long : Bool) (s : ByteArray) (u : World) (R : Ending → World → Prop) : wFunc cx_parse_Feed Try.f15 [.agg #[.int .i64 p_At, .slice p_Params_p p_Params_n p_Params_c, .string p_Payload, .bool p_Long], .string s] u R = vc_parse_Feed p_At p_Params_p p_Params_n p_Params_c p_Payload p_Long s u R := by kernel_rfl
theorem vc_parse_Feed_spec (p_At : Int) (p_Params_p : Option Addr) (p_Params_n p_Params_c : Nat) (p_Payload : ByteArray) (p_Long : Bool) (s : ByteArray) {u : World} {R : Ending → World → Prop} (h : vc_parse_Feed p_At p_Params_p p_Params_n p_Params_c p_Payload p_Long s u R) : Spec Try.prog fn_parse_Feed #[.agg #[.int .i64 p_At, .slice p_Params_p p_Params_n p_Params_c, .string p_Payload, .bool p_Long], .string s] u R := func_spec (C := cx_parse_Feed) (fn := Try.f15) (args := [.agg #[.int .i64 p_At, .slice p_Params_p p_Params_n p_Params_c, .string p_Payload, .bool p_Long], .string s]) (ctxOk _ _ _ _ _) Try.func15 (vc_parse_Feed_eq p_At p_Params_p p_Params_n p_Params_c p_Payload p_Long s u R) h

/-- fenestra/parse.step -/
noncomputable def cx_parse_step : Ctx := ⟨Try.prog, tab, [], [], [], fns, [], []⟩
def vc_parse_step (p_At : Int) (p_Params_p : Option Addr) (p_Params_n p_Params_c : Nat) (p_Payload : ByteArray) (p_Long : Bool) (c : Int) (u : World) (R : Ending → World → Prop) : Prop :=
        (((decide (p_At = 0)) = true → (((decide (c = 27)) = true → R (.returned (.tuple #[.agg #[.int .i64 1, .slice p_Params_p p_Params_n p_Params_c, .string p_Payload, .bool p_Long], .agg #[.int .i64 0, .int .i64 0, .slice none 0 0, .string (ByteArray.mk #[])]])) (drewW (allocW (allocW (allocW (allocW u hole) hole) hole) hole))) ∧
              ((decide (c = 27)) = false → (((decide ((32 : Int) ≤ c)) = true →
                (((decide (c < 127)) = true → R (.returned (.tuple #[.agg #[.int .i64 p_At, .slice p_Params_p p_Params_n p_Params_c, .string p_Payload, .bool p_Long], .agg #[.int .i64 1, .int .i64 c, .slice none 0 0, .string (ByteArray.mk #[])]])) (allocW (allocW (allocW (allocW u hole) hole) hole) hole)) ∧
                      ((decide (c < 127)) = false → (((decide ((8 : Int) ≤ c)) = true →
                        (((decide (c ≤ 10)) = true → R (.returned (.tuple #[.agg #[.int .i64 p_At, .slice p_Params_p p_Params_n p_Params_c, .string p_Payload, .bool p_Long], .agg #[.int .i64 2, .int .i64 c, .slice none 0 0, .string (ByteArray.mk #[])]])) (allocW (allocW (allocW (allocW u hole) hole) hole) hole)) ∧
                            ((decide (c ≤ 10)) = false → (((decide (c = 13)) = true → R (.returned (.tuple #[.agg #[.int .i64 p_At, .slice p_Params_p p_Params_n p_Params_c, .string p_Payload, .bool p_Long], .agg #[.int .i64 2, .int .i64 c, .slice none 0 0, .string (ByteArray.mk #[])]])) (allocW (allocW (allocW (allocW u hole) hole) hole) hole)) ∧
                    ((decide (c = 13)) = false → R (.returned (.tuple #[.agg #[.int .i64 p_At, .slice p_Params_p p_Params_n p_Params_c, .string p_Payload, .bool p_Long], .agg #[.int .i64 0, .int .i64 0, .slice none 0 0, .string (ByteArray.mk #[])]])) (drewW (allocW (allocW (allocW (allocW u hole) hole) hole) hole))))))) ∧
                          ((decide ((8 : Int) ≤ c)) = false → (((decide (c = 13)) = true →
                        R (.returned (.tuple #[.agg #[.int .i64 p_At, .slice p_Params_p p_Params_n p_Params_c, .string p_Payload, .bool p_Long], .agg #[.int .i64 2, .int .i64 c, .slice none 0 0, .string (ByteArray.mk #[])]])) (allocW (allocW (allocW (allocW u hole) hole) hole) hole)) ∧
            ((decide (c = 13)) = false → R (.returned (.tuple #[.agg #[.int .i64 p_At, .slice p_Params_p p_Params_n p_Params_c, .string p_Payload, .bool p_Long], .agg #[.int .i64 0, .int .i64 0, .slice none 0 0, .string (ByteArray.mk #[])]])) (drewW (allocW (allocW (allocW (allocW u hole) hole) hole) hole))))))))) ∧
                  ((decide ((32 : Int) ≤ c)) = false → (((decide ((8 : Int) ≤ c)) = true →
                    (((decide (c ≤ 10)) = true → R (.returned (.tuple #[.agg #[.int .i64 p_At, .slice p_Params_p p_Params_n p_Params_c, .string p_Payload, .bool p_Long], .agg #[.int .i64 2, .int .i64 c, .slice none 0 0, .string (ByteArray.mk #[])]])) (allocW (allocW (allocW (allocW u hole) hole) hole) hole)) ∧
                        ((decide (c ≤ 10)) = false → (((decide (c = 13)) = true → R (.returned (.tuple #[.agg #[.int .i64 p_At, .slice p_Params_p p_Params_n p_Params_c, .string p_Payload, .bool p_Long], .agg #[.int .i64 2, .int .i64 c, .slice none 0 0, .string (ByteArray.mk #[])]])) (allocW (allocW (allocW (allocW u hole) hole) hole) hole)) ∧
                ((decide (c = 13)) = false → R (.returned (.tuple #[.agg #[.int .i64 p_At, .slice p_Params_p p_Params_n p_Params_c, .string p_Payload, .bool p_Long], .agg #[.int .i64 0, .int .i64 0, .slice none 0 0, .string (ByteArray.mk #[])]])) (drewW (allocW (allocW (allocW (allocW u hole) hole) hole) hole))))))) ∧
                      ((decide ((8 : Int) ≤ c)) = false → (((decide (c = 13)) = true →
                    R (.returned (.tuple #[.agg #[.int .i64 p_At, .slice p_Params_p p_Params_n p_Params_c, .string p_Payload, .bool p_Long], .agg #[.int .i64 2, .int .i64 c, .slice none 0 0, .string (ByteArray.mk #[])]])) (allocW (allocW (allocW (allocW u hole) hole) hole) hole)) ∧
    ((decide (c = 13)) = false → R (.returned (.tuple #[.agg #[.int .i64 p_At, .slice p_Params_p p_Params_n p_Params_c, .string p_Payload, .bool p_Long], .agg #[.int .i64 0, .int .i64 0, .slice none 0 0, .string (ByteArray.mk #[])]])) (drewW (allocW (allocW (allocW (allocW u hole) hole) hole) hole))))))))))) ∧
              ((decide (p_At = 0)) = false → (((decide (p_At = 1)) = true → (((decide (c = 27)) = true →
            R (.returned (.tuple #[.agg #[.int .i64 1, .slice p_Params_p p_Params_n p_Params_c, .string p_Payload, .bool p_Long], .agg #[.int .i64 0, .int .i64 0, .slice none 0 0, .string (ByteArray.mk #[])]])) (drewW (allocW (allocW (allocW (allocW u hole) hole) hole) hole))) ∧
                ((decide (c = 27)) = false → (((decide (c = 91)) = true → R (.returned (.tuple #[.agg #[.int .i64 2, .slice (some (Addr.mk (allocW (allocW (allocW (allocW u hole) hole) hole) hole).heap.size 0 none)) 1 1, .string p_Payload, .bool p_Long], .agg #[.int .i64 0, .int .i64 0, .slice none 0 0, .string (ByteArray.mk #[])]])) (drewW (allocW (allocW (allocW (allocW (allocW u hole) hole) hole) hole) (.cells #[.int .i64 0] 3)))) ∧
                    ((decide (c = 91)) = false → (((decide (c = 80)) = true → R (.returned (.tuple #[.agg #[.int .i64 3, .slice p_Params_p p_Params_n p_Params_c, .string p_Payload, .bool p_Long], .agg #[.int .i64 0, .int .i64 0, .slice none 0 0, .string (ByteArray.mk #[])]])) (drewW (allocW (allocW (allocW (allocW u hole) hole) hole) hole))) ∧
                        ((decide (c = 80)) = false → (((decide (c = 99)) = true → R (.returned (.tuple #[.agg #[.int .i64 0, .slice p_Params_p p_Params_n p_Params_c, .string p_Payload, .bool p_Long], .agg #[.int .i64 5, .int .i64 0, .slice none 0 0, .string (ByteArray.mk #[])]])) (allocW (allocW (allocW (allocW u hole) hole) hole) hole)) ∧
        ((decide (c = 99)) = false → R (.returned (.tuple #[.agg #[.int .i64 0, .slice p_Params_p p_Params_n p_Params_c, .string p_Payload, .bool p_Long], .agg #[.int .i64 0, .int .i64 0, .slice none 0 0, .string (ByteArray.mk #[])]])) (drewW (allocW (allocW (allocW (allocW u hole) hole) hole) hole))))))))))) ∧
                ((decide (p_At = 1)) = false → (((decide (p_At = 2)) = true → Spec Try.prog 73 #[.agg #[.int .i64 p_At, .slice p_Params_p p_Params_n p_Params_c, .string p_Payload, .bool p_Long], .int .i64 c] (allocW (allocW (allocW (allocW u hole) hole) hole) hole) (fun e u1 => ∃ (x650q_At : Int) (x650q_Params_p : Option Addr) (x650q_Params_n x650q_Params_c : Nat) (x650q_Payload : ByteArray) (x650q_Long : Bool) (x651q_Kind : Int) (x651q_B : Int) (x651q_Params_p : Option Addr) (x651q_Params_n x651q_Params_c : Nat) (x651q_Payload : ByteArray), e = .returned (.tuple #[.agg #[.int .i64 x650q_At, .slice x650q_Params_p x650q_Params_n x650q_Params_c, .string x650q_Payload, .bool x650q_Long], .agg #[.int .i64 x651q_Kind, .int .i64 x651q_B, .slice x651q_Params_p x651q_Params_n x651q_Params_c, .string x651q_Payload]]) ∧
            R (.returned (.tuple #[.agg #[.int .i64 x650q_At, .slice x650q_Params_p x650q_Params_n x650q_Params_c, .string x650q_Payload, .bool x650q_Long], .agg #[.int .i64 x651q_Kind, .int .i64 x651q_B, .slice x651q_Params_p x651q_Params_n x651q_Params_c, .string x651q_Payload]])) u1)) ∧
                      ((decide (p_At = 2)) = false → (((decide (p_At = 3)) = true → (((decide (c = 27)) = true →
                    R (.returned (.tuple #[.agg #[.int .i64 4, .slice p_Params_p p_Params_n p_Params_c, .string p_Payload, .bool p_Long], .agg #[.int .i64 0, .int .i64 0, .slice none 0 0, .string (ByteArray.mk #[])]])) (drewW (allocW (allocW (allocW (allocW u hole) hole) hole) hole))) ∧
                        ((decide (c = 27)) = false → (((decide (c = 24)) = true → R (.returned (.tuple #[.agg #[.int .i64 0, .slice none 0 0, .string (ByteArray.mk #[]), .bool false], .agg #[.int .i64 0, .int .i64 0, .slice none 0 0, .string (ByteArray.mk #[])]])) (drewW (allocW (allocW (allocW (allocW u hole) hole) hole) hole))) ∧
                              ((decide (c = 24)) = false → (((decide ((32 : Int) ≤ c)) = true →
                                      (((decide (c < 127)) = true → (((decide ((48 : Int) ≤ ((p_Payload.size : Nat) : Int))) = true →
                                    R (.returned (.tuple #[.agg #[.int .i64 p_At, .slice p_Params_p p_Params_n p_Params_c, .string p_Payload, .bool true], .agg #[.int .i64 0, .int .i64 0, .slice none 0 0, .string (ByteArray.mk #[])]])) (drewW (allocW (allocW (allocW (allocW u hole) hole) hole) hole))) ∧
                                      ((decide ((48 : Int) ≤ ((p_Payload.size : Nat) : Int))) = false →
                                              (((decide ((32 : Int) ≤ c)) = true → (((decide (c < 127)) = true →
                                              inK .u8 c ∧ ∃ s : ByteArray, s.size = 1 ∧ Gets (allocW (allocW (allocW (allocW (allocW u hole) hole) hole) hole) (.cells #[.int .u8 c] 5)) (some (Addr.mk (allocW (allocW (allocW (allocW u hole) hole) hole) hole).heap.size 0 none)) (bytesV s) ∧
                                              ((p_Payload.size + s.size : Nat) : Int) ≤ 9223372036854775807 ∧
                                            R (.returned (.tuple #[.agg #[.int .i64 p_At, .slice p_Params_p p_Params_n p_Params_c, .string (p_Payload ++ s), .bool p_Long], .agg #[.int .i64 0, .int .i64 0, .slice none 0 0, .string (ByteArray.mk #[])]])) (drewW (allocW (allocW (allocW (allocW (allocW u hole) hole) hole) hole) (.cells #[.int .u8 c] 5)))) ∧
                                        ((decide (c < 127)) = false → R (.returned (.tuple #[.agg #[.int .i64 p_At, .slice p_Params_p p_Params_n p_Params_c, .string p_Payload, .bool p_Long], .agg #[.int .i64 0, .int .i64 0, .slice none 0 0, .string (ByteArray.mk #[])]])) (drewW (allocW (allocW (allocW (allocW u hole) hole) hole) hole))))) ∧
                                ((decide ((32 : Int) ≤ c)) = false → R (.returned (.tuple #[.agg #[.int .i64 p_At, .slice p_Params_p p_Params_n p_Params_c, .string p_Payload, .bool p_Long], .agg #[.int .i64 0, .int .i64 0, .slice none 0 0, .string (ByteArray.mk #[])]])) (drewW (allocW (allocW (allocW (allocW u hole) hole) hole) hole))))))) ∧
                                      ((decide (c < 127)) = false → (((decide ((32 : Int) ≤ c)) = true →
                                          (((decide (c < 127)) = true → inK .u8 c ∧ ∃ s1 : ByteArray, s1.size = 1 ∧
                                          Gets (allocW (allocW (allocW (allocW (allocW u hole) hole) hole) hole) (.cells #[.int .u8 c] 5)) (some (Addr.mk (allocW (allocW (allocW (allocW u hole) hole) hole) hole).heap.size 0 none)) (bytesV s1) ∧
                                          ((p_Payload.size + s1.size : Nat) : Int) ≤ 9223372036854775807 ∧
                                        R (.returned (.tuple #[.agg #[.int .i64 p_At, .slice p_Params_p p_Params_n p_Params_c, .string (p_Payload ++ s1), .bool p_Long], .agg #[.int .i64 0, .int .i64 0, .slice none 0 0, .string (ByteArray.mk #[])]])) (drewW (allocW (allocW (allocW (allocW (allocW u hole) hole) hole) hole) (.cells #[.int .u8 c] 5)))) ∧
                                    ((decide (c < 127)) = false → R (.returned (.tuple #[.agg #[.int .i64 p_At, .slice p_Params_p p_Params_n p_Params_c, .string p_Payload, .bool p_Long], .agg #[.int .i64 0, .int .i64 0, .slice none 0 0, .string (ByteArray.mk #[])]])) (drewW (allocW (allocW (allocW (allocW u hole) hole) hole) hole))))) ∧
                            ((decide ((32 : Int) ≤ c)) = false → R (.returned (.tuple #[.agg #[.int .i64 p_At, .slice p_Params_p p_Params_n p_Params_c, .string p_Payload, .bool p_Long], .agg #[.int .i64 0, .int .i64 0, .slice none 0 0, .string (ByteArray.mk #[])]])) (drewW (allocW (allocW (allocW (allocW u hole) hole) hole) hole))))))) ∧
                                  ((decide ((32 : Int) ≤ c)) = false → (((decide ((32 : Int) ≤ c)) = true →
                                      (((decide (c < 127)) = true → inK .u8 c ∧ ∃ s2 : ByteArray, s2.size = 1 ∧
                                      Gets (allocW (allocW (allocW (allocW (allocW u hole) hole) hole) hole) (.cells #[.int .u8 c] 5)) (some (Addr.mk (allocW (allocW (allocW (allocW u hole) hole) hole) hole).heap.size 0 none)) (bytesV s2) ∧
                                      ((p_Payload.size + s2.size : Nat) : Int) ≤ 9223372036854775807 ∧
                                    R (.returned (.tuple #[.agg #[.int .i64 p_At, .slice p_Params_p p_Params_n p_Params_c, .string (p_Payload ++ s2), .bool p_Long], .agg #[.int .i64 0, .int .i64 0, .slice none 0 0, .string (ByteArray.mk #[])]])) (drewW (allocW (allocW (allocW (allocW (allocW u hole) hole) hole) hole) (.cells #[.int .u8 c] 5)))) ∧
                                ((decide (c < 127)) = false → R (.returned (.tuple #[.agg #[.int .i64 p_At, .slice p_Params_p p_Params_n p_Params_c, .string p_Payload, .bool p_Long], .agg #[.int .i64 0, .int .i64 0, .slice none 0 0, .string (ByteArray.mk #[])]])) (drewW (allocW (allocW (allocW (allocW u hole) hole) hole) hole))))) ∧
                ((decide ((32 : Int) ≤ c)) = false → R (.returned (.tuple #[.agg #[.int .i64 p_At, .slice p_Params_p p_Params_n p_Params_c, .string p_Payload, .bool p_Long], .agg #[.int .i64 0, .int .i64 0, .slice none 0 0, .string (ByteArray.mk #[])]])) (drewW (allocW (allocW (allocW (allocW u hole) hole) hole) hole))))))))))) ∧
                          ((decide (p_At = 3)) = false → (((decide (p_At = 4)) = true → (((decide (c = 92)) = true →
                            (((!p_Long) = true → R (.returned (.tuple #[.agg #[.int .i64 0, .slice none 0 0, .string (ByteArray.mk #[]), .bool false], .agg #[.int .i64 4, .int .i64 0, .slice none 0 0, .string p_Payload]])) (drewW (allocW (allocW (allocW (allocW u hole) hole) hole) hole))) ∧
                        ((!p_Long) = false → R (.returned (.tuple #[.agg #[.int .i64 0, .slice none 0 0, .string (ByteArray.mk #[]), .bool false], .agg #[.int .i64 0, .int .i64 0, .slice none 0 0, .string (ByteArray.mk #[])]])) (drewW (drewW (allocW (allocW (allocW (allocW u hole) hole) hole) hole)))))) ∧
                    ((decide (c = 92)) = false → R (.returned (.tuple #[.agg #[.int .i64 0, .slice none 0 0, .string (ByteArray.mk #[]), .bool false], .agg #[.int .i64 0, .int .i64 0, .slice none 0 0, .string (ByteArray.mk #[])]])) (drewW (drewW (allocW (allocW (allocW (allocW u hole) hole) hole) hole)))))) ∧
  ((decide (p_At = 4)) = false → R (.returned (.tuple #[.agg #[.int .i64 p_At, .slice p_Params_p p_Params_n p_Params_c, .string p_Payload, .bool p_Long], .agg #[.int .i64 0, .int .i64 0, .slice none 0 0, .string (ByteArray.mk #[])]])) (drewW (allocW (allocW (allocW (allocW u hole) hole) hole) hole))))))))))))
set_option maxRecDepth 100000 in
theorem vc_parse_step_eq (p_At : Int) (p_Params_p : Option Addr) (p_Params_n p_Params_c : Nat) (p_Payload : ByteArray) (p_Long : Bool) (c : Int) (u : World) (R : Ending → World → Prop) : wFunc cx_parse_step Try.f44 [.agg #[.int .i64 p_At, .slice p_Params_p p_Params_n p_Params_c, .string p_Payload, .bool p_Long], .int .i64 c] u R = vc_parse_step p_At p_Params_p p_Params_n p_Params_c p_Payload p_Long c u R := by kernel_rfl
theorem vc_parse_step_spec (p_At : Int) (p_Params_p : Option Addr) (p_Params_n p_Params_c : Nat) (p_Payload : ByteArray) (p_Long : Bool) (c : Int) {u : World} {R : Ending → World → Prop} (h : vc_parse_step p_At p_Params_p p_Params_n p_Params_c p_Payload p_Long c u R) : Spec Try.prog fn_parse_step #[.agg #[.int .i64 p_At, .slice p_Params_p p_Params_n p_Params_c, .string p_Payload, .bool p_Long], .int .i64 c] u R := func_spec (C := cx_parse_step) (fn := Try.f44) (args := [.agg #[.int .i64 p_At, .slice p_Params_p p_Params_n p_Params_c, .string p_Payload, .bool p_Long], .int .i64 c]) (ctxOk _ _ _ _ _) Try.func44 (vc_parse_step_eq p_At p_Params_p p_Params_n p_Params_c p_Payload p_Long c u R) h

/-- fenestra/parse.command -/
noncomputable def cx_parse_command : Ctx := ⟨Try.prog, tab, [], [], [], fns, [], []⟩
def vc_parse_command (p_At : Int) (p_Params_p : Option Addr) (p_Params_n p_Params_c : Nat) (p_Payload : ByteArray) (p_Long : Bool) (c : Int) (u : World) (R : Ending → World → Prop) : Prop :=
      inK .i64 (((p_Params_n : Nat) : Int) - 1) ∧ (((decide ((48 : Int) ≤ c)) = true →
          (((decide (c ≤ 57)) = true → ∃ b o, p_Params_p = some ⟨b, o, none⟩ ∧
          0 ≤ (((p_Params_n : Nat) : Int) - 1) ∧ (((p_Params_n : Nat) : Int) - 1) < ((p_Params_n : Nat) : Int) ∧
          ∃ (x25 : Int), 1 = ([.int .i64 x25] : List Value).length ∧ Rd (drewW (allocW (allocW (allocW u hole) hole) hole)) b (o + (((p_Params_n : Nat) : Int) - 1).toNat * 1) ([.int .i64 x25]) ∧
          inK .i64 (10 * x25) ∧ inK .i64 ((10 * x25) + c) ∧ inK .i64 (((10 * x25) + c) - 48) ∧
          ∃ b1 o1, p_Params_p = some ⟨b1, o1, none⟩ ∧ 0 ≤ (((p_Params_n : Nat) : Int) - 1) ∧
          (((p_Params_n : Nat) : Int) - 1) < ((p_Params_n : Nat) : Int) ∧
          1 = ([.int .i64 (min (((10 * x25) + c) - 48) 999)] : List Value).length ∧
          Wr (drewW (allocW (allocW (allocW u hole) hole) hole)) b1 (o1 + (((p_Params_n : Nat) : Int) - 1).toNat * 1) 1 ∧
        R (.returned (.tuple #[.agg #[.int .i64 p_At, .slice p_Params_p p_Params_n p_Params_c, .string p_Payload, .bool p_Long], .agg #[.int .i64 0, .int .i64 0, .slice none 0 0, .string (ByteArray.mk #[])]])) (putCells (drewW (allocW (allocW (allocW u hole) hole) hole)) b1 (o1 + (((p_Params_n : Nat) : Int) - 1).toNat * 1) ([.int .i64 (min (((10 * x25) + c) - 48) 999)]))) ∧
                  ((decide (c ≤ 57)) = false → (((decide (c = 59)) = true → (((decide (((p_Params_n : Nat) : Int) < 4)) = true →
                  ∃ old new : List Value, old.length = p_Params_n * 1 ∧ Gets (allocW (allocW (allocW (allocW u hole) hole) hole) (.cells #[.int .i64 0] 3)) p_Params_p old ∧
                  new.length = 1 * 1 ∧ Gets (allocW (allocW (allocW (allocW u hole) hole) hole) (.cells #[.int .i64 0] 3)) (some (Addr.mk (allocW (allocW (allocW u hole) hole) hole).heap.size 0 none)) new ∧
                  0 < 8 ∧ (2 * (p_Params_n + 1) + 192) * 8 ≤ 140737488355328 ∧ okCells new True ∧
                  (p_Params_n + 1 ≤ p_Params_c → WrS (allocW (allocW (allocW (allocW u hole) hole) hole) (.cells #[.int .i64 0] 3)) p_Params_p (p_Params_n * 1) (1 * 1)) ∧
                  ∀ p cap u1, AppR (allocW (allocW (allocW (allocW u hole) hole) hole) (.cells #[.int .i64 0] 3)) 3 1 [.int .i64 0] p_Params_p p_Params_n p_Params_c 1 old new p cap u1 →
                R (.returned (.tuple #[.agg #[.int .i64 p_At, .slice p (p_Params_n + 1) cap, .string p_Payload, .bool p_Long], .agg #[.int .i64 0, .int .i64 0, .slice none 0 0, .string (ByteArray.mk #[])]])) u1) ∧
                      ((decide (((p_Params_n : Nat) : Int) < 4)) = false → (((decide ((64 : Int) ≤ c)) = true →
                        (((decide (c < 127)) = true → R (.returned (.tuple #[.agg #[.int .i64 0, .slice none 0 0, .string (ByteArray.mk #[]), .bool false], .agg #[.int .i64 3, .int .i64 c, .slice p_Params_p p_Params_n p_Params_c, .string (ByteArray.mk #[])]])) (drewW (allocW (allocW (allocW u hole) hole) hole))) ∧
                            ((decide (c < 127)) = false → (((decide (c = 27)) = true → R (.returned (.tuple #[.agg #[.int .i64 1, .slice none 0 0, .string (ByteArray.mk #[]), .bool false], .agg #[.int .i64 0, .int .i64 0, .slice none 0 0, .string (ByteArray.mk #[])]])) (allocW (allocW (allocW u hole) hole) hole)) ∧
                    ((decide (c = 27)) = false → R (.returned (.tuple #[.agg #[.int .i64 0, .slice none 0 0, .string (ByteArray.mk #[]), .bool false], .agg #[.int .i64 0, .int .i64 0, .slice none 0 0, .string (ByteArray.mk #[])]])) (allocW (allocW (allocW u hole) hole) hole)))))) ∧
                          ((decide ((64 : Int) ≤ c)) = false → (((decide (c = 27)) = true →
                        R (.returned (.tuple #[.agg #[.int .i64 1, .slice none 0 0, .string (ByteArray.mk #[]), .bool false], .agg #[.int .i64 0, .int .i64 0, .slice none 0 0, .string (ByteArray.mk #[])]])) (allocW (allocW (allocW u hole) hole) hole)) ∧
            ((decide (c = 27)) = false → R (.returned (.tuple #[.agg #[.int .i64 0, .slice none 0 0, .string (ByteArray.mk #[]), .bool false], .agg #[.int .i64 0, .int .i64 0, .slice none 0 0, .string (ByteArray.mk #[])]])) (allocW (allocW (allocW u hole) hole) hole)))))))) ∧
                  ((decide (c = 59)) = false → (((decide ((64 : Int) ≤ c)) = true →
                    (((decide (c < 127)) = true → R (.returned (.tuple #[.agg #[.int .i64 0, .slice none 0 0, .string (ByteArray.mk #[]), .bool false], .agg #[.int .i64 3, .int .i64 c, .slice p_Params_p p_Params_n p_Params_c, .string (ByteArray.mk #[])]])) (drewW (allocW (allocW (allocW u hole) hole) hole))) ∧
                        ((decide (c < 127)) = false → (((decide (c = 27)) = true → R (.returned (.tuple #[.agg #[.int .i64 1, .slice none 0 0, .string (ByteArray.mk #[]), .bool false], .agg #[.int .i64 0, .int .i64 0, .slice none 0 0, .string (ByteArray.mk #[])]])) (allocW (allocW (allocW u hole) hole) hole)) ∧
                ((decide (c = 27)) = false → R (.returned (.tuple #[.agg #[.int .i64 0, .slice none 0 0, .string (ByteArray.mk #[]), .bool false], .agg #[.int .i64 0, .int .i64 0, .slice none 0 0, .string (ByteArray.mk #[])]])) (allocW (allocW (allocW u hole) hole) hole)))))) ∧
                      ((decide ((64 : Int) ≤ c)) = false → (((decide (c = 27)) = true →
                    R (.returned (.tuple #[.agg #[.int .i64 1, .slice none 0 0, .string (ByteArray.mk #[]), .bool false], .agg #[.int .i64 0, .int .i64 0, .slice none 0 0, .string (ByteArray.mk #[])]])) (allocW (allocW (allocW u hole) hole) hole)) ∧
    ((decide (c = 27)) = false → R (.returned (.tuple #[.agg #[.int .i64 0, .slice none 0 0, .string (ByteArray.mk #[]), .bool false], .agg #[.int .i64 0, .int .i64 0, .slice none 0 0, .string (ByteArray.mk #[])]])) (allocW (allocW (allocW u hole) hole) hole)))))))))) ∧
          ((decide ((48 : Int) ≤ c)) = false → (((decide (c = 59)) = true →
              (((decide (((p_Params_n : Nat) : Int) < 4)) = true → ∃ old1 new1 : List Value, old1.length = p_Params_n * 1 ∧
              Gets (allocW (allocW (allocW (allocW u hole) hole) hole) (.cells #[.int .i64 0] 3)) p_Params_p old1 ∧
              new1.length = 1 * 1 ∧ Gets (allocW (allocW (allocW (allocW u hole) hole) hole) (.cells #[.int .i64 0] 3)) (some (Addr.mk (allocW (allocW (allocW u hole) hole) hole).heap.size 0 none)) new1 ∧
              0 < 8 ∧ (2 * (p_Params_n + 1) + 192) * 8 ≤ 140737488355328 ∧ okCells new1 True ∧
              (p_Params_n + 1 ≤ p_Params_c → WrS (allocW (allocW (allocW (allocW u hole) hole) hole) (.cells #[.int .i64 0] 3)) p_Params_p (p_Params_n * 1) (1 * 1)) ∧
              ∀ p1 cap1 u11, AppR (allocW (allocW (allocW (allocW u hole) hole) hole) (.cells #[.int .i64 0] 3)) 3 1 [.int .i64 0] p_Params_p p_Params_n p_Params_c 1 old1 new1 p1 cap1 u11 →
            R (.returned (.tuple #[.agg #[.int .i64 p_At, .slice p1 (p_Params_n + 1) cap1, .string p_Payload, .bool p_Long], .agg #[.int .i64 0, .int .i64 0, .slice none 0 0, .string (ByteArray.mk #[])]])) u11) ∧
                  ((decide (((p_Params_n : Nat) : Int) < 4)) = false → (((decide ((64 : Int) ≤ c)) = true →
                    (((decide (c < 127)) = true → R (.returned (.tuple #[.agg #[.int .i64 0, .slice none 0 0, .string (ByteArray.mk #[]), .bool false], .agg #[.int .i64 3, .int .i64 c, .slice p_Params_p p_Params_n p_Params_c, .string (ByteArray.mk #[])]])) (drewW (allocW (allocW (allocW u hole) hole) hole))) ∧
                        ((decide (c < 127)) = false → (((decide (c = 27)) = true → R (.returned (.tuple #[.agg #[.int .i64 1, .slice none 0 0, .string (ByteArray.mk #[]), .bool false], .agg #[.int .i64 0, .int .i64 0, .slice none 0 0, .string (ByteArray.mk #[])]])) (allocW (allocW (allocW u hole) hole) hole)) ∧
                ((decide (c = 27)) = false → R (.returned (.tuple #[.agg #[.int .i64 0, .slice none 0 0, .string (ByteArray.mk #[]), .bool false], .agg #[.int .i64 0, .int .i64 0, .slice none 0 0, .string (ByteArray.mk #[])]])) (allocW (allocW (allocW u hole) hole) hole)))))) ∧
                      ((decide ((64 : Int) ≤ c)) = false → (((decide (c = 27)) = true →
                    R (.returned (.tuple #[.agg #[.int .i64 1, .slice none 0 0, .string (ByteArray.mk #[]), .bool false], .agg #[.int .i64 0, .int .i64 0, .slice none 0 0, .string (ByteArray.mk #[])]])) (allocW (allocW (allocW u hole) hole) hole)) ∧
        ((decide (c = 27)) = false → R (.returned (.tuple #[.agg #[.int .i64 0, .slice none 0 0, .string (ByteArray.mk #[]), .bool false], .agg #[.int .i64 0, .int .i64 0, .slice none 0 0, .string (ByteArray.mk #[])]])) (allocW (allocW (allocW u hole) hole) hole)))))))) ∧
              ((decide (c = 59)) = false → (((decide ((64 : Int) ≤ c)) = true →
                (((decide (c < 127)) = true → R (.returned (.tuple #[.agg #[.int .i64 0, .slice none 0 0, .string (ByteArray.mk #[]), .bool false], .agg #[.int .i64 3, .int .i64 c, .slice p_Params_p p_Params_n p_Params_c, .string (ByteArray.mk #[])]])) (drewW (allocW (allocW (allocW u hole) hole) hole))) ∧
                    ((decide (c < 127)) = false → (((decide (c = 27)) = true → R (.returned (.tuple #[.agg #[.int .i64 1, .slice none 0 0, .string (ByteArray.mk #[]), .bool false], .agg #[.int .i64 0, .int .i64 0, .slice none 0 0, .string (ByteArray.mk #[])]])) (allocW (allocW (allocW u hole) hole) hole)) ∧
            ((decide (c = 27)) = false → R (.returned (.tuple #[.agg #[.int .i64 0, .slice none 0 0, .string (ByteArray.mk #[]), .bool false], .agg #[.int .i64 0, .int .i64 0, .slice none 0 0, .string (ByteArray.mk #[])]])) (allocW (allocW (allocW u hole) hole) hole)))))) ∧
                  ((decide ((64 : Int) ≤ c)) = false → (((decide (c = 27)) = true →
                R (.returned (.tuple #[.agg #[.int .i64 1, .slice none 0 0, .string (ByteArray.mk #[]), .bool false], .agg #[.int .i64 0, .int .i64 0, .slice none 0 0, .string (ByteArray.mk #[])]])) (allocW (allocW (allocW u hole) hole) hole)) ∧
  ((decide (c = 27)) = false → R (.returned (.tuple #[.agg #[.int .i64 0, .slice none 0 0, .string (ByteArray.mk #[]), .bool false], .agg #[.int .i64 0, .int .i64 0, .slice none 0 0, .string (ByteArray.mk #[])]])) (allocW (allocW (allocW u hole) hole) hole)))))))))
set_option maxRecDepth 100000 in
theorem vc_parse_command_eq (p_At : Int) (p_Params_p : Option Addr) (p_Params_n p_Params_c : Nat) (p_Payload : ByteArray) (p_Long : Bool) (c : Int) (u : World) (R : Ending → World → Prop) : wFunc cx_parse_command Try.f73 [.agg #[.int .i64 p_At, .slice p_Params_p p_Params_n p_Params_c, .string p_Payload, .bool p_Long], .int .i64 c] u R = vc_parse_command p_At p_Params_p p_Params_n p_Params_c p_Payload p_Long c u R := by kernel_rfl
theorem vc_parse_command_spec (p_At : Int) (p_Params_p : Option Addr) (p_Params_n p_Params_c : Nat) (p_Payload : ByteArray) (p_Long : Bool) (c : Int) {u : World} {R : Ending → World → Prop} (h : vc_parse_command p_At p_Params_p p_Params_n p_Params_c p_Payload p_Long c u R) : Spec Try.prog fn_parse_command #[.agg #[.int .i64 p_At, .slice p_Params_p p_Params_n p_Params_c, .string p_Payload, .bool p_Long], .int .i64 c] u R := func_spec (C := cx_parse_command) (fn := Try.f73) (args := [.agg #[.int .i64 p_At, .slice p_Params_p p_Params_n p_Params_c, .string p_Payload, .bool p_Long], .int .i64 c]) (ctxOk _ _ _ _ _) Try.func73 (vc_parse_command_eq p_At p_Params_p p_Params_n p_Params_c p_Payload p_Long c u R) h

/-- slices.Clone[[]int,int] -/
noncomputable def cx_slices_Clone_int_int : Ctx := ⟨Try.prog, tab, [], [], [], fns, [], []⟩
def vc_slices_Clone_int_int (s_p : Option Addr) (s_n s_c : Nat) (u : World) (R : Ending → World → Prop) : Prop :=
    (((Option.isNone s_p) = true → R (.returned (.slice none 0 0)) u) ∧
      ((Option.isNone s_p) = false → ∃ old new : List Value, old.length = 0 * 1 ∧
      Gets (allocW u (.cells #[] 3)) (some (Addr.mk u.heap.size 0 none)) old ∧
      new.length = s_n * 1 ∧ Gets (allocW u (.cells #[] 3)) s_p new ∧
      0 < 8 ∧ (2 * (0 + s_n) + 192) * 8 ≤ 140737488355328 ∧ okCells new True ∧
      (0 + s_n ≤ 0 → WrS (allocW u (.cells #[] 3)) (some (Addr.mk u.heap.size 0 none)) (0 * 1) (s_n * 1)) ∧
      ∀ p cap u1, AppR (allocW u (.cells #[] 3)) 3 1 [.int .i64 0] (some (Addr.mk u.heap.size 0 none)) 0 0 s_n old new p cap u1 →
  R (.returned (.slice p (0 + s_n) cap)) u1))
set_option maxRecDepth 100000 in
theorem vc_slices_Clone_int_int_eq (s_p : Option Addr) (s_n s_c : Nat) (u : World) (R : Ending → World → Prop) : wFunc cx_slices_Clone_int_int Try.f43 [.slice s_p s_n s_c] u R = vc_slices_Clone_int_int s_p s_n s_c u R := by kernel_rfl
theorem vc_slices_Clone_int_int_spec (s_p : Option Addr) (s_n s_c : Nat) {u : World} {R : Ending → World → Prop} (h : vc_slices_Clone_int_int s_p s_n s_c u R) : Spec Try.prog fn_slices_Clone_int_int #[.slice s_p s_n s_c] u R := func_spec (C := cx_slices_Clone_int_int) (fn := Try.f43) (args := [.slice s_p s_n s_c]) (ctxOk _ _ _ _ _) Try.func43 (vc_slices_Clone_int_int_eq s_p s_n s_c u R) h

end Go.Proofs.Ytkmmphkjmamckaa
