import Derived.Test.YtkmmphkjmamckaaCtx
namespace Go.Proofs.Ytkmmphkjmamckaa
open Go
set_option linter.all false

/-- fenestra/fenestraref.GoodParser -/
noncomputable def cx_fenestraref_GoodParser : Ctx := ⟨Try.prog, tab, [], [], [], fns, [(2, ⟨[.keep, .keep, .junk, .keep, .junk, .keep, .keep, .keep, .cell (.int .i64), .junk, .junk, .junk, .junk, .junk, .junk, .junk, .junk, .junk, .junk, .keep, .keep, .keep, .keep, .keep, .keep, .keep, .keep, .keep, .keep, .keep, .keep, .keep, .keep, .keep, .keep, .keep, .keep, .keep, .keep, .keep, .keep, .keep, .keep, .keep, .keep, .keep, .keep, .keep, .keep, .keep, .keep, .keep, .keep, .keep, .keep, .keep, .keep, .keep, .keep, .keep, .keep, .keep, .keep, .keep, .keep, .keep, .keep, .keep, .keep, .keep, .keep], [.keep]⟩)], []⟩
def vc_fenestraref_GoodParser (p_At : Int) (p_Params_p : Option Addr) (p_Params_n p_Params_c : Nat) (p_Payload : ByteArray) (p_Long : Bool) (u : World) (R : Ending → World → Prop) : Prop :=
    ∃ (I_ : Int → World → Prop) (M_ : Int → World → Nat), ((Loc.mk 25 false ([.int .i64 p_At, .slice p_Params_p p_Params_n p_Params_c, .string p_Payload, .bool p_Long])) = (Loc.mk 25 false ([.int .i64 p_At, .slice p_Params_p p_Params_n p_Params_c, .string p_Payload, .bool p_Long])) ∧
  I_ 0 (allocW u hole)) ∧ ∀ (x8 : Int), (Loc.mk 25 false ([.int .i64 p_At, .slice p_Params_p p_Params_n p_Params_c, .string p_Payload, .bool p_Long])) = (Loc.mk 25 false ([.int .i64 p_At, .slice p_Params_p p_Params_n p_Params_c, .string p_Payload, .bool p_Long])) ∧
      ∀ u1 : World, I_ x8 u1 → (((decide (x8 < ((p_Params_n : Nat) : Int))) = true →
      ∃ b o, p_Params_p = some ⟨b, o, none⟩ ∧ 0 ≤ x8 ∧ x8 < ((p_Params_n : Nat) : Int) ∧
      ∃ (x11 : Int), 1 = ([.int .i64 x11] : List Value).length ∧ Rd u1 b (o + x8.toNat * 1) ([.int .i64 x11]) ∧
        (((decide (x11 < 0)) = true → R (.returned (.bool false)) u1) ∧
              ((decide (x11 < 0)) = false → (((decide ((999 : Int) < x11)) = true →
              R (.returned (.bool false)) u1) ∧ ((decide ((999 : Int) < x11)) = false →
              inK .i64 (x8 + 1) ∧ (Loc.mk 25 false ([.int .i64 p_At, .slice p_Params_p p_Params_n p_Params_c, .string p_Payload, .bool p_Long])) = (Loc.mk 25 false ([.int .i64 p_At, .slice p_Params_p p_Params_n p_Params_c, .string p_Payload, .bool p_Long])) ∧
              I_ (x8 + 1) u1 ∧ (Loc.mk 25 false ([.int .i64 p_At, .slice p_Params_p p_Params_n p_Params_c, .string p_Payload, .bool p_Long])) = (Loc.mk 25 false ([.int .i64 p_At, .slice p_Params_p p_Params_n p_Params_c, .string p_Payload, .bool p_Long])) ∧
      M_ (x8 + 1) u1 < M_ x8 u1))))) ∧ ((decide (x8 < ((p_Params_n : Nat) : Int))) = false →
        (((decide ((4 : Int) < ((p_Params_n : Nat) : Int))) = true → R (.returned (.bool false)) u1) ∧
              ((decide ((4 : Int) < ((p_Params_n : Nat) : Int))) = false → (((decide ((48 : Int) < ((p_Payload.size : Nat) : Int))) = true →
              R (.returned (.bool false)) u1) ∧ ((decide ((48 : Int) < ((p_Payload.size : Nat) : Int))) = false →
                          (((decide (p_At = 0)) = true → (((decide (p_At = 0)) = true → (((decide (((p_Params_n : Nat) : Int) = 0)) = true →
                              (((decide (p_Payload.data.toList = (ByteArray.mk #[]).data.toList)) = true →
                              R (.returned (.bool (!p_Long))) u1) ∧ ((decide (p_Payload.data.toList = (ByteArray.mk #[]).data.toList)) = false →
                          R (.returned (.bool false)) u1))) ∧ ((decide (((p_Params_n : Nat) : Int) = 0)) = false →
                      R (.returned (.bool false)) u1))) ∧ ((decide (p_At = 0)) = false →
                              (((decide (p_At = 2)) = true → (((decide ((0 : Int) < ((p_Params_n : Nat) : Int))) = true →
                                  (((decide (p_Payload.data.toList = (ByteArray.mk #[]).data.toList)) = true →
                                  R (.returned (.bool (!p_Long))) u1) ∧ ((decide (p_Payload.data.toList = (ByteArray.mk #[]).data.toList)) = false →
                              R (.returned (.bool false)) u1))) ∧ ((decide ((0 : Int) < ((p_Params_n : Nat) : Int))) = false →
                          R (.returned (.bool false)) u1))) ∧ ((decide (p_At = 2)) = false →
                                (((decide (p_At = 3)) = true → (((decide (p_At = 3)) = true → R (.returned (.bool (decide (((p_Params_n : Nat) : Int) = 0)))) u1) ∧
                            ((decide (p_At = 3)) = false → R (.returned (.bool false)) u1))) ∧
                                ((decide (p_At = 3)) = false → (((decide (p_At = 4)) = true → R (.returned (.bool (decide (((p_Params_n : Nat) : Int) = 0)))) u1) ∧
                ((decide (p_At = 4)) = false → R (.returned (.bool false)) u1))))))))) ∧
                          ((decide (p_At = 0)) = false → (((decide (p_At = 1)) = true → (((decide (((p_Params_n : Nat) : Int) = 0)) = true →
                              (((decide (p_Payload.data.toList = (ByteArray.mk #[]).data.toList)) = true →
                              R (.returned (.bool (!p_Long))) u1) ∧ ((decide (p_Payload.data.toList = (ByteArray.mk #[]).data.toList)) = false →
                          R (.returned (.bool false)) u1))) ∧ ((decide (((p_Params_n : Nat) : Int) = 0)) = false →
                      R (.returned (.bool false)) u1))) ∧ ((decide (p_At = 1)) = false →
                              (((decide (p_At = 2)) = true → (((decide ((0 : Int) < ((p_Params_n : Nat) : Int))) = true →
                                  (((decide (p_Payload.data.toList = (ByteArray.mk #[]).data.toList)) = true →
                                  R (.returned (.bool (!p_Long))) u1) ∧ ((decide (p_Payload.data.toList = (ByteArray.mk #[]).data.toList)) = false →
                              R (.returned (.bool false)) u1))) ∧ ((decide ((0 : Int) < ((p_Params_n : Nat) : Int))) = false →
                          R (.returned (.bool false)) u1))) ∧ ((decide (p_At = 2)) = false →
                                (((decide (p_At = 3)) = true → (((decide (p_At = 3)) = true → R (.returned (.bool (decide (((p_Params_n : Nat) : Int) = 0)))) u1) ∧
                            ((decide (p_At = 3)) = false → R (.returned (.bool false)) u1))) ∧
                                ((decide (p_At = 3)) = false → (((decide (p_At = 4)) = true → R (.returned (.bool (decide (((p_Params_n : Nat) : Int) = 0)))) u1) ∧
  ((decide (p_At = 4)) = false → R (.returned (.bool false)) u1))))))))))))))))
set_option maxRecDepth 100000 in
theorem vc_fenestraref_GoodParser_eq (p_At : Int) (p_Params_p : Option Addr) (p_Params_n p_Params_c : Nat) (p_Payload : ByteArray) (p_Long : Bool) (u : World) (R : Ending → World → Prop) : wFunc cx_fenestraref_GoodParser Try.f20 [.agg #[.int .i64 p_At, .slice p_Params_p p_Params_n p_Params_c, .string p_Payload, .bool p_Long]] u R = vc_fenestraref_GoodParser p_At p_Params_p p_Params_n p_Params_c p_Payload p_Long u R := by kernel_rfl
theorem vc_fenestraref_GoodParser_spec (p_At : Int) (p_Params_p : Option Addr) (p_Params_n p_Params_c : Nat) (p_Payload : ByteArray) (p_Long : Bool) {u : World} {R : Ending → World → Prop} (h : vc_fenestraref_GoodParser p_At p_Params_p p_Params_n p_Params_c p_Payload p_Long u R) : Spec Try.prog fn_fenestraref_GoodParser #[.agg #[.int .i64 p_At, .slice p_Params_p p_Params_n p_Params_c, .string p_Payload, .bool p_Long]] u R := func_spec (C := cx_fenestraref_GoodParser) (fn := Try.f20) (args := [.agg #[.int .i64 p_At, .slice p_Params_p p_Params_n p_Params_c, .string p_Payload, .bool p_Long]]) (ctxOk _ _ _ _ _) Try.func20 (vc_fenestraref_GoodParser_eq p_At p_Params_p p_Params_n p_Params_c p_Payload p_Long u R) h

/-- fenestra/fenestraref.CopyParser -/
noncomputable def cx_fenestraref_CopyParser : Ctx := ⟨Try.prog, tab, [], [], [], fns, [], []⟩
def vc_fenestraref_CopyParser (p_At : Int) (p_Params_p : Option Addr) (p_Params_n p_Params_c : Nat) (p_Payload : ByteArray) (p_Long : Bool) (u : World) (R : Ending → World → Prop) : Prop :=
  ∃ old new : List Value, old.length = 0 * 1 ∧ Gets (allocW (allocW u hole) hole) none old ∧
  new.length = p_Params_n * 1 ∧ Gets (allocW (allocW u hole) hole) p_Params_p new ∧
  0 < 8 ∧ (2 * (0 + p_Params_n) + 192) * 8 ≤ 140737488355328 ∧ okCells new True ∧
  (0 + p_Params_n ≤ 0 → WrS (allocW (allocW u hole) hole) none (0 * 1) (p_Params_n * 1)) ∧
  ∀ p cap u1, AppR (allocW (allocW u hole) hole) 3 1 [.int .i64 0] none 0 0 p_Params_n old new p cap u1 →
  R (.returned (.agg #[.int .i64 p_At, .slice p (0 + p_Params_n) cap, .string p_Payload, .bool p_Long])) u1
set_option maxRecDepth 100000 in
theorem vc_fenestraref_CopyParser_eq (p_At : Int) (p_Params_p : Option Addr) (p_Params_n p_Params_c : Nat) (p_Payload : ByteArray) (p_Long : Bool) (u : World) (R : Ending → World → Prop) : wFunc cx_fenestraref_CopyParser Try.f14 [.agg #[.int .i64 p_At, .slice p_Params_p p_Params_n p_Params_c, .string p_Payload, .bool p_Long]] u R = vc_fenestraref_CopyParser p_At p_Params_p p_Params_n p_Params_c p_Payload p_Long u R := by kernel_rfl
theorem vc_fenestraref_CopyParser_spec (p_At : Int) (p_Params_p : Option Addr) (p_Params_n p_Params_c : Nat) (p_Payload : ByteArray) (p_Long : Bool) {u : World} {R : Ending → World → Prop} (h : vc_fenestraref_CopyParser p_At p_Params_p p_Params_n p_Params_c p_Payload p_Long u R) : Spec Try.prog fn_fenestraref_CopyParser #[.agg #[.int .i64 p_At, .slice p_Params_p p_Params_n p_Params_c, .string p_Payload, .bool p_Long]] u R := func_spec (C := cx_fenestraref_CopyParser) (fn := Try.f14) (args := [.agg #[.int .i64 p_At, .slice p_Params_p p_Params_n p_Params_c, .string p_Payload, .bool p_Long]]) (ctxOk _ _ _ _ _) Try.func14 (vc_fenestraref_CopyParser_eq p_At p_Params_p p_Params_n p_Params_c p_Payload p_Long u R) h

/-- fenestra/fenestraref.SameParser -/
noncomputable def cx_fenestraref_SameParser : Ctx := ⟨Try.prog, tab, [], [], [], fns, [], []⟩
def vc_fenestraref_SameParser (a_At : Int) (a_Params_p : Option Addr) (a_Params_n a_Params_c : Nat) (a_Payload : ByteArray) (a_Long : Bool) (b_At : Int) (b_Params_p : Option Addr) (b_Params_n b_Params_c : Nat) (b_Payload : ByteArray) (b_Long : Bool) (u : World) (R : Ending → World → Prop) : Prop :=
        (((decide (a_At = b_At)) = true → Spec Try.prog 47 #[.slice a_Params_p a_Params_n a_Params_c, .slice b_Params_p b_Params_n b_Params_c] (allocW (allocW u hole) hole) (fun e u1 => ∃ (x15 : Bool), e = .returned (.bool x15) ∧
                ((x15 = true → (((decide (a_Payload.data.toList = b_Payload.data.toList)) = true →
                R (.returned (.bool (a_Long == b_Long))) u1) ∧ ((decide (a_Payload.data.toList = b_Payload.data.toList)) = false →
    R (.returned (.bool false)) u1))) ∧ (x15 = false → R (.returned (.bool false)) u1)))) ∧
  ((decide (a_At = b_At)) = false → R (.returned (.bool false)) (allocW (allocW u hole) hole)))
set_option maxRecDepth 100000 in
theorem vc_fenestraref_SameParser_eq (a_At : Int) (a_Params_p : Option Addr) (a_Params_n a_Params_c : Nat) (a_Payload : ByteArray) (a_Long : Bool) (b_At : Int) (b_Params_p : Option Addr) (b_Params_n b_Params_c : Nat) (b_Payload : ByteArray) (b_Long : Bool) (u : World) (R : Ending → World → Prop) : wFunc cx_fenestraref_SameParser Try.f17 [.agg #[.int .i64 a_At, .slice a_Params_p a_Params_n a_Params_c, .string a_Payload, .bool a_Long], .agg #[.int .i64 b_At, .slice b_Params_p b_Params_n b_Params_c, .string b_Payload, .bool b_Long]] u R = vc_fenestraref_SameParser a_At a_Params_p a_Params_n a_Params_c a_Payload a_Long b_At b_Params_p b_Params_n b_Params_c b_Payload b_Long u R := by kernel_rfl
theorem vc_fenestraref_SameParser_spec (a_At : Int) (a_Params_p : Option Addr) (a_Params_n a_Params_c : Nat) (a_Payload : ByteArray) (a_Long : Bool) (b_At : Int) (b_Params_p : Option Addr) (b_Params_n b_Params_c : Nat) (b_Payload : ByteArray) (b_Long : Bool) {u : World} {R : Ending → World → Prop} (h : vc_fenestraref_SameParser a_At a_Params_p a_Params_n a_Params_c a_Payload a_Long b_At b_Params_p b_Params_n b_Params_c b_Payload b_Long u R) : Spec Try.prog fn_fenestraref_SameParser #[.agg #[.int .i64 a_At, .slice a_Params_p a_Params_n a_Params_c, .string a_Payload, .bool a_Long], .agg #[.int .i64 b_At, .slice b_Params_p b_Params_n b_Params_c, .string b_Payload, .bool b_Long]] u R := func_spec (C := cx_fenestraref_SameParser) (fn := Try.f17) (args := [.agg #[.int .i64 a_At, .slice a_Params_p a_Params_n a_Params_c, .string a_Payload, .bool a_Long], .agg #[.int .i64 b_At, .slice b_Params_p b_Params_n b_Params_c, .string b_Payload, .bool b_Long]]) (ctxOk _ _ _ _ _) Try.func17 (vc_fenestraref_SameParser_eq a_At a_Params_p a_Params_n a_Params_c a_Payload a_Long b_At b_Params_p b_Params_n b_Params_c b_Payload b_Long u R) h

/-- fenestra/fenestraref.SameEvents -/
noncomputable def cx_fenestraref_SameEvents : Ctx := ⟨Try.prog, tab, [], [], [], fns, [(4, ⟨[.keep, .keep, .keep, .keep, .junk, .junk, .keep, .keep, .keep, .keep, .keep, .keep, .keep, .cell (.int .i64), .junk, .junk, .junk, .junk, .junk, .junk, .junk, .junk, .junk, .junk, .junk, .junk, .junk, .junk, .junk, .junk, .junk, .junk, .junk, .junk, .junk, .junk, .junk, .junk, .junk, .junk, .junk, .junk, .junk, .junk, .junk, .junk, .junk, .junk, .junk, .junk, .junk, .junk, .junk, .junk, .junk, .junk, .junk, .junk, .junk, .junk, .junk, .junk, .junk, .junk, .junk, .junk, .junk, .junk], []⟩)], []⟩
def vc_fenestraref_SameEvents (a_p : Option Addr) (a_n a_c : Nat) (b_p : Option Addr) (b_n b_c : Nat) (u : World) (R : Ending → World → Prop) : Prop :=
      (((!decide (((a_n : Nat) : Int) = ((b_n : Nat) : Int))) = true →
      R (.returned (.bool false)) u) ∧ ((!decide (((a_n : Nat) : Int) = ((b_n : Nat) : Int))) = false →
      ∃ (I_ : Int → World → Prop) (M_ : Int → World → Nat), (I_ 0 u) ∧
          ∀ (x13 : Int), ∀ u1 : World, I_ x13 u1 → (((decide (x13 < ((a_n : Nat) : Int))) = true →
          ∃ b o, a_p = some ⟨b, o, none⟩ ∧ 0 ≤ x13 ∧ x13 < ((a_n : Nat) : Int) ∧
          ∃ (x20 : Int), 1 = ([.int .i64 x20] : List Value).length ∧ Rd (drewW u1) b (o + x13.toNat * 4 + 0) ([.int .i64 x20]) ∧
          ∃ b1 o1, b_p = some ⟨b1, o1, none⟩ ∧ 0 ≤ x13 ∧ x13 < ((b_n : Nat) : Int) ∧
          ∃ (x25 : Int), 1 = ([.int .i64 x25] : List Value).length ∧ Rd (drewW u1) b1 (o1 + x13.toNat * 4 + 0) ([.int .i64 x25]) ∧
            (((!decide (x20 = x25)) = true → R (.returned (.bool false)) (drewW u1)) ∧
              ((!decide (x20 = x25)) = false → ∃ b2 o2, a_p = some ⟨b2, o2, none⟩ ∧
              0 ≤ x13 ∧ x13 < ((a_n : Nat) : Int) ∧ ∃ (x32 : Int), 1 = ([.int .i64 x32] : List Value).length ∧
              Rd (drewW u1) b2 (o2 + x13.toNat * 4 + 1) ([.int .i64 x32]) ∧ ∃ b3 o3, b_p = some ⟨b3, o3, none⟩ ∧
              0 ≤ x13 ∧ x13 < ((b_n : Nat) : Int) ∧ ∃ (x37 : Int), 1 = ([.int .i64 x37] : List Value).length ∧
                  Rd (drewW u1) b3 (o3 + x13.toNat * 4 + 1) ([.int .i64 x37]) ∧ (((!decide (x32 = x37)) = true →
                  R (.returned (.bool false)) (drewW u1)) ∧ ((!decide (x32 = x37)) = false →
                  ∃ b4 o4, a_p = some ⟨b4, o4, none⟩ ∧ 0 ≤ x13 ∧ x13 < ((a_n : Nat) : Int) ∧
                  ∃ (x45 : ByteArray), 1 = ([.string x45] : List Value).length ∧
                  Rd (drewW u1) b4 (o4 + x13.toNat * 4 + 3) ([.string x45]) ∧ ∃ b5 o5, b_p = some ⟨b5, o5, none⟩ ∧
                  0 ≤ x13 ∧ x13 < ((b_n : Nat) : Int) ∧ ∃ (x50 : ByteArray), 1 = ([.string x50] : List Value).length ∧
                      Rd (drewW u1) b5 (o5 + x13.toNat * 4 + 3) ([.string x50]) ∧ (((!decide (x45.data.toList = x50.data.toList)) = true →
                      R (.returned (.bool false)) (drewW u1)) ∧ ((!decide (x45.data.toList = x50.data.toList)) = false →
                      ∃ b6 o6, a_p = some ⟨b6, o6, none⟩ ∧ 0 ≤ x13 ∧ x13 < ((a_n : Nat) : Int) ∧
                      ∃ (x58q_p : Option Addr) (x58q_n x58q_c : Nat), 1 = ([.slice x58q_p x58q_n x58q_c] : List Value).length ∧
                      Rd (drewW u1) b6 (o6 + x13.toNat * 4 + 2) ([.slice x58q_p x58q_n x58q_c]) ∧
                      ∃ b7 o7, b_p = some ⟨b7, o7, none⟩ ∧ 0 ≤ x13 ∧ x13 < ((b_n : Nat) : Int) ∧
                      ∃ (x63q_p : Option Addr) (x63q_n x63q_c : Nat), 1 = ([.slice x63q_p x63q_n x63q_c] : List Value).length ∧
                      Rd (drewW u1) b7 (o7 + x13.toNat * 4 + 2) ([.slice x63q_p x63q_n x63q_c]) ∧
                        Spec Try.prog 47 #[.slice x58q_p x58q_n x58q_c, .slice x63q_p x63q_n x63q_c] (drewW u1) (fun e u11 => ∃ (x64 : Bool), e = .returned (.bool x64) ∧
                            (((!x64) = true → R (.returned (.bool false)) u11) ∧ ((!x64) = false →
        inK .i64 (x13 + 1) ∧ I_ (x13 + 1) u11 ∧ M_ (x13 + 1) u11 < M_ x13 u1)))))))))) ∧
  ((decide (x13 < ((a_n : Nat) : Int))) = false → R (.returned (.bool true)) u1))))
set_option maxRecDepth 100000 in
theorem vc_fenestraref_SameEvents_eq (a_p : Option Addr) (a_n a_c : Nat) (b_p : Option Addr) (b_n b_c : Nat) (u : World) (R : Ending → World → Prop) : wFunc cx_fenestraref_SameEvents Try.f18 [.slice a_p a_n a_c, .slice b_p b_n b_c] u R = vc_fenestraref_SameEvents a_p a_n a_c b_p b_n b_c u R := by kernel_rfl
theorem vc_fenestraref_SameEvents_spec (a_p : Option Addr) (a_n a_c : Nat) (b_p : Option Addr) (b_n b_c : Nat) {u : World} {R : Ending → World → Prop} (h : vc_fenestraref_SameEvents a_p a_n a_c b_p b_n b_c u R) : Spec Try.prog fn_fenestraref_SameEvents #[.slice a_p a_n a_c, .slice b_p b_n b_c] u R := func_spec (C := cx_fenestraref_SameEvents) (fn := Try.f18) (args := [.slice a_p a_n a_c, .slice b_p b_n b_c]) (ctxOk _ _ _ _ _) Try.func18 (vc_fenestraref_SameEvents_eq a_p a_n a_c b_p b_n b_c u R) h

end Go.Proofs.Ytkmmphkjmamckaa
