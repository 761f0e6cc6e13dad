import Derived.Test.YtkmmphkjmamckaaCtx
namespace Go.Proofs.Ytkmmphkjmamckaa
open Go
set_option linter.all false

/-- fenestra/fenestrakeep.reads -/
noncomputable def cx_fenestrakeep_reads : Ctx := ⟨Try.prog, tab, [], [], [], fns, [], []⟩
def vc_fenestrakeep_reads  (u : World) (R : Ending → World → Prop) : Prop :=
    Spec Try.prog 15 #[.agg #[.int .i64 0, .slice none 0 0, .string (ByteArray.mk #[]), .bool false], .string (ByteArray.mk #[97, 27, 91, 51, 59, 52, 72, 27])] u (fun e u1 => ∃ (x60q_At : Int) (x60q_Params_p : Option Addr) (x60q_Params_n x60q_Params_c : Nat) (x60q_Payload : ByteArray) (x60q_Long : Bool) (x61q_p : Option Addr) (x61q_n x61q_c : Nat) (x62 : Int), e = .returned (.tuple #[.agg #[.int .i64 x60q_At, .slice x60q_Params_p x60q_Params_n x60q_Params_c, .string x60q_Payload, .bool x60q_Long], .slice x61q_p x61q_n x61q_c, .int .i64 x62]) ∧
            (((decide (x62 = 0)) = true → (((decide (x60q_At = 1)) = true →
                (((decide (((x61q_n : Nat) : Int) = 2)) = true → ∃ b o, x61q_p = some ⟨b, o, none⟩ ∧
                0 ≤ (1 : Int) ∧ (1 : Int) < ((x61q_n : Nat) : Int) ∧ ∃ (x26 : Int), 1 = ([.int .i64 x26] : List Value).length ∧
                Rd (allocW u1 hole) b (o + (1 : Int).toNat * 4 + 0) ([.int .i64 x26]) ∧
                    (((decide (x26 = 3)) = true → ∃ b1 o1, x61q_p = some ⟨b1, o1, none⟩ ∧
                    0 ≤ (1 : Int) ∧ (1 : Int) < ((x61q_n : Nat) : Int) ∧ ∃ (x33 : Int), 1 = ([.int .i64 x33] : List Value).length ∧
                    Rd (allocW u1 hole) b1 (o1 + (1 : Int).toNat * 4 + 1) ([.int .i64 x33]) ∧
                        (((decide (x33 = 72)) = true → ∃ b2 o2, x61q_p = some ⟨b2, o2, none⟩ ∧
                        0 ≤ (1 : Int) ∧ (1 : Int) < ((x61q_n : Nat) : Int) ∧ ∃ (x40q_p : Option Addr) (x40q_n x40q_c : Nat), 1 = ([.slice x40q_p x40q_n x40q_c] : List Value).length ∧
                        Rd (allocW u1 hole) b2 (o2 + (1 : Int).toNat * 4 + 2) ([.slice x40q_p x40q_n x40q_c]) ∧
                      R (.returned (.bool (decide (((x40q_n : Nat) : Int) = 2)))) (allocW u1 hole)) ∧
                  ((decide (x33 = 72)) = false → R (.returned (.bool false)) (allocW u1 hole)))) ∧
              ((decide (x26 = 3)) = false → R (.returned (.bool false)) (allocW u1 hole)))) ∧
          ((decide (((x61q_n : Nat) : Int) = 2)) = false → R (.returned (.bool false)) (allocW u1 hole)))) ∧
      ((decide (x60q_At = 1)) = false → R (.returned (.bool false)) (allocW u1 hole)))) ∧
  ((decide (x62 = 0)) = false → R (.returned (.bool false)) (allocW u1 hole))))
set_option maxRecDepth 100000 in
theorem vc_fenestrakeep_reads_eq  (u : World) (R : Ending → World → Prop) : wFunc cx_fenestrakeep_reads Try.f22 [] u R = vc_fenestrakeep_reads  u R := by kernel_rfl
theorem vc_fenestrakeep_reads_spec  {u : World} {R : Ending → World → Prop} (h : vc_fenestrakeep_reads  u R) : Spec Try.prog fn_fenestrakeep_reads #[] u R := func_spec (C := cx_fenestrakeep_reads) (fn := Try.f22) (args := []) (ctxOk _ _ _ _ _) Try.func22 (vc_fenestrakeep_reads_eq  u R) h

/-- fenestra/fenestrakeep.ParseParts -/
noncomputable def cx_fenestrakeep_ParseParts : Ctx := ⟨Try.prog, tab, [], [], [], fns, [], []⟩
def vc_fenestrakeep_ParseParts (p_At : Int) (p_Params_p : Option Addr) (p_Params_n p_Params_c : Nat) (p_Payload : ByteArray) (p_Long : Bool) (a : ByteArray) (b : ByteArray) (u : World) (R : Ending → World → Prop) : Prop :=
    Spec Try.prog 15 #[.agg #[.int .i64 p_At, .slice p_Params_p p_Params_n p_Params_c, .string p_Payload, .bool p_Long], .string a] (allocW u hole) (fun e u1 => ∃ (x190q_At : Int) (x190q_Params_p : Option Addr) (x190q_Params_n x190q_Params_c : Nat) (x190q_Payload : ByteArray) (x190q_Long : Bool) (x191q_p : Option Addr) (x191q_n x191q_c : Nat) (x192 : Int), e = .returned (.tuple #[.agg #[.int .i64 x190q_At, .slice x190q_Params_p x190q_Params_n x190q_Params_c, .string x190q_Payload, .bool x190q_Long], .slice x191q_p x191q_n x191q_c, .int .i64 x192]) ∧
      Spec Try.prog 15 #[.agg #[.int .i64 x190q_At, .slice x190q_Params_p x190q_Params_n x190q_Params_c, .string x190q_Payload, .bool x190q_Long], .string b] (allocW u1 hole) (fun e u11 => ∃ (x260q_At : Int) (x260q_Params_p : Option Addr) (x260q_Params_n x260q_Params_c : Nat) (x260q_Payload : ByteArray) (x260q_Long : Bool) (x261q_p : Option Addr) (x261q_n x261q_c : Nat) (x262 : Int), e = .returned (.tuple #[.agg #[.int .i64 x260q_At, .slice x260q_Params_p x260q_Params_n x260q_Params_c, .string x260q_Payload, .bool x260q_Long], .slice x261q_p x261q_n x261q_c, .int .i64 x262]) ∧
        ((a.size + b.size : Nat) : Int) ≤ 9223372036854775807 ∧ Spec Try.prog 15 #[.agg #[.int .i64 p_At, .slice p_Params_p p_Params_n p_Params_c, .string p_Payload, .bool p_Long], .string (a ++ b)] (allocW u11 hole) (fun e u12 => ∃ (x350q_At : Int) (x350q_Params_p : Option Addr) (x350q_Params_n x350q_Params_c : Nat) (x350q_Payload : ByteArray) (x350q_Long : Bool) (x351q_p : Option Addr) (x351q_n x351q_c : Nat) (x352 : Int), e = .returned (.tuple #[.agg #[.int .i64 x350q_At, .slice x350q_Params_p x350q_Params_n x350q_Params_c, .string x350q_Payload, .bool x350q_Long], .slice x351q_p x351q_n x351q_c, .int .i64 x352]) ∧
                (((!decide (x192 = 0)) = true → (((decide (x192 = 1)) = true →
                      (((decide (((x191q_n : Nat) : Int) = 0)) = true → Spec Try.prog 22 #[] (allocW u12 hole) (fun e u13 => ∃ (x53 : Bool), e = .returned (.bool x53) ∧
                    R (.returned (.bool x53)) u13)) ∧ ((decide (((x191q_n : Nat) : Int) = 0)) = false →
                R (.returned (.bool false)) (allocW u12 hole)))) ∧ ((decide (x192 = 1)) = false →
            R (.returned (.bool false)) (allocW u12 hole)))) ∧ ((!decide (x192 = 0)) = false →
              Spec Try.prog 22 #[] (allocW u12 hole) (fun e u14 => ∃ (x42 : Bool), e = .returned (.bool x42) ∧
                          (((!x42) = true → (((decide (x192 = 1)) = true → (((decide (((x191q_n : Nat) : Int) = 0)) = true →
                            Spec Try.prog 22 #[] u14 (fun e u15 => ∃ (x531 : Bool), e = .returned (.bool x531) ∧
                          R (.returned (.bool x531)) u15)) ∧ ((decide (((x191q_n : Nat) : Int) = 0)) = false →
                      R (.returned (.bool false)) u14))) ∧ ((decide (x192 = 1)) = false →
                      R (.returned (.bool false)) u14))) ∧ ((!x42) = false → (((decide (x262 = 0)) = true →
                            (((decide (x352 = 0)) = true → Spec Try.prog 23 #[.agg #[.int .i64 x260q_At, .slice x260q_Params_p x260q_Params_n x260q_Params_c, .string x260q_Payload, .bool x260q_Long], .agg #[.int .i64 x350q_At, .slice x350q_Params_p x350q_Params_n x350q_Params_c, .string x350q_Payload, .bool x350q_Long]] u14 (fun e u16 => ∃ (x64 : Bool), e = .returned (.bool x64) ∧
                                ((x64 = true → ∃ old new : List Value, old.length = 0 * 4 ∧ Gets u16 none old ∧
                                new.length = x191q_n * 4 ∧ Gets u16 x191q_p new ∧ 0 < 56 ∧ (2 * (0 + x191q_n) + 192) * 56 ≤ 140737488355328 ∧
                                okCells new True ∧ (0 + x191q_n ≤ 0 → WrS u16 none (0 * 4) (x191q_n * 4)) ∧
                                ∀ p cap u17, AppR u16 37 4 [.int .i64 0, .int .i64 0, .slice none 0 0, .string (ByteArray.mk #[])] none 0 0 x191q_n old new p cap u17 →
                                ∃ old1 new1 : List Value, old1.length = (0 + x191q_n) * 4 ∧ Gets u17 p old1 ∧
                                new1.length = x261q_n * 4 ∧ Gets u17 x261q_p new1 ∧ 0 < 56 ∧ (2 * ((0 + x191q_n) + x261q_n) + 192) * 56 ≤ 140737488355328 ∧
                                okCells new1 True ∧ ((0 + x191q_n) + x261q_n ≤ cap → WrS u17 p ((0 + x191q_n) * 4) (x261q_n * 4)) ∧
                                ∀ p1 cap1 u18, AppR u17 37 4 [.int .i64 0, .int .i64 0, .slice none 0 0, .string (ByteArray.mk #[])] p (0 + x191q_n) cap x261q_n old1 new1 p1 cap1 u18 →
                                  Spec Try.prog 24 #[.slice p1 ((0 + x191q_n) + x261q_n) cap1, .slice x351q_p x351q_n x351q_c] u18 (fun e u19 => ∃ (x72 : Bool), e = .returned (.bool x72) ∧
                                        ((x72 = true → Spec Try.prog 19 #[.agg #[.int .i64 x350q_At, .slice x350q_Params_p x350q_Params_n x350q_Params_c, .string x350q_Payload, .bool x350q_Long]] u19 (fun e u110 => ∃ (x76 : Bool), e = .returned (.bool x76) ∧
                              R (.returned (.bool x76)) u110)) ∧ (x72 = false → R (.returned (.bool false)) u19)))) ∧
                          (x64 = false → R (.returned (.bool false)) u16)))) ∧ ((decide (x352 = 0)) = false →
                      R (.returned (.bool false)) u14))) ∧ ((decide (x262 = 0)) = false →
  R (.returned (.bool false)) u14))))))))))
set_option maxRecDepth 100000 in
theorem vc_fenestrakeep_ParseParts_eq (p_At : Int) (p_Params_p : Option Addr) (p_Params_n p_Params_c : Nat) (p_Payload : ByteArray) (p_Long : Bool) (a : ByteArray) (b : ByteArray) (u : World) (R : Ending → World → Prop) : wFunc cx_fenestrakeep_ParseParts Try.f5 [.agg #[.int .i64 p_At, .slice p_Params_p p_Params_n p_Params_c, .string p_Payload, .bool p_Long], .string a, .string b] u R = vc_fenestrakeep_ParseParts p_At p_Params_p p_Params_n p_Params_c p_Payload p_Long a b u R := by kernel_rfl
theorem vc_fenestrakeep_ParseParts_spec (p_At : Int) (p_Params_p : Option Addr) (p_Params_n p_Params_c : Nat) (p_Payload : ByteArray) (p_Long : Bool) (a : ByteArray) (b : ByteArray) {u : World} {R : Ending → World → Prop} (h : vc_fenestrakeep_ParseParts p_At p_Params_p p_Params_n p_Params_c p_Payload p_Long a b u R) : Spec Try.prog fn_fenestrakeep_ParseParts #[.agg #[.int .i64 p_At, .slice p_Params_p p_Params_n p_Params_c, .string p_Payload, .bool p_Long], .string a, .string b] u R := func_spec (C := cx_fenestrakeep_ParseParts) (fn := Try.f5) (args := [.agg #[.int .i64 p_At, .slice p_Params_p p_Params_n p_Params_c, .string p_Payload, .bool p_Long], .string a, .string b]) (ctxOk _ _ _ _ _) Try.func5 (vc_fenestrakeep_ParseParts_eq p_At p_Params_p p_Params_n p_Params_c p_Payload p_Long a b u R) h

/-- fenestra/fenestrakeep.ParsePlain -/
noncomputable def cx_fenestrakeep_ParsePlain : Ctx := ⟨Try.prog, tab, [], [], [], fns, [(3, ⟨[.keep, .keep, .junk, .keep, .keep, .keep, .junk, .keep, .keep, .keep, .keep, .keep, .keep, .keep, .keep, .keep, .keep, .cell (.int .i64), .junk, .junk, .junk, .junk, .junk, .junk, .junk, .junk, .junk, .junk, .junk, .junk, .junk, .junk, .keep, .keep, .keep, .keep, .keep, .keep, .keep, .keep, .keep, .keep, .keep, .keep, .keep, .keep, .keep, .keep, .keep, .keep, .keep, .keep, .keep, .keep, .keep, .keep, .keep, .keep, .keep, .keep, .keep, .keep, .keep, .keep, .keep, .keep, .keep, .keep, .keep, .keep, .keep, .keep, .keep, .keep, .keep], [.keep]⟩), (11, ⟨[.keep, .keep, .junk, .keep, .keep, .keep, .keep, .junk, .keep, .keep, .keep, .keep, .keep, .keep, .keep, .keep, .keep, .keep, .keep, .keep, .keep, .keep, .keep, .keep, .keep, .keep, .keep, .keep, .keep, .keep, .keep, .keep, .keep, .keep, .keep, .keep, .keep, .keep, .keep, .keep, .keep, .keep, .keep, .keep, .keep, .keep, .keep, .keep, .keep, .keep, .keep, .keep, .keep, .cell (.int .i64), .junk, .junk, .junk, .junk, .junk, .junk, .junk, .junk, .junk, .junk, .junk, .junk, .junk, .junk, .junk, .junk, .junk, .junk, .junk, .junk, .junk], [.keep]⟩)], []⟩
def vc_fenestrakeep_ParsePlain (s : ByteArray) (u : World) (R : Ending → World → Prop) : Prop :=
    Spec Try.prog 15 #[.agg #[.int .i64 0, .slice none 0 0, .string (ByteArray.mk #[]), .bool false], .string s] u (fun e u1 => ∃ (x110q_At : Int) (x110q_Params_p : Option Addr) (x110q_Params_n x110q_Params_c : Nat) (x110q_Payload : ByteArray) (x110q_Long : Bool) (x111q_p : Option Addr) (x111q_n x111q_c : Nat) (x112 : Int), e = .returned (.tuple #[.agg #[.int .i64 x110q_At, .slice x110q_Params_p x110q_Params_n x110q_Params_c, .string x110q_Payload, .bool x110q_Long], .slice x111q_p x111q_n x111q_c, .int .i64 x112]) ∧
      ∃ (I_ : Int → World → Prop) (M_ : Int → World → Nat), ((Loc.mk 25 false ([.int .i64 x110q_At, .slice x110q_Params_p x110q_Params_n x110q_Params_c, .string x110q_Payload, .bool x110q_Long])) = (Loc.mk 25 false ([.int .i64 x110q_At, .slice x110q_Params_p x110q_Params_n x110q_Params_c, .string x110q_Payload, .bool x110q_Long])) ∧
    I_ 0 (allocW u1 hole)) ∧ ∀ (x17 : Int), (Loc.mk 25 false ([.int .i64 x110q_At, .slice x110q_Params_p x110q_Params_n x110q_Params_c, .string x110q_Payload, .bool x110q_Long])) = (Loc.mk 25 false ([.int .i64 x110q_At, .slice x110q_Params_p x110q_Params_n x110q_Params_c, .string x110q_Payload, .bool x110q_Long])) ∧
        ∀ u11 : World, I_ x17 u11 → (((decide (x17 < ((s.size : Nat) : Int))) = true →
            0 ≤ x17 ∧ ∃ c : UInt8, s.data.toList[x17.toNat]? = some c ∧ (((decide (((c.toNat : Nat) : Int) < 32)) = true →
              Spec Try.prog 22 #[] u11 (fun e u12 => ∃ (x30 : Bool), e = .returned (.bool x30) ∧
            R (.returned (.bool x30)) u12)) ∧ ((decide (((c.toNat : Nat) : Int) < 32)) = false →
                0 ≤ x17 ∧ ∃ c1 : UInt8, s.data.toList[x17.toNat]? = some c1 ∧ (((decide ((126 : Int) < ((c1.toNat : Nat) : Int))) = true →
                  Spec Try.prog 22 #[] u11 (fun e u13 => ∃ (x301 : Bool), e = .returned (.bool x301) ∧
                R (.returned (.bool x301)) u13)) ∧ ((decide ((126 : Int) < ((c1.toNat : Nat) : Int))) = false →
                inK .i64 (x17 + 1) ∧ (Loc.mk 25 false ([.int .i64 x110q_At, .slice x110q_Params_p x110q_Params_n x110q_Params_c, .string x110q_Payload, .bool x110q_Long])) = (Loc.mk 25 false ([.int .i64 x110q_At, .slice x110q_Params_p x110q_Params_n x110q_Params_c, .string x110q_Payload, .bool x110q_Long])) ∧
                I_ (x17 + 1) u11 ∧ (Loc.mk 25 false ([.int .i64 x110q_At, .slice x110q_Params_p x110q_Params_n x110q_Params_c, .string x110q_Payload, .bool x110q_Long])) = (Loc.mk 25 false ([.int .i64 x110q_At, .slice x110q_Params_p x110q_Params_n x110q_Params_c, .string x110q_Payload, .bool x110q_Long])) ∧
        M_ (x17 + 1) u11 < M_ x17 u11))))) ∧ ((decide (x17 < ((s.size : Nat) : Int))) = false →
          (((!decide (x112 = 0)) = true → R (.returned (.bool false)) u11) ∧
              ((!decide (x112 = 0)) = false → Spec Try.prog 23 #[.agg #[.int .i64 x110q_At, .slice x110q_Params_p x110q_Params_n x110q_Params_c, .string x110q_Payload, .bool x110q_Long], .agg #[.int .i64 0, .slice none 0 0, .string (ByteArray.mk #[]), .bool false]] u11 (fun e u14 => ∃ (x37 : Bool), e = .returned (.bool x37) ∧
                  (((!x37) = true → R (.returned (.bool false)) u14) ∧ ((!x37) = false →
                      (((!decide (((x111q_n : Nat) : Int) = ((s.size : Nat) : Int))) = true →
                      R (.returned (.bool false)) u14) ∧ ((!decide (((x111q_n : Nat) : Int) = ((s.size : Nat) : Int))) = false →
                        Spec Try.prog 22 #[] u14 (fun e u15 => ∃ (x48 : Bool), e = .returned (.bool x48) ∧
                            (((!x48) = true → R (.returned (.bool false)) u15) ∧ ((!x48) = false →
                              ∃ (I_1 : Int → World → Prop) (M_1 : Int → World → Nat), ((Loc.mk 25 false ([.int .i64 x110q_At, .slice x110q_Params_p x110q_Params_n x110q_Params_c, .string x110q_Payload, .bool x110q_Long])) = (Loc.mk 25 false ([.int .i64 x110q_At, .slice x110q_Params_p x110q_Params_n x110q_Params_c, .string x110q_Payload, .bool x110q_Long])) ∧
                            I_1 0 u15) ∧ ∀ (x53 : Int), (Loc.mk 25 false ([.int .i64 x110q_At, .slice x110q_Params_p x110q_Params_n x110q_Params_c, .string x110q_Payload, .bool x110q_Long])) = (Loc.mk 25 false ([.int .i64 x110q_At, .slice x110q_Params_p x110q_Params_n x110q_Params_c, .string x110q_Payload, .bool x110q_Long])) ∧
                                ∀ u16 : World, I_1 x53 u16 → (((decide (x53 < ((x111q_n : Nat) : Int))) = true →
                                ∃ b o, x111q_p = some ⟨b, o, none⟩ ∧ 0 ≤ x53 ∧ x53 < ((x111q_n : Nat) : Int) ∧
                                ∃ (x60 : Int), 1 = ([.int .i64 x60] : List Value).length ∧ Rd (drewW u16) b (o + x53.toNat * 4 + 0) ([.int .i64 x60]) ∧
                                  (((!decide (x60 = 1)) = true → R (.returned (.bool false)) (drewW u16)) ∧
                                    ((!decide (x60 = 1)) = false → ∃ b1 o1, x111q_p = some ⟨b1, o1, none⟩ ∧
                                    0 ≤ x53 ∧ x53 < ((x111q_n : Nat) : Int) ∧ ∃ (x67 : Int), 1 = ([.int .i64 x67] : List Value).length ∧
                                    Rd (drewW u16) b1 (o1 + x53.toNat * 4 + 1) ([.int .i64 x67]) ∧
                                    0 ≤ x53 ∧ ∃ c2 : UInt8, s.data.toList[x53.toNat]? = some c2 ∧ inK .i64 ((c2.toNat : Nat) : Int) ∧
                                      (((!decide (x67 = ((c2.toNat : Nat) : Int))) = true → R (.returned (.bool false)) (drewW u16)) ∧
                                        ((!decide (x67 = ((c2.toNat : Nat) : Int))) = false → inK .i64 (x53 + 1) ∧
                                        (Loc.mk 25 false ([.int .i64 x110q_At, .slice x110q_Params_p x110q_Params_n x110q_Params_c, .string x110q_Payload, .bool x110q_Long])) = (Loc.mk 25 false ([.int .i64 x110q_At, .slice x110q_Params_p x110q_Params_n x110q_Params_c, .string x110q_Payload, .bool x110q_Long])) ∧
                                        I_1 (x53 + 1) (drewW u16) ∧ (Loc.mk 25 false ([.int .i64 x110q_At, .slice x110q_Params_p x110q_Params_n x110q_Params_c, .string x110q_Payload, .bool x110q_Long])) = (Loc.mk 25 false ([.int .i64 x110q_At, .slice x110q_Params_p x110q_Params_n x110q_Params_c, .string x110q_Payload, .bool x110q_Long])) ∧
                                M_1 (x53 + 1) (drewW u16) < M_1 x53 u16))))) ∧ ((decide (x53 < ((x111q_n : Nat) : Int))) = false →
  R (.returned (.bool true)) u16)))))))))))))))
set_option maxRecDepth 100000 in
theorem vc_fenestrakeep_ParsePlain_eq (s : ByteArray) (u : World) (R : Ending → World → Prop) : wFunc cx_fenestrakeep_ParsePlain Try.f6 [.string s] u R = vc_fenestrakeep_ParsePlain s u R := by kernel_rfl
theorem vc_fenestrakeep_ParsePlain_spec (s : ByteArray) {u : World} {R : Ending → World → Prop} (h : vc_fenestrakeep_ParsePlain s u R) : Spec Try.prog fn_fenestrakeep_ParsePlain #[.string s] u R := func_spec (C := cx_fenestrakeep_ParsePlain) (fn := Try.f6) (args := [.string s]) (ctxOk _ _ _ _ _) Try.func6 (vc_fenestrakeep_ParsePlain_eq s u R) h

/-- fenestra/fenestrakeep.ParseStops -/
noncomputable def cx_fenestrakeep_ParseStops : Ctx := ⟨Try.prog, tab, [], [], [], fns, [], []⟩
def vc_fenestrakeep_ParseStops (p_At : Int) (p_Params_p : Option Addr) (p_Params_n p_Params_c : Nat) (p_Payload : ByteArray) (p_Long : Bool) (s : ByteArray) (u : World) (R : Ending → World → Prop) : Prop :=
    Spec Try.prog 15 #[.agg #[.int .i64 p_At, .slice p_Params_p p_Params_n p_Params_c, .string p_Payload, .bool p_Long], .string s] (allocW u hole) (fun e u1 => ∃ (x140q_At : Int) (x140q_Params_p : Option Addr) (x140q_Params_n x140q_Params_c : Nat) (x140q_Payload : ByteArray) (x140q_Long : Bool) (x141q_p : Option Addr) (x141q_n x141q_c : Nat) (x142 : Int), e = .returned (.tuple #[.agg #[.int .i64 x140q_At, .slice x140q_Params_p x140q_Params_n x140q_Params_c, .string x140q_Payload, .bool x140q_Long], .slice x141q_p x141q_n x141q_c, .int .i64 x142]) ∧
          (((!decide (x142 = 0)) = true → Spec Try.prog 22 #[] (allocW u1 hole) (fun e u11 => ∃ (x24 : Bool), e = .returned (.bool x24) ∧
        R (.returned (.bool x24)) u11)) ∧ ((!decide (x142 = 0)) = false →
          Spec Try.prog 22 #[] (allocW u1 hole) (fun e u12 => ∃ (x21 : Bool), e = .returned (.bool x21) ∧
                (((!x21) = true → Spec Try.prog 22 #[] u12 (fun e u13 => ∃ (x241 : Bool), e = .returned (.bool x241) ∧
                R (.returned (.bool x241)) u13)) ∧ ((!x21) = false → Spec Try.prog 15 #[.agg #[.int .i64 x140q_At, .slice x140q_Params_p x140q_Params_n x140q_Params_c, .string x140q_Payload, .bool x140q_Long], .string (ByteArray.mk #[24])] u12 (fun e u14 => ∃ (x270q_At : Int) (x270q_Params_p : Option Addr) (x270q_Params_n x270q_Params_c : Nat) (x270q_Payload : ByteArray) (x270q_Long : Bool) (x271q_p : Option Addr) (x271q_n x271q_c : Nat) (x272 : Int), e = .returned (.tuple #[.agg #[.int .i64 x270q_At, .slice x270q_Params_p x270q_Params_n x270q_Params_c, .string x270q_Payload, .bool x270q_Long], .slice x271q_p x271q_n x271q_c, .int .i64 x272]) ∧
                        (((decide (x272 = 0)) = true → (((decide (((x271q_n : Nat) : Int) = 0)) = true →
                          Spec Try.prog 23 #[.agg #[.int .i64 x270q_At, .slice x270q_Params_p x270q_Params_n x270q_Params_c, .string x270q_Payload, .bool x270q_Long], .agg #[.int .i64 0, .slice none 0 0, .string (ByteArray.mk #[]), .bool false]] (allocW u14 hole) (fun e u15 => ∃ (x41 : Bool), e = .returned (.bool x41) ∧
                        R (.returned (.bool x41)) u15)) ∧ ((decide (((x271q_n : Nat) : Int) = 0)) = false →
                    R (.returned (.bool false)) (allocW u14 hole)))) ∧ ((decide (x272 = 0)) = false →
  R (.returned (.bool false)) (allocW u14 hole))))))))))
set_option maxRecDepth 100000 in
theorem vc_fenestrakeep_ParseStops_eq (p_At : Int) (p_Params_p : Option Addr) (p_Params_n p_Params_c : Nat) (p_Payload : ByteArray) (p_Long : Bool) (s : ByteArray) (u : World) (R : Ending → World → Prop) : wFunc cx_fenestrakeep_ParseStops Try.f7 [.agg #[.int .i64 p_At, .slice p_Params_p p_Params_n p_Params_c, .string p_Payload, .bool p_Long], .string s] u R = vc_fenestrakeep_ParseStops p_At p_Params_p p_Params_n p_Params_c p_Payload p_Long s u R := by kernel_rfl
theorem vc_fenestrakeep_ParseStops_spec (p_At : Int) (p_Params_p : Option Addr) (p_Params_n p_Params_c : Nat) (p_Payload : ByteArray) (p_Long : Bool) (s : ByteArray) {u : World} {R : Ending → World → Prop} (h : vc_fenestrakeep_ParseStops p_At p_Params_p p_Params_n p_Params_c p_Payload p_Long s u R) : Spec Try.prog fn_fenestrakeep_ParseStops #[.agg #[.int .i64 p_At, .slice p_Params_p p_Params_n p_Params_c, .string p_Payload, .bool p_Long], .string s] u R := func_spec (C := cx_fenestrakeep_ParseStops) (fn := Try.f7) (args := [.agg #[.int .i64 p_At, .slice p_Params_p p_Params_n p_Params_c, .string p_Payload, .bool p_Long], .string s]) (ctxOk _ _ _ _ _) Try.func7 (vc_fenestrakeep_ParseStops_eq p_At p_Params_p p_Params_n p_Params_c p_Payload p_Long s u R) h

end Go.Proofs.Ytkmmphkjmamckaa
