import Derived.Test.YtkmmphkjmamckaaCtx
namespace Go.Proofs.Ytkmmphkjmamckaa
open Go
set_option linter.all false

/-- fenestra/fenestralaw.reads -/
noncomputable def cx_fenestralaw_reads : Ctx := ⟨Try.prog, tab, [], [], [], fns, [], []⟩
def vc_fenestralaw_reads  (u : World) (R : Ending → World → Prop) : Prop :=
    Spec Try.prog 15 #[.agg #[.int .i64 0, .slice none 0 0, .string (ByteArray.mk #[]), .bool false], .string (ByteArray.mk #[97, 27, 91, 51, 59, 52, 72, 27])] u (fun e u1 => ∃ (x60q_At : Int) (x60q_Params_p : Option Addr) (x60q_Params_n x60q_Params_c : Nat) (x60q_Payload : ByteArray) (x60q_Long : Bool) (x61q_p : Option Addr) (x61q_n x61q_c : Nat) (x62 : Int), e = .returned (.tuple #[.agg #[.int .i64 x60q_At, .slice x60q_Params_p x60q_Params_n x60q_Params_c, .string x60q_Payload, .bool x60q_Long], .slice x61q_p x61q_n x61q_c, .int .i64 x62]) ∧
            (((decide (x62 = 0)) = true → (((decide (x60q_At = 1)) = true →
                (((decide (((x61q_n : Nat) : Int) = 2)) = true → ∃ b o, x61q_p = some ⟨b, o, none⟩ ∧
                0 ≤ (1 : Int) ∧ (1 : Int) < ((x61q_n : Nat) : Int) ∧ ∃ (x26 : Int), 1 = ([.int .i64 x26] : List Value).length ∧
                Rd (allocW u1 hole) b (o + (1 : Int).toNat * 4 + 0) ([.int .i64 x26]) ∧
                    (((decide (x26 = 3)) = true → ∃ b1 o1, x61q_p = some ⟨b1, o1, none⟩ ∧
                    0 ≤ (1 : Int) ∧ (1 : Int) < ((x61q_n : Nat) : Int) ∧ ∃ (x33 : Int), 1 = ([.int .i64 x33] : List Value).length ∧
                    Rd (allocW u1 hole) b1 (o1 + (1 : Int).toNat * 4 + 1) ([.int .i64 x33]) ∧
                        (((decide (x33 = 72)) = true → ∃ b2 o2, x61q_p = some ⟨b2, o2, none⟩ ∧
                        0 ≤ (1 : Int) ∧ (1 : Int) < ((x61q_n : Nat) : Int) ∧ ∃ (x40q_p : Option Addr) (x40q_n x40q_c : Nat), 1 = ([.slice x40q_p x40q_n x40q_c] : List Value).length ∧
                        Rd (allocW u1 hole) b2 (o2 + (1 : Int).toNat * 4 + 2) ([.slice x40q_p x40q_n x40q_c]) ∧
                      R (.returned (.bool (decide (((x40q_n : Nat) : Int) = 2)))) (allocW u1 hole)) ∧
                  ((decide (x33 = 72)) = false → R (.returned (.bool false)) (allocW u1 hole)))) ∧
              ((decide (x26 = 3)) = false → R (.returned (.bool false)) (allocW u1 hole)))) ∧
          ((decide (((x61q_n : Nat) : Int) = 2)) = false → R (.returned (.bool false)) (allocW u1 hole)))) ∧
      ((decide (x60q_At = 1)) = false → R (.returned (.bool false)) (allocW u1 hole)))) ∧
  ((decide (x62 = 0)) = false → R (.returned (.bool false)) (allocW u1 hole))))
set_option maxRecDepth 100000 in
theorem vc_fenestralaw_reads_eq  (u : World) (R : Ending → World → Prop) : wFunc cx_fenestralaw_reads Try.f21 [] u R = vc_fenestralaw_reads  u R := by kernel_rfl
theorem vc_fenestralaw_reads_spec  {u : World} {R : Ending → World → Prop} (h : vc_fenestralaw_reads  u R) : Spec Try.prog fn_fenestralaw_reads #[] u R := func_spec (C := cx_fenestralaw_reads) (fn := Try.f21) (args := []) (ctxOk _ _ _ _ _) Try.func21 (vc_fenestralaw_reads_eq  u R) h

/-- fenestra/fenestralaw.Names -/
noncomputable def cx_fenestralaw_Names : Ctx := ⟨Try.prog, tab, [], [], [], fns, [], []⟩
def vc_fenestralaw_Names  (u : World) (R : Ending → World → Prop) : Prop :=
  R (.returned (.bool true)) u
set_option maxRecDepth 100000 in
theorem vc_fenestralaw_Names_eq  (u : World) (R : Ending → World → Prop) : wFunc cx_fenestralaw_Names Try.f3 [] u R = vc_fenestralaw_Names  u R := by kernel_rfl
theorem vc_fenestralaw_Names_spec  {u : World} {R : Ending → World → Prop} (h : vc_fenestralaw_Names  u R) : Spec Try.prog fn_fenestralaw_Names #[] u R := func_spec (C := cx_fenestralaw_Names) (fn := Try.f3) (args := []) (ctxOk _ _ _ _ _) Try.func3 (vc_fenestralaw_Names_eq  u R) h

/-- fenestra/fenestralaw.ParseFeeds -/
noncomputable def cx_fenestralaw_ParseFeeds : Ctx := ⟨Try.prog, tab, [], [], [], fns, [], []⟩
def vc_fenestralaw_ParseFeeds (p_At : Int) (p_Params_p : Option Addr) (p_Params_n p_Params_c : Nat) (p_Payload : ByteArray) (p_Long : Bool) (s : ByteArray) (u : World) (R : Ending → World → Prop) : Prop :=
    Spec Try.prog 14 #[.agg #[.int .i64 p_At, .slice p_Params_p p_Params_n p_Params_c, .string p_Payload, .bool p_Long]] (allocW u hole) (fun e u1 => ∃ (x13q_At : Int) (x13q_Params_p : Option Addr) (x13q_Params_n x13q_Params_c : Nat) (x13q_Payload : ByteArray) (x13q_Long : Bool), e = .returned (.agg #[.int .i64 x13q_At, .slice x13q_Params_p x13q_Params_n x13q_Params_c, .string x13q_Payload, .bool x13q_Long]) ∧
      Spec Try.prog 15 #[.agg #[.int .i64 x13q_At, .slice x13q_Params_p x13q_Params_n x13q_Params_c, .string x13q_Payload, .bool x13q_Long], .string s] (allocW u1 hole) (fun e u11 => ∃ (x170q_At : Int) (x170q_Params_p : Option Addr) (x170q_Params_n x170q_Params_c : Nat) (x170q_Payload : ByteArray) (x170q_Long : Bool) (x171q_p : Option Addr) (x171q_n x171q_c : Nat) (x172 : Int), e = .returned (.tuple #[.agg #[.int .i64 x170q_At, .slice x170q_Params_p x170q_Params_n x170q_Params_c, .string x170q_Payload, .bool x170q_Long], .slice x171q_p x171q_n x171q_c, .int .i64 x172]) ∧
        Spec Try.prog 16 #[.agg #[.int .i64 p_At, .slice p_Params_p p_Params_n p_Params_c, .string p_Payload, .bool p_Long], .string s] (allocW u11 hole) (fun e u12 => ∃ (x240q_At : Int) (x240q_Params_p : Option Addr) (x240q_Params_n x240q_Params_c : Nat) (x240q_Payload : ByteArray) (x240q_Long : Bool) (x241q_p : Option Addr) (x241q_n x241q_c : Nat) (x242 : Int), e = .returned (.tuple #[.agg #[.int .i64 x240q_At, .slice x240q_Params_p x240q_Params_n x240q_Params_c, .string x240q_Payload, .bool x240q_Long], .slice x241q_p x241q_n x241q_c, .int .i64 x242]) ∧
          Spec Try.prog 17 #[.agg #[.int .i64 x170q_At, .slice x170q_Params_p x170q_Params_n x170q_Params_c, .string x170q_Payload, .bool x170q_Long], .agg #[.int .i64 x240q_At, .slice x240q_Params_p x240q_Params_n x240q_Params_c, .string x240q_Payload, .bool x240q_Long]] (drewW (allocW u12 hole)) (fun e u13 => ∃ (x30 : Bool), e = .returned (.bool x30) ∧
                ((x30 = true → Spec Try.prog 18 #[.slice x171q_p x171q_n x171q_c, .slice x241q_p x241q_n x241q_c] u13 (fun e u14 => ∃ (x34 : Bool), e = .returned (.bool x34) ∧
                          ((x34 = true → (((decide (x172 = x242)) = true → Spec Try.prog 19 #[.agg #[.int .i64 x13q_At, .slice x13q_Params_p x13q_Params_n x13q_Params_c, .string x13q_Payload, .bool x13q_Long]] u14 (fun e u15 => ∃ (x43 : Bool), e = .returned (.bool x43) ∧
                            Spec Try.prog 20 #[.agg #[.int .i64 p_At, .slice p_Params_p p_Params_n p_Params_c, .string p_Payload, .bool p_Long]] u15 (fun e u16 => ∃ (x45 : Bool), e = .returned (.bool x45) ∧
                                  (((x43 == x45) = true → Spec Try.prog 17 #[.agg #[.int .i64 x13q_At, .slice x13q_Params_p x13q_Params_n x13q_Params_c, .string x13q_Payload, .bool x13q_Long], .agg #[.int .i64 p_At, .slice p_Params_p p_Params_n p_Params_c, .string p_Payload, .bool p_Long]] u16 (fun e u17 => ∃ (x51 : Bool), e = .returned (.bool x51) ∧
                                        ((x51 = true → Spec Try.prog 21 #[] u17 (fun e u18 => ∃ (x54 : Bool), e = .returned (.bool x54) ∧
                              R (.returned (.bool x54)) u18)) ∧ (x51 = false → R (.returned (.bool false)) u17)))) ∧
                      ((x43 == x45) = false → R (.returned (.bool false)) u16))))) ∧
                  ((decide (x172 = x242)) = false → R (.returned (.bool false)) u14))) ∧
              (x34 = false → R (.returned (.bool false)) u14)))) ∧ (x30 = false →
  R (.returned (.bool false)) u13))))))
set_option maxRecDepth 100000 in
theorem vc_fenestralaw_ParseFeeds_eq (p_At : Int) (p_Params_p : Option Addr) (p_Params_n p_Params_c : Nat) (p_Payload : ByteArray) (p_Long : Bool) (s : ByteArray) (u : World) (R : Ending → World → Prop) : wFunc cx_fenestralaw_ParseFeeds Try.f4 [.agg #[.int .i64 p_At, .slice p_Params_p p_Params_n p_Params_c, .string p_Payload, .bool p_Long], .string s] u R = vc_fenestralaw_ParseFeeds p_At p_Params_p p_Params_n p_Params_c p_Payload p_Long s u R := by kernel_rfl
theorem vc_fenestralaw_ParseFeeds_spec (p_At : Int) (p_Params_p : Option Addr) (p_Params_n p_Params_c : Nat) (p_Payload : ByteArray) (p_Long : Bool) (s : ByteArray) {u : World} {R : Ending → World → Prop} (h : vc_fenestralaw_ParseFeeds p_At p_Params_p p_Params_n p_Params_c p_Payload p_Long s u R) : Spec Try.prog fn_fenestralaw_ParseFeeds #[.agg #[.int .i64 p_At, .slice p_Params_p p_Params_n p_Params_c, .string p_Payload, .bool p_Long], .string s] u R := func_spec (C := cx_fenestralaw_ParseFeeds) (fn := Try.f4) (args := [.agg #[.int .i64 p_At, .slice p_Params_p p_Params_n p_Params_c, .string p_Payload, .bool p_Long], .string s]) (ctxOk _ _ _ _ _) Try.func4 (vc_fenestralaw_ParseFeeds_eq p_At p_Params_p p_Params_n p_Params_c p_Payload p_Long s u R) h

end Go.Proofs.Ytkmmphkjmamckaa
