import Derived.Test.YtkmmphkjmamckacDoorCtx
namespace Go.Proofs.YtkmmphkjmamckacDoor
open Go
set_option linter.all false

/-- fenestra/fenestralaw.ServerNil -/
noncomputable def cx_fenestralaw_ServerNil : Ctx := ⟨Tryd.prog, tab, [], [], [], fns, [], []⟩
def vc_fenestralaw_ServerNil (a_Kind : Int) (a_P : Int) (a_N : Int) (a_M : Int) (a_Bytes : ByteArray) (i : Int) (u : World) (R : Ending → World → Prop) : Prop :=
    Spec Tryd.prog 20 #[.pointer none, .int .i64 i] (allocW u hole) (fun e u1 => ∃ (x120 : ByteArray) (x121 : Bool) (x122 : Bool), e = .returned (.tuple #[.string x120, .bool x121, .bool x122]) ∧
      Spec Tryd.prog 21 #[.pointer none, .agg #[.int .i64 a_Kind, .int .i64 a_P, .int .i64 a_N, .int .i64 a_M, .string a_Bytes]] u1 (fun e u11 => ∃ (x18q_Code : Int) (x18q_N : Int) (x18q_Out : ByteArray), e = .returned (.agg #[.int .i64 x18q_Code, .int .i64 x18q_N, .string x18q_Out]) ∧
          (((decide (x18q_Code = 3) && (decide (x18q_N = 0) && (decide (x18q_Out.data.toList = (ByteArray.mk #[]).data.toList)))) = true →
              (((decide (x120.data.toList = (ByteArray.mk #[]).data.toList)) = true →
                        (((!x121) = true → (((!x122) = true → Spec Tryd.prog 23 #[.pointer none] u11 (fun e u12 => ∃ (x35 : List Value), e = .returned (.agg x35.toArray) ∧
                          Spec Tryd.prog 22 #[.agg x35.toArray, .agg #[.slice none 0 0, .int .i64 0, .int .i64 0, .slice none 0 0, .int .i64 0, .int .i64 0, .int .i64 0, .bool false, .int .i64 0, .int .i64 0, .int .i64 0, .int .i64 0, .slice none 0 0, .int .i64 0, .int .i64 0, .int .i64 0, .bool false, .int .i64 0, .int .i64 0, .int .i64 0, .int .i64 0, .slice none 0 0, .int .i64 0, .int .i64 0, .int .i64 0, .bool false, .int .i64 0, .int .i64 0, .int .i64 0, .int .i64 0, .slice none 0 0, .int .i64 0, .int .i64 0, .int .i64 0, .bool false, .int .i64 0, .int .i64 0, .int .i64 0, .int .i64 0, .slice none 0 0, .int .i64 0, .int .i64 0, .int .i64 0, .bool false, .int .i64 0, .int .i64 0, .int .i64 0, .int .i64 0, .slice none 0 0, .int .i64 0, .int .i64 0, .int .i64 0, .bool false, .int .i64 0, .int .i64 0, .int .i64 0, .int .i64 0, .int .i64 0]] u12 (fun e u13 => ∃ (x37 : Bool), e = .returned (.bool x37) ∧
                R (.returned (.bool x37)) u13))) ∧ ((!x122) = false → R (.returned (.bool false)) u11))) ∧
              ((!x121) = false → R (.returned (.bool false)) u11))) ∧ ((decide (x120.data.toList = (ByteArray.mk #[]).data.toList)) = false →
          R (.returned (.bool false)) u11))) ∧ ((decide (x18q_Code = 3) && (decide (x18q_N = 0) && (decide (x18q_Out.data.toList = (ByteArray.mk #[]).data.toList)))) = false →
  R (.returned (.bool false)) u11))))
set_option maxRecDepth 100000 in
theorem vc_fenestralaw_ServerNil_eq (a_Kind : Int) (a_P : Int) (a_N : Int) (a_M : Int) (a_Bytes : ByteArray) (i : Int) (u : World) (R : Ending → World → Prop) : wFunc cx_fenestralaw_ServerNil Tryd.f6 [.agg #[.int .i64 a_Kind, .int .i64 a_P, .int .i64 a_N, .int .i64 a_M, .string a_Bytes], .int .i64 i] u R = vc_fenestralaw_ServerNil a_Kind a_P a_N a_M a_Bytes i u R := by kernel_rfl
theorem vc_fenestralaw_ServerNil_spec (a_Kind : Int) (a_P : Int) (a_N : Int) (a_M : Int) (a_Bytes : ByteArray) (i : Int) {u : World} {R : Ending → World → Prop} (h : vc_fenestralaw_ServerNil a_Kind a_P a_N a_M a_Bytes i u R) : Spec Tryd.prog fn_fenestralaw_ServerNil #[.agg #[.int .i64 a_Kind, .int .i64 a_P, .int .i64 a_N, .int .i64 a_M, .string a_Bytes], .int .i64 i] u R := func_spec (C := cx_fenestralaw_ServerNil) (fn := Tryd.f6) (args := [.agg #[.int .i64 a_Kind, .int .i64 a_P, .int .i64 a_N, .int .i64 a_M, .string a_Bytes], .int .i64 i]) (ctxOk _ _ _ _ _) Tryd.func6 (vc_fenestralaw_ServerNil_eq a_Kind a_P a_N a_M a_Bytes i u R) h

/-- (*fenestra/server.Server).Client -/
noncomputable def cx_server_Server_Client_nil : Ctx := ⟨Tryd.prog, tab, [], [], [], fns, [], []⟩
def vc_server_Server_Client_nil (i : Int) (u : World) (R : Ending → World → Prop) : Prop :=
    (((Option.isNone (none : Option Addr)) = true → R (.returned (.tuple #[.string (ByteArray.mk #[]), .bool false, .bool false])) u) ∧
          ((Option.isNone (none : Option Addr)) = false → (((decide (i < 0)) = true →
        R (.returned (.tuple #[.string (ByteArray.mk #[]), .bool false, .bool false])) u) ∧
              ((decide (i < 0)) = false → (((decide ((3 : Int) ≤ i)) = true →
            R (.returned (.tuple #[.string (ByteArray.mk #[]), .bool false, .bool false])) u) ∧
  ((decide ((3 : Int) ≤ i)) = false → False))))))
set_option maxRecDepth 100000 in
theorem vc_server_Server_Client_nil_eq (i : Int) (u : World) (R : Ending → World → Prop) : wFunc cx_server_Server_Client_nil Tryd.f20 [.pointer none, .int .i64 i] u R = vc_server_Server_Client_nil i u R := by kernel_rfl
theorem vc_server_Server_Client_nil_spec (i : Int) {u : World} {R : Ending → World → Prop} (h : vc_server_Server_Client_nil i u R) : Spec Tryd.prog fn_server_Server_Client #[.pointer none, .int .i64 i] u R := func_spec (C := cx_server_Server_Client_nil) (fn := Tryd.f20) (args := [.pointer none, .int .i64 i]) (ctxOk _ _ _ _ _) Tryd.func20 (vc_server_Server_Client_nil_eq i u R) h

/-- (*fenestra/server.Server).Do -/
noncomputable def cx_server_Server_Do_nil : Ctx := ⟨Tryd.prog, tab, [], [], [], fns, [], []⟩
def vc_server_Server_Do_nil (a_Kind : Int) (a_P : Int) (a_N : Int) (a_M : Int) (a_Bytes : ByteArray) (u : World) (R : Ending → World → Prop) : Prop :=
        (((Option.isNone (none : Option Addr)) = true → Spec Tryd.prog 48 #[.int .i64 3] (allocW (allocW u hole) hole) (fun e u1 => ∃ (x12q_Code : Int) (x12q_N : Int) (x12q_Out : ByteArray), e = .returned (.agg #[.int .i64 x12q_Code, .int .i64 x12q_N, .string x12q_Out]) ∧
    R (.returned (.agg #[.int .i64 x12q_Code, .int .i64 x12q_N, .string x12q_Out])) u1)) ∧
  ((Option.isNone (none : Option Addr)) = false → False))
set_option maxRecDepth 100000 in
theorem vc_server_Server_Do_nil_eq (a_Kind : Int) (a_P : Int) (a_N : Int) (a_M : Int) (a_Bytes : ByteArray) (u : World) (R : Ending → World → Prop) : wFunc cx_server_Server_Do_nil Tryd.f21 [.pointer none, .agg #[.int .i64 a_Kind, .int .i64 a_P, .int .i64 a_N, .int .i64 a_M, .string a_Bytes]] u R = vc_server_Server_Do_nil a_Kind a_P a_N a_M a_Bytes u R := by kernel_rfl
theorem vc_server_Server_Do_nil_spec (a_Kind : Int) (a_P : Int) (a_N : Int) (a_M : Int) (a_Bytes : ByteArray) {u : World} {R : Ending → World → Prop} (h : vc_server_Server_Do_nil a_Kind a_P a_N a_M a_Bytes u R) : Spec Tryd.prog fn_server_Server_Do #[.pointer none, .agg #[.int .i64 a_Kind, .int .i64 a_P, .int .i64 a_N, .int .i64 a_M, .string a_Bytes]] u R := func_spec (C := cx_server_Server_Do_nil) (fn := Tryd.f21) (args := [.pointer none, .agg #[.int .i64 a_Kind, .int .i64 a_P, .int .i64 a_N, .int .i64 a_M, .string a_Bytes]]) (ctxOk _ _ _ _ _) Tryd.func21 (vc_server_Server_Do_nil_eq a_Kind a_P a_N a_M a_Bytes u R) h

/-- (*fenestra/server.Server).Do$1 -/
noncomputable def cx_server_Server_Do_c1 : Ctx := ⟨Tryd.prog, tab, [], [], [], fns, [], []⟩
def vc_server_Server_Do_c1 (e_ : Int) (u : World) (R : Ending → World → Prop) : Prop :=
  R (.returned (.agg #[.int .i64 e_, .int .i64 0, .string (ByteArray.mk #[])])) (allocW u hole)
set_option maxRecDepth 100000 in
theorem vc_server_Server_Do_c1_eq (e_ : Int) (u : World) (R : Ending → World → Prop) : wFunc cx_server_Server_Do_c1 Tryd.f48 [.int .i64 e_] u R = vc_server_Server_Do_c1 e_ u R := by kernel_rfl
theorem vc_server_Server_Do_c1_spec (e_ : Int) {u : World} {R : Ending → World → Prop} (h : vc_server_Server_Do_c1 e_ u R) : Spec Tryd.prog fn_server_Server_Do_c1 #[.int .i64 e_] u R := func_spec (C := cx_server_Server_Do_c1) (fn := Tryd.f48) (args := [.int .i64 e_]) (ctxOk _ _ _ _ _) Tryd.func48 (vc_server_Server_Do_c1_eq e_ u R) h

/-- (*fenestra/server.Server).View -/
noncomputable def cx_server_Server_View_nil : Ctx := ⟨Tryd.prog, tab, [], [], [3], fns, [], []⟩
def vc_server_Server_View_nil  (u : World) (R : Ending → World → Prop) : Prop :=
      (((Option.isNone (none : Option Addr)) = true → 58 = ([.slice none 0 0, .int .i64 0, .int .i64 0, .slice none 0 0, .int .i64 0, .int .i64 0, .int .i64 0, .bool false, .int .i64 0, .int .i64 0, .int .i64 0, .int .i64 0, .slice none 0 0, .int .i64 0, .int .i64 0, .int .i64 0, .bool false, .int .i64 0, .int .i64 0, .int .i64 0, .int .i64 0, .slice none 0 0, .int .i64 0, .int .i64 0, .int .i64 0, .bool false, .int .i64 0, .int .i64 0, .int .i64 0, .int .i64 0, .slice none 0 0, .int .i64 0, .int .i64 0, .int .i64 0, .bool false, .int .i64 0, .int .i64 0, .int .i64 0, .int .i64 0, .slice none 0 0, .int .i64 0, .int .i64 0, .int .i64 0, .bool false, .int .i64 0, .int .i64 0, .int .i64 0, .int .i64 0, .slice none 0 0, .int .i64 0, .int .i64 0, .int .i64 0, .bool false, .int .i64 0, .int .i64 0, .int .i64 0, .int .i64 0, .int .i64 0] : List Value).length ∧
      ∃ cs, putN ([.slice none 0 0, .int .i64 0, .int .i64 0, .slice none 0 0, .int .i64 0, .int .i64 0, .int .i64 0, .bool false, .int .i64 0, .int .i64 0, .int .i64 0, .int .i64 0, .slice none 0 0, .int .i64 0, .int .i64 0, .int .i64 0, .bool false, .int .i64 0, .int .i64 0, .int .i64 0, .int .i64 0, .slice none 0 0, .int .i64 0, .int .i64 0, .int .i64 0, .bool false, .int .i64 0, .int .i64 0, .int .i64 0, .int .i64 0, .slice none 0 0, .int .i64 0, .int .i64 0, .int .i64 0, .bool false, .int .i64 0, .int .i64 0, .int .i64 0, .int .i64 0, .slice none 0 0, .int .i64 0, .int .i64 0, .int .i64 0, .bool false, .int .i64 0, .int .i64 0, .int .i64 0, .int .i64 0, .slice none 0 0, .int .i64 0, .int .i64 0, .int .i64 0, .bool false, .int .i64 0, .int .i64 0, .int .i64 0, .int .i64 0, .int .i64 0]) 0 ([.slice none 0 0, .int .i64 0, .int .i64 0, .slice none 0 0, .int .i64 0, .int .i64 0, .int .i64 0, .bool false, .int .i64 0, .int .i64 0, .int .i64 0, .int .i64 0, .slice none 0 0, .int .i64 0, .int .i64 0, .int .i64 0, .bool false, .int .i64 0, .int .i64 0, .int .i64 0, .int .i64 0, .slice none 0 0, .int .i64 0, .int .i64 0, .int .i64 0, .bool false, .int .i64 0, .int .i64 0, .int .i64 0, .int .i64 0, .slice none 0 0, .int .i64 0, .int .i64 0, .int .i64 0, .bool false, .int .i64 0, .int .i64 0, .int .i64 0, .int .i64 0, .slice none 0 0, .int .i64 0, .int .i64 0, .int .i64 0, .bool false, .int .i64 0, .int .i64 0, .int .i64 0, .int .i64 0, .slice none 0 0, .int .i64 0, .int .i64 0, .int .i64 0, .bool false, .int .i64 0, .int .i64 0, .int .i64 0, .int .i64 0, .int .i64 0]) = some cs ∧
    takeN cs 0 58 = some cs ∧ R (.returned (.agg cs.toArray)) (allocW u hole)) ∧
  ((Option.isNone (none : Option Addr)) = false → False))
set_option maxRecDepth 100000 in
theorem vc_server_Server_View_nil_eq  (u : World) (R : Ending → World → Prop) : wFunc cx_server_Server_View_nil Tryd.f23 [.pointer none] u R = vc_server_Server_View_nil  u R := by kernel_rfl
theorem vc_server_Server_View_nil_spec  {u : World} {R : Ending → World → Prop} (h : vc_server_Server_View_nil  u R) : Spec Tryd.prog fn_server_Server_View #[.pointer none] u R := func_spec (C := cx_server_Server_View_nil) (fn := Tryd.f23) (args := [.pointer none]) (ctxOk _ _ _ _ _) Tryd.func23 (vc_server_Server_View_nil_eq  u R) h

end Go.Proofs.YtkmmphkjmamckacDoor
