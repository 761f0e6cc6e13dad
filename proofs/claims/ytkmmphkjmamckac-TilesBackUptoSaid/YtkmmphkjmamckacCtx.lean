/-
  The table of types and the functions that may be called, of this seat. Printed by a program of ours (vcgen.py).
-/
import Derived.Test.YtkmmphkjmamckacZB
import Derived.Test.YtkmmphkjmamckacProg
namespace Go.Proofs.Ytkmmphkjmamckac
open Go

def tab : List TI := [
  ⟨.tuple [], 1, 0, []⟩,
  ⟨.other, 0, 0, []⟩,
  ⟨.other, 0, 0, []⟩,
  ⟨.cell (.int .i64), 1, 8, [.int .i64 0]⟩,
  ⟨.cell .bool, 1, 1, [.bool false]⟩,
  ⟨.other, 0, 0, []⟩,
  ⟨.other, 0, 0, []⟩,
  ⟨.other, 0, 0, []⟩,
  ⟨.other, 0, 0, []⟩,
  ⟨.other, 0, 0, []⟩,
  ⟨.other, 0, 0, []⟩,
  ⟨.other, 0, 0, []⟩,
  ⟨.other, 0, 0, []⟩,
  ⟨.other, 0, 0, []⟩,
  ⟨.other, 0, 0, []⟩,
  ⟨.other, 0, 0, []⟩,
  ⟨.other, 0, 0, []⟩,
  ⟨.other, 0, 0, []⟩,
  ⟨.other, 0, 0, []⟩,
  ⟨.other, 0, 0, []⟩,
  ⟨.other, 0, 0, []⟩,
  ⟨.other, 0, 0, []⟩,
  ⟨.slice 33, 1, 24, [.slice none 0 0]⟩,
  ⟨.other, 0, 0, []⟩,
  ⟨.struct [(0, 22)], 1, 24, [.slice none 0 0]⟩,
  ⟨.cell (.int .i64), 1, 8, [.int .i64 0]⟩,
  ⟨.tuple [24, 25], 1, 0, []⟩,
  ⟨.other, 0, 0, []⟩,
  ⟨.other, 0, 0, []⟩,
  ⟨.other, 0, 0, []⟩,
  ⟨.other, 0, 0, []⟩,
  ⟨.other, 0, 0, []⟩,
  ⟨.other, 0, 0, []⟩,
  ⟨.slice 3, 1, 24, [.slice none 0 0]⟩,
  ⟨.other, 0, 0, []⟩,
  ⟨.tuple [3, 3, 4], 1, 0, []⟩,
  ⟨.other, 0, 0, []⟩,
  ⟨.other, 0, 0, []⟩,
  ⟨.other, 0, 0, []⟩,
  ⟨.other, 0, 0, []⟩,
  ⟨.other, 0, 0, []⟩,
  ⟨.other, 0, 0, []⟩,
  ⟨.struct [(0, 3), (1, 3), (2, 3), (3, 3)], 4, 32, [.int .i64 0, .int .i64 0, .int .i64 0, .int .i64 0]⟩,
  ⟨.other, 0, 0, []⟩,
  ⟨.other, 0, 0, []⟩,
  ⟨.other, 0, 0, []⟩,
  ⟨.array 6 4, 6, 6, [.bool false, .bool false, .bool false, .bool false, .bool false, .bool false]⟩,
  ⟨.other, 0, 0, []⟩,
  ⟨.other, 0, 0, []⟩,
  ⟨.other, 0, 0, []⟩,
  ⟨.other, 0, 0, []⟩,
  ⟨.other, 0, 0, []⟩,
  ⟨.tuple [3, 3], 1, 0, []⟩]

def fns : List Nat := [2, 3, 4, 5, 6, 7, 8, 9, 10, 11, 12, 13, 14, 15, 16, 17, 18, 19, 21, 23, 24, 25, 26, 27, 28]

set_option maxRecDepth 100000 in
theorem tabOk : TabOk Try.prog 0 tab := ⟨
  ⟨⟨_, Try.type0, rfl, rfl⟩, trivial, trivial, ⟨_, Try.underlying0, ⟨_, rfl⟩⟩⟩,
  trivial,
  trivial,
  ⟨⟨_, Try.type3, rfl, rfl⟩, ⟨_, _, Try.type3, rfl, rfl⟩, rfl, ⟨_, Try.underlying3, rfl⟩⟩,
  ⟨⟨_, Try.type4, rfl, rfl⟩, ⟨_, _, Try.type4, rfl, rfl⟩, rfl, ⟨_, Try.underlying4, rfl⟩⟩,
  trivial,
  trivial,
  trivial,
  trivial,
  trivial,
  trivial,
  trivial,
  trivial,
  trivial,
  trivial,
  trivial,
  trivial,
  trivial,
  trivial,
  trivial,
  trivial,
  trivial,
  ⟨⟨_, Try.type22, rfl, rfl⟩, ⟨_, _, Try.type22, rfl, rfl⟩, rfl, ⟨_, Try.underlying22, rfl⟩⟩,
  trivial,
  ⟨⟨_, Try.type24, rfl, rfl⟩, ⟨_, _, Try.type24, rfl, rfl⟩, rfl, ⟨_, Try.underlying24, ⟨_, rfl, rfl, by decide⟩⟩⟩,
  ⟨⟨_, Try.type25, rfl, rfl⟩, ⟨_, _, Try.type25, rfl, rfl⟩, rfl, ⟨_, Try.underlying25, rfl⟩⟩,
  ⟨⟨_, Try.type26, rfl, rfl⟩, trivial, trivial, ⟨_, Try.underlying26, ⟨_, rfl⟩⟩⟩,
  trivial,
  trivial,
  trivial,
  trivial,
  trivial,
  trivial,
  ⟨⟨_, Try.type33, rfl, rfl⟩, ⟨_, _, Try.type33, rfl, rfl⟩, rfl, ⟨_, Try.underlying33, rfl⟩⟩,
  trivial,
  ⟨⟨_, Try.type35, rfl, rfl⟩, trivial, trivial, ⟨_, Try.underlying35, ⟨_, rfl⟩⟩⟩,
  trivial,
  trivial,
  trivial,
  trivial,
  trivial,
  trivial,
  ⟨⟨_, Try.type42, rfl, rfl⟩, ⟨_, _, Try.type42, rfl, rfl⟩, rfl, ⟨_, Try.underlying42, ⟨_, rfl, rfl, by decide⟩⟩⟩,
  trivial,
  trivial,
  trivial,
  ⟨⟨_, Try.type46, rfl, rfl⟩, ⟨_, _, Try.type46, rfl, rfl⟩, rfl, ⟨_, Try.underlying46, rfl⟩⟩,
  trivial,
  trivial,
  trivial,
  trivial,
  trivial,
  ⟨⟨_, Try.type52, rfl, rfl⟩, trivial, trivial, ⟨_, Try.underlying52, ⟨_, rfl⟩⟩⟩,
  trivial⟩

set_option maxRecDepth 100000 in
theorem fnsOk : FnsOk Try.prog fns := ⟨
  ⟨_, Try.func2, by kernel_rfl, rfl⟩,
  ⟨_, Try.func3, by kernel_rfl, rfl⟩,
  ⟨_, Try.func4, by kernel_rfl, rfl⟩,
  ⟨_, Try.func5, by kernel_rfl, rfl⟩,
  ⟨_, Try.func6, by kernel_rfl, rfl⟩,
  ⟨_, Try.func7, by kernel_rfl, rfl⟩,
  ⟨_, Try.func8, by kernel_rfl, rfl⟩,
  ⟨_, Try.func9, by kernel_rfl, rfl⟩,
  ⟨_, Try.func10, by kernel_rfl, rfl⟩,
  ⟨_, Try.func11, by kernel_rfl, rfl⟩,
  ⟨_, Try.func12, by kernel_rfl, rfl⟩,
  ⟨_, Try.func13, by kernel_rfl, rfl⟩,
  ⟨_, Try.func14, by kernel_rfl, rfl⟩,
  ⟨_, Try.func15, by kernel_rfl, rfl⟩,
  ⟨_, Try.func16, by kernel_rfl, rfl⟩,
  ⟨_, Try.func17, by kernel_rfl, rfl⟩,
  ⟨_, Try.func18, by kernel_rfl, rfl⟩,
  ⟨_, Try.func19, by kernel_rfl, rfl⟩,
  ⟨_, Try.func21, by kernel_rfl, rfl⟩,
  ⟨_, Try.func23, by kernel_rfl, rfl⟩,
  ⟨_, Try.func24, by kernel_rfl, rfl⟩,
  ⟨_, Try.func25, by kernel_rfl, rfl⟩,
  ⟨_, Try.func26, by kernel_rfl, rfl⟩,
  ⟨_, Try.func27, by kernel_rfl, rfl⟩,
  ⟨_, Try.func28, by kernel_rfl, rfl⟩, trivial⟩

/-! The functions by name. -/
abbrev fn_fenestrakeep_TilesBack : FuncId := 3
abbrev fn_fenestrakeep_lays : FuncId := 5
abbrev fn_fenestrakeep_sameNumbers : FuncId := 9
abbrev fn_slices_Clone_int_int : FuncId := 19
abbrev fn_slices_DeleteL_int_int : FuncId := 17
abbrev fn_slices_Delete_int_int : FuncId := 16
abbrev fn_slices_Index_int_int : FuncId := 18
abbrev fn_slices_InsertL_int_int : FuncId := 13
abbrev fn_slices_Insert_int_int : FuncId := 14
abbrev fn_slices_ReverseL_int_int : FuncId := 27
abbrev fn_slices_Reverse_int_int : FuncId := 28
abbrev fn_slices_overlapsL_int : FuncId := 20
abbrev fn_slices_overlaps_int : FuncId := 22
abbrev fn_slices_rotateLeftL_int : FuncId := 25
abbrev fn_slices_rotateLeft_int : FuncId := 26
abbrev fn_slices_rotateRightL_int : FuncId := 21
abbrev fn_slices_rotateRight_int : FuncId := 23
abbrev fn_tiles_Good : FuncId := 7
abbrev fn_tiles_Has : FuncId := 8
abbrev fn_tiles_Kill : FuncId := 6
abbrev fn_tiles_Share : FuncId := 24
abbrev fn_tiles_Split : FuncId := 4
abbrev fn_tiles_Where : FuncId := 15
abbrev fn_tiles_find : FuncId := 10
abbrev fn_tiles_own : FuncId := 12
abbrev fn_tiles_pane : FuncId := 11

/-! The types by name. -/
abbrev ty_int : TypeId := 3
abbrev ty_bool : TypeId := 4
abbrev ty_sl_sl_int : TypeId := 22
abbrev ty_api_Tiles : TypeId := 24
abbrev ty_api_Errno : TypeId := 25
abbrev ty_sl_int : TypeId := 33
abbrev ty_api_Rect : TypeId := 42
abbrev ty_arr6_bool : TypeId := 46

def eqs : List Nat := [42]

theorem eqsOk : EqsOk Try.prog eqs := ⟨⟨Try.stoodInHeld42, Try.eqGuardType42⟩, trivial⟩

theorem ctxOk (real wraps opqs : List Nat) (loops cuts : List (Nat × LShape)) : CtxOk ⟨Try.prog, tab, real, wraps, opqs, fns, loops, cuts⟩ := ctxOk_of tabOk (by kernel_rfl) fnsOk eqsOk (by kernel_rfl)

end Go.Proofs.Ytkmmphkjmamckac
