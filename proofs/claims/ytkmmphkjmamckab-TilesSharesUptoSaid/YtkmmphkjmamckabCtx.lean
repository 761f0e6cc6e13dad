/-
  The table of types and the functions that may be called, of this seat. Printed by a program of ours (vcgen.py).
-/
import Derived.Test.YtkmmphkjmamckabZB
import Derived.Test.YtkmmphkjmamckabProg
namespace Go.Proofs.Ytkmmphkjmamckab
open Go

def tab : List TI := [
  ⟨.tuple [], 1, 0, []⟩,
  ⟨.other, 0, 0, []⟩,
  ⟨.other, 0, 0, []⟩,
  ⟨.cell (.int .i64), 1, 8, [.int .i64 0]⟩,
  ⟨.cell .bool, 1, 1, [.bool false]⟩,
  ⟨.cell (.int .u8), 1, 1, [.int .u8 0]⟩,
  ⟨.other, 0, 0, []⟩,
  ⟨.other, 0, 0, []⟩,
  ⟨.other, 0, 0, []⟩,
  ⟨.cell .str, 1, 16, [.string (ByteArray.mk #[])]⟩,
  ⟨.other, 0, 0, []⟩,
  ⟨.other, 0, 0, []⟩,
  ⟨.other, 0, 0, []⟩,
  ⟨.other, 0, 0, []⟩,
  ⟨.other, 0, 0, []⟩,
  ⟨.other, 0, 0, []⟩,
  ⟨.other, 0, 0, []⟩,
  ⟨.other, 0, 0, []⟩,
  ⟨.other, 0, 0, []⟩,
  ⟨.other, 0, 0, []⟩,
  ⟨.other, 0, 0, []⟩,
  ⟨.other, 0, 0, []⟩,
  ⟨.slice 34, 1, 24, [.slice none 0 0]⟩,
  ⟨.other, 0, 0, []⟩,
  ⟨.struct [(0, 3), (1, 3), (2, 22), (3, 3), (4, 3), (5, 3), (6, 4), (7, 3), (8, 3)], 9, 88, [.int .i64 0, .int .i64 0, .slice none 0 0, .int .i64 0, .int .i64 0, .int .i64 0, .bool false, .int .i64 0, .int .i64 0]⟩,
  ⟨.cell (.int .i64), 1, 8, [.int .i64 0]⟩,
  ⟨.tuple [24, 25], 1, 0, []⟩,
  ⟨.other, 0, 0, []⟩,
  ⟨.slice 3, 1, 24, [.slice none 0 0]⟩,
  ⟨.other, 0, 0, []⟩,
  ⟨.struct [(0, 3), (1, 3), (2, 28), (3, 9)], 4, 56, [.int .i64 0, .int .i64 0, .slice none 0 0, .string (ByteArray.mk #[])]⟩,
  ⟨.other, 0, 0, []⟩,
  ⟨.other, 0, 0, []⟩,
  ⟨.other, 0, 0, []⟩,
  ⟨.struct [(0, 3), (1, 3), (2, 3), (3, 4)], 4, 32, [.int .i64 0, .int .i64 0, .int .i64 0, .bool false]⟩,
  ⟨.other, 0, 0, []⟩,
  ⟨.other, 0, 0, []⟩,
  ⟨.other, 0, 0, []⟩,
  ⟨.other, 0, 0, []⟩,
  ⟨.slice 28, 1, 24, [.slice none 0 0]⟩,
  ⟨.other, 0, 0, []⟩,
  ⟨.struct [(0, 39)], 1, 24, [.slice none 0 0]⟩,
  ⟨.tuple [3, 3], 1, 0, []⟩,
  ⟨.other, 0, 0, []⟩,
  ⟨.other, 0, 0, []⟩,
  ⟨.struct [(0, 3), (1, 3), (2, 3), (3, 3)], 4, 32, [.int .i64 0, .int .i64 0, .int .i64 0, .int .i64 0]⟩,
  ⟨.other, 0, 0, []⟩,
  ⟨.other, 0, 0, []⟩,
  ⟨.other, 0, 0, []⟩,
  ⟨.other, 0, 0, []⟩,
  ⟨.other, 0, 0, []⟩,
  ⟨.other, 0, 0, []⟩,
  ⟨.other, 0, 0, []⟩,
  ⟨.slice 30, 1, 24, [.slice none 0 0]⟩,
  ⟨.other, 0, 0, []⟩,
  ⟨.other, 0, 0, []⟩,
  ⟨.other, 0, 0, []⟩,
  ⟨.other, 0, 0, []⟩,
  ⟨.other, 0, 0, []⟩,
  ⟨.cell .func, 1, 8, [.nilFunc]⟩,
  ⟨.other, 0, 0, []⟩,
  ⟨.other, 0, 0, []⟩,
  ⟨.tuple [41, 25], 1, 0, []⟩,
  ⟨.other, 0, 0, []⟩,
  ⟨.other, 0, 0, []⟩,
  ⟨.other, 0, 0, []⟩,
  ⟨.other, 0, 0, []⟩,
  ⟨.other, 0, 0, []⟩,
  ⟨.other, 0, 0, []⟩,
  ⟨.other, 0, 0, []⟩,
  ⟨.ptr 24, 1, 8, [.pointer none]⟩,
  ⟨.other, 0, 0, []⟩,
  ⟨.other, 0, 0, []⟩,
  ⟨.tuple [3, 3, 4], 1, 0, []⟩,
  ⟨.other, 0, 0, []⟩,
  ⟨.cell .func, 1, 8, [.nilFunc]⟩,
  ⟨.other, 0, 0, []⟩,
  ⟨.other, 0, 0, []⟩,
  ⟨.other, 0, 0, []⟩,
  ⟨.other, 0, 0, []⟩,
  ⟨.other, 0, 0, []⟩,
  ⟨.other, 0, 0, []⟩,
  ⟨.other, 0, 0, []⟩,
  ⟨.other, 0, 0, []⟩,
  ⟨.other, 0, 0, []⟩,
  ⟨.other, 0, 0, []⟩,
  ⟨.other, 0, 0, []⟩,
  ⟨.array 6 4, 6, 6, [.bool false, .bool false, .bool false, .bool false, .bool false, .bool false]⟩,
  ⟨.other, 0, 0, []⟩,
  ⟨.other, 0, 0, []⟩,
  ⟨.other, 0, 0, []⟩,
  ⟨.other, 0, 0, []⟩,
  ⟨.other, 0, 0, []⟩,
  ⟨.other, 0, 0, []⟩,
  ⟨.slice 5, 1, 24, [.slice none 0 0]⟩,
  ⟨.other, 0, 0, []⟩,
  ⟨.other, 0, 0, []⟩,
  ⟨.other, 0, 0, []⟩,
  ⟨.other, 0, 0, []⟩,
  ⟨.other, 0, 0, []⟩,
  ⟨.other, 0, 0, []⟩,
  ⟨.slice 22, 1, 24, [.slice none 0 0]⟩]

def fns : List Nat := [2, 3, 4, 5, 6, 7, 8, 9, 10, 11, 12, 13, 14, 15, 16, 17, 18, 19, 20, 21, 22, 23, 24, 25, 26, 27, 28, 29, 30, 31, 32, 33, 34, 35, 36, 37, 38, 39, 40, 41, 42, 43, 44, 45, 46, 47, 48, 49, 50, 51, 52, 53, 54, 55, 56, 57, 58, 59, 60, 61, 62, 63, 64, 65, 66, 67, 68, 69, 70, 71, 72, 73, 74, 75, 76, 77, 78, 79, 80, 81, 82, 84, 86, 87, 88, 89, 90, 91, 92, 93]

set_option maxRecDepth 100000 in
theorem tabOk : TabOk Try.prog 0 tab := ⟨
  ⟨⟨_, Try.type0, rfl, rfl⟩, trivial, trivial, ⟨_, Try.underlying0, ⟨_, rfl⟩⟩⟩,
  trivial,
  trivial,
  ⟨⟨_, Try.type3, rfl, rfl⟩, ⟨_, _, Try.type3, rfl, rfl⟩, rfl, ⟨_, Try.underlying3, rfl⟩⟩,
  ⟨⟨_, Try.type4, rfl, rfl⟩, ⟨_, _, Try.type4, rfl, rfl⟩, rfl, ⟨_, Try.underlying4, rfl⟩⟩,
  ⟨⟨_, Try.type5, rfl, rfl⟩, ⟨_, _, Try.type5, rfl, rfl⟩, rfl, ⟨_, Try.underlying5, rfl⟩⟩,
  trivial,
  trivial,
  trivial,
  ⟨⟨_, Try.type9, rfl, rfl⟩, ⟨_, _, Try.type9, rfl, rfl⟩, rfl, ⟨_, Try.underlying9, rfl⟩⟩,
  trivial,
  trivial,
  trivial,
  trivial,
  trivial,
  trivial,
  trivial,
  trivial,
  trivial,
  trivial,
  trivial,
  trivial,
  ⟨⟨_, Try.type22, rfl, rfl⟩, ⟨_, _, Try.type22, rfl, rfl⟩, rfl, ⟨_, Try.underlying22, rfl⟩⟩,
  trivial,
  ⟨⟨_, Try.type24, rfl, rfl⟩, ⟨_, _, Try.type24, rfl, rfl⟩, rfl, ⟨_, Try.underlying24, ⟨_, rfl, rfl, by decide⟩⟩⟩,
  ⟨⟨_, Try.type25, rfl, rfl⟩, ⟨_, _, Try.type25, rfl, rfl⟩, rfl, ⟨_, Try.underlying25, rfl⟩⟩,
  ⟨⟨_, Try.type26, rfl, rfl⟩, trivial, trivial, ⟨_, Try.underlying26, ⟨_, rfl⟩⟩⟩,
  trivial,
  ⟨⟨_, Try.type28, rfl, rfl⟩, ⟨_, _, Try.type28, rfl, rfl⟩, rfl, ⟨_, Try.underlying28, rfl⟩⟩,
  trivial,
  ⟨⟨_, Try.type30, rfl, rfl⟩, ⟨_, _, Try.type30, rfl, rfl⟩, rfl, ⟨_, Try.underlying30, ⟨_, rfl, rfl, by decide⟩⟩⟩,
  trivial,
  trivial,
  trivial,
  ⟨⟨_, Try.type34, rfl, rfl⟩, ⟨_, _, Try.type34, rfl, rfl⟩, rfl, ⟨_, Try.underlying34, ⟨_, rfl, rfl, by decide⟩⟩⟩,
  trivial,
  trivial,
  trivial,
  trivial,
  ⟨⟨_, Try.type39, rfl, rfl⟩, ⟨_, _, Try.type39, rfl, rfl⟩, rfl, ⟨_, Try.underlying39, rfl⟩⟩,
  trivial,
  ⟨⟨_, Try.type41, rfl, rfl⟩, ⟨_, _, Try.type41, rfl, rfl⟩, rfl, ⟨_, Try.underlying41, ⟨_, rfl, rfl, by decide⟩⟩⟩,
  ⟨⟨_, Try.type42, rfl, rfl⟩, trivial, trivial, ⟨_, Try.underlying42, ⟨_, rfl⟩⟩⟩,
  trivial,
  trivial,
  ⟨⟨_, Try.type45, rfl, rfl⟩, ⟨_, _, Try.type45, rfl, rfl⟩, rfl, ⟨_, Try.underlying45, ⟨_, rfl, rfl, by decide⟩⟩⟩,
  trivial,
  trivial,
  trivial,
  trivial,
  trivial,
  trivial,
  trivial,
  ⟨⟨_, Try.type53, rfl, rfl⟩, ⟨_, _, Try.type53, rfl, rfl⟩, rfl, ⟨_, Try.underlying53, rfl⟩⟩,
  trivial,
  trivial,
  trivial,
  trivial,
  trivial,
  ⟨⟨_, Try.type59, rfl, rfl⟩, ⟨_, _, Try.type59, rfl, rfl⟩, rfl, ⟨_, Try.underlying59, ⟨_, _, _, rfl⟩⟩⟩,
  trivial,
  trivial,
  ⟨⟨_, Try.type62, rfl, rfl⟩, trivial, trivial, ⟨_, Try.underlying62, ⟨_, rfl⟩⟩⟩,
  trivial,
  trivial,
  trivial,
  trivial,
  trivial,
  trivial,
  trivial,
  ⟨⟨_, Try.type70, rfl, rfl⟩, ⟨_, _, Try.type70, rfl, rfl⟩, rfl, ⟨_, Try.underlying70, rfl⟩⟩,
  trivial,
  trivial,
  ⟨⟨_, Try.type73, rfl, rfl⟩, trivial, trivial, ⟨_, Try.underlying73, ⟨_, rfl⟩⟩⟩,
  trivial,
  ⟨⟨_, Try.type75, rfl, rfl⟩, ⟨_, _, Try.type75, rfl, rfl⟩, rfl, ⟨_, Try.underlying75, ⟨_, _, _, rfl⟩⟩⟩,
  trivial,
  trivial,
  trivial,
  trivial,
  trivial,
  trivial,
  trivial,
  trivial,
  trivial,
  trivial,
  trivial,
  ⟨⟨_, Try.type87, rfl, rfl⟩, ⟨_, _, Try.type87, rfl, rfl⟩, rfl, ⟨_, Try.underlying87, rfl⟩⟩,
  trivial,
  trivial,
  trivial,
  trivial,
  trivial,
  trivial,
  ⟨⟨_, Try.type94, rfl, rfl⟩, ⟨_, _, Try.type94, rfl, rfl⟩, rfl, ⟨_, Try.underlying94, rfl⟩⟩,
  trivial,
  trivial,
  trivial,
  trivial,
  trivial,
  trivial,
  ⟨⟨_, Try.type101, rfl, rfl⟩, ⟨_, _, Try.type101, rfl, rfl⟩, rfl, ⟨_, Try.underlying101, rfl⟩⟩,
  trivial⟩

set_option maxRecDepth 100000 in
theorem fnsOk : FnsOk Try.prog fns := ⟨
  ⟨_, Try.func2, by kernel_rfl, rfl⟩,
  ⟨_, Try.func3, by kernel_rfl, rfl⟩,
  ⟨_, Try.func4, by kernel_rfl, rfl⟩,
  ⟨_, Try.func5, by kernel_rfl, rfl⟩,
  ⟨_, Try.func6, by kernel_rfl, rfl⟩,
  ⟨_, Try.func7, by kernel_rfl, rfl⟩,
  ⟨_, Try.func8, by kernel_rfl, rfl⟩,
  ⟨_, Try.func9, by kernel_rfl, rfl⟩,
  ⟨_, Try.func10, by kernel_rfl, rfl⟩,
  ⟨_, Try.func11, by kernel_rfl, rfl⟩,
  ⟨_, Try.func12, by kernel_rfl, rfl⟩,
  ⟨_, Try.func13, by kernel_rfl, rfl⟩,
  ⟨_, Try.func14, by kernel_rfl, rfl⟩,
  ⟨_, Try.func15, by kernel_rfl, rfl⟩,
  ⟨_, Try.func16, by kernel_rfl, rfl⟩,
  ⟨_, Try.func17, by kernel_rfl, rfl⟩,
  ⟨_, Try.func18, by kernel_rfl, rfl⟩,
  ⟨_, Try.func19, by kernel_rfl, rfl⟩,
  ⟨_, Try.func20, by kernel_rfl, rfl⟩,
  ⟨_, Try.func21, by kernel_rfl, rfl⟩,
  ⟨_, Try.func22, by kernel_rfl, rfl⟩,
  ⟨_, Try.func23, by kernel_rfl, rfl⟩,
  ⟨_, Try.func24, by kernel_rfl, rfl⟩,
  ⟨_, Try.func25, by kernel_rfl, rfl⟩,
  ⟨_, Try.func26, by kernel_rfl, rfl⟩,
  ⟨_, Try.func27, by kernel_rfl, rfl⟩,
  ⟨_, Try.func28, by kernel_rfl, rfl⟩,
  ⟨_, Try.func29, by kernel_rfl, rfl⟩,
  ⟨_, Try.func30, by kernel_rfl, rfl⟩,
  ⟨_, Try.func31, by kernel_rfl, rfl⟩,
  ⟨_, Try.func32, by kernel_rfl, rfl⟩,
  ⟨_, Try.func33, by kernel_rfl, rfl⟩,
  ⟨_, Try.func34, by kernel_rfl, rfl⟩,
  ⟨_, Try.func35, by kernel_rfl, rfl⟩,
  ⟨_, Try.func36, by kernel_rfl, rfl⟩,
  ⟨_, Try.func37, by kernel_rfl, rfl⟩,
  ⟨_, Try.func38, by kernel_rfl, rfl⟩,
  ⟨_, Try.func39, by kernel_rfl, rfl⟩,
  ⟨_, Try.func40, by kernel_rfl, rfl⟩,
  ⟨_, Try.func41, by kernel_rfl, rfl⟩,
  ⟨_, Try.func42, by kernel_rfl, rfl⟩,
  ⟨_, Try.func43, by kernel_rfl, rfl⟩,
  ⟨_, Try.func44, by kernel_rfl, rfl⟩,
  ⟨_, Try.func45, by kernel_rfl, rfl⟩,
  ⟨_, Try.func46, by kernel_rfl, rfl⟩,
  ⟨_, Try.func47, by kernel_rfl, rfl⟩,
  ⟨_, Try.func48, by kernel_rfl, rfl⟩,
  ⟨_, Try.func49, by kernel_rfl, rfl⟩,
  ⟨_, Try.func50, by kernel_rfl, rfl⟩,
  ⟨_, Try.func51, by kernel_rfl, rfl⟩,
  ⟨_, Try.func52, by kernel_rfl, rfl⟩,
  ⟨_, Try.func53, by kernel_rfl, rfl⟩,
  ⟨_, Try.func54, by kernel_rfl, rfl⟩,
  ⟨_, Try.func55, by kernel_rfl, rfl⟩,
  ⟨_, Try.func56, by kernel_rfl, rfl⟩,
  ⟨_, Try.func57, by kernel_rfl, rfl⟩,
  ⟨_, Try.func58, by kernel_rfl, rfl⟩,
  ⟨_, Try.func59, by kernel_rfl, rfl⟩,
  ⟨_, Try.func60, by kernel_rfl, rfl⟩,
  ⟨_, Try.func61, by kernel_rfl, rfl⟩,
  ⟨_, Try.func62, by kernel_rfl, rfl⟩,
  ⟨_, Try.func63, by kernel_rfl, rfl⟩,
  ⟨_, Try.func64, by kernel_rfl, rfl⟩,
  ⟨_, Try.func65, by kernel_rfl, rfl⟩,
  ⟨_, Try.func66, by kernel_rfl, rfl⟩,
  ⟨_, Try.func67, by kernel_rfl, rfl⟩,
  ⟨_, Try.func68, by kernel_rfl, rfl⟩,
  ⟨_, Try.func69, by kernel_rfl, rfl⟩,
  ⟨_, Try.func70, by kernel_rfl, rfl⟩,
  ⟨_, Try.func71, by kernel_rfl, rfl⟩,
  ⟨_, Try.func72, by kernel_rfl, rfl⟩,
  ⟨_, Try.func73, by kernel_rfl, rfl⟩,
  ⟨_, Try.func74, by kernel_rfl, rfl⟩,
  ⟨_, Try.func75, by kernel_rfl, rfl⟩,
  ⟨_, Try.func76, by kernel_rfl, rfl⟩,
  ⟨_, Try.func77, by kernel_rfl, rfl⟩,
  ⟨_, Try.func78, by kernel_rfl, rfl⟩,
  ⟨_, Try.func79, by kernel_rfl, rfl⟩,
  ⟨_, Try.func80, by kernel_rfl, rfl⟩,
  ⟨_, Try.func81, by kernel_rfl, rfl⟩,
  ⟨_, Try.func82, by kernel_rfl, rfl⟩,
  ⟨_, Try.func84, by kernel_rfl, rfl⟩,
  ⟨_, Try.func86, by kernel_rfl, rfl⟩,
  ⟨_, Try.func87, by kernel_rfl, rfl⟩,
  ⟨_, Try.func88, by kernel_rfl, rfl⟩,
  ⟨_, Try.func89, by kernel_rfl, rfl⟩,
  ⟨_, Try.func90, by kernel_rfl, rfl⟩,
  ⟨_, Try.func91, by kernel_rfl, rfl⟩,
  ⟨_, Try.func92, by kernel_rfl, rfl⟩,
  ⟨_, Try.func93, by kernel_rfl, rfl⟩, trivial⟩

/-! The functions by name. -/
abbrev fn_fenestrakeep_GridPictures : FuncId := 5
abbrev fn_fenestrakeep_GridRegion : FuncId := 4
abbrev fn_fenestrakeep_GridResizes : FuncId := 11
abbrev fn_fenestrakeep_GridScrolls : FuncId := 3
abbrev fn_fenestrakeep_TilesApart : FuncId := 7
abbrev fn_fenestrakeep_TilesShares : FuncId := 8
abbrev fn_fenestrakeep_in : FuncId := 25
abbrev fn_fenestrakeep_lays : FuncId := 26
abbrev fn_fenestrakeep_pick : FuncId := 23
abbrev fn_fenestrakeep_sameCells : FuncId := 15
abbrev fn_fenestrakeep_shows : FuncId := 14
abbrev fn_fenestralaw_GridAll : FuncId := 9
abbrev fn_fenestralaw_GridSizes : FuncId := 10
abbrev fn_fenestralaw_TilesPlaces : FuncId := 6
abbrev fn_fenestralaw_TilesSplits : FuncId := 12
abbrev fn_fenestralaw_lays : FuncId := 22
abbrev fn_fenestralaw_shows : FuncId := 31
abbrev fn_fenestraref_Act : FuncId := 32
abbrev fn_fenestraref_CellAt : FuncId := 37
abbrev fn_fenestraref_CopyGrid : FuncId := 28
abbrev fn_fenestraref_CopyTiles : FuncId := 20
abbrev fn_fenestraref_GoodGrid : FuncId := 29
abbrev fn_fenestraref_GoodGrid_c1 : FuncId := 55
abbrev fn_fenestraref_GoodTiles : FuncId := 47
abbrev fn_fenestraref_HasPane : FuncId := 48
abbrev fn_fenestraref_IsCell : FuncId := 39
abbrev fn_fenestraref_KillPane : FuncId := 44
abbrev fn_fenestraref_NewGrid : FuncId := 36
abbrev fn_fenestraref_PlaceOf : FuncId := 21
abbrev fn_fenestraref_Resized : FuncId := 34
abbrev fn_fenestraref_SameCells : FuncId := 56
abbrev fn_fenestraref_SameGrid : FuncId := 30
abbrev fn_fenestraref_SameNumbers : FuncId := 71
abbrev fn_fenestraref_SameTiles : FuncId := 45
abbrev fn_fenestraref_ShareOf : FuncId := 18
abbrev fn_fenestraref_SplitTiles : FuncId := 42
abbrev fn_fenestraref_all : FuncId := 70
abbrev fn_fenestraref_csi : FuncId := 58
abbrev fn_fenestraref_drawn : FuncId := 59
abbrev fn_fenestraref_given : FuncId := 80
abbrev fn_fenestraref_isPane : FuncId := 67
abbrev fn_fenestraref_nextRow : FuncId := 57
abbrev fn_fenestraref_roll : FuncId := 79
abbrev fn_fenestraref_rowsIn : FuncId := 89
abbrev fn_fenestraref_rowsOf : FuncId := 88
abbrev fn_grid_All : FuncId := 27
abbrev fn_grid_At : FuncId := 16
abbrev fn_grid_Do : FuncId := 13
abbrev fn_grid_Good : FuncId := 40
abbrev fn_grid_GoodCell : FuncId := 38
abbrev fn_grid_Good_c1 : FuncId := 62
abbrev fn_grid_New : FuncId := 35
abbrev fn_grid_Resize : FuncId := 33
abbrev fn_grid_command : FuncId := 52
abbrev fn_grid_control : FuncId := 51
abbrev fn_grid_down : FuncId := 75
abbrev fn_grid_erase : FuncId := 74
abbrev fn_grid_feed : FuncId := 72
abbrev fn_grid_ink : FuncId := 77
abbrev fn_grid_number : FuncId := 73
abbrev fn_grid_picture : FuncId := 53
abbrev fn_grid_row : FuncId := 60
abbrev fn_grid_show : FuncId := 50
abbrev fn_grid_up : FuncId := 76
abbrev fn_grid_wipe : FuncId := 87
abbrev fn_slices_Clone_api_Cell_api_Cell : FuncId := 49
abbrev fn_slices_Clone_int_int : FuncId := 82
abbrev fn_slices_ContainsFunc_api_Cell_api_Cell : FuncId := 61
abbrev fn_slices_DeleteL_int_int : FuncId := 69
abbrev fn_slices_Delete_int_int : FuncId := 68
abbrev fn_slices_IndexFunc_api_Cell_api_Cell : FuncId := 81
abbrev fn_slices_Index_int_int : FuncId := 78
abbrev fn_slices_InsertL_int_int : FuncId := 65
abbrev fn_slices_Insert_int_int : FuncId := 66
abbrev fn_slices_ReverseL_int_int : FuncId := 92
abbrev fn_slices_Reverse_int_int : FuncId := 93
abbrev fn_slices_overlapsL_int : FuncId := 83
abbrev fn_slices_overlaps_int : FuncId := 85
abbrev fn_slices_rotateLeftL_int : FuncId := 90
abbrev fn_slices_rotateLeft_int : FuncId := 91
abbrev fn_slices_rotateRightL_int : FuncId := 84
abbrev fn_slices_rotateRight_int : FuncId := 86
abbrev fn_tiles_Good : FuncId := 46
abbrev fn_tiles_Has : FuncId := 24
abbrev fn_tiles_Kill : FuncId := 43
abbrev fn_tiles_Share : FuncId := 17
abbrev fn_tiles_Split : FuncId := 41
abbrev fn_tiles_Where : FuncId := 19
abbrev fn_tiles_find : FuncId := 54
abbrev fn_tiles_own : FuncId := 64
abbrev fn_tiles_pane : FuncId := 63

/-! The types by name. -/
abbrev ty_int : TypeId := 3
abbrev ty_bool : TypeId := 4
abbrev ty_u8 : TypeId := 5
abbrev ty_string : TypeId := 9
abbrev ty_sl_api_Cell : TypeId := 22
abbrev ty_api_Grid : TypeId := 24
abbrev ty_api_Errno : TypeId := 25
abbrev ty_sl_int : TypeId := 28
abbrev ty_api_Event : TypeId := 30
abbrev ty_api_Cell : TypeId := 34
abbrev ty_sl_sl_int : TypeId := 39
abbrev ty_api_Tiles : TypeId := 41
abbrev ty_api_Rect : TypeId := 45
abbrev ty_sl_api_Event : TypeId := 53
abbrev ty_ptr_api_Grid : TypeId := 70
abbrev ty_arr6_bool : TypeId := 87
abbrev ty_sl_u8 : TypeId := 94
abbrev ty_sl_sl_api_Cell : TypeId := 101

def eqs : List Nat := [34, 45]

theorem eqsOk : EqsOk Try.prog eqs := ⟨⟨Try.stoodInHeld34, Try.eqGuardType34⟩, ⟨Try.stoodInHeld45, Try.eqGuardType45⟩, trivial⟩

theorem ctxOk (real wraps opqs : List Nat) (loops cuts : List (Nat × LShape)) : CtxOk ⟨Try.prog, tab, real, wraps, opqs, fns, loops, cuts⟩ := ctxOk_of tabOk (by kernel_rfl) fnsOk eqsOk (by kernel_rfl)

end Go.Proofs.Ytkmmphkjmamckab
