/-
  The table of types and the functions that may be called, of this seat. Printed by a program of ours (vcgen.py).
-/
import Derived.Test.YtkmmphkjmamckaaZB
import Derived.Test.YtkmmphkjmamckaaProg
namespace Go.Proofs.Ytkmmphkjmamckaa
open Go

def tab : List TI := [
  ⟨.tuple [], 1, 0, []⟩,
  ⟨.cell .func, 1, 8, [.nilFunc]⟩,
  ⟨.other, 0, 0, []⟩,
  ⟨.cell (.int .i64), 1, 8, [.int .i64 0]⟩,
  ⟨.cell .bool, 1, 1, [.bool false]⟩,
  ⟨.cell (.int .u8), 1, 1, [.int .u8 0]⟩,
  ⟨.other, 0, 0, []⟩,
  ⟨.other, 0, 0, []⟩,
  ⟨.other, 0, 0, []⟩,
  ⟨.cell .str, 1, 16, [.string (ByteArray.mk #[])]⟩,
  ⟨.other, 0, 0, []⟩,
  ⟨.other, 0, 0, []⟩,
  ⟨.other, 0, 0, []⟩,
  ⟨.other, 0, 0, []⟩,
  ⟨.other, 0, 0, []⟩,
  ⟨.other, 0, 0, []⟩,
  ⟨.other, 0, 0, []⟩,
  ⟨.other, 0, 0, []⟩,
  ⟨.other, 0, 0, []⟩,
  ⟨.other, 0, 0, []⟩,
  ⟨.other, 0, 0, []⟩,
  ⟨.other, 0, 0, []⟩,
  ⟨.other, 0, 0, []⟩,
  ⟨.slice 3, 1, 24, [.slice none 0 0]⟩,
  ⟨.other, 0, 0, []⟩,
  ⟨.struct [(0, 3), (1, 23), (2, 9), (3, 4)], 4, 56, [.int .i64 0, .slice none 0 0, .string (ByteArray.mk #[]), .bool false]⟩,
  ⟨.other, 0, 0, []⟩,
  ⟨.slice 37, 1, 24, [.slice none 0 0]⟩,
  ⟨.cell (.int .i64), 1, 8, [.int .i64 0]⟩,
  ⟨.tuple [25, 27, 28], 1, 0, []⟩,
  ⟨.other, 0, 0, []⟩,
  ⟨.other, 0, 0, []⟩,
  ⟨.other, 0, 0, []⟩,
  ⟨.other, 0, 0, []⟩,
  ⟨.other, 0, 0, []⟩,
  ⟨.other, 0, 0, []⟩,
  ⟨.other, 0, 0, []⟩,
  ⟨.struct [(0, 3), (1, 3), (2, 23), (3, 9)], 4, 56, [.int .i64 0, .int .i64 0, .slice none 0 0, .string (ByteArray.mk #[])]⟩,
  ⟨.other, 0, 0, []⟩,
  ⟨.slice 23, 1, 24, [.slice none 0 0]⟩,
  ⟨.other, 0, 0, []⟩,
  ⟨.struct [(0, 39)], 1, 24, [.slice none 0 0]⟩,
  ⟨.slice 49, 1, 24, [.slice none 0 0]⟩,
  ⟨.other, 0, 0, []⟩,
  ⟨.struct [(0, 3), (1, 3), (2, 42), (3, 3), (4, 3), (5, 3), (6, 4), (7, 3), (8, 3)], 9, 88, [.int .i64 0, .int .i64 0, .slice none 0 0, .int .i64 0, .int .i64 0, .int .i64 0, .bool false, .int .i64 0, .int .i64 0]⟩,
  ⟨.array 6 44, 54, 528, [.int .i64 0, .int .i64 0, .slice none 0 0, .int .i64 0, .int .i64 0, .int .i64 0, .bool false, .int .i64 0, .int .i64 0, .int .i64 0, .int .i64 0, .slice none 0 0, .int .i64 0, .int .i64 0, .int .i64 0, .bool false, .int .i64 0, .int .i64 0, .int .i64 0, .int .i64 0, .slice none 0 0, .int .i64 0, .int .i64 0, .int .i64 0, .bool false, .int .i64 0, .int .i64 0, .int .i64 0, .int .i64 0, .slice none 0 0, .int .i64 0, .int .i64 0, .int .i64 0, .bool false, .int .i64 0, .int .i64 0, .int .i64 0, .int .i64 0, .slice none 0 0, .int .i64 0, .int .i64 0, .int .i64 0, .bool false, .int .i64 0, .int .i64 0, .int .i64 0, .int .i64 0, .slice none 0 0, .int .i64 0, .int .i64 0, .int .i64 0, .bool false, .int .i64 0, .int .i64 0]⟩,
  ⟨.other, 0, 0, []⟩,
  ⟨.struct [(0, 41), (1, 45), (55, 3), (56, 3), (57, 3)], 58, 576, [.slice none 0 0, .int .i64 0, .int .i64 0, .slice none 0 0, .int .i64 0, .int .i64 0, .int .i64 0, .bool false, .int .i64 0, .int .i64 0, .int .i64 0, .int .i64 0, .slice none 0 0, .int .i64 0, .int .i64 0, .int .i64 0, .bool false, .int .i64 0, .int .i64 0, .int .i64 0, .int .i64 0, .slice none 0 0, .int .i64 0, .int .i64 0, .int .i64 0, .bool false, .int .i64 0, .int .i64 0, .int .i64 0, .int .i64 0, .slice none 0 0, .int .i64 0, .int .i64 0, .int .i64 0, .bool false, .int .i64 0, .int .i64 0, .int .i64 0, .int .i64 0, .slice none 0 0, .int .i64 0, .int .i64 0, .int .i64 0, .bool false, .int .i64 0, .int .i64 0, .int .i64 0, .int .i64 0, .slice none 0 0, .int .i64 0, .int .i64 0, .int .i64 0, .bool false, .int .i64 0, .int .i64 0, .int .i64 0, .int .i64 0, .int .i64 0]⟩,
  ⟨.other, 0, 0, []⟩,
  ⟨.struct [(0, 3), (1, 3), (2, 3), (3, 4)], 4, 32, [.int .i64 0, .int .i64 0, .int .i64 0, .bool false]⟩,
  ⟨.other, 0, 0, []⟩,
  ⟨.other, 0, 0, []⟩,
  ⟨.other, 0, 0, []⟩,
  ⟨.other, 0, 0, []⟩,
  ⟨.other, 0, 0, []⟩,
  ⟨.other, 0, 0, []⟩,
  ⟨.tuple [44, 28], 1, 0, []⟩,
  ⟨.other, 0, 0, []⟩,
  ⟨.other, 0, 0, []⟩,
  ⟨.other, 0, 0, []⟩,
  ⟨.other, 0, 0, []⟩,
  ⟨.other, 0, 0, []⟩,
  ⟨.other, 0, 0, []⟩,
  ⟨.other, 0, 0, []⟩,
  ⟨.tuple [25, 37], 1, 0, []⟩,
  ⟨.other, 0, 0, []⟩,
  ⟨.cell .func, 1, 8, [.nilFunc]⟩,
  ⟨.slice 5, 1, 24, [.slice none 0 0]⟩,
  ⟨.other, 0, 0, []⟩,
  ⟨.other, 0, 0, []⟩,
  ⟨.other, 0, 0, []⟩,
  ⟨.struct [(0, 3), (1, 3), (2, 3), (3, 3)], 4, 32, [.int .i64 0, .int .i64 0, .int .i64 0, .int .i64 0]⟩,
  ⟨.other, 0, 0, []⟩,
  ⟨.tuple [3, 3], 1, 0, []⟩,
  ⟨.other, 0, 0, []⟩,
  ⟨.other, 0, 0, []⟩,
  ⟨.other, 0, 0, []⟩,
  ⟨.other, 0, 0, []⟩,
  ⟨.other, 0, 0, []⟩,
  ⟨.other, 0, 0, []⟩,
  ⟨.ptr 44, 1, 8, [.pointer none]⟩,
  ⟨.other, 0, 0, []⟩,
  ⟨.other, 0, 0, []⟩,
  ⟨.other, 0, 0, []⟩,
  ⟨.other, 0, 0, []⟩,
  ⟨.other, 0, 0, []⟩,
  ⟨.cell .func, 1, 8, [.nilFunc]⟩,
  ⟨.cell .func, 1, 8, [.nilFunc]⟩,
  ⟨.tuple [3, 3, 4], 1, 0, []⟩,
  ⟨.other, 0, 0, []⟩,
  ⟨.other, 0, 0, []⟩,
  ⟨.other, 0, 0, []⟩,
  ⟨.other, 0, 0, []⟩,
  ⟨.other, 0, 0, []⟩,
  ⟨.other, 0, 0, []⟩,
  ⟨.other, 0, 0, []⟩,
  ⟨.other, 0, 0, []⟩,
  ⟨.other, 0, 0, []⟩,
  ⟨.other, 0, 0, []⟩,
  ⟨.array 6 4, 6, 6, [.bool false, .bool false, .bool false, .bool false, .bool false, .bool false]⟩,
  ⟨.other, 0, 0, []⟩,
  ⟨.slice 42, 1, 24, [.slice none 0 0]⟩]

def fns : List Nat := [2, 3, 4, 5, 6, 7, 8, 9, 10, 11, 12, 13, 14, 15, 16, 17, 18, 19, 20, 21, 22, 23, 24, 25, 26, 27, 28, 29, 30, 31, 32, 33, 34, 35, 36, 37, 38, 39, 40, 41, 42, 43, 44, 45, 46, 47, 48, 49, 50, 51, 52, 53, 54, 55, 56, 57, 58, 59, 60, 61, 62, 63, 64, 65, 66, 67, 68, 69, 70, 71, 72, 73, 74, 75, 76, 77, 78, 79, 80, 81, 82, 83, 84, 85, 86, 87, 88, 89, 90, 91]

set_option maxRecDepth 100000 in
theorem tabOk : TabOk Try.prog 0 tab := ⟨
  ⟨⟨_, Try.type0, rfl, rfl⟩, trivial, trivial, ⟨_, Try.underlying0, ⟨_, rfl⟩⟩⟩,
  ⟨⟨_, Try.type1, rfl, rfl⟩, ⟨_, _, Try.type1, rfl, rfl⟩, rfl, ⟨_, Try.underlying1, ⟨_, _, _, rfl⟩⟩⟩,
  trivial,
  ⟨⟨_, Try.type3, rfl, rfl⟩, ⟨_, _, Try.type3, rfl, rfl⟩, rfl, ⟨_, Try.underlying3, rfl⟩⟩,
  ⟨⟨_, Try.type4, rfl, rfl⟩, ⟨_, _, Try.type4, rfl, rfl⟩, rfl, ⟨_, Try.underlying4, rfl⟩⟩,
  ⟨⟨_, Try.type5, rfl, rfl⟩, ⟨_, _, Try.type5, rfl, rfl⟩, rfl, ⟨_, Try.underlying5, rfl⟩⟩,
  trivial,
  trivial,
  trivial,
  ⟨⟨_, Try.type9, rfl, rfl⟩, ⟨_, _, Try.type9, rfl, rfl⟩, rfl, ⟨_, Try.underlying9, rfl⟩⟩,
  trivial,
  trivial,
  trivial,
  trivial,
  trivial,
  trivial,
  trivial,
  trivial,
  trivial,
  trivial,
  trivial,
  trivial,
  trivial,
  ⟨⟨_, Try.type23, rfl, rfl⟩, ⟨_, _, Try.type23, rfl, rfl⟩, rfl, ⟨_, Try.underlying23, rfl⟩⟩,
  trivial,
  ⟨⟨_, Try.type25, rfl, rfl⟩, ⟨_, _, Try.type25, rfl, rfl⟩, rfl, ⟨_, Try.underlying25, ⟨_, rfl, rfl, by decide⟩⟩⟩,
  trivial,
  ⟨⟨_, Try.type27, rfl, rfl⟩, ⟨_, _, Try.type27, rfl, rfl⟩, rfl, ⟨_, Try.underlying27, rfl⟩⟩,
  ⟨⟨_, Try.type28, rfl, rfl⟩, ⟨_, _, Try.type28, rfl, rfl⟩, rfl, ⟨_, Try.underlying28, rfl⟩⟩,
  ⟨⟨_, Try.type29, rfl, rfl⟩, trivial, trivial, ⟨_, Try.underlying29, ⟨_, rfl⟩⟩⟩,
  trivial,
  trivial,
  trivial,
  trivial,
  trivial,
  trivial,
  trivial,
  ⟨⟨_, Try.type37, rfl, rfl⟩, ⟨_, _, Try.type37, rfl, rfl⟩, rfl, ⟨_, Try.underlying37, ⟨_, rfl, rfl, by decide⟩⟩⟩,
  trivial,
  ⟨⟨_, Try.type39, rfl, rfl⟩, ⟨_, _, Try.type39, rfl, rfl⟩, rfl, ⟨_, Try.underlying39, rfl⟩⟩,
  trivial,
  ⟨⟨_, Try.type41, rfl, rfl⟩, ⟨_, _, Try.type41, rfl, rfl⟩, rfl, ⟨_, Try.underlying41, ⟨_, rfl, rfl, by decide⟩⟩⟩,
  ⟨⟨_, Try.type42, rfl, rfl⟩, ⟨_, _, Try.type42, rfl, rfl⟩, rfl, ⟨_, Try.underlying42, rfl⟩⟩,
  trivial,
  ⟨⟨_, Try.type44, rfl, rfl⟩, ⟨_, _, Try.type44, rfl, rfl⟩, rfl, ⟨_, Try.underlying44, ⟨_, rfl, rfl, by decide⟩⟩⟩,
  ⟨⟨_, Try.type45, rfl, rfl⟩, ⟨_, _, Try.type45, rfl, rfl⟩, rfl, ⟨_, Try.underlying45, rfl⟩⟩,
  trivial,
  ⟨⟨_, Try.type47, rfl, rfl⟩, ⟨_, _, Try.type47, rfl, rfl⟩, rfl, ⟨_, Try.underlying47, ⟨_, rfl, rfl, by decide⟩⟩⟩,
  trivial,
  ⟨⟨_, Try.type49, rfl, rfl⟩, ⟨_, _, Try.type49, rfl, rfl⟩, rfl, ⟨_, Try.underlying49, ⟨_, rfl, rfl, by decide⟩⟩⟩,
  trivial,
  trivial,
  trivial,
  trivial,
  trivial,
  trivial,
  ⟨⟨_, Try.type56, rfl, rfl⟩, trivial, trivial, ⟨_, Try.underlying56, ⟨_, rfl⟩⟩⟩,
  trivial,
  trivial,
  trivial,
  trivial,
  trivial,
  trivial,
  trivial,
  ⟨⟨_, Try.type64, rfl, rfl⟩, trivial, trivial, ⟨_, Try.underlying64, ⟨_, rfl⟩⟩⟩,
  trivial,
  ⟨⟨_, Try.type66, rfl, rfl⟩, ⟨_, _, Try.type66, rfl, rfl⟩, rfl, ⟨_, Try.underlying66, ⟨_, _, _, rfl⟩⟩⟩,
  ⟨⟨_, Try.type67, rfl, rfl⟩, ⟨_, _, Try.type67, rfl, rfl⟩, rfl, ⟨_, Try.underlying67, rfl⟩⟩,
  trivial,
  trivial,
  trivial,
  ⟨⟨_, Try.type71, rfl, rfl⟩, ⟨_, _, Try.type71, rfl, rfl⟩, rfl, ⟨_, Try.underlying71, ⟨_, rfl, rfl, by decide⟩⟩⟩,
  trivial,
  ⟨⟨_, Try.type73, rfl, rfl⟩, trivial, trivial, ⟨_, Try.underlying73, ⟨_, rfl⟩⟩⟩,
  trivial,
  trivial,
  trivial,
  trivial,
  trivial,
  trivial,
  ⟨⟨_, Try.type80, rfl, rfl⟩, ⟨_, _, Try.type80, rfl, rfl⟩, rfl, ⟨_, Try.underlying80, rfl⟩⟩,
  trivial,
  trivial,
  trivial,
  trivial,
  trivial,
  ⟨⟨_, Try.type86, rfl, rfl⟩, ⟨_, _, Try.type86, rfl, rfl⟩, rfl, ⟨_, Try.underlying86, ⟨_, _, _, rfl⟩⟩⟩,
  ⟨⟨_, Try.type87, rfl, rfl⟩, ⟨_, _, Try.type87, rfl, rfl⟩, rfl, ⟨_, Try.underlying87, ⟨_, _, _, rfl⟩⟩⟩,
  ⟨⟨_, Try.type88, rfl, rfl⟩, trivial, trivial, ⟨_, Try.underlying88, ⟨_, rfl⟩⟩⟩,
  trivial,
  trivial,
  trivial,
  trivial,
  trivial,
  trivial,
  trivial,
  trivial,
  trivial,
  trivial,
  ⟨⟨_, Try.type99, rfl, rfl⟩, ⟨_, _, Try.type99, rfl, rfl⟩, rfl, ⟨_, Try.underlying99, rfl⟩⟩,
  trivial,
  ⟨⟨_, Try.type101, rfl, rfl⟩, ⟨_, _, Try.type101, rfl, rfl⟩, rfl, ⟨_, Try.underlying101, rfl⟩⟩,
  trivial⟩

set_option maxRecDepth 100000 in
theorem fnsOk : FnsOk Try.prog fns := ⟨
  ⟨_, Try.func2, by kernel_rfl, rfl⟩,
  ⟨_, Try.func3, by kernel_rfl, rfl⟩,
  ⟨_, Try.func4, by kernel_rfl, rfl⟩,
  ⟨_, Try.func5, by kernel_rfl, rfl⟩,
  ⟨_, Try.func6, by kernel_rfl, rfl⟩,
  ⟨_, Try.func7, by kernel_rfl, rfl⟩,
  ⟨_, Try.func8, by kernel_rfl, rfl⟩,
  ⟨_, Try.func9, by kernel_rfl, rfl⟩,
  ⟨_, Try.func10, by kernel_rfl, rfl⟩,
  ⟨_, Try.func11, by kernel_rfl, rfl⟩,
  ⟨_, Try.func12, by kernel_rfl, rfl⟩,
  ⟨_, Try.func13, by kernel_rfl, rfl⟩,
  ⟨_, Try.func14, by kernel_rfl, rfl⟩,
  ⟨_, Try.func15, by kernel_rfl, rfl⟩,
  ⟨_, Try.func16, by kernel_rfl, rfl⟩,
  ⟨_, Try.func17, by kernel_rfl, rfl⟩,
  ⟨_, Try.func18, by kernel_rfl, rfl⟩,
  ⟨_, Try.func19, by kernel_rfl, rfl⟩,
  ⟨_, Try.func20, by kernel_rfl, rfl⟩,
  ⟨_, Try.func21, by kernel_rfl, rfl⟩,
  ⟨_, Try.func22, by kernel_rfl, rfl⟩,
  ⟨_, Try.func23, by kernel_rfl, rfl⟩,
  ⟨_, Try.func24, by kernel_rfl, rfl⟩,
  ⟨_, Try.func25, by kernel_rfl, rfl⟩,
  ⟨_, Try.func26, by kernel_rfl, rfl⟩,
  ⟨_, Try.func27, by kernel_rfl, rfl⟩,
  ⟨_, Try.func28, by kernel_rfl, rfl⟩,
  ⟨_, Try.func29, by kernel_rfl, rfl⟩,
  ⟨_, Try.func30, by kernel_rfl, rfl⟩,
  ⟨_, Try.func31, by kernel_rfl, rfl⟩,
  ⟨_, Try.func32, by kernel_rfl, rfl⟩,
  ⟨_, Try.func33, by kernel_rfl, rfl⟩,
  ⟨_, Try.func34, by kernel_rfl, rfl⟩,
  ⟨_, Try.func35, by kernel_rfl, rfl⟩,
  ⟨_, Try.func36, by kernel_rfl, rfl⟩,
  ⟨_, Try.func37, by kernel_rfl, rfl⟩,
  ⟨_, Try.func38, by kernel_rfl, rfl⟩,
  ⟨_, Try.func39, by kernel_rfl, rfl⟩,
  ⟨_, Try.func40, by kernel_rfl, rfl⟩,
  ⟨_, Try.func41, by kernel_rfl, rfl⟩,
  ⟨_, Try.func42, by kernel_rfl, rfl⟩,
  ⟨_, Try.func43, by kernel_rfl, rfl⟩,
  ⟨_, Try.func44, by kernel_rfl, rfl⟩,
  ⟨_, Try.func45, by kernel_rfl, rfl⟩,
  ⟨_, Try.func46, by kernel_rfl, rfl⟩,
  ⟨_, Try.func47, by kernel_rfl, rfl⟩,
  ⟨_, Try.func48, by kernel_rfl, rfl⟩,
  ⟨_, Try.func49, by kernel_rfl, rfl⟩,
  ⟨_, Try.func50, by kernel_rfl, rfl⟩,
  ⟨_, Try.func51, by kernel_rfl, rfl⟩,
  ⟨_, Try.func52, by kernel_rfl, rfl⟩,
  ⟨_, Try.func53, by kernel_rfl, rfl⟩,
  ⟨_, Try.func54, by kernel_rfl, rfl⟩,
  ⟨_, Try.func55, by kernel_rfl, rfl⟩,
  ⟨_, Try.func56, by kernel_rfl, rfl⟩,
  ⟨_, Try.func57, by kernel_rfl, rfl⟩,
  ⟨_, Try.func58, by kernel_rfl, rfl⟩,
  ⟨_, Try.func59, by kernel_rfl, rfl⟩,
  ⟨_, Try.func60, by kernel_rfl, rfl⟩,
  ⟨_, Try.func61, by kernel_rfl, rfl⟩,
  ⟨_, Try.func62, by kernel_rfl, rfl⟩,
  ⟨_, Try.func63, by kernel_rfl, rfl⟩,
  ⟨_, Try.func64, by kernel_rfl, rfl⟩,
  ⟨_, Try.func65, by kernel_rfl, rfl⟩,
  ⟨_, Try.func66, by kernel_rfl, rfl⟩,
  ⟨_, Try.func67, by kernel_rfl, rfl⟩,
  ⟨_, Try.func68, by kernel_rfl, rfl⟩,
  ⟨_, Try.func69, by kernel_rfl, rfl⟩,
  ⟨_, Try.func70, by kernel_rfl, rfl⟩,
  ⟨_, Try.func71, by kernel_rfl, rfl⟩,
  ⟨_, Try.func72, by kernel_rfl, rfl⟩,
  ⟨_, Try.func73, by kernel_rfl, rfl⟩,
  ⟨_, Try.func74, by kernel_rfl, rfl⟩,
  ⟨_, Try.func75, by kernel_rfl, rfl⟩,
  ⟨_, Try.func76, by kernel_rfl, rfl⟩,
  ⟨_, Try.func77, by kernel_rfl, rfl⟩,
  ⟨_, Try.func78, by kernel_rfl, rfl⟩,
  ⟨_, Try.func79, by kernel_rfl, rfl⟩,
  ⟨_, Try.func80, by kernel_rfl, rfl⟩,
  ⟨_, Try.func81, by kernel_rfl, rfl⟩,
  ⟨_, Try.func82, by kernel_rfl, rfl⟩,
  ⟨_, Try.func83, by kernel_rfl, rfl⟩,
  ⟨_, Try.func84, by kernel_rfl, rfl⟩,
  ⟨_, Try.func85, by kernel_rfl, rfl⟩,
  ⟨_, Try.func86, by kernel_rfl, rfl⟩,
  ⟨_, Try.func87, by kernel_rfl, rfl⟩,
  ⟨_, Try.func88, by kernel_rfl, rfl⟩,
  ⟨_, Try.func89, by kernel_rfl, rfl⟩,
  ⟨_, Try.func90, by kernel_rfl, rfl⟩,
  ⟨_, Try.func91, by kernel_rfl, rfl⟩, trivial⟩

/-! The functions by name. -/
abbrev fn_fenestrakeep_GridErases : FuncId := 12
abbrev fn_fenestrakeep_GridGood : FuncId := 11
abbrev fn_fenestrakeep_GridPrints : FuncId := 13
abbrev fn_fenestrakeep_ParseParts : FuncId := 5
abbrev fn_fenestrakeep_ParsePlain : FuncId := 6
abbrev fn_fenestrakeep_ParseStops : FuncId := 7
abbrev fn_fenestrakeep_pick : FuncId := 41
abbrev fn_fenestrakeep_reads : FuncId := 22
abbrev fn_fenestrakeep_sameCells : FuncId := 40
abbrev fn_fenestrakeep_sameEvents : FuncId := 24
abbrev fn_fenestrakeep_sameNumbers : FuncId := 48
abbrev fn_fenestrakeep_sameParser : FuncId := 23
abbrev fn_fenestrakeep_shows : FuncId := 39
abbrev fn_fenestralaw_GridDoes : FuncId := 10
abbrev fn_fenestralaw_Names : FuncId := 3
abbrev fn_fenestralaw_PaintScreens : FuncId := 9
abbrev fn_fenestralaw_PaintSees : FuncId := 8
abbrev fn_fenestralaw_ParseFeeds : FuncId := 4
abbrev fn_fenestralaw_paints : FuncId := 29
abbrev fn_fenestralaw_reads : FuncId := 21
abbrev fn_fenestralaw_shows : FuncId := 38
abbrev fn_fenestraref_Act : FuncId := 35
abbrev fn_fenestraref_CellAt : FuncId := 53
abbrev fn_fenestraref_CopyGrid : FuncId := 33
abbrev fn_fenestraref_CopyParser : FuncId := 14
abbrev fn_fenestraref_FeedBytes : FuncId := 16
abbrev fn_fenestraref_FeedBytes_c1 : FuncId := 45
abbrev fn_fenestraref_FeedBytes_c2 : FuncId := 46
abbrev fn_fenestraref_FootAt : FuncId := 28
abbrev fn_fenestraref_GoodGrid : FuncId := 37
abbrev fn_fenestraref_GoodGrid_c1 : FuncId := 72
abbrev fn_fenestraref_GoodParser : FuncId := 20
abbrev fn_fenestraref_GoodTiles : FuncId := 76
abbrev fn_fenestraref_IsCell : FuncId := 71
abbrev fn_fenestraref_NewGrid : FuncId := 58
abbrev fn_fenestraref_PlaceOf : FuncId := 52
abbrev fn_fenestraref_SameCells : FuncId := 57
abbrev fn_fenestraref_SameEvents : FuncId := 18
abbrev fn_fenestraref_SameGrid : FuncId := 30
abbrev fn_fenestraref_SameNumbers : FuncId := 47
abbrev fn_fenestraref_SameParser : FuncId := 17
abbrev fn_fenestraref_ScreenOf : FuncId := 32
abbrev fn_fenestraref_SeenAt : FuncId := 26
abbrev fn_fenestraref_ShareOf : FuncId := 54
abbrev fn_fenestraref_all : FuncId := 55
abbrev fn_fenestraref_csi : FuncId := 66
abbrev fn_fenestraref_drawn : FuncId := 67
abbrev fn_fenestraref_given : FuncId := 85
abbrev fn_fenestraref_isPane : FuncId := 59
abbrev fn_fenestraref_nextRow : FuncId := 65
abbrev fn_fenestraref_roll : FuncId := 84
abbrev fn_fenestraref_rowsIn : FuncId := 91
abbrev fn_fenestraref_rowsOf : FuncId := 90
abbrev fn_grid_At : FuncId := 42
abbrev fn_grid_Do : FuncId := 34
abbrev fn_grid_Good : FuncId := 36
abbrev fn_grid_GoodCell : FuncId := 70
abbrev fn_grid_Good_c1 : FuncId := 69
abbrev fn_grid_New : FuncId := 56
abbrev fn_grid_command : FuncId := 63
abbrev fn_grid_control : FuncId := 62
abbrev fn_grid_down : FuncId := 81
abbrev fn_grid_erase : FuncId := 80
abbrev fn_grid_feed : FuncId := 77
abbrev fn_grid_ink : FuncId := 83
abbrev fn_grid_number : FuncId := 79
abbrev fn_grid_picture : FuncId := 64
abbrev fn_grid_row : FuncId := 78
abbrev fn_grid_show : FuncId := 61
abbrev fn_grid_up : FuncId := 82
abbrev fn_grid_wipe : FuncId := 89
abbrev fn_paint_Cell : FuncId := 25
abbrev fn_paint_Screen : FuncId := 31
abbrev fn_paint_Status : FuncId := 27
abbrev fn_paint_sign : FuncId := 49
abbrev fn_parse_Feed : FuncId := 15
abbrev fn_parse_Good : FuncId := 19
abbrev fn_parse_command : FuncId := 73
abbrev fn_parse_step : FuncId := 44
abbrev fn_slices_Clone_api_Cell_api_Cell : FuncId := 60
abbrev fn_slices_Clone_int_int : FuncId := 43
abbrev fn_slices_ContainsFunc_api_Cell_api_Cell : FuncId := 68
abbrev fn_slices_IndexFunc_api_Cell_api_Cell : FuncId := 86
abbrev fn_slices_Index_int_int : FuncId := 87
abbrev fn_tiles_Good : FuncId := 75
abbrev fn_tiles_Share : FuncId := 51
abbrev fn_tiles_Where : FuncId := 50
abbrev fn_tiles_find : FuncId := 74
abbrev fn_tiles_pane : FuncId := 88

/-! The types by name. -/
abbrev ty_int : TypeId := 3
abbrev ty_bool : TypeId := 4
abbrev ty_u8 : TypeId := 5
abbrev ty_string : TypeId := 9
abbrev ty_sl_int : TypeId := 23
abbrev ty_api_Parser : TypeId := 25
abbrev ty_sl_api_Event : TypeId := 27
abbrev ty_api_Errno : TypeId := 28
abbrev ty_api_Event : TypeId := 37
abbrev ty_sl_sl_int : TypeId := 39
abbrev ty_api_Tiles : TypeId := 41
abbrev ty_sl_api_Cell : TypeId := 42
abbrev ty_api_Grid : TypeId := 44
abbrev ty_arr6_api_Grid : TypeId := 45
abbrev ty_api_View : TypeId := 47
abbrev ty_api_Cell : TypeId := 49
abbrev ty_sl_u8 : TypeId := 67
abbrev ty_api_Rect : TypeId := 71
abbrev ty_ptr_api_Grid : TypeId := 80
abbrev ty_arr6_bool : TypeId := 99
abbrev ty_sl_sl_api_Cell : TypeId := 101

def eqs : List Nat := [49, 71]

theorem eqsOk : EqsOk Try.prog eqs := ⟨⟨Try.stoodInHeld49, Try.eqGuardType49⟩, ⟨Try.stoodInHeld71, Try.eqGuardType71⟩, trivial⟩

theorem ctxOk (real wraps opqs : List Nat) (loops cuts : List (Nat × LShape)) : CtxOk ⟨Try.prog, tab, real, wraps, opqs, fns, loops, cuts⟩ := ctxOk_of tabOk (by kernel_rfl) fnsOk eqsOk (by kernel_rfl)

end Go.Proofs.Ytkmmphkjmamckaa
