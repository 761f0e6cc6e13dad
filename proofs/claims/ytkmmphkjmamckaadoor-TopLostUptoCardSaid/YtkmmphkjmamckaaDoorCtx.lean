/-
  The table of types and the functions that may be called, of this seat. Printed by a program of ours (vcgen.py).
-/
import Derived.Test.YtkmmphkjmamckaaDoorZB
import Derived.Test.YtkmmphkjmamckaaDoorProg
namespace Go.Proofs.YtkmmphkjmamckaaDoor
open Go

def tab : List TI := [
  ⟨.tuple [], 1, 0, []⟩,
  ⟨.other, 0, 0, []⟩,
  ⟨.other, 0, 0, []⟩,
  ⟨.cell (.int .i64), 1, 8, [.int .i64 0]⟩,
  ⟨.cell .bool, 1, 1, [.bool false]⟩,
  ⟨.cell (.int .u8), 1, 1, [.int .u8 0]⟩,
  ⟨.other, 0, 0, []⟩,
  ⟨.other, 0, 0, []⟩,
  ⟨.other, 0, 0, []⟩,
  ⟨.cell .str, 1, 16, [.string (ByteArray.mk #[])]⟩,
  ⟨.other, 0, 0, []⟩,
  ⟨.other, 0, 0, []⟩,
  ⟨.other, 0, 0, []⟩,
  ⟨.other, 0, 0, []⟩,
  ⟨.other, 0, 0, []⟩,
  ⟨.other, 0, 0, []⟩,
  ⟨.other, 0, 0, []⟩,
  ⟨.other, 0, 0, []⟩,
  ⟨.other, 0, 0, []⟩,
  ⟨.other, 0, 0, []⟩,
  ⟨.other, 0, 0, []⟩,
  ⟨.other, 0, 0, []⟩,
  ⟨.slice 30, 1, 24, [.slice none 0 0]⟩,
  ⟨.array 3 9, 3, 48, [.string (ByteArray.mk #[]), .string (ByteArray.mk #[]), .string (ByteArray.mk #[])]⟩,
  ⟨.array 3 4, 3, 3, [.bool false, .bool false, .bool false]⟩,
  ⟨.ptr 63, 1, 8, [.pointer none]⟩,
  ⟨.ptr 48, 1, 8, [.pointer none]⟩,
  ⟨.tuple [25, 26, 4], 1, 0, []⟩,
  ⟨.other, 0, 0, []⟩,
  ⟨.other, 0, 0, []⟩,
  ⟨.struct [(0, 3), (1, 3), (2, 3), (3, 3), (4, 9)], 5, 48, [.int .i64 0, .int .i64 0, .int .i64 0, .int .i64 0, .string (ByteArray.mk #[])]⟩,
  ⟨.cell (.int .i64), 1, 8, [.int .i64 0]⟩,
  ⟨.other, 0, 0, []⟩,
  ⟨.struct [(0, 31), (1, 3), (2, 9)], 3, 32, [.int .i64 0, .int .i64 0, .string (ByteArray.mk #[])]⟩,
  ⟨.tuple [9, 4, 4], 1, 0, []⟩,
  ⟨.other, 0, 0, []⟩,
  ⟨.cell .func, 1, 8, [.nilFunc]⟩,
  ⟨.other, 0, 0, []⟩,
  ⟨.other, 0, 0, []⟩,
  ⟨.other, 0, 0, []⟩,
  ⟨.slice 3, 1, 24, [.slice none 0 0]⟩,
  ⟨.other, 0, 0, []⟩,
  ⟨.struct [(0, 3), (1, 40), (2, 9), (3, 4)], 4, 56, [.int .i64 0, .slice none 0 0, .string (ByteArray.mk #[]), .bool false]⟩,
  ⟨.slice 111, 1, 24, [.slice none 0 0]⟩,
  ⟨.other, 0, 0, []⟩,
  ⟨.struct [(0, 3), (1, 3), (2, 43), (3, 3), (4, 3), (5, 3), (6, 4), (7, 3), (8, 3)], 9, 88, [.int .i64 0, .int .i64 0, .slice none 0 0, .int .i64 0, .int .i64 0, .int .i64 0, .bool false, .int .i64 0, .int .i64 0]⟩,
  ⟨.other, 0, 0, []⟩,
  ⟨.struct [(0, 42), (4, 45)], 13, 144, [.int .i64 0, .slice none 0 0, .string (ByteArray.mk #[]), .bool false, .int .i64 0, .int .i64 0, .slice none 0 0, .int .i64 0, .int .i64 0, .int .i64 0, .bool false, .int .i64 0, .int .i64 0]⟩,
  ⟨.array 3 47, 39, 432, [.int .i64 0, .slice none 0 0, .string (ByteArray.mk #[]), .bool false, .int .i64 0, .int .i64 0, .slice none 0 0, .int .i64 0, .int .i64 0, .int .i64 0, .bool false, .int .i64 0, .int .i64 0, .int .i64 0, .slice none 0 0, .string (ByteArray.mk #[]), .bool false, .int .i64 0, .int .i64 0, .slice none 0 0, .int .i64 0, .int .i64 0, .int .i64 0, .bool false, .int .i64 0, .int .i64 0, .int .i64 0, .slice none 0 0, .string (ByteArray.mk #[]), .bool false, .int .i64 0, .int .i64 0, .slice none 0 0, .int .i64 0, .int .i64 0, .int .i64 0, .bool false, .int .i64 0, .int .i64 0]⟩,
  ⟨.other, 0, 0, []⟩,
  ⟨.other, 0, 0, []⟩,
  ⟨.other, 0, 0, []⟩,
  ⟨.other, 0, 0, []⟩,
  ⟨.struct [(0, 4), (1, 45), (10, 9), (11, 4)], 12, 120, [.bool false, .int .i64 0, .int .i64 0, .slice none 0 0, .int .i64 0, .int .i64 0, .int .i64 0, .bool false, .int .i64 0, .int .i64 0, .string (ByteArray.mk #[]), .bool false]⟩,
  ⟨.slice 40, 1, 24, [.slice none 0 0]⟩,
  ⟨.other, 0, 0, []⟩,
  ⟨.struct [(0, 54)], 1, 24, [.slice none 0 0]⟩,
  ⟨.array 6 45, 54, 528, [.int .i64 0, .int .i64 0, .slice none 0 0, .int .i64 0, .int .i64 0, .int .i64 0, .bool false, .int .i64 0, .int .i64 0, .int .i64 0, .int .i64 0, .slice none 0 0, .int .i64 0, .int .i64 0, .int .i64 0, .bool false, .int .i64 0, .int .i64 0, .int .i64 0, .int .i64 0, .slice none 0 0, .int .i64 0, .int .i64 0, .int .i64 0, .bool false, .int .i64 0, .int .i64 0, .int .i64 0, .int .i64 0, .slice none 0 0, .int .i64 0, .int .i64 0, .int .i64 0, .bool false, .int .i64 0, .int .i64 0, .int .i64 0, .int .i64 0, .slice none 0 0, .int .i64 0, .int .i64 0, .int .i64 0, .bool false, .int .i64 0, .int .i64 0, .int .i64 0, .int .i64 0, .slice none 0 0, .int .i64 0, .int .i64 0, .int .i64 0, .bool false, .int .i64 0, .int .i64 0]⟩,
  ⟨.other, 0, 0, []⟩,
  ⟨.struct [(0, 56), (1, 57), (55, 3), (56, 3), (57, 3)], 58, 576, [.slice none 0 0, .int .i64 0, .int .i64 0, .slice none 0 0, .int .i64 0, .int .i64 0, .int .i64 0, .bool false, .int .i64 0, .int .i64 0, .int .i64 0, .int .i64 0, .slice none 0 0, .int .i64 0, .int .i64 0, .int .i64 0, .bool false, .int .i64 0, .int .i64 0, .int .i64 0, .int .i64 0, .slice none 0 0, .int .i64 0, .int .i64 0, .int .i64 0, .bool false, .int .i64 0, .int .i64 0, .int .i64 0, .int .i64 0, .slice none 0 0, .int .i64 0, .int .i64 0, .int .i64 0, .bool false, .int .i64 0, .int .i64 0, .int .i64 0, .int .i64 0, .slice none 0 0, .int .i64 0, .int .i64 0, .int .i64 0, .bool false, .int .i64 0, .int .i64 0, .int .i64 0, .int .i64 0, .slice none 0 0, .int .i64 0, .int .i64 0, .int .i64 0, .bool false, .int .i64 0, .int .i64 0, .int .i64 0, .int .i64 0, .int .i64 0]⟩,
  ⟨.array 6 42, 24, 336, [.int .i64 0, .slice none 0 0, .string (ByteArray.mk #[]), .bool false, .int .i64 0, .slice none 0 0, .string (ByteArray.mk #[]), .bool false, .int .i64 0, .slice none 0 0, .string (ByteArray.mk #[]), .bool false, .int .i64 0, .slice none 0 0, .string (ByteArray.mk #[]), .bool false, .int .i64 0, .slice none 0 0, .string (ByteArray.mk #[]), .bool false, .int .i64 0, .slice none 0 0, .string (ByteArray.mk #[]), .bool false]⟩,
  ⟨.array 3 53, 36, 360, [.bool false, .int .i64 0, .int .i64 0, .slice none 0 0, .int .i64 0, .int .i64 0, .int .i64 0, .bool false, .int .i64 0, .int .i64 0, .string (ByteArray.mk #[]), .bool false, .bool false, .int .i64 0, .int .i64 0, .slice none 0 0, .int .i64 0, .int .i64 0, .int .i64 0, .bool false, .int .i64 0, .int .i64 0, .string (ByteArray.mk #[]), .bool false, .bool false, .int .i64 0, .int .i64 0, .slice none 0 0, .int .i64 0, .int .i64 0, .int .i64 0, .bool false, .int .i64 0, .int .i64 0, .string (ByteArray.mk #[]), .bool false]⟩,
  ⟨.other, 0, 0, []⟩,
  ⟨.struct [(0, 59), (58, 60), (82, 61), (118, 3)], 119, 1280, [.slice none 0 0, .int .i64 0, .int .i64 0, .slice none 0 0, .int .i64 0, .int .i64 0, .int .i64 0, .bool false, .int .i64 0, .int .i64 0, .int .i64 0, .int .i64 0, .slice none 0 0, .int .i64 0, .int .i64 0, .int .i64 0, .bool false, .int .i64 0, .int .i64 0, .int .i64 0, .int .i64 0, .slice none 0 0, .int .i64 0, .int .i64 0, .int .i64 0, .bool false, .int .i64 0, .int .i64 0, .int .i64 0, .int .i64 0, .slice none 0 0, .int .i64 0, .int .i64 0, .int .i64 0, .bool false, .int .i64 0, .int .i64 0, .int .i64 0, .int .i64 0, .slice none 0 0, .int .i64 0, .int .i64 0, .int .i64 0, .bool false, .int .i64 0, .int .i64 0, .int .i64 0, .int .i64 0, .slice none 0 0, .int .i64 0, .int .i64 0, .int .i64 0, .bool false, .int .i64 0, .int .i64 0, .int .i64 0, .int .i64 0, .int .i64 0, .int .i64 0, .slice none 0 0, .string (ByteArray.mk #[]), .bool false, .int .i64 0, .slice none 0 0, .string (ByteArray.mk #[]), .bool false, .int .i64 0, .slice none 0 0, .string (ByteArray.mk #[]), .bool false, .int .i64 0, .slice none 0 0, .string (ByteArray.mk #[]), .bool false, .int .i64 0, .slice none 0 0, .string (ByteArray.mk #[]), .bool false, .int .i64 0, .slice none 0 0, .string (ByteArray.mk #[]), .bool false, .bool false, .int .i64 0, .int .i64 0, .slice none 0 0, .int .i64 0, .int .i64 0, .int .i64 0, .bool false, .int .i64 0, .int .i64 0, .string (ByteArray.mk #[]), .bool false, .bool false, .int .i64 0, .int .i64 0, .slice none 0 0, .int .i64 0, .int .i64 0, .int .i64 0, .bool false, .int .i64 0, .int .i64 0, .string (ByteArray.mk #[]), .bool false, .bool false, .int .i64 0, .int .i64 0, .slice none 0 0, .int .i64 0, .int .i64 0, .int .i64 0, .bool false, .int .i64 0, .int .i64 0, .string (ByteArray.mk #[]), .bool false, .int .i64 0]⟩,
  ⟨.cell .func, 1, 8, [.nilFunc]⟩,
  ⟨.other, 0, 0, []⟩,
  ⟨.other, 0, 0, []⟩,
  ⟨.slice 87, 1, 24, [.slice none 0 0]⟩,
  ⟨.tuple [42, 67, 31], 1, 0, []⟩,
  ⟨.other, 0, 0, []⟩,
  ⟨.tuple [45, 31], 1, 0, []⟩,
  ⟨.other, 0, 0, []⟩,
  ⟨.other, 0, 0, []⟩,
  ⟨.ptr 53, 1, 8, [.pointer none]⟩,
  ⟨.ptr 47, 1, 8, [.pointer none]⟩,
  ⟨.other, 0, 0, []⟩,
  ⟨.struct [(0, 3), (1, 3), (2, 3), (3, 3)], 4, 32, [.int .i64 0, .int .i64 0, .int .i64 0, .int .i64 0]⟩,
  ⟨.other, 0, 0, []⟩,
  ⟨.other, 0, 0, []⟩,
  ⟨.tuple [56, 31], 1, 0, []⟩,
  ⟨.other, 0, 0, []⟩,
  ⟨.other, 0, 0, []⟩,
  ⟨.tuple [3, 3, 4], 1, 0, []⟩,
  ⟨.other, 0, 0, []⟩,
  ⟨.other, 0, 0, []⟩,
  ⟨.other, 0, 0, []⟩,
  ⟨.other, 0, 0, []⟩,
  ⟨.struct [(0, 3), (1, 3), (2, 40), (3, 9)], 4, 56, [.int .i64 0, .int .i64 0, .slice none 0 0, .string (ByteArray.mk #[])]⟩,
  ⟨.tuple [42, 87], 1, 0, []⟩,
  ⟨.other, 0, 0, []⟩,
  ⟨.other, 0, 0, []⟩,
  ⟨.other, 0, 0, []⟩,
  ⟨.cell .func, 1, 8, [.nilFunc]⟩,
  ⟨.tuple [9, 45, 31], 1, 0, []⟩,
  ⟨.other, 0, 0, []⟩,
  ⟨.other, 0, 0, []⟩,
  ⟨.tuple [3, 3], 1, 0, []⟩,
  ⟨.other, 0, 0, []⟩,
  ⟨.other, 0, 0, []⟩,
  ⟨.other, 0, 0, []⟩,
  ⟨.ptr 45, 1, 8, [.pointer none]⟩,
  ⟨.other, 0, 0, []⟩,
  ⟨.other, 0, 0, []⟩,
  ⟨.other, 0, 0, []⟩,
  ⟨.other, 0, 0, []⟩,
  ⟨.other, 0, 0, []⟩,
  ⟨.other, 0, 0, []⟩,
  ⟨.other, 0, 0, []⟩,
  ⟨.slice 5, 1, 24, [.slice none 0 0]⟩,
  ⟨.other, 0, 0, []⟩,
  ⟨.other, 0, 0, []⟩,
  ⟨.struct [(0, 3), (1, 3), (2, 3), (3, 4)], 4, 32, [.int .i64 0, .int .i64 0, .int .i64 0, .bool false]⟩,
  ⟨.other, 0, 0, []⟩,
  ⟨.other, 0, 0, []⟩,
  ⟨.other, 0, 0, []⟩,
  ⟨.other, 0, 0, []⟩,
  ⟨.other, 0, 0, []⟩,
  ⟨.ptr 119, 1, 8, [.pointer none]⟩,
  ⟨.other, 0, 0, []⟩,
  ⟨.struct [(0, 45), (9, 108)], 10, 112, [.int .i64 0, .int .i64 0, .slice none 0 0, .int .i64 0, .int .i64 0, .int .i64 0, .bool false, .int .i64 0, .int .i64 0, .slice none 0 0]⟩,
  ⟨.other, 0, 0, []⟩,
  ⟨.other, 0, 0, []⟩,
  ⟨.other, 0, 0, []⟩,
  ⟨.array 6 4, 6, 6, [.bool false, .bool false, .bool false, .bool false, .bool false, .bool false]⟩,
  ⟨.other, 0, 0, []⟩,
  ⟨.cell .func, 1, 8, [.nilFunc]⟩]

def fns : List Nat := [2, 3, 4, 5, 6, 7, 8, 9, 10, 11, 12, 13, 14, 15, 16, 17, 18, 19, 20, 21, 22, 23, 24, 25, 26, 27, 28, 29, 30, 31, 32, 33, 34, 35, 36, 37, 38, 39, 40, 41, 42, 43, 44, 45, 46, 47, 48, 49, 50, 51, 52, 53, 54, 55, 56, 57, 58, 60, 62, 63, 64, 65, 66, 67, 68, 69, 70, 71, 72, 73, 74, 75, 76, 77, 78, 79, 80, 81, 82, 83, 84, 85, 86, 87, 88, 89, 90, 91, 113]

set_option maxRecDepth 100000 in
theorem tabOk : TabOk Tryd.prog 0 tab := ⟨
  ⟨⟨_, Tryd.type0, rfl, rfl⟩, trivial, trivial, ⟨_, Tryd.underlying0, ⟨_, rfl⟩⟩⟩,
  trivial,
  trivial,
  ⟨⟨_, Tryd.type3, rfl, rfl⟩, ⟨_, _, Tryd.type3, rfl, rfl⟩, rfl, ⟨_, Tryd.underlying3, rfl⟩⟩,
  ⟨⟨_, Tryd.type4, rfl, rfl⟩, ⟨_, _, Tryd.type4, rfl, rfl⟩, rfl, ⟨_, Tryd.underlying4, rfl⟩⟩,
  ⟨⟨_, Tryd.type5, rfl, rfl⟩, ⟨_, _, Tryd.type5, rfl, rfl⟩, rfl, ⟨_, Tryd.underlying5, rfl⟩⟩,
  trivial,
  trivial,
  trivial,
  ⟨⟨_, Tryd.type9, rfl, rfl⟩, ⟨_, _, Tryd.type9, rfl, rfl⟩, rfl, ⟨_, Tryd.underlying9, rfl⟩⟩,
  trivial,
  trivial,
  trivial,
  trivial,
  trivial,
  trivial,
  trivial,
  trivial,
  trivial,
  trivial,
  trivial,
  trivial,
  ⟨⟨_, Tryd.type22, rfl, rfl⟩, ⟨_, _, Tryd.type22, rfl, rfl⟩, rfl, ⟨_, Tryd.underlying22, rfl⟩⟩,
  ⟨⟨_, Tryd.type23, rfl, rfl⟩, ⟨_, _, Tryd.type23, rfl, rfl⟩, rfl, ⟨_, Tryd.underlying23, rfl⟩⟩,
  ⟨⟨_, Tryd.type24, rfl, rfl⟩, ⟨_, _, Tryd.type24, rfl, rfl⟩, rfl, ⟨_, Tryd.underlying24, rfl⟩⟩,
  ⟨⟨_, Tryd.type25, rfl, rfl⟩, ⟨_, _, Tryd.type25, rfl, rfl⟩, rfl, ⟨_, Tryd.underlying25, rfl⟩⟩,
  ⟨⟨_, Tryd.type26, rfl, rfl⟩, ⟨_, _, Tryd.type26, rfl, rfl⟩, rfl, ⟨_, Tryd.underlying26, rfl⟩⟩,
  ⟨⟨_, Tryd.type27, rfl, rfl⟩, trivial, trivial, ⟨_, Tryd.underlying27, ⟨_, rfl⟩⟩⟩,
  trivial,
  trivial,
  ⟨⟨_, Tryd.type30, rfl, rfl⟩, ⟨_, _, Tryd.type30, rfl, rfl⟩, rfl, ⟨_, Tryd.underlying30, ⟨_, rfl, rfl, by decide⟩⟩⟩,
  ⟨⟨_, Tryd.type31, rfl, rfl⟩, ⟨_, _, Tryd.type31, rfl, rfl⟩, rfl, ⟨_, Tryd.underlying31, rfl⟩⟩,
  trivial,
  ⟨⟨_, Tryd.type33, rfl, rfl⟩, ⟨_, _, Tryd.type33, rfl, rfl⟩, rfl, ⟨_, Tryd.underlying33, ⟨_, rfl, rfl, by decide⟩⟩⟩,
  ⟨⟨_, Tryd.type34, rfl, rfl⟩, trivial, trivial, ⟨_, Tryd.underlying34, ⟨_, rfl⟩⟩⟩,
  trivial,
  ⟨⟨_, Tryd.type36, rfl, rfl⟩, ⟨_, _, Tryd.type36, rfl, rfl⟩, rfl, ⟨_, Tryd.underlying36, ⟨_, _, _, rfl⟩⟩⟩,
  trivial,
  trivial,
  trivial,
  ⟨⟨_, Tryd.type40, rfl, rfl⟩, ⟨_, _, Tryd.type40, rfl, rfl⟩, rfl, ⟨_, Tryd.underlying40, rfl⟩⟩,
  trivial,
  ⟨⟨_, Tryd.type42, rfl, rfl⟩, ⟨_, _, Tryd.type42, rfl, rfl⟩, rfl, ⟨_, Tryd.underlying42, ⟨_, rfl, rfl, by decide⟩⟩⟩,
  ⟨⟨_, Tryd.type43, rfl, rfl⟩, ⟨_, _, Tryd.type43, rfl, rfl⟩, rfl, ⟨_, Tryd.underlying43, rfl⟩⟩,
  trivial,
  ⟨⟨_, Tryd.type45, rfl, rfl⟩, ⟨_, _, Tryd.type45, rfl, rfl⟩, rfl, ⟨_, Tryd.underlying45, ⟨_, rfl, rfl, by decide⟩⟩⟩,
  trivial,
  ⟨⟨_, Tryd.type47, rfl, rfl⟩, ⟨_, _, Tryd.type47, rfl, rfl⟩, rfl, ⟨_, Tryd.underlying47, ⟨_, rfl, rfl, by decide⟩⟩⟩,
  ⟨⟨_, Tryd.type48, rfl, rfl⟩, ⟨_, _, Tryd.type48, rfl, rfl⟩, rfl, ⟨_, Tryd.underlying48, rfl⟩⟩,
  trivial,
  trivial,
  trivial,
  trivial,
  ⟨⟨_, Tryd.type53, rfl, rfl⟩, ⟨_, _, Tryd.type53, rfl, rfl⟩, rfl, ⟨_, Tryd.underlying53, ⟨_, rfl, rfl, by decide⟩⟩⟩,
  ⟨⟨_, Tryd.type54, rfl, rfl⟩, ⟨_, _, Tryd.type54, rfl, rfl⟩, rfl, ⟨_, Tryd.underlying54, rfl⟩⟩,
  trivial,
  ⟨⟨_, Tryd.type56, rfl, rfl⟩, ⟨_, _, Tryd.type56, rfl, rfl⟩, rfl, ⟨_, Tryd.underlying56, ⟨_, rfl, rfl, by decide⟩⟩⟩,
  ⟨⟨_, Tryd.type57, rfl, rfl⟩, ⟨_, _, Tryd.type57, rfl, rfl⟩, rfl, ⟨_, Tryd.underlying57, rfl⟩⟩,
  trivial,
  ⟨⟨_, Tryd.type59, rfl, rfl⟩, ⟨_, _, Tryd.type59, rfl, rfl⟩, rfl, ⟨_, Tryd.underlying59, ⟨_, rfl, rfl, by decide⟩⟩⟩,
  ⟨⟨_, Tryd.type60, rfl, rfl⟩, ⟨_, _, Tryd.type60, rfl, rfl⟩, rfl, ⟨_, Tryd.underlying60, rfl⟩⟩,
  ⟨⟨_, Tryd.type61, rfl, rfl⟩, ⟨_, _, Tryd.type61, rfl, rfl⟩, rfl, ⟨_, Tryd.underlying61, rfl⟩⟩,
  trivial,
  ⟨⟨_, Tryd.type63, rfl, rfl⟩, ⟨_, _, Tryd.type63, rfl, rfl⟩, rfl, ⟨_, Tryd.underlying63, ⟨_, rfl, rfl, by decide⟩⟩⟩,
  ⟨⟨_, Tryd.type64, rfl, rfl⟩, ⟨_, _, Tryd.type64, rfl, rfl⟩, rfl, ⟨_, Tryd.underlying64, ⟨_, _, _, rfl⟩⟩⟩,
  trivial,
  trivial,
  ⟨⟨_, Tryd.type67, rfl, rfl⟩, ⟨_, _, Tryd.type67, rfl, rfl⟩, rfl, ⟨_, Tryd.underlying67, rfl⟩⟩,
  ⟨⟨_, Tryd.type68, rfl, rfl⟩, trivial, trivial, ⟨_, Tryd.underlying68, ⟨_, rfl⟩⟩⟩,
  trivial,
  ⟨⟨_, Tryd.type70, rfl, rfl⟩, trivial, trivial, ⟨_, Tryd.underlying70, ⟨_, rfl⟩⟩⟩,
  trivial,
  trivial,
  ⟨⟨_, Tryd.type73, rfl, rfl⟩, ⟨_, _, Tryd.type73, rfl, rfl⟩, rfl, ⟨_, Tryd.underlying73, rfl⟩⟩,
  ⟨⟨_, Tryd.type74, rfl, rfl⟩, ⟨_, _, Tryd.type74, rfl, rfl⟩, rfl, ⟨_, Tryd.underlying74, rfl⟩⟩,
  trivial,
  ⟨⟨_, Tryd.type76, rfl, rfl⟩, ⟨_, _, Tryd.type76, rfl, rfl⟩, rfl, ⟨_, Tryd.underlying76, ⟨_, rfl, rfl, by decide⟩⟩⟩,
  trivial,
  trivial,
  ⟨⟨_, Tryd.type79, rfl, rfl⟩, trivial, trivial, ⟨_, Tryd.underlying79, ⟨_, rfl⟩⟩⟩,
  trivial,
  trivial,
  ⟨⟨_, Tryd.type82, rfl, rfl⟩, trivial, trivial, ⟨_, Tryd.underlying82, ⟨_, rfl⟩⟩⟩,
  trivial,
  trivial,
  trivial,
  trivial,
  ⟨⟨_, Tryd.type87, rfl, rfl⟩, ⟨_, _, Tryd.type87, rfl, rfl⟩, rfl, ⟨_, Tryd.underlying87, ⟨_, rfl, rfl, by decide⟩⟩⟩,
  ⟨⟨_, Tryd.type88, rfl, rfl⟩, trivial, trivial, ⟨_, Tryd.underlying88, ⟨_, rfl⟩⟩⟩,
  trivial,
  trivial,
  trivial,
  ⟨⟨_, Tryd.type92, rfl, rfl⟩, ⟨_, _, Tryd.type92, rfl, rfl⟩, rfl, ⟨_, Tryd.underlying92, ⟨_, _, _, rfl⟩⟩⟩,
  ⟨⟨_, Tryd.type93, rfl, rfl⟩, trivial, trivial, ⟨_, Tryd.underlying93, ⟨_, rfl⟩⟩⟩,
  trivial,
  trivial,
  ⟨⟨_, Tryd.type96, rfl, rfl⟩, trivial, trivial, ⟨_, Tryd.underlying96, ⟨_, rfl⟩⟩⟩,
  trivial,
  trivial,
  trivial,
  ⟨⟨_, Tryd.type100, rfl, rfl⟩, ⟨_, _, Tryd.type100, rfl, rfl⟩, rfl, ⟨_, Tryd.underlying100, rfl⟩⟩,
  trivial,
  trivial,
  trivial,
  trivial,
  trivial,
  trivial,
  trivial,
  ⟨⟨_, Tryd.type108, rfl, rfl⟩, ⟨_, _, Tryd.type108, rfl, rfl⟩, rfl, ⟨_, Tryd.underlying108, rfl⟩⟩,
  trivial,
  trivial,
  ⟨⟨_, Tryd.type111, rfl, rfl⟩, ⟨_, _, Tryd.type111, rfl, rfl⟩, rfl, ⟨_, Tryd.underlying111, ⟨_, rfl, rfl, by decide⟩⟩⟩,
  trivial,
  trivial,
  trivial,
  trivial,
  trivial,
  ⟨⟨_, Tryd.type117, rfl, rfl⟩, ⟨_, _, Tryd.type117, rfl, rfl⟩, rfl, ⟨_, Tryd.underlying117, rfl⟩⟩,
  trivial,
  ⟨⟨_, Tryd.type119, rfl, rfl⟩, ⟨_, _, Tryd.type119, rfl, rfl⟩, rfl, ⟨_, Tryd.underlying119, ⟨_, rfl, rfl, by decide⟩⟩⟩,
  trivial,
  trivial,
  trivial,
  ⟨⟨_, Tryd.type123, rfl, rfl⟩, ⟨_, _, Tryd.type123, rfl, rfl⟩, rfl, ⟨_, Tryd.underlying123, rfl⟩⟩,
  trivial,
  ⟨⟨_, Tryd.type125, rfl, rfl⟩, ⟨_, _, Tryd.type125, rfl, rfl⟩, rfl, ⟨_, Tryd.underlying125, ⟨_, _, _, rfl⟩⟩⟩,
  trivial⟩

set_option maxRecDepth 100000 in
theorem fnsOk : FnsOk Tryd.prog fns := ⟨
  ⟨_, Tryd.func2, by kernel_rfl, rfl⟩,
  ⟨_, Tryd.func3, by kernel_rfl, rfl⟩,
  ⟨_, Tryd.func4, by kernel_rfl, rfl⟩,
  ⟨_, Tryd.func5, by kernel_rfl, rfl⟩,
  ⟨_, Tryd.func6, by kernel_rfl, rfl⟩,
  ⟨_, Tryd.func7, by kernel_rfl, rfl⟩,
  ⟨_, Tryd.func8, by kernel_rfl, rfl⟩,
  ⟨_, Tryd.func9, by kernel_rfl, rfl⟩,
  ⟨_, Tryd.func10, by kernel_rfl, rfl⟩,
  ⟨_, Tryd.func11, by kernel_rfl, rfl⟩,
  ⟨_, Tryd.func12, by kernel_rfl, rfl⟩,
  ⟨_, Tryd.func13, by kernel_rfl, rfl⟩,
  ⟨_, Tryd.func14, by kernel_rfl, rfl⟩,
  ⟨_, Tryd.func15, by kernel_rfl, rfl⟩,
  ⟨_, Tryd.func16, by kernel_rfl, rfl⟩,
  ⟨_, Tryd.func17, by kernel_rfl, rfl⟩,
  ⟨_, Tryd.func18, by kernel_rfl, rfl⟩,
  ⟨_, Tryd.func19, by kernel_rfl, rfl⟩,
  ⟨_, Tryd.func20, by kernel_rfl, rfl⟩,
  ⟨_, Tryd.func21, by kernel_rfl, rfl⟩,
  ⟨_, Tryd.func22, by kernel_rfl, rfl⟩,
  ⟨_, Tryd.func23, by kernel_rfl, rfl⟩,
  ⟨_, Tryd.func24, by kernel_rfl, rfl⟩,
  ⟨_, Tryd.func25, by kernel_rfl, rfl⟩,
  ⟨_, Tryd.func26, by kernel_rfl, rfl⟩,
  ⟨_, Tryd.func27, by kernel_rfl, rfl⟩,
  ⟨_, Tryd.func28, by kernel_rfl, rfl⟩,
  ⟨_, Tryd.func29, by kernel_rfl, rfl⟩,
  ⟨_, Tryd.func30, by kernel_rfl, rfl⟩,
  ⟨_, Tryd.func31, by kernel_rfl, rfl⟩,
  ⟨_, Tryd.func32, by kernel_rfl, rfl⟩,
  ⟨_, Tryd.func33, by kernel_rfl, rfl⟩,
  ⟨_, Tryd.func34, by kernel_rfl, rfl⟩,
  ⟨_, Tryd.func35, by kernel_rfl, rfl⟩,
  ⟨_, Tryd.func36, by kernel_rfl, rfl⟩,
  ⟨_, Tryd.func37, by kernel_rfl, rfl⟩,
  ⟨_, Tryd.func38, by kernel_rfl, rfl⟩,
  ⟨_, Tryd.func39, by kernel_rfl, rfl⟩,
  ⟨_, Tryd.func40, by kernel_rfl, rfl⟩,
  ⟨_, Tryd.func41, by kernel_rfl, rfl⟩,
  ⟨_, Tryd.func42, by kernel_rfl, rfl⟩,
  ⟨_, Tryd.func43, by kernel_rfl, rfl⟩,
  ⟨_, Tryd.func44, by kernel_rfl, rfl⟩,
  ⟨_, Tryd.func45, by kernel_rfl, rfl⟩,
  ⟨_, Tryd.func46, by kernel_rfl, rfl⟩,
  ⟨_, Tryd.func47, by kernel_rfl, rfl⟩,
  ⟨_, Tryd.func48, by kernel_rfl, rfl⟩,
  ⟨_, Tryd.func49, by kernel_rfl, rfl⟩,
  ⟨_, Tryd.func50, by kernel_rfl, rfl⟩,
  ⟨_, Tryd.func51, by kernel_rfl, rfl⟩,
  ⟨_, Tryd.func52, by kernel_rfl, rfl⟩,
  ⟨_, Tryd.func53, by kernel_rfl, rfl⟩,
  ⟨_, Tryd.func54, by kernel_rfl, rfl⟩,
  ⟨_, Tryd.func55, by kernel_rfl, rfl⟩,
  ⟨_, Tryd.func56, by kernel_rfl, rfl⟩,
  ⟨_, Tryd.func57, by kernel_rfl, rfl⟩,
  ⟨_, Tryd.func58, by kernel_rfl, rfl⟩,
  ⟨_, Tryd.func60, by kernel_rfl, rfl⟩,
  ⟨_, Tryd.func62, by kernel_rfl, rfl⟩,
  ⟨_, Tryd.func63, by kernel_rfl, rfl⟩,
  ⟨_, Tryd.func64, by kernel_rfl, rfl⟩,
  ⟨_, Tryd.func65, by kernel_rfl, rfl⟩,
  ⟨_, Tryd.func66, by kernel_rfl, rfl⟩,
  ⟨_, Tryd.func67, by kernel_rfl, rfl⟩,
  ⟨_, Tryd.func68, by kernel_rfl, rfl⟩,
  ⟨_, Tryd.func69, by kernel_rfl, rfl⟩,
  ⟨_, Tryd.func70, by kernel_rfl, rfl⟩,
  ⟨_, Tryd.func71, by kernel_rfl, rfl⟩,
  ⟨_, Tryd.func72, by kernel_rfl, rfl⟩,
  ⟨_, Tryd.func73, by kernel_rfl, rfl⟩,
  ⟨_, Tryd.func74, by kernel_rfl, rfl⟩,
  ⟨_, Tryd.func75, by kernel_rfl, rfl⟩,
  ⟨_, Tryd.func76, by kernel_rfl, rfl⟩,
  ⟨_, Tryd.func77, by kernel_rfl, rfl⟩,
  ⟨_, Tryd.func78, by kernel_rfl, rfl⟩,
  ⟨_, Tryd.func79, by kernel_rfl, rfl⟩,
  ⟨_, Tryd.func80, by kernel_rfl, rfl⟩,
  ⟨_, Tryd.func81, by kernel_rfl, rfl⟩,
  ⟨_, Tryd.func82, by kernel_rfl, rfl⟩,
  ⟨_, Tryd.func83, by kernel_rfl, rfl⟩,
  ⟨_, Tryd.func84, by kernel_rfl, rfl⟩,
  ⟨_, Tryd.func85, by kernel_rfl, rfl⟩,
  ⟨_, Tryd.func86, by kernel_rfl, rfl⟩,
  ⟨_, Tryd.func87, by kernel_rfl, rfl⟩,
  ⟨_, Tryd.func88, by kernel_rfl, rfl⟩,
  ⟨_, Tryd.func89, by kernel_rfl, rfl⟩,
  ⟨_, Tryd.func90, by kernel_rfl, rfl⟩,
  ⟨_, Tryd.func91, by kernel_rfl, rfl⟩,
  ⟨_, Tryd.func113, by kernel_rfl, rfl⟩, trivial⟩

/-! The functions by name. -/
abbrev fn_draw_Anew : FuncId := 33
abbrev fn_draw_Turn : FuncId := 31
abbrev fn_draw_pen_cell : FuncId := 54
abbrev fn_draw_pen_ink : FuncId := 71
abbrev fn_draw_pen_move : FuncId := 55
abbrev fn_draw_pen_write : FuncId := 70
abbrev fn_fenestratop_TopLost : FuncId := 3
abbrev fn_fenestratop_TopLost_c1 : FuncId := 5
abbrev fn_fenestratop_alive : FuncId := 7
abbrev fn_fenestratop_play : FuncId := 4
abbrev fn_fenestratop_terminal_get : FuncId := 11
abbrev fn_grid_All : FuncId := 18
abbrev fn_grid_At : FuncId := 53
abbrev fn_grid_Do : FuncId := 29
abbrev fn_grid_Good : FuncId := 36
abbrev fn_grid_GoodCell : FuncId := 58
abbrev fn_grid_Good_c1 : FuncId := 57
abbrev fn_grid_New : FuncId := 10
abbrev fn_grid_Resize : FuncId := 22
abbrev fn_grid_command : FuncId := 49
abbrev fn_grid_control : FuncId := 48
abbrev fn_grid_down : FuncId := 66
abbrev fn_grid_erase : FuncId := 65
abbrev fn_grid_feed : FuncId := 63
abbrev fn_grid_ink : FuncId := 68
abbrev fn_grid_number : FuncId := 64
abbrev fn_grid_picture : FuncId := 50
abbrev fn_grid_row : FuncId := 37
abbrev fn_grid_show : FuncId := 47
abbrev fn_grid_up : FuncId := 67
abbrev fn_grid_wipe : FuncId := 76
abbrev fn_internal_strconv_FormatInt : FuncId := 80
abbrev fn_internal_strconv_Itoa : FuncId := 77
abbrev fn_internal_strconv_small : FuncId := 81
abbrev fn_paint_Cell : FuncId := 52
abbrev fn_paint_Screen : FuncId := 30
abbrev fn_paint_Status : FuncId := 51
abbrev fn_paint_sign : FuncId := 69
abbrev fn_parse_Feed : FuncId := 17
abbrev fn_parse_Good : FuncId := 26
abbrev fn_parse_command : FuncId := 45
abbrev fn_parse_step : FuncId := 28
abbrev fn_server_New : FuncId := 8
abbrev fn_server_Server_Client : FuncId := 6
abbrev fn_server_Server_Do : FuncId := 9
abbrev fn_server_Server_Do_c1 : FuncId := 13
abbrev fn_server_Server_fit : FuncId := 12
abbrev fn_server_Server_kill : FuncId := 15
abbrev fn_server_Server_show : FuncId := 19
abbrev fn_server_Server_show_c1 : FuncId := 32
abbrev fn_server_Server_split : FuncId := 14
abbrev fn_server_Server_visit : FuncId := 20
abbrev fn_slices_Clone_api_Cell_api_Cell : FuncId := 46
abbrev fn_slices_Clone_int_int : FuncId := 27
abbrev fn_slices_ContainsFunc_api_Cell_api_Cell : FuncId := 56
abbrev fn_slices_DeleteL_int_int : FuncId := 43
abbrev fn_slices_Delete_int_int : FuncId := 42
abbrev fn_slices_IndexFunc_api_Cell_api_Cell : FuncId := 73
abbrev fn_slices_Index_int_int : FuncId := 44
abbrev fn_slices_InsertL_int_int : FuncId := 40
abbrev fn_slices_Insert_int_int : FuncId := 41
abbrev fn_slices_overlapsL_int : FuncId := 59
abbrev fn_slices_overlaps_int : FuncId := 61
abbrev fn_strconv_Itoa : FuncId := 72
abbrev fn_tiles_Good : FuncId := 34
abbrev fn_tiles_Has : FuncId := 16
abbrev fn_tiles_Kill : FuncId := 24
abbrev fn_tiles_Share : FuncId := 35
abbrev fn_tiles_Split : FuncId := 23
abbrev fn_tiles_Where : FuncId := 21
abbrev fn_tiles_find : FuncId := 25
abbrev fn_tiles_own : FuncId := 39
abbrev fn_tiles_pane : FuncId := 38

/-! The types by name. -/
abbrev ty_int : TypeId := 3
abbrev ty_bool : TypeId := 4
abbrev ty_u8 : TypeId := 5
abbrev ty_sl_api_Act : TypeId := 22
abbrev ty_api_Act : TypeId := 30
abbrev ty_sl_int : TypeId := 40
abbrev ty_api_Grid : TypeId := 45
abbrev ty_sl_sl_int : TypeId := 54
abbrev ty_api_Event : TypeId := 87
abbrev ty_api_Cell : TypeId := 111
abbrev ty_draw_pen : TypeId := 119
def eqs : List Nat := [30, 33, 76, 111]

theorem eqsOk : EqsOk Tryd.prog eqs := ⟨⟨Tryd.stoodInHeld30, Tryd.eqGuardType30⟩, ⟨Tryd.stoodInHeld33, Tryd.eqGuardType33⟩, ⟨Tryd.stoodInHeld76, Tryd.eqGuardType76⟩, ⟨Tryd.stoodInHeld111, Tryd.eqGuardType111⟩, trivial⟩

theorem ctxOk (real wraps opqs : List Nat) (loops cuts : List (Nat × LShape)) : CtxOk ⟨Tryd.prog, tab, real, wraps, opqs, fns, loops, cuts⟩ := ctxOk_of tabOk (by kernel_rfl) fnsOk eqsOk (by kernel_rfl)

end Go.Proofs.YtkmmphkjmamckaaDoor
