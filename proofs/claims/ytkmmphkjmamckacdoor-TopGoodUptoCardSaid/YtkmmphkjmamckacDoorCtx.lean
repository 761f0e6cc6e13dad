/-
  The table of types and the functions that may be called, of this seat. Printed by a program of ours (vcgen.py).
-/
import Derived.Test.YtkmmphkjmamckacDoorZB
import Derived.Test.YtkmmphkjmamckacDoorProg
namespace Go.Proofs.YtkmmphkjmamckacDoor
open Go

def tab : List TI := [
  ⟨.tuple [], 1, 0, []⟩,
  ⟨.other, 0, 0, []⟩,
  ⟨.other, 0, 0, []⟩,
  ⟨.cell (.int .i64), 1, 8, [.int .i64 0]⟩,
  ⟨.cell .bool, 1, 1, [.bool false]⟩,
  ⟨.cell (.int .u8), 1, 1, [.int .u8 0]⟩,
  ⟨.other, 0, 0, []⟩,
  ⟨.other, 0, 0, []⟩,
  ⟨.other, 0, 0, []⟩,
  ⟨.cell .str, 1, 16, [.string (ByteArray.mk #[])]⟩,
  ⟨.other, 0, 0, []⟩,
  ⟨.other, 0, 0, []⟩,
  ⟨.other, 0, 0, []⟩,
  ⟨.other, 0, 0, []⟩,
  ⟨.other, 0, 0, []⟩,
  ⟨.other, 0, 0, []⟩,
  ⟨.other, 0, 0, []⟩,
  ⟨.other, 0, 0, []⟩,
  ⟨.other, 0, 0, []⟩,
  ⟨.other, 0, 0, []⟩,
  ⟨.other, 0, 0, []⟩,
  ⟨.other, 0, 0, []⟩,
  ⟨.slice 71, 1, 24, [.slice none 0 0]⟩,
  ⟨.other, 0, 0, []⟩,
  ⟨.struct [(0, 3), (1, 3), (2, 22), (3, 3), (4, 3), (5, 3), (6, 4), (7, 3), (8, 3)], 9, 88, [.int .i64 0, .int .i64 0, .slice none 0 0, .int .i64 0, .int .i64 0, .int .i64 0, .bool false, .int .i64 0, .int .i64 0]⟩,
  ⟨.cell (.int .i64), 1, 8, [.int .i64 0]⟩,
  ⟨.tuple [9, 24, 25], 1, 0, []⟩,
  ⟨.cell .func, 1, 8, [.nilFunc]⟩,
  ⟨.other, 0, 0, []⟩,
  ⟨.other, 0, 0, []⟩,
  ⟨.other, 0, 0, []⟩,
  ⟨.tuple [24, 4], 1, 0, []⟩,
  ⟨.other, 0, 0, []⟩,
  ⟨.other, 0, 0, []⟩,
  ⟨.other, 0, 0, []⟩,
  ⟨.struct [(0, 3), (1, 3), (2, 3), (3, 3), (4, 9)], 5, 48, [.int .i64 0, .int .i64 0, .int .i64 0, .int .i64 0, .string (ByteArray.mk #[])]⟩,
  ⟨.ptr 100, 1, 8, [.pointer none]⟩,
  ⟨.tuple [9, 4, 4], 1, 0, []⟩,
  ⟨.other, 0, 0, []⟩,
  ⟨.other, 0, 0, []⟩,
  ⟨.struct [(0, 25), (1, 3), (2, 9)], 3, 32, [.int .i64 0, .int .i64 0, .string (ByteArray.mk #[])]⟩,
  ⟨.other, 0, 0, []⟩,
  ⟨.other, 0, 0, []⟩,
  ⟨.slice 56, 1, 24, [.slice none 0 0]⟩,
  ⟨.other, 0, 0, []⟩,
  ⟨.struct [(0, 43)], 1, 24, [.slice none 0 0]⟩,
  ⟨.array 6 24, 54, 528, [.int .i64 0, .int .i64 0, .slice none 0 0, .int .i64 0, .int .i64 0, .int .i64 0, .bool false, .int .i64 0, .int .i64 0, .int .i64 0, .int .i64 0, .slice none 0 0, .int .i64 0, .int .i64 0, .int .i64 0, .bool false, .int .i64 0, .int .i64 0, .int .i64 0, .int .i64 0, .slice none 0 0, .int .i64 0, .int .i64 0, .int .i64 0, .bool false, .int .i64 0, .int .i64 0, .int .i64 0, .int .i64 0, .slice none 0 0, .int .i64 0, .int .i64 0, .int .i64 0, .bool false, .int .i64 0, .int .i64 0, .int .i64 0, .int .i64 0, .slice none 0 0, .int .i64 0, .int .i64 0, .int .i64 0, .bool false, .int .i64 0, .int .i64 0, .int .i64 0, .int .i64 0, .slice none 0 0, .int .i64 0, .int .i64 0, .int .i64 0, .bool false, .int .i64 0, .int .i64 0]⟩,
  ⟨.other, 0, 0, []⟩,
  ⟨.struct [(0, 45), (1, 46), (55, 3), (56, 3), (57, 3)], 58, 576, [.slice none 0 0, .int .i64 0, .int .i64 0, .slice none 0 0, .int .i64 0, .int .i64 0, .int .i64 0, .bool false, .int .i64 0, .int .i64 0, .int .i64 0, .int .i64 0, .slice none 0 0, .int .i64 0, .int .i64 0, .int .i64 0, .bool false, .int .i64 0, .int .i64 0, .int .i64 0, .int .i64 0, .slice none 0 0, .int .i64 0, .int .i64 0, .int .i64 0, .bool false, .int .i64 0, .int .i64 0, .int .i64 0, .int .i64 0, .slice none 0 0, .int .i64 0, .int .i64 0, .int .i64 0, .bool false, .int .i64 0, .int .i64 0, .int .i64 0, .int .i64 0, .slice none 0 0, .int .i64 0, .int .i64 0, .int .i64 0, .bool false, .int .i64 0, .int .i64 0, .int .i64 0, .int .i64 0, .slice none 0 0, .int .i64 0, .int .i64 0, .int .i64 0, .bool false, .int .i64 0, .int .i64 0, .int .i64 0, .int .i64 0, .int .i64 0]⟩,
  ⟨.other, 0, 0, []⟩,
  ⟨.other, 0, 0, []⟩,
  ⟨.slice 35, 1, 24, [.slice none 0 0]⟩,
  ⟨.ptr 106, 1, 8, [.pointer none]⟩,
  ⟨.tuple [36, 52, 4], 1, 0, []⟩,
  ⟨.other, 0, 0, []⟩,
  ⟨.cell .func, 1, 8, [.nilFunc]⟩,
  ⟨.slice 3, 1, 24, [.slice none 0 0]⟩,
  ⟨.other, 0, 0, []⟩,
  ⟨.struct [(0, 3), (1, 56), (2, 9), (3, 4)], 4, 56, [.int .i64 0, .slice none 0 0, .string (ByteArray.mk #[]), .bool false]⟩,
  ⟨.other, 0, 0, []⟩,
  ⟨.struct [(0, 58), (4, 24)], 13, 144, [.int .i64 0, .slice none 0 0, .string (ByteArray.mk #[]), .bool false, .int .i64 0, .int .i64 0, .slice none 0 0, .int .i64 0, .int .i64 0, .int .i64 0, .bool false, .int .i64 0, .int .i64 0]⟩,
  ⟨.other, 0, 0, []⟩,
  ⟨.other, 0, 0, []⟩,
  ⟨.other, 0, 0, []⟩,
  ⟨.other, 0, 0, []⟩,
  ⟨.other, 0, 0, []⟩,
  ⟨.other, 0, 0, []⟩,
  ⟨.other, 0, 0, []⟩,
  ⟨.struct [(0, 3), (1, 3), (2, 3), (3, 3)], 4, 32, [.int .i64 0, .int .i64 0, .int .i64 0, .int .i64 0]⟩,
  ⟨.other, 0, 0, []⟩,
  ⟨.other, 0, 0, []⟩,
  ⟨.struct [(0, 3), (1, 3), (2, 3), (3, 4)], 4, 32, [.int .i64 0, .int .i64 0, .int .i64 0, .bool false]⟩,
  ⟨.other, 0, 0, []⟩,
  ⟨.other, 0, 0, []⟩,
  ⟨.other, 0, 0, []⟩,
  ⟨.other, 0, 0, []⟩,
  ⟨.array 3 9, 3, 48, [.string (ByteArray.mk #[]), .string (ByteArray.mk #[]), .string (ByteArray.mk #[])]⟩,
  ⟨.array 3 4, 3, 3, [.bool false, .bool false, .bool false]⟩,
  ⟨.other, 0, 0, []⟩,
  ⟨.ptr 82, 1, 8, [.pointer none]⟩,
  ⟨.slice 5, 1, 24, [.slice none 0 0]⟩,
  ⟨.other, 0, 0, []⟩,
  ⟨.struct [(0, 24), (9, 80)], 10, 112, [.int .i64 0, .int .i64 0, .slice none 0 0, .int .i64 0, .int .i64 0, .int .i64 0, .bool false, .int .i64 0, .int .i64 0, .slice none 0 0]⟩,
  ⟨.other, 0, 0, []⟩,
  ⟨.other, 0, 0, []⟩,
  ⟨.other, 0, 0, []⟩,
  ⟨.other, 0, 0, []⟩,
  ⟨.cell .func, 1, 8, [.nilFunc]⟩,
  ⟨.other, 0, 0, []⟩,
  ⟨.slice 124, 1, 24, [.slice none 0 0]⟩,
  ⟨.tuple [58, 89, 25], 1, 0, []⟩,
  ⟨.other, 0, 0, []⟩,
  ⟨.tuple [24, 25], 1, 0, []⟩,
  ⟨.other, 0, 0, []⟩,
  ⟨.other, 0, 0, []⟩,
  ⟨.other, 0, 0, []⟩,
  ⟨.struct [(0, 4), (1, 24), (10, 9), (11, 4)], 12, 120, [.bool false, .int .i64 0, .int .i64 0, .slice none 0 0, .int .i64 0, .int .i64 0, .int .i64 0, .bool false, .int .i64 0, .int .i64 0, .string (ByteArray.mk #[]), .bool false]⟩,
  ⟨.array 6 58, 24, 336, [.int .i64 0, .slice none 0 0, .string (ByteArray.mk #[]), .bool false, .int .i64 0, .slice none 0 0, .string (ByteArray.mk #[]), .bool false, .int .i64 0, .slice none 0 0, .string (ByteArray.mk #[]), .bool false, .int .i64 0, .slice none 0 0, .string (ByteArray.mk #[]), .bool false, .int .i64 0, .slice none 0 0, .string (ByteArray.mk #[]), .bool false, .int .i64 0, .slice none 0 0, .string (ByteArray.mk #[]), .bool false]⟩,
  ⟨.array 3 96, 36, 360, [.bool false, .int .i64 0, .int .i64 0, .slice none 0 0, .int .i64 0, .int .i64 0, .int .i64 0, .bool false, .int .i64 0, .int .i64 0, .string (ByteArray.mk #[]), .bool false, .bool false, .int .i64 0, .int .i64 0, .slice none 0 0, .int .i64 0, .int .i64 0, .int .i64 0, .bool false, .int .i64 0, .int .i64 0, .string (ByteArray.mk #[]), .bool false, .bool false, .int .i64 0, .int .i64 0, .slice none 0 0, .int .i64 0, .int .i64 0, .int .i64 0, .bool false, .int .i64 0, .int .i64 0, .string (ByteArray.mk #[]), .bool false]⟩,
  ⟨.other, 0, 0, []⟩,
  ⟨.struct [(0, 48), (58, 97), (82, 98), (118, 3)], 119, 1280, [.slice none 0 0, .int .i64 0, .int .i64 0, .slice none 0 0, .int .i64 0, .int .i64 0, .int .i64 0, .bool false, .int .i64 0, .int .i64 0, .int .i64 0, .int .i64 0, .slice none 0 0, .int .i64 0, .int .i64 0, .int .i64 0, .bool false, .int .i64 0, .int .i64 0, .int .i64 0, .int .i64 0, .slice none 0 0, .int .i64 0, .int .i64 0, .int .i64 0, .bool false, .int .i64 0, .int .i64 0, .int .i64 0, .int .i64 0, .slice none 0 0, .int .i64 0, .int .i64 0, .int .i64 0, .bool false, .int .i64 0, .int .i64 0, .int .i64 0, .int .i64 0, .slice none 0 0, .int .i64 0, .int .i64 0, .int .i64 0, .bool false, .int .i64 0, .int .i64 0, .int .i64 0, .int .i64 0, .slice none 0 0, .int .i64 0, .int .i64 0, .int .i64 0, .bool false, .int .i64 0, .int .i64 0, .int .i64 0, .int .i64 0, .int .i64 0, .int .i64 0, .slice none 0 0, .string (ByteArray.mk #[]), .bool false, .int .i64 0, .slice none 0 0, .string (ByteArray.mk #[]), .bool false, .int .i64 0, .slice none 0 0, .string (ByteArray.mk #[]), .bool false, .int .i64 0, .slice none 0 0, .string (ByteArray.mk #[]), .bool false, .int .i64 0, .slice none 0 0, .string (ByteArray.mk #[]), .bool false, .int .i64 0, .slice none 0 0, .string (ByteArray.mk #[]), .bool false, .bool false, .int .i64 0, .int .i64 0, .slice none 0 0, .int .i64 0, .int .i64 0, .int .i64 0, .bool false, .int .i64 0, .int .i64 0, .string (ByteArray.mk #[]), .bool false, .bool false, .int .i64 0, .int .i64 0, .slice none 0 0, .int .i64 0, .int .i64 0, .int .i64 0, .bool false, .int .i64 0, .int .i64 0, .string (ByteArray.mk #[]), .bool false, .bool false, .int .i64 0, .int .i64 0, .slice none 0 0, .int .i64 0, .int .i64 0, .int .i64 0, .bool false, .int .i64 0, .int .i64 0, .string (ByteArray.mk #[]), .bool false, .int .i64 0]⟩,
  ⟨.cell .func, 1, 8, [.nilFunc]⟩,
  ⟨.other, 0, 0, []⟩,
  ⟨.other, 0, 0, []⟩,
  ⟨.ptr 96, 1, 8, [.pointer none]⟩,
  ⟨.other, 0, 0, []⟩,
  ⟨.array 3 60, 39, 432, [.int .i64 0, .slice none 0 0, .string (ByteArray.mk #[]), .bool false, .int .i64 0, .int .i64 0, .slice none 0 0, .int .i64 0, .int .i64 0, .int .i64 0, .bool false, .int .i64 0, .int .i64 0, .int .i64 0, .slice none 0 0, .string (ByteArray.mk #[]), .bool false, .int .i64 0, .int .i64 0, .slice none 0 0, .int .i64 0, .int .i64 0, .int .i64 0, .bool false, .int .i64 0, .int .i64 0, .int .i64 0, .slice none 0 0, .string (ByteArray.mk #[]), .bool false, .int .i64 0, .int .i64 0, .slice none 0 0, .int .i64 0, .int .i64 0, .int .i64 0, .bool false, .int .i64 0, .int .i64 0]⟩,
  ⟨.ptr 60, 1, 8, [.pointer none]⟩,
  ⟨.other, 0, 0, []⟩,
  ⟨.other, 0, 0, []⟩,
  ⟨.tuple [3, 3, 4], 1, 0, []⟩,
  ⟨.other, 0, 0, []⟩,
  ⟨.tuple [3, 3], 1, 0, []⟩,
  ⟨.other, 0, 0, []⟩,
  ⟨.other, 0, 0, []⟩,
  ⟨.array 6 4, 6, 6, [.bool false, .bool false, .bool false, .bool false, .bool false, .bool false]⟩,
  ⟨.other, 0, 0, []⟩,
  ⟨.other, 0, 0, []⟩,
  ⟨.other, 0, 0, []⟩,
  ⟨.other, 0, 0, []⟩,
  ⟨.other, 0, 0, []⟩,
  ⟨.other, 0, 0, []⟩,
  ⟨.other, 0, 0, []⟩,
  ⟨.other, 0, 0, []⟩,
  ⟨.struct [(0, 3), (1, 3), (2, 56), (3, 9)], 4, 56, [.int .i64 0, .int .i64 0, .slice none 0 0, .string (ByteArray.mk #[])]⟩,
  ⟨.tuple [58, 124], 1, 0, []⟩,
  ⟨.other, 0, 0, []⟩,
  ⟨.other, 0, 0, []⟩,
  ⟨.tuple [45, 25], 1, 0, []⟩,
  ⟨.other, 0, 0, []⟩,
  ⟨.other, 0, 0, []⟩,
  ⟨.other, 0, 0, []⟩,
  ⟨.other, 0, 0, []⟩,
  ⟨.other, 0, 0, []⟩,
  ⟨.other, 0, 0, []⟩,
  ⟨.other, 0, 0, []⟩,
  ⟨.ptr 24, 1, 8, [.pointer none]⟩]

def fns : List Nat := [2, 3, 4, 5, 6, 7, 8, 9, 10, 11, 12, 13, 14, 15, 16, 17, 18, 19, 20, 21, 22, 23, 24, 25, 26, 27, 28, 29, 30, 31, 32, 33, 34, 35, 36, 37, 38, 39, 40, 41, 42, 43, 44, 45, 46, 47, 48, 49, 50, 51, 52, 53, 54, 55, 56, 57, 58, 59, 60, 61, 62, 63, 64, 65, 66, 67, 68, 69, 70, 71, 72, 73, 74, 75, 76, 77, 78, 79, 80, 81, 82, 83, 84, 85, 86, 87, 88, 89, 90, 91, 92, 93, 94, 95, 96, 97, 98, 99, 101, 103, 104, 105, 106, 107, 108, 109, 110, 111, 112, 113, 114, 115, 116, 117, 118, 119, 141]

set_option maxRecDepth 100000 in
theorem tabOk : TabOk Tryd.prog 0 tab := ⟨
  ⟨⟨_, Tryd.type0, rfl, rfl⟩, trivial, trivial, ⟨_, Tryd.underlying0, ⟨_, rfl⟩⟩⟩,
  trivial,
  trivial,
  ⟨⟨_, Tryd.type3, rfl, rfl⟩, ⟨_, _, Tryd.type3, rfl, rfl⟩, rfl, ⟨_, Tryd.underlying3, rfl⟩⟩,
  ⟨⟨_, Tryd.type4, rfl, rfl⟩, ⟨_, _, Tryd.type4, rfl, rfl⟩, rfl, ⟨_, Tryd.underlying4, rfl⟩⟩,
  ⟨⟨_, Tryd.type5, rfl, rfl⟩, ⟨_, _, Tryd.type5, rfl, rfl⟩, rfl, ⟨_, Tryd.underlying5, rfl⟩⟩,
  trivial,
  trivial,
  trivial,
  ⟨⟨_, Tryd.type9, rfl, rfl⟩, ⟨_, _, Tryd.type9, rfl, rfl⟩, rfl, ⟨_, Tryd.underlying9, rfl⟩⟩,
  trivial,
  trivial,
  trivial,
  trivial,
  trivial,
  trivial,
  trivial,
  trivial,
  trivial,
  trivial,
  trivial,
  trivial,
  ⟨⟨_, Tryd.type22, rfl, rfl⟩, ⟨_, _, Tryd.type22, rfl, rfl⟩, rfl, ⟨_, Tryd.underlying22, rfl⟩⟩,
  trivial,
  ⟨⟨_, Tryd.type24, rfl, rfl⟩, ⟨_, _, Tryd.type24, rfl, rfl⟩, rfl, ⟨_, Tryd.underlying24, ⟨_, rfl, rfl, by decide⟩⟩⟩,
  ⟨⟨_, Tryd.type25, rfl, rfl⟩, ⟨_, _, Tryd.type25, rfl, rfl⟩, rfl, ⟨_, Tryd.underlying25, rfl⟩⟩,
  ⟨⟨_, Tryd.type26, rfl, rfl⟩, trivial, trivial, ⟨_, Tryd.underlying26, ⟨_, rfl⟩⟩⟩,
  ⟨⟨_, Tryd.type27, rfl, rfl⟩, ⟨_, _, Tryd.type27, rfl, rfl⟩, rfl, ⟨_, Tryd.underlying27, ⟨_, _, _, rfl⟩⟩⟩,
  trivial,
  trivial,
  trivial,
  ⟨⟨_, Tryd.type31, rfl, rfl⟩, trivial, trivial, ⟨_, Tryd.underlying31, ⟨_, rfl⟩⟩⟩,
  trivial,
  trivial,
  trivial,
  ⟨⟨_, Tryd.type35, rfl, rfl⟩, ⟨_, _, Tryd.type35, rfl, rfl⟩, rfl, ⟨_, Tryd.underlying35, ⟨_, rfl, rfl, by decide⟩⟩⟩,
  ⟨⟨_, Tryd.type36, rfl, rfl⟩, ⟨_, _, Tryd.type36, rfl, rfl⟩, rfl, ⟨_, Tryd.underlying36, rfl⟩⟩,
  ⟨⟨_, Tryd.type37, rfl, rfl⟩, trivial, trivial, ⟨_, Tryd.underlying37, ⟨_, rfl⟩⟩⟩,
  trivial,
  trivial,
  ⟨⟨_, Tryd.type40, rfl, rfl⟩, ⟨_, _, Tryd.type40, rfl, rfl⟩, rfl, ⟨_, Tryd.underlying40, ⟨_, rfl, rfl, by decide⟩⟩⟩,
  trivial,
  trivial,
  ⟨⟨_, Tryd.type43, rfl, rfl⟩, ⟨_, _, Tryd.type43, rfl, rfl⟩, rfl, ⟨_, Tryd.underlying43, rfl⟩⟩,
  trivial,
  ⟨⟨_, Tryd.type45, rfl, rfl⟩, ⟨_, _, Tryd.type45, rfl, rfl⟩, rfl, ⟨_, Tryd.underlying45, ⟨_, rfl, rfl, by decide⟩⟩⟩,
  ⟨⟨_, Tryd.type46, rfl, rfl⟩, ⟨_, _, Tryd.type46, rfl, rfl⟩, rfl, ⟨_, Tryd.underlying46, rfl⟩⟩,
  trivial,
  ⟨⟨_, Tryd.type48, rfl, rfl⟩, ⟨_, _, Tryd.type48, rfl, rfl⟩, rfl, ⟨_, Tryd.underlying48, ⟨_, rfl, rfl, by decide⟩⟩⟩,
  trivial,
  trivial,
  ⟨⟨_, Tryd.type51, rfl, rfl⟩, ⟨_, _, Tryd.type51, rfl, rfl⟩, rfl, ⟨_, Tryd.underlying51, rfl⟩⟩,
  ⟨⟨_, Tryd.type52, rfl, rfl⟩, ⟨_, _, Tryd.type52, rfl, rfl⟩, rfl, ⟨_, Tryd.underlying52, rfl⟩⟩,
  ⟨⟨_, Tryd.type53, rfl, rfl⟩, trivial, trivial, ⟨_, Tryd.underlying53, ⟨_, rfl⟩⟩⟩,
  trivial,
  ⟨⟨_, Tryd.type55, rfl, rfl⟩, ⟨_, _, Tryd.type55, rfl, rfl⟩, rfl, ⟨_, Tryd.underlying55, ⟨_, _, _, rfl⟩⟩⟩,
  ⟨⟨_, Tryd.type56, rfl, rfl⟩, ⟨_, _, Tryd.type56, rfl, rfl⟩, rfl, ⟨_, Tryd.underlying56, rfl⟩⟩,
  trivial,
  ⟨⟨_, Tryd.type58, rfl, rfl⟩, ⟨_, _, Tryd.type58, rfl, rfl⟩, rfl, ⟨_, Tryd.underlying58, ⟨_, rfl, rfl, by decide⟩⟩⟩,
  trivial,
  ⟨⟨_, Tryd.type60, rfl, rfl⟩, ⟨_, _, Tryd.type60, rfl, rfl⟩, rfl, ⟨_, Tryd.underlying60, ⟨_, rfl, rfl, by decide⟩⟩⟩,
  trivial,
  trivial,
  trivial,
  trivial,
  trivial,
  trivial,
  trivial,
  ⟨⟨_, Tryd.type68, rfl, rfl⟩, ⟨_, _, Tryd.type68, rfl, rfl⟩, rfl, ⟨_, Tryd.underlying68, ⟨_, rfl, rfl, by decide⟩⟩⟩,
  trivial,
  trivial,
  ⟨⟨_, Tryd.type71, rfl, rfl⟩, ⟨_, _, Tryd.type71, rfl, rfl⟩, rfl, ⟨_, Tryd.underlying71, ⟨_, rfl, rfl, by decide⟩⟩⟩,
  trivial,
  trivial,
  trivial,
  trivial,
  ⟨⟨_, Tryd.type76, rfl, rfl⟩, ⟨_, _, Tryd.type76, rfl, rfl⟩, rfl, ⟨_, Tryd.underlying76, rfl⟩⟩,
  ⟨⟨_, Tryd.type77, rfl, rfl⟩, ⟨_, _, Tryd.type77, rfl, rfl⟩, rfl, ⟨_, Tryd.underlying77, rfl⟩⟩,
  trivial,
  ⟨⟨_, Tryd.type79, rfl, rfl⟩, ⟨_, _, Tryd.type79, rfl, rfl⟩, rfl, ⟨_, Tryd.underlying79, rfl⟩⟩,
  ⟨⟨_, Tryd.type80, rfl, rfl⟩, ⟨_, _, Tryd.type80, rfl, rfl⟩, rfl, ⟨_, Tryd.underlying80, rfl⟩⟩,
  trivial,
  ⟨⟨_, Tryd.type82, rfl, rfl⟩, ⟨_, _, Tryd.type82, rfl, rfl⟩, rfl, ⟨_, Tryd.underlying82, ⟨_, rfl, rfl, by decide⟩⟩⟩,
  trivial,
  trivial,
  trivial,
  trivial,
  ⟨⟨_, Tryd.type87, rfl, rfl⟩, ⟨_, _, Tryd.type87, rfl, rfl⟩, rfl, ⟨_, Tryd.underlying87, ⟨_, _, _, rfl⟩⟩⟩,
  trivial,
  ⟨⟨_, Tryd.type89, rfl, rfl⟩, ⟨_, _, Tryd.type89, rfl, rfl⟩, rfl, ⟨_, Tryd.underlying89, rfl⟩⟩,
  ⟨⟨_, Tryd.type90, rfl, rfl⟩, trivial, trivial, ⟨_, Tryd.underlying90, ⟨_, rfl⟩⟩⟩,
  trivial,
  ⟨⟨_, Tryd.type92, rfl, rfl⟩, trivial, trivial, ⟨_, Tryd.underlying92, ⟨_, rfl⟩⟩⟩,
  trivial,
  trivial,
  trivial,
  ⟨⟨_, Tryd.type96, rfl, rfl⟩, ⟨_, _, Tryd.type96, rfl, rfl⟩, rfl, ⟨_, Tryd.underlying96, ⟨_, rfl, rfl, by decide⟩⟩⟩,
  ⟨⟨_, Tryd.type97, rfl, rfl⟩, ⟨_, _, Tryd.type97, rfl, rfl⟩, rfl, ⟨_, Tryd.underlying97, rfl⟩⟩,
  ⟨⟨_, Tryd.type98, rfl, rfl⟩, ⟨_, _, Tryd.type98, rfl, rfl⟩, rfl, ⟨_, Tryd.underlying98, rfl⟩⟩,
  trivial,
  ⟨⟨_, Tryd.type100, rfl, rfl⟩, ⟨_, _, Tryd.type100, rfl, rfl⟩, rfl, ⟨_, Tryd.underlying100, ⟨_, rfl, rfl, by decide⟩⟩⟩,
  ⟨⟨_, Tryd.type101, rfl, rfl⟩, ⟨_, _, Tryd.type101, rfl, rfl⟩, rfl, ⟨_, Tryd.underlying101, ⟨_, _, _, rfl⟩⟩⟩,
  trivial,
  trivial,
  ⟨⟨_, Tryd.type104, rfl, rfl⟩, ⟨_, _, Tryd.type104, rfl, rfl⟩, rfl, ⟨_, Tryd.underlying104, rfl⟩⟩,
  trivial,
  ⟨⟨_, Tryd.type106, rfl, rfl⟩, ⟨_, _, Tryd.type106, rfl, rfl⟩, rfl, ⟨_, Tryd.underlying106, rfl⟩⟩,
  ⟨⟨_, Tryd.type107, rfl, rfl⟩, ⟨_, _, Tryd.type107, rfl, rfl⟩, rfl, ⟨_, Tryd.underlying107, rfl⟩⟩,
  trivial,
  trivial,
  ⟨⟨_, Tryd.type110, rfl, rfl⟩, trivial, trivial, ⟨_, Tryd.underlying110, ⟨_, rfl⟩⟩⟩,
  trivial,
  ⟨⟨_, Tryd.type112, rfl, rfl⟩, trivial, trivial, ⟨_, Tryd.underlying112, ⟨_, rfl⟩⟩⟩,
  trivial,
  trivial,
  ⟨⟨_, Tryd.type115, rfl, rfl⟩, ⟨_, _, Tryd.type115, rfl, rfl⟩, rfl, ⟨_, Tryd.underlying115, rfl⟩⟩,
  trivial,
  trivial,
  trivial,
  trivial,
  trivial,
  trivial,
  trivial,
  trivial,
  ⟨⟨_, Tryd.type124, rfl, rfl⟩, ⟨_, _, Tryd.type124, rfl, rfl⟩, rfl, ⟨_, Tryd.underlying124, ⟨_, rfl, rfl, by decide⟩⟩⟩,
  ⟨⟨_, Tryd.type125, rfl, rfl⟩, trivial, trivial, ⟨_, Tryd.underlying125, ⟨_, rfl⟩⟩⟩,
  trivial,
  trivial,
  ⟨⟨_, Tryd.type128, rfl, rfl⟩, trivial, trivial, ⟨_, Tryd.underlying128, ⟨_, rfl⟩⟩⟩,
  trivial,
  trivial,
  trivial,
  trivial,
  trivial,
  trivial,
  trivial,
  ⟨⟨_, Tryd.type136, rfl, rfl⟩, ⟨_, _, Tryd.type136, rfl, rfl⟩, rfl, ⟨_, Tryd.underlying136, rfl⟩⟩,
  trivial⟩

set_option maxRecDepth 100000 in
theorem fnsOk : FnsOk Tryd.prog fns := ⟨
  ⟨_, Tryd.func2, by kernel_rfl, rfl⟩,
  ⟨_, Tryd.func3, by kernel_rfl, rfl⟩,
  ⟨_, Tryd.func4, by kernel_rfl, rfl⟩,
  ⟨_, Tryd.func5, by kernel_rfl, rfl⟩,
  ⟨_, Tryd.func6, by kernel_rfl, rfl⟩,
  ⟨_, Tryd.func7, by kernel_rfl, rfl⟩,
  ⟨_, Tryd.func8, by kernel_rfl, rfl⟩,
  ⟨_, Tryd.func9, by kernel_rfl, rfl⟩,
  ⟨_, Tryd.func10, by kernel_rfl, rfl⟩,
  ⟨_, Tryd.func11, by kernel_rfl, rfl⟩,
  ⟨_, Tryd.func12, by kernel_rfl, rfl⟩,
  ⟨_, Tryd.func13, by kernel_rfl, rfl⟩,
  ⟨_, Tryd.func14, by kernel_rfl, rfl⟩,
  ⟨_, Tryd.func15, by kernel_rfl, rfl⟩,
  ⟨_, Tryd.func16, by kernel_rfl, rfl⟩,
  ⟨_, Tryd.func17, by kernel_rfl, rfl⟩,
  ⟨_, Tryd.func18, by kernel_rfl, rfl⟩,
  ⟨_, Tryd.func19, by kernel_rfl, rfl⟩,
  ⟨_, Tryd.func20, by kernel_rfl, rfl⟩,
  ⟨_, Tryd.func21, by kernel_rfl, rfl⟩,
  ⟨_, Tryd.func22, by kernel_rfl, rfl⟩,
  ⟨_, Tryd.func23, by kernel_rfl, rfl⟩,
  ⟨_, Tryd.func24, by kernel_rfl, rfl⟩,
  ⟨_, Tryd.func25, by kernel_rfl, rfl⟩,
  ⟨_, Tryd.func26, by kernel_rfl, rfl⟩,
  ⟨_, Tryd.func27, by kernel_rfl, rfl⟩,
  ⟨_, Tryd.func28, by kernel_rfl, rfl⟩,
  ⟨_, Tryd.func29, by kernel_rfl, rfl⟩,
  ⟨_, Tryd.func30, by kernel_rfl, rfl⟩,
  ⟨_, Tryd.func31, by kernel_rfl, rfl⟩,
  ⟨_, Tryd.func32, by kernel_rfl, rfl⟩,
  ⟨_, Tryd.func33, by kernel_rfl, rfl⟩,
  ⟨_, Tryd.func34, by kernel_rfl, rfl⟩,
  ⟨_, Tryd.func35, by kernel_rfl, rfl⟩,
  ⟨_, Tryd.func36, by kernel_rfl, rfl⟩,
  ⟨_, Tryd.func37, by kernel_rfl, rfl⟩,
  ⟨_, Tryd.func38, by kernel_rfl, rfl⟩,
  ⟨_, Tryd.func39, by kernel_rfl, rfl⟩,
  ⟨_, Tryd.func40, by kernel_rfl, rfl⟩,
  ⟨_, Tryd.func41, by kernel_rfl, rfl⟩,
  ⟨_, Tryd.func42, by kernel_rfl, rfl⟩,
  ⟨_, Tryd.func43, by kernel_rfl, rfl⟩,
  ⟨_, Tryd.func44, by kernel_rfl, rfl⟩,
  ⟨_, Tryd.func45, by kernel_rfl, rfl⟩,
  ⟨_, Tryd.func46, by kernel_rfl, rfl⟩,
  ⟨_, Tryd.func47, by kernel_rfl, rfl⟩,
  ⟨_, Tryd.func48, by kernel_rfl, rfl⟩,
  ⟨_, Tryd.func49, by kernel_rfl, rfl⟩,
  ⟨_, Tryd.func50, by kernel_rfl, rfl⟩,
  ⟨_, Tryd.func51, by kernel_rfl, rfl⟩,
  ⟨_, Tryd.func52, by kernel_rfl, rfl⟩,
  ⟨_, Tryd.func53, by kernel_rfl, rfl⟩,
  ⟨_, Tryd.func54, by kernel_rfl, rfl⟩,
  ⟨_, Tryd.func55, by kernel_rfl, rfl⟩,
  ⟨_, Tryd.func56, by kernel_rfl, rfl⟩,
  ⟨_, Tryd.func57, by kernel_rfl, rfl⟩,
  ⟨_, Tryd.func58, by kernel_rfl, rfl⟩,
  ⟨_, Tryd.func59, by kernel_rfl, rfl⟩,
  ⟨_, Tryd.func60, by kernel_rfl, rfl⟩,
  ⟨_, Tryd.func61, by kernel_rfl, rfl⟩,
  ⟨_, Tryd.func62, by kernel_rfl, rfl⟩,
  ⟨_, Tryd.func63, by kernel_rfl, rfl⟩,
  ⟨_, Tryd.func64, by kernel_rfl, rfl⟩,
  ⟨_, Tryd.func65, by kernel_rfl, rfl⟩,
  ⟨_, Tryd.func66, by kernel_rfl, rfl⟩,
  ⟨_, Tryd.func67, by kernel_rfl, rfl⟩,
  ⟨_, Tryd.func68, by kernel_rfl, rfl⟩,
  ⟨_, Tryd.func69, by kernel_rfl, rfl⟩,
  ⟨_, Tryd.func70, by kernel_rfl, rfl⟩,
  ⟨_, Tryd.func71, by kernel_rfl, rfl⟩,
  ⟨_, Tryd.func72, by kernel_rfl, rfl⟩,
  ⟨_, Tryd.func73, by kernel_rfl, rfl⟩,
  ⟨_, Tryd.func74, by kernel_rfl, rfl⟩,
  ⟨_, Tryd.func75, by kernel_rfl, rfl⟩,
  ⟨_, Tryd.func76, by kernel_rfl, rfl⟩,
  ⟨_, Tryd.func77, by kernel_rfl, rfl⟩,
  ⟨_, Tryd.func78, by kernel_rfl, rfl⟩,
  ⟨_, Tryd.func79, by kernel_rfl, rfl⟩,
  ⟨_, Tryd.func80, by kernel_rfl, rfl⟩,
  ⟨_, Tryd.func81, by kernel_rfl, rfl⟩,
  ⟨_, Tryd.func82, by kernel_rfl, rfl⟩,
  ⟨_, Tryd.func83, by kernel_rfl, rfl⟩,
  ⟨_, Tryd.func84, by kernel_rfl, rfl⟩,
  ⟨_, Tryd.func85, by kernel_rfl, rfl⟩,
  ⟨_, Tryd.func86, by kernel_rfl, rfl⟩,
  ⟨_, Tryd.func87, by kernel_rfl, rfl⟩,
  ⟨_, Tryd.func88, by kernel_rfl, rfl⟩,
  ⟨_, Tryd.func89, by kernel_rfl, rfl⟩,
  ⟨_, Tryd.func90, by kernel_rfl, rfl⟩,
  ⟨_, Tryd.func91, by kernel_rfl, rfl⟩,
  ⟨_, Tryd.func92, by kernel_rfl, rfl⟩,
  ⟨_, Tryd.func93, by kernel_rfl, rfl⟩,
  ⟨_, Tryd.func94, by kernel_rfl, rfl⟩,
  ⟨_, Tryd.func95, by kernel_rfl, rfl⟩,
  ⟨_, Tryd.func96, by kernel_rfl, rfl⟩,
  ⟨_, Tryd.func97, by kernel_rfl, rfl⟩,
  ⟨_, Tryd.func98, by kernel_rfl, rfl⟩,
  ⟨_, Tryd.func99, by kernel_rfl, rfl⟩,
  ⟨_, Tryd.func101, by kernel_rfl, rfl⟩,
  ⟨_, Tryd.func103, by kernel_rfl, rfl⟩,
  ⟨_, Tryd.func104, by kernel_rfl, rfl⟩,
  ⟨_, Tryd.func105, by kernel_rfl, rfl⟩,
  ⟨_, Tryd.func106, by kernel_rfl, rfl⟩,
  ⟨_, Tryd.func107, by kernel_rfl, rfl⟩,
  ⟨_, Tryd.func108, by kernel_rfl, rfl⟩,
  ⟨_, Tryd.func109, by kernel_rfl, rfl⟩,
  ⟨_, Tryd.func110, by kernel_rfl, rfl⟩,
  ⟨_, Tryd.func111, by kernel_rfl, rfl⟩,
  ⟨_, Tryd.func112, by kernel_rfl, rfl⟩,
  ⟨_, Tryd.func113, by kernel_rfl, rfl⟩,
  ⟨_, Tryd.func114, by kernel_rfl, rfl⟩,
  ⟨_, Tryd.func115, by kernel_rfl, rfl⟩,
  ⟨_, Tryd.func116, by kernel_rfl, rfl⟩,
  ⟨_, Tryd.func117, by kernel_rfl, rfl⟩,
  ⟨_, Tryd.func118, by kernel_rfl, rfl⟩,
  ⟨_, Tryd.func119, by kernel_rfl, rfl⟩,
  ⟨_, Tryd.func141, by kernel_rfl, rfl⟩, trivial⟩

/-! The functions by name. -/
abbrev fn_draw_Anew : FuncId := 19
abbrev fn_draw_Turn : FuncId := 13
abbrev fn_draw_pen_cell : FuncId := 39
abbrev fn_draw_pen_ink : FuncId := 64
abbrev fn_draw_pen_move : FuncId := 40
abbrev fn_draw_pen_write : FuncId := 63
abbrev fn_fenestratop_TopCatches : FuncId := 7
abbrev fn_fenestratop_TopGood : FuncId := 10
abbrev fn_fenestratop_TopGood_c1 : FuncId := 35
abbrev fn_fenestratop_TopParts : FuncId := 8
abbrev fn_fenestratop_alive : FuncId := 28
abbrev fn_fenestratop_play : FuncId := 24
abbrev fn_fenestratop_quiet : FuncId := 25
abbrev fn_fenestratop_same : FuncId := 30
abbrev fn_fenestratop_sameCells : FuncId := 57
abbrev fn_fenestratop_sameGrid : FuncId := 32
abbrev fn_fenestratop_sameNumbers : FuncId := 58
abbrev fn_fenestratop_sameView : FuncId := 31
abbrev fn_fenestratop_shown : FuncId := 27
abbrev fn_fenestratop_terminal_get : FuncId := 26
abbrev fn_grid_All : FuncId := 46
abbrev fn_grid_At : FuncId := 38
abbrev fn_grid_Do : FuncId := 70
abbrev fn_grid_Good : FuncId := 14
abbrev fn_grid_GoodCell : FuncId := 43
abbrev fn_grid_Good_c1 : FuncId := 42
abbrev fn_grid_New : FuncId := 44
abbrev fn_grid_Resize : FuncId := 74
abbrev fn_grid_command : FuncId := 85
abbrev fn_grid_control : FuncId := 84
abbrev fn_grid_down : FuncId := 97
abbrev fn_grid_erase : FuncId := 96
abbrev fn_grid_feed : FuncId := 94
abbrev fn_grid_ink : FuncId := 99
abbrev fn_grid_number : FuncId := 95
abbrev fn_grid_picture : FuncId := 86
abbrev fn_grid_row : FuncId := 92
abbrev fn_grid_show : FuncId := 83
abbrev fn_grid_up : FuncId := 98
abbrev fn_grid_wipe : FuncId := 108
abbrev fn_internal_strconv_FormatInt : FuncId := 93
abbrev fn_internal_strconv_Itoa : FuncId := 80
abbrev fn_internal_strconv_small : FuncId := 104
abbrev fn_paint_Cell : FuncId := 34
abbrev fn_paint_Screen : FuncId := 56
abbrev fn_paint_Status : FuncId := 78
abbrev fn_paint_sign : FuncId := 61
abbrev fn_parse_Feed : FuncId := 45
abbrev fn_parse_Good : FuncId := 67
abbrev fn_parse_command : FuncId := 81
abbrev fn_parse_step : FuncId := 69
abbrev fn_server_New : FuncId := 29
abbrev fn_server_Server_Client : FuncId := 20
abbrev fn_server_Server_Do : FuncId := 21
abbrev fn_server_Server_Do_c1 : FuncId := 48
abbrev fn_server_Server_View : FuncId := 23
abbrev fn_server_Server_fit : FuncId := 51
abbrev fn_server_Server_kill : FuncId := 50
abbrev fn_server_Server_show : FuncId := 52
abbrev fn_server_Server_show_c1 : FuncId := 75
abbrev fn_server_Server_split : FuncId := 49
abbrev fn_server_Server_visit : FuncId := 53
abbrev fn_slices_Clone_api_Cell_api_Cell : FuncId := 82
abbrev fn_slices_Clone_int_int : FuncId := 68
abbrev fn_slices_ContainsFunc_api_Cell_api_Cell : FuncId := 41
abbrev fn_slices_DeleteL_int_int : FuncId := 91
abbrev fn_slices_Delete_int_int : FuncId := 90
abbrev fn_slices_IndexFunc_api_Cell_api_Cell : FuncId := 66
abbrev fn_slices_Index_int_int : FuncId := 79
abbrev fn_slices_InsertL_int_int : FuncId := 88
abbrev fn_slices_Insert_int_int : FuncId := 89
abbrev fn_slices_overlapsL_int : FuncId := 100
abbrev fn_slices_overlaps_int : FuncId := 102
abbrev fn_strconv_Itoa : FuncId := 65
abbrev fn_tiles_Good : FuncId := 36
abbrev fn_tiles_Has : FuncId := 37
abbrev fn_tiles_Kill : FuncId := 73
abbrev fn_tiles_Share : FuncId := 60
abbrev fn_tiles_Split : FuncId := 72
abbrev fn_tiles_Where : FuncId := 33
abbrev fn_tiles_find : FuncId := 59
abbrev fn_tiles_own : FuncId := 87
abbrev fn_tiles_pane : FuncId := 62

/-! The types by name. -/
abbrev ty_int : TypeId := 3
abbrev ty_bool : TypeId := 4
abbrev ty_u8 : TypeId := 5
abbrev ty_api_Grid : TypeId := 24
abbrev ty_api_Act : TypeId := 35
abbrev ty_sl_sl_int : TypeId := 43
abbrev ty_sl_api_Act : TypeId := 51
abbrev ty_sl_int : TypeId := 56
abbrev ty_api_Cell : TypeId := 71
abbrev ty_draw_pen : TypeId := 82
abbrev ty_api_Event : TypeId := 124
def eqs : List Nat := [35, 40, 68, 71]

theorem eqsOk : EqsOk Tryd.prog eqs := ⟨⟨Tryd.stoodInHeld35, Tryd.eqGuardType35⟩, ⟨Tryd.stoodInHeld40, Tryd.eqGuardType40⟩, ⟨Tryd.stoodInHeld68, Tryd.eqGuardType68⟩, ⟨Tryd.stoodInHeld71, Tryd.eqGuardType71⟩, trivial⟩

theorem ctxOk (real wraps opqs : List Nat) (loops cuts : List (Nat × LShape)) : CtxOk ⟨Tryd.prog, tab, real, wraps, opqs, fns, loops, cuts⟩ := ctxOk_of tabOk (by kernel_rfl) fnsOk eqsOk (by kernel_rfl)

end Go.Proofs.YtkmmphkjmamckacDoor
