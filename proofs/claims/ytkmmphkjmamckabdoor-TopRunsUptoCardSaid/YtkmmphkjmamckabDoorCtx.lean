/-
  The table of types and the functions that may be called, of this seat. Printed by a program of ours (vcgen.py).
-/
import Derived.Test.YtkmmphkjmamckabDoorZB
import Derived.Test.YtkmmphkjmamckabDoorProg
namespace Go.Proofs.YtkmmphkjmamckabDoor
open Go

def tab : List TI := [
  ⟨.tuple [], 1, 0, []⟩,
  ⟨.other, 0, 0, []⟩,
  ⟨.other, 0, 0, []⟩,
  ⟨.cell (.int .i64), 1, 8, [.int .i64 0]⟩,
  ⟨.cell .bool, 1, 1, [.bool false]⟩,
  ⟨.cell (.int .u8), 1, 1, [.int .u8 0]⟩,
  ⟨.other, 0, 0, []⟩,
  ⟨.other, 0, 0, []⟩,
  ⟨.other, 0, 0, []⟩,
  ⟨.cell .str, 1, 16, [.string (ByteArray.mk #[])]⟩,
  ⟨.other, 0, 0, []⟩,
  ⟨.other, 0, 0, []⟩,
  ⟨.other, 0, 0, []⟩,
  ⟨.other, 0, 0, []⟩,
  ⟨.other, 0, 0, []⟩,
  ⟨.other, 0, 0, []⟩,
  ⟨.other, 0, 0, []⟩,
  ⟨.other, 0, 0, []⟩,
  ⟨.other, 0, 0, []⟩,
  ⟨.other, 0, 0, []⟩,
  ⟨.other, 0, 0, []⟩,
  ⟨.other, 0, 0, []⟩,
  ⟨.slice 34, 1, 24, [.slice none 0 0]⟩,
  ⟨.other, 0, 0, []⟩,
  ⟨.slice 31, 1, 24, [.slice none 0 0]⟩,
  ⟨.cell (.int .i64), 1, 8, [.int .i64 0]⟩,
  ⟨.tuple [24, 25], 1, 0, []⟩,
  ⟨.other, 0, 0, []⟩,
  ⟨.ptr 63, 1, 8, [.pointer none]⟩,
  ⟨.other, 0, 0, []⟩,
  ⟨.other, 0, 0, []⟩,
  ⟨.struct [(0, 25), (1, 3), (2, 9)], 3, 32, [.int .i64 0, .int .i64 0, .string (ByteArray.mk #[])]⟩,
  ⟨.other, 0, 0, []⟩,
  ⟨.other, 0, 0, []⟩,
  ⟨.struct [(0, 3), (1, 3), (2, 3), (3, 3), (4, 9)], 5, 48, [.int .i64 0, .int .i64 0, .int .i64 0, .int .i64 0, .string (ByteArray.mk #[])]⟩,
  ⟨.other, 0, 0, []⟩,
  ⟨.ptr 74, 1, 8, [.pointer none]⟩,
  ⟨.tuple [28, 36, 4], 1, 0, []⟩,
  ⟨.other, 0, 0, []⟩,
  ⟨.tuple [9, 4, 4], 1, 0, []⟩,
  ⟨.other, 0, 0, []⟩,
  ⟨.other, 0, 0, []⟩,
  ⟨.slice 3, 1, 24, [.slice none 0 0]⟩,
  ⟨.other, 0, 0, []⟩,
  ⟨.struct [(0, 3), (1, 42), (2, 9), (3, 4)], 4, 56, [.int .i64 0, .slice none 0 0, .string (ByteArray.mk #[]), .bool false]⟩,
  ⟨.slice 101, 1, 24, [.slice none 0 0]⟩,
  ⟨.other, 0, 0, []⟩,
  ⟨.struct [(0, 3), (1, 3), (2, 45), (3, 3), (4, 3), (5, 3), (6, 4), (7, 3), (8, 3)], 9, 88, [.int .i64 0, .int .i64 0, .slice none 0 0, .int .i64 0, .int .i64 0, .int .i64 0, .bool false, .int .i64 0, .int .i64 0]⟩,
  ⟨.other, 0, 0, []⟩,
  ⟨.struct [(0, 44), (4, 47)], 13, 144, [.int .i64 0, .slice none 0 0, .string (ByteArray.mk #[]), .bool false, .int .i64 0, .int .i64 0, .slice none 0 0, .int .i64 0, .int .i64 0, .int .i64 0, .bool false, .int .i64 0, .int .i64 0]⟩,
  ⟨.cell .func, 1, 8, [.nilFunc]⟩,
  ⟨.other, 0, 0, []⟩,
  ⟨.slice 42, 1, 24, [.slice none 0 0]⟩,
  ⟨.other, 0, 0, []⟩,
  ⟨.struct [(0, 52)], 1, 24, [.slice none 0 0]⟩,
  ⟨.array 6 47, 54, 528, [.int .i64 0, .int .i64 0, .slice none 0 0, .int .i64 0, .int .i64 0, .int .i64 0, .bool false, .int .i64 0, .int .i64 0, .int .i64 0, .int .i64 0, .slice none 0 0, .int .i64 0, .int .i64 0, .int .i64 0, .bool false, .int .i64 0, .int .i64 0, .int .i64 0, .int .i64 0, .slice none 0 0, .int .i64 0, .int .i64 0, .int .i64 0, .bool false, .int .i64 0, .int .i64 0, .int .i64 0, .int .i64 0, .slice none 0 0, .int .i64 0, .int .i64 0, .int .i64 0, .bool false, .int .i64 0, .int .i64 0, .int .i64 0, .int .i64 0, .slice none 0 0, .int .i64 0, .int .i64 0, .int .i64 0, .bool false, .int .i64 0, .int .i64 0, .int .i64 0, .int .i64 0, .slice none 0 0, .int .i64 0, .int .i64 0, .int .i64 0, .bool false, .int .i64 0, .int .i64 0]⟩,
  ⟨.other, 0, 0, []⟩,
  ⟨.struct [(0, 54), (1, 55), (55, 3), (56, 3), (57, 3)], 58, 576, [.slice none 0 0, .int .i64 0, .int .i64 0, .slice none 0 0, .int .i64 0, .int .i64 0, .int .i64 0, .bool false, .int .i64 0, .int .i64 0, .int .i64 0, .int .i64 0, .slice none 0 0, .int .i64 0, .int .i64 0, .int .i64 0, .bool false, .int .i64 0, .int .i64 0, .int .i64 0, .int .i64 0, .slice none 0 0, .int .i64 0, .int .i64 0, .int .i64 0, .bool false, .int .i64 0, .int .i64 0, .int .i64 0, .int .i64 0, .slice none 0 0, .int .i64 0, .int .i64 0, .int .i64 0, .bool false, .int .i64 0, .int .i64 0, .int .i64 0, .int .i64 0, .slice none 0 0, .int .i64 0, .int .i64 0, .int .i64 0, .bool false, .int .i64 0, .int .i64 0, .int .i64 0, .int .i64 0, .slice none 0 0, .int .i64 0, .int .i64 0, .int .i64 0, .bool false, .int .i64 0, .int .i64 0, .int .i64 0, .int .i64 0, .int .i64 0]⟩,
  ⟨.array 6 44, 24, 336, [.int .i64 0, .slice none 0 0, .string (ByteArray.mk #[]), .bool false, .int .i64 0, .slice none 0 0, .string (ByteArray.mk #[]), .bool false, .int .i64 0, .slice none 0 0, .string (ByteArray.mk #[]), .bool false, .int .i64 0, .slice none 0 0, .string (ByteArray.mk #[]), .bool false, .int .i64 0, .slice none 0 0, .string (ByteArray.mk #[]), .bool false, .int .i64 0, .slice none 0 0, .string (ByteArray.mk #[]), .bool false]⟩,
  ⟨.other, 0, 0, []⟩,
  ⟨.struct [(0, 4), (1, 47), (10, 9), (11, 4)], 12, 120, [.bool false, .int .i64 0, .int .i64 0, .slice none 0 0, .int .i64 0, .int .i64 0, .int .i64 0, .bool false, .int .i64 0, .int .i64 0, .string (ByteArray.mk #[]), .bool false]⟩,
  ⟨.array 3 60, 36, 360, [.bool false, .int .i64 0, .int .i64 0, .slice none 0 0, .int .i64 0, .int .i64 0, .int .i64 0, .bool false, .int .i64 0, .int .i64 0, .string (ByteArray.mk #[]), .bool false, .bool false, .int .i64 0, .int .i64 0, .slice none 0 0, .int .i64 0, .int .i64 0, .int .i64 0, .bool false, .int .i64 0, .int .i64 0, .string (ByteArray.mk #[]), .bool false, .bool false, .int .i64 0, .int .i64 0, .slice none 0 0, .int .i64 0, .int .i64 0, .int .i64 0, .bool false, .int .i64 0, .int .i64 0, .string (ByteArray.mk #[]), .bool false]⟩,
  ⟨.other, 0, 0, []⟩,
  ⟨.struct [(0, 57), (58, 58), (82, 61), (118, 3)], 119, 1280, [.slice none 0 0, .int .i64 0, .int .i64 0, .slice none 0 0, .int .i64 0, .int .i64 0, .int .i64 0, .bool false, .int .i64 0, .int .i64 0, .int .i64 0, .int .i64 0, .slice none 0 0, .int .i64 0, .int .i64 0, .int .i64 0, .bool false, .int .i64 0, .int .i64 0, .int .i64 0, .int .i64 0, .slice none 0 0, .int .i64 0, .int .i64 0, .int .i64 0, .bool false, .int .i64 0, .int .i64 0, .int .i64 0, .int .i64 0, .slice none 0 0, .int .i64 0, .int .i64 0, .int .i64 0, .bool false, .int .i64 0, .int .i64 0, .int .i64 0, .int .i64 0, .slice none 0 0, .int .i64 0, .int .i64 0, .int .i64 0, .bool false, .int .i64 0, .int .i64 0, .int .i64 0, .int .i64 0, .slice none 0 0, .int .i64 0, .int .i64 0, .int .i64 0, .bool false, .int .i64 0, .int .i64 0, .int .i64 0, .int .i64 0, .int .i64 0, .int .i64 0, .slice none 0 0, .string (ByteArray.mk #[]), .bool false, .int .i64 0, .slice none 0 0, .string (ByteArray.mk #[]), .bool false, .int .i64 0, .slice none 0 0, .string (ByteArray.mk #[]), .bool false, .int .i64 0, .slice none 0 0, .string (ByteArray.mk #[]), .bool false, .int .i64 0, .slice none 0 0, .string (ByteArray.mk #[]), .bool false, .int .i64 0, .slice none 0 0, .string (ByteArray.mk #[]), .bool false, .bool false, .int .i64 0, .int .i64 0, .slice none 0 0, .int .i64 0, .int .i64 0, .int .i64 0, .bool false, .int .i64 0, .int .i64 0, .string (ByteArray.mk #[]), .bool false, .bool false, .int .i64 0, .int .i64 0, .slice none 0 0, .int .i64 0, .int .i64 0, .int .i64 0, .bool false, .int .i64 0, .int .i64 0, .string (ByteArray.mk #[]), .bool false, .bool false, .int .i64 0, .int .i64 0, .slice none 0 0, .int .i64 0, .int .i64 0, .int .i64 0, .bool false, .int .i64 0, .int .i64 0, .string (ByteArray.mk #[]), .bool false, .int .i64 0]⟩,
  ⟨.cell .func, 1, 8, [.nilFunc]⟩,
  ⟨.other, 0, 0, []⟩,
  ⟨.other, 0, 0, []⟩,
  ⟨.slice 92, 1, 24, [.slice none 0 0]⟩,
  ⟨.tuple [44, 67, 25], 1, 0, []⟩,
  ⟨.other, 0, 0, []⟩,
  ⟨.tuple [47, 25], 1, 0, []⟩,
  ⟨.other, 0, 0, []⟩,
  ⟨.other, 0, 0, []⟩,
  ⟨.ptr 60, 1, 8, [.pointer none]⟩,
  ⟨.array 3 49, 39, 432, [.int .i64 0, .slice none 0 0, .string (ByteArray.mk #[]), .bool false, .int .i64 0, .int .i64 0, .slice none 0 0, .int .i64 0, .int .i64 0, .int .i64 0, .bool false, .int .i64 0, .int .i64 0, .int .i64 0, .slice none 0 0, .string (ByteArray.mk #[]), .bool false, .int .i64 0, .int .i64 0, .slice none 0 0, .int .i64 0, .int .i64 0, .int .i64 0, .bool false, .int .i64 0, .int .i64 0, .int .i64 0, .slice none 0 0, .string (ByteArray.mk #[]), .bool false, .int .i64 0, .int .i64 0, .slice none 0 0, .int .i64 0, .int .i64 0, .int .i64 0, .bool false, .int .i64 0, .int .i64 0]⟩,
  ⟨.other, 0, 0, []⟩,
  ⟨.other, 0, 0, []⟩,
  ⟨.other, 0, 0, []⟩,
  ⟨.other, 0, 0, []⟩,
  ⟨.other, 0, 0, []⟩,
  ⟨.other, 0, 0, []⟩,
  ⟨.struct [(0, 3), (1, 3), (2, 3), (3, 3)], 4, 32, [.int .i64 0, .int .i64 0, .int .i64 0, .int .i64 0]⟩,
  ⟨.other, 0, 0, []⟩,
  ⟨.other, 0, 0, []⟩,
  ⟨.tuple [54, 25], 1, 0, []⟩,
  ⟨.other, 0, 0, []⟩,
  ⟨.other, 0, 0, []⟩,
  ⟨.tuple [3, 3, 4], 1, 0, []⟩,
  ⟨.other, 0, 0, []⟩,
  ⟨.other, 0, 0, []⟩,
  ⟨.other, 0, 0, []⟩,
  ⟨.other, 0, 0, []⟩,
  ⟨.struct [(0, 3), (1, 3), (2, 42), (3, 9)], 4, 56, [.int .i64 0, .int .i64 0, .slice none 0 0, .string (ByteArray.mk #[])]⟩,
  ⟨.tuple [44, 92], 1, 0, []⟩,
  ⟨.other, 0, 0, []⟩,
  ⟨.other, 0, 0, []⟩,
  ⟨.cell .func, 1, 8, [.nilFunc]⟩,
  ⟨.tuple [9, 47, 25], 1, 0, []⟩,
  ⟨.other, 0, 0, []⟩,
  ⟨.ptr 49, 1, 8, [.pointer none]⟩,
  ⟨.other, 0, 0, []⟩,
  ⟨.struct [(0, 3), (1, 3), (2, 3), (3, 4)], 4, 32, [.int .i64 0, .int .i64 0, .int .i64 0, .bool false]⟩,
  ⟨.other, 0, 0, []⟩,
  ⟨.other, 0, 0, []⟩,
  ⟨.other, 0, 0, []⟩,
  ⟨.tuple [3, 3], 1, 0, []⟩,
  ⟨.other, 0, 0, []⟩,
  ⟨.other, 0, 0, []⟩,
  ⟨.other, 0, 0, []⟩,
  ⟨.ptr 47, 1, 8, [.pointer none]⟩,
  ⟨.other, 0, 0, []⟩,
  ⟨.other, 0, 0, []⟩,
  ⟨.other, 0, 0, []⟩,
  ⟨.other, 0, 0, []⟩,
  ⟨.other, 0, 0, []⟩,
  ⟨.other, 0, 0, []⟩,
  ⟨.other, 0, 0, []⟩,
  ⟨.slice 5, 1, 24, [.slice none 0 0]⟩,
  ⟨.other, 0, 0, []⟩,
  ⟨.other, 0, 0, []⟩,
  ⟨.other, 0, 0, []⟩,
  ⟨.other, 0, 0, []⟩,
  ⟨.ptr 124, 1, 8, [.pointer none]⟩,
  ⟨.other, 0, 0, []⟩,
  ⟨.struct [(0, 47), (9, 117)], 10, 112, [.int .i64 0, .int .i64 0, .slice none 0 0, .int .i64 0, .int .i64 0, .int .i64 0, .bool false, .int .i64 0, .int .i64 0, .slice none 0 0]⟩,
  ⟨.other, 0, 0, []⟩,
  ⟨.other, 0, 0, []⟩,
  ⟨.other, 0, 0, []⟩,
  ⟨.other, 0, 0, []⟩,
  ⟨.array 6 4, 6, 6, [.bool false, .bool false, .bool false, .bool false, .bool false, .bool false]⟩,
  ⟨.other, 0, 0, []⟩,
  ⟨.cell .func, 1, 8, [.nilFunc]⟩]

def fns : List Nat := [2, 3, 4, 5, 6, 7, 8, 9, 10, 11, 12, 13, 14, 15, 16, 17, 18, 19, 20, 21, 22, 23, 24, 25, 26, 27, 28, 29, 30, 31, 32, 33, 34, 35, 36, 37, 38, 39, 40, 41, 42, 43, 44, 45, 46, 47, 48, 49, 50, 51, 52, 53, 54, 55, 56, 57, 58, 59, 60, 61, 62, 63, 64, 66, 68, 69, 70, 71, 72, 73, 74, 75, 76, 77, 78, 79, 80, 81, 82, 83, 84, 85, 86, 87, 88, 89, 90, 91, 92, 93, 94, 95, 96, 118]

set_option maxRecDepth 100000 in
theorem tabOk : TabOk Tryd.prog 0 tab := ⟨
  ⟨⟨_, Tryd.type0, rfl, rfl⟩, trivial, trivial, ⟨_, Tryd.underlying0, ⟨_, rfl⟩⟩⟩,
  trivial,
  trivial,
  ⟨⟨_, Tryd.type3, rfl, rfl⟩, ⟨_, _, Tryd.type3, rfl, rfl⟩, rfl, ⟨_, Tryd.underlying3, rfl⟩⟩,
  ⟨⟨_, Tryd.type4, rfl, rfl⟩, ⟨_, _, Tryd.type4, rfl, rfl⟩, rfl, ⟨_, Tryd.underlying4, rfl⟩⟩,
  ⟨⟨_, Tryd.type5, rfl, rfl⟩, ⟨_, _, Tryd.type5, rfl, rfl⟩, rfl, ⟨_, Tryd.underlying5, rfl⟩⟩,
  trivial,
  trivial,
  trivial,
  ⟨⟨_, Tryd.type9, rfl, rfl⟩, ⟨_, _, Tryd.type9, rfl, rfl⟩, rfl, ⟨_, Tryd.underlying9, rfl⟩⟩,
  trivial,
  trivial,
  trivial,
  trivial,
  trivial,
  trivial,
  trivial,
  trivial,
  trivial,
  trivial,
  trivial,
  trivial,
  ⟨⟨_, Tryd.type22, rfl, rfl⟩, ⟨_, _, Tryd.type22, rfl, rfl⟩, rfl, ⟨_, Tryd.underlying22, rfl⟩⟩,
  trivial,
  ⟨⟨_, Tryd.type24, rfl, rfl⟩, ⟨_, _, Tryd.type24, rfl, rfl⟩, rfl, ⟨_, Tryd.underlying24, rfl⟩⟩,
  ⟨⟨_, Tryd.type25, rfl, rfl⟩, ⟨_, _, Tryd.type25, rfl, rfl⟩, rfl, ⟨_, Tryd.underlying25, rfl⟩⟩,
  ⟨⟨_, Tryd.type26, rfl, rfl⟩, trivial, trivial, ⟨_, Tryd.underlying26, ⟨_, rfl⟩⟩⟩,
  trivial,
  ⟨⟨_, Tryd.type28, rfl, rfl⟩, ⟨_, _, Tryd.type28, rfl, rfl⟩, rfl, ⟨_, Tryd.underlying28, rfl⟩⟩,
  trivial,
  trivial,
  ⟨⟨_, Tryd.type31, rfl, rfl⟩, ⟨_, _, Tryd.type31, rfl, rfl⟩, rfl, ⟨_, Tryd.underlying31, ⟨_, rfl, rfl, by decide⟩⟩⟩,
  trivial,
  trivial,
  ⟨⟨_, Tryd.type34, rfl, rfl⟩, ⟨_, _, Tryd.type34, rfl, rfl⟩, rfl, ⟨_, Tryd.underlying34, ⟨_, rfl, rfl, by decide⟩⟩⟩,
  trivial,
  ⟨⟨_, Tryd.type36, rfl, rfl⟩, ⟨_, _, Tryd.type36, rfl, rfl⟩, rfl, ⟨_, Tryd.underlying36, rfl⟩⟩,
  ⟨⟨_, Tryd.type37, rfl, rfl⟩, trivial, trivial, ⟨_, Tryd.underlying37, ⟨_, rfl⟩⟩⟩,
  trivial,
  ⟨⟨_, Tryd.type39, rfl, rfl⟩, trivial, trivial, ⟨_, Tryd.underlying39, ⟨_, rfl⟩⟩⟩,
  trivial,
  trivial,
  ⟨⟨_, Tryd.type42, rfl, rfl⟩, ⟨_, _, Tryd.type42, rfl, rfl⟩, rfl, ⟨_, Tryd.underlying42, rfl⟩⟩,
  trivial,
  ⟨⟨_, Tryd.type44, rfl, rfl⟩, ⟨_, _, Tryd.type44, rfl, rfl⟩, rfl, ⟨_, Tryd.underlying44, ⟨_, rfl, rfl, by decide⟩⟩⟩,
  ⟨⟨_, Tryd.type45, rfl, rfl⟩, ⟨_, _, Tryd.type45, rfl, rfl⟩, rfl, ⟨_, Tryd.underlying45, rfl⟩⟩,
  trivial,
  ⟨⟨_, Tryd.type47, rfl, rfl⟩, ⟨_, _, Tryd.type47, rfl, rfl⟩, rfl, ⟨_, Tryd.underlying47, ⟨_, rfl, rfl, by decide⟩⟩⟩,
  trivial,
  ⟨⟨_, Tryd.type49, rfl, rfl⟩, ⟨_, _, Tryd.type49, rfl, rfl⟩, rfl, ⟨_, Tryd.underlying49, ⟨_, rfl, rfl, by decide⟩⟩⟩,
  ⟨⟨_, Tryd.type50, rfl, rfl⟩, ⟨_, _, Tryd.type50, rfl, rfl⟩, rfl, ⟨_, Tryd.underlying50, ⟨_, _, _, rfl⟩⟩⟩,
  trivial,
  ⟨⟨_, Tryd.type52, rfl, rfl⟩, ⟨_, _, Tryd.type52, rfl, rfl⟩, rfl, ⟨_, Tryd.underlying52, rfl⟩⟩,
  trivial,
  ⟨⟨_, Tryd.type54, rfl, rfl⟩, ⟨_, _, Tryd.type54, rfl, rfl⟩, rfl, ⟨_, Tryd.underlying54, ⟨_, rfl, rfl, by decide⟩⟩⟩,
  ⟨⟨_, Tryd.type55, rfl, rfl⟩, ⟨_, _, Tryd.type55, rfl, rfl⟩, rfl, ⟨_, Tryd.underlying55, rfl⟩⟩,
  trivial,
  ⟨⟨_, Tryd.type57, rfl, rfl⟩, ⟨_, _, Tryd.type57, rfl, rfl⟩, rfl, ⟨_, Tryd.underlying57, ⟨_, rfl, rfl, by decide⟩⟩⟩,
  ⟨⟨_, Tryd.type58, rfl, rfl⟩, ⟨_, _, Tryd.type58, rfl, rfl⟩, rfl, ⟨_, Tryd.underlying58, rfl⟩⟩,
  trivial,
  ⟨⟨_, Tryd.type60, rfl, rfl⟩, ⟨_, _, Tryd.type60, rfl, rfl⟩, rfl, ⟨_, Tryd.underlying60, ⟨_, rfl, rfl, by decide⟩⟩⟩,
  ⟨⟨_, Tryd.type61, rfl, rfl⟩, ⟨_, _, Tryd.type61, rfl, rfl⟩, rfl, ⟨_, Tryd.underlying61, rfl⟩⟩,
  trivial,
  ⟨⟨_, Tryd.type63, rfl, rfl⟩, ⟨_, _, Tryd.type63, rfl, rfl⟩, rfl, ⟨_, Tryd.underlying63, ⟨_, rfl, rfl, by decide⟩⟩⟩,
  ⟨⟨_, Tryd.type64, rfl, rfl⟩, ⟨_, _, Tryd.type64, rfl, rfl⟩, rfl, ⟨_, Tryd.underlying64, ⟨_, _, _, rfl⟩⟩⟩,
  trivial,
  trivial,
  ⟨⟨_, Tryd.type67, rfl, rfl⟩, ⟨_, _, Tryd.type67, rfl, rfl⟩, rfl, ⟨_, Tryd.underlying67, rfl⟩⟩,
  ⟨⟨_, Tryd.type68, rfl, rfl⟩, trivial, trivial, ⟨_, Tryd.underlying68, ⟨_, rfl⟩⟩⟩,
  trivial,
  ⟨⟨_, Tryd.type70, rfl, rfl⟩, trivial, trivial, ⟨_, Tryd.underlying70, ⟨_, rfl⟩⟩⟩,
  trivial,
  trivial,
  ⟨⟨_, Tryd.type73, rfl, rfl⟩, ⟨_, _, Tryd.type73, rfl, rfl⟩, rfl, ⟨_, Tryd.underlying73, rfl⟩⟩,
  ⟨⟨_, Tryd.type74, rfl, rfl⟩, ⟨_, _, Tryd.type74, rfl, rfl⟩, rfl, ⟨_, Tryd.underlying74, rfl⟩⟩,
  trivial,
  trivial,
  trivial,
  trivial,
  trivial,
  trivial,
  ⟨⟨_, Tryd.type81, rfl, rfl⟩, ⟨_, _, Tryd.type81, rfl, rfl⟩, rfl, ⟨_, Tryd.underlying81, ⟨_, rfl, rfl, by decide⟩⟩⟩,
  trivial,
  trivial,
  ⟨⟨_, Tryd.type84, rfl, rfl⟩, trivial, trivial, ⟨_, Tryd.underlying84, ⟨_, rfl⟩⟩⟩,
  trivial,
  trivial,
  ⟨⟨_, Tryd.type87, rfl, rfl⟩, trivial, trivial, ⟨_, Tryd.underlying87, ⟨_, rfl⟩⟩⟩,
  trivial,
  trivial,
  trivial,
  trivial,
  ⟨⟨_, Tryd.type92, rfl, rfl⟩, ⟨_, _, Tryd.type92, rfl, rfl⟩, rfl, ⟨_, Tryd.underlying92, ⟨_, rfl, rfl, by decide⟩⟩⟩,
  ⟨⟨_, Tryd.type93, rfl, rfl⟩, trivial, trivial, ⟨_, Tryd.underlying93, ⟨_, rfl⟩⟩⟩,
  trivial,
  trivial,
  ⟨⟨_, Tryd.type96, rfl, rfl⟩, ⟨_, _, Tryd.type96, rfl, rfl⟩, rfl, ⟨_, Tryd.underlying96, ⟨_, _, _, rfl⟩⟩⟩,
  ⟨⟨_, Tryd.type97, rfl, rfl⟩, trivial, trivial, ⟨_, Tryd.underlying97, ⟨_, rfl⟩⟩⟩,
  trivial,
  ⟨⟨_, Tryd.type99, rfl, rfl⟩, ⟨_, _, Tryd.type99, rfl, rfl⟩, rfl, ⟨_, Tryd.underlying99, rfl⟩⟩,
  trivial,
  ⟨⟨_, Tryd.type101, rfl, rfl⟩, ⟨_, _, Tryd.type101, rfl, rfl⟩, rfl, ⟨_, Tryd.underlying101, ⟨_, rfl, rfl, by decide⟩⟩⟩,
  trivial,
  trivial,
  trivial,
  ⟨⟨_, Tryd.type105, rfl, rfl⟩, trivial, trivial, ⟨_, Tryd.underlying105, ⟨_, rfl⟩⟩⟩,
  trivial,
  trivial,
  trivial,
  ⟨⟨_, Tryd.type109, rfl, rfl⟩, ⟨_, _, Tryd.type109, rfl, rfl⟩, rfl, ⟨_, Tryd.underlying109, rfl⟩⟩,
  trivial,
  trivial,
  trivial,
  trivial,
  trivial,
  trivial,
  trivial,
  ⟨⟨_, Tryd.type117, rfl, rfl⟩, ⟨_, _, Tryd.type117, rfl, rfl⟩, rfl, ⟨_, Tryd.underlying117, rfl⟩⟩,
  trivial,
  trivial,
  trivial,
  trivial,
  ⟨⟨_, Tryd.type122, rfl, rfl⟩, ⟨_, _, Tryd.type122, rfl, rfl⟩, rfl, ⟨_, Tryd.underlying122, rfl⟩⟩,
  trivial,
  ⟨⟨_, Tryd.type124, rfl, rfl⟩, ⟨_, _, Tryd.type124, rfl, rfl⟩, rfl, ⟨_, Tryd.underlying124, ⟨_, rfl, rfl, by decide⟩⟩⟩,
  trivial,
  trivial,
  trivial,
  trivial,
  ⟨⟨_, Tryd.type129, rfl, rfl⟩, ⟨_, _, Tryd.type129, rfl, rfl⟩, rfl, ⟨_, Tryd.underlying129, rfl⟩⟩,
  trivial,
  ⟨⟨_, Tryd.type131, rfl, rfl⟩, ⟨_, _, Tryd.type131, rfl, rfl⟩, rfl, ⟨_, Tryd.underlying131, ⟨_, _, _, rfl⟩⟩⟩,
  trivial⟩

set_option maxRecDepth 100000 in
theorem fnsOk : FnsOk Tryd.prog fns := ⟨
  ⟨_, Tryd.func2, by kernel_rfl, rfl⟩,
  ⟨_, Tryd.func3, by kernel_rfl, rfl⟩,
  ⟨_, Tryd.func4, by kernel_rfl, rfl⟩,
  ⟨_, Tryd.func5, by kernel_rfl, rfl⟩,
  ⟨_, Tryd.func6, by kernel_rfl, rfl⟩,
  ⟨_, Tryd.func7, by kernel_rfl, rfl⟩,
  ⟨_, Tryd.func8, by kernel_rfl, rfl⟩,
  ⟨_, Tryd.func9, by kernel_rfl, rfl⟩,
  ⟨_, Tryd.func10, by kernel_rfl, rfl⟩,
  ⟨_, Tryd.func11, by kernel_rfl, rfl⟩,
  ⟨_, Tryd.func12, by kernel_rfl, rfl⟩,
  ⟨_, Tryd.func13, by kernel_rfl, rfl⟩,
  ⟨_, Tryd.func14, by kernel_rfl, rfl⟩,
  ⟨_, Tryd.func15, by kernel_rfl, rfl⟩,
  ⟨_, Tryd.func16, by kernel_rfl, rfl⟩,
  ⟨_, Tryd.func17, by kernel_rfl, rfl⟩,
  ⟨_, Tryd.func18, by kernel_rfl, rfl⟩,
  ⟨_, Tryd.func19, by kernel_rfl, rfl⟩,
  ⟨_, Tryd.func20, by kernel_rfl, rfl⟩,
  ⟨_, Tryd.func21, by kernel_rfl, rfl⟩,
  ⟨_, Tryd.func22, by kernel_rfl, rfl⟩,
  ⟨_, Tryd.func23, by kernel_rfl, rfl⟩,
  ⟨_, Tryd.func24, by kernel_rfl, rfl⟩,
  ⟨_, Tryd.func25, by kernel_rfl, rfl⟩,
  ⟨_, Tryd.func26, by kernel_rfl, rfl⟩,
  ⟨_, Tryd.func27, by kernel_rfl, rfl⟩,
  ⟨_, Tryd.func28, by kernel_rfl, rfl⟩,
  ⟨_, Tryd.func29, by kernel_rfl, rfl⟩,
  ⟨_, Tryd.func30, by kernel_rfl, rfl⟩,
  ⟨_, Tryd.func31, by kernel_rfl, rfl⟩,
  ⟨_, Tryd.func32, by kernel_rfl, rfl⟩,
  ⟨_, Tryd.func33, by kernel_rfl, rfl⟩,
  ⟨_, Tryd.func34, by kernel_rfl, rfl⟩,
  ⟨_, Tryd.func35, by kernel_rfl, rfl⟩,
  ⟨_, Tryd.func36, by kernel_rfl, rfl⟩,
  ⟨_, Tryd.func37, by kernel_rfl, rfl⟩,
  ⟨_, Tryd.func38, by kernel_rfl, rfl⟩,
  ⟨_, Tryd.func39, by kernel_rfl, rfl⟩,
  ⟨_, Tryd.func40, by kernel_rfl, rfl⟩,
  ⟨_, Tryd.func41, by kernel_rfl, rfl⟩,
  ⟨_, Tryd.func42, by kernel_rfl, rfl⟩,
  ⟨_, Tryd.func43, by kernel_rfl, rfl⟩,
  ⟨_, Tryd.func44, by kernel_rfl, rfl⟩,
  ⟨_, Tryd.func45, by kernel_rfl, rfl⟩,
  ⟨_, Tryd.func46, by kernel_rfl, rfl⟩,
  ⟨_, Tryd.func47, by kernel_rfl, rfl⟩,
  ⟨_, Tryd.func48, by kernel_rfl, rfl⟩,
  ⟨_, Tryd.func49, by kernel_rfl, rfl⟩,
  ⟨_, Tryd.func50, by kernel_rfl, rfl⟩,
  ⟨_, Tryd.func51, by kernel_rfl, rfl⟩,
  ⟨_, Tryd.func52, by kernel_rfl, rfl⟩,
  ⟨_, Tryd.func53, by kernel_rfl, rfl⟩,
  ⟨_, Tryd.func54, by kernel_rfl, rfl⟩,
  ⟨_, Tryd.func55, by kernel_rfl, rfl⟩,
  ⟨_, Tryd.func56, by kernel_rfl, rfl⟩,
  ⟨_, Tryd.func57, by kernel_rfl, rfl⟩,
  ⟨_, Tryd.func58, by kernel_rfl, rfl⟩,
  ⟨_, Tryd.func59, by kernel_rfl, rfl⟩,
  ⟨_, Tryd.func60, by kernel_rfl, rfl⟩,
  ⟨_, Tryd.func61, by kernel_rfl, rfl⟩,
  ⟨_, Tryd.func62, by kernel_rfl, rfl⟩,
  ⟨_, Tryd.func63, by kernel_rfl, rfl⟩,
  ⟨_, Tryd.func64, by kernel_rfl, rfl⟩,
  ⟨_, Tryd.func66, by kernel_rfl, rfl⟩,
  ⟨_, Tryd.func68, by kernel_rfl, rfl⟩,
  ⟨_, Tryd.func69, by kernel_rfl, rfl⟩,
  ⟨_, Tryd.func70, by kernel_rfl, rfl⟩,
  ⟨_, Tryd.func71, by kernel_rfl, rfl⟩,
  ⟨_, Tryd.func72, by kernel_rfl, rfl⟩,
  ⟨_, Tryd.func73, by kernel_rfl, rfl⟩,
  ⟨_, Tryd.func74, by kernel_rfl, rfl⟩,
  ⟨_, Tryd.func75, by kernel_rfl, rfl⟩,
  ⟨_, Tryd.func76, by kernel_rfl, rfl⟩,
  ⟨_, Tryd.func77, by kernel_rfl, rfl⟩,
  ⟨_, Tryd.func78, by kernel_rfl, rfl⟩,
  ⟨_, Tryd.func79, by kernel_rfl, rfl⟩,
  ⟨_, Tryd.func80, by kernel_rfl, rfl⟩,
  ⟨_, Tryd.func81, by kernel_rfl, rfl⟩,
  ⟨_, Tryd.func82, by kernel_rfl, rfl⟩,
  ⟨_, Tryd.func83, by kernel_rfl, rfl⟩,
  ⟨_, Tryd.func84, by kernel_rfl, rfl⟩,
  ⟨_, Tryd.func85, by kernel_rfl, rfl⟩,
  ⟨_, Tryd.func86, by kernel_rfl, rfl⟩,
  ⟨_, Tryd.func87, by kernel_rfl, rfl⟩,
  ⟨_, Tryd.func88, by kernel_rfl, rfl⟩,
  ⟨_, Tryd.func89, by kernel_rfl, rfl⟩,
  ⟨_, Tryd.func90, by kernel_rfl, rfl⟩,
  ⟨_, Tryd.func91, by kernel_rfl, rfl⟩,
  ⟨_, Tryd.func92, by kernel_rfl, rfl⟩,
  ⟨_, Tryd.func93, by kernel_rfl, rfl⟩,
  ⟨_, Tryd.func94, by kernel_rfl, rfl⟩,
  ⟨_, Tryd.func95, by kernel_rfl, rfl⟩,
  ⟨_, Tryd.func96, by kernel_rfl, rfl⟩,
  ⟨_, Tryd.func118, by kernel_rfl, rfl⟩, trivial⟩

/-! The functions by name. -/
abbrev fn_draw_Anew : FuncId := 38
abbrev fn_draw_Turn : FuncId := 36
abbrev fn_draw_pen_cell : FuncId := 59
abbrev fn_draw_pen_ink : FuncId := 76
abbrev fn_draw_pen_move : FuncId := 60
abbrev fn_draw_pen_write : FuncId := 75
abbrev fn_fenestratop_TopRuns : FuncId := 3
abbrev fn_fenestratop_TopShown : FuncId := 4
abbrev fn_fenestratop_TopShown_c1 : FuncId := 10
abbrev fn_fenestratop_alive : FuncId := 5
abbrev fn_fenestratop_play : FuncId := 9
abbrev fn_fenestratop_sameCells : FuncId := 26
abbrev fn_fenestratop_shown : FuncId := 12
abbrev fn_fenestratop_terminal_get : FuncId := 23
abbrev fn_grid_All : FuncId := 19
abbrev fn_grid_At : FuncId := 58
abbrev fn_grid_Do : FuncId := 35
abbrev fn_grid_Good : FuncId := 43
abbrev fn_grid_GoodCell : FuncId := 64
abbrev fn_grid_Good_c1 : FuncId := 63
abbrev fn_grid_New : FuncId := 22
abbrev fn_grid_Resize : FuncId := 28
abbrev fn_grid_command : FuncId := 56
abbrev fn_grid_control : FuncId := 55
abbrev fn_grid_down : FuncId := 72
abbrev fn_grid_erase : FuncId := 71
abbrev fn_grid_feed : FuncId := 69
abbrev fn_grid_ink : FuncId := 74
abbrev fn_grid_number : FuncId := 70
abbrev fn_grid_picture : FuncId := 57
abbrev fn_grid_row : FuncId := 44
abbrev fn_grid_show : FuncId := 54
abbrev fn_grid_up : FuncId := 73
abbrev fn_grid_wipe : FuncId := 81
abbrev fn_internal_strconv_FormatInt : FuncId := 85
abbrev fn_internal_strconv_Itoa : FuncId := 82
abbrev fn_internal_strconv_small : FuncId := 86
abbrev fn_paint_Cell : FuncId := 40
abbrev fn_paint_Screen : FuncId := 24
abbrev fn_paint_Status : FuncId := 39
abbrev fn_paint_sign : FuncId := 61
abbrev fn_parse_Feed : FuncId := 18
abbrev fn_parse_Good : FuncId := 32
abbrev fn_parse_command : FuncId := 52
abbrev fn_parse_step : FuncId := 34
abbrev fn_server_New : FuncId := 7
abbrev fn_server_Run : FuncId := 6
abbrev fn_server_Server_Client : FuncId := 11
abbrev fn_server_Server_Do : FuncId := 8
abbrev fn_server_Server_Do_c1 : FuncId := 14
abbrev fn_server_Server_View : FuncId := 25
abbrev fn_server_Server_fit : FuncId := 13
abbrev fn_server_Server_kill : FuncId := 16
abbrev fn_server_Server_show : FuncId := 20
abbrev fn_server_Server_show_c1 : FuncId := 37
abbrev fn_server_Server_split : FuncId := 15
abbrev fn_server_Server_visit : FuncId := 21
abbrev fn_slices_Clone_api_Cell_api_Cell : FuncId := 53
abbrev fn_slices_Clone_int_int : FuncId := 33
abbrev fn_slices_ContainsFunc_api_Cell_api_Cell : FuncId := 62
abbrev fn_slices_DeleteL_int_int : FuncId := 50
abbrev fn_slices_Delete_int_int : FuncId := 49
abbrev fn_slices_IndexFunc_api_Cell_api_Cell : FuncId := 78
abbrev fn_slices_Index_int_int : FuncId := 51
abbrev fn_slices_InsertL_int_int : FuncId := 47
abbrev fn_slices_Insert_int_int : FuncId := 48
abbrev fn_slices_overlapsL_int : FuncId := 65
abbrev fn_slices_overlaps_int : FuncId := 67
abbrev fn_strconv_Itoa : FuncId := 77
abbrev fn_tiles_Good : FuncId := 41
abbrev fn_tiles_Has : FuncId := 17
abbrev fn_tiles_Kill : FuncId := 30
abbrev fn_tiles_Share : FuncId := 42
abbrev fn_tiles_Split : FuncId := 29
abbrev fn_tiles_Where : FuncId := 27
abbrev fn_tiles_find : FuncId := 31
abbrev fn_tiles_own : FuncId := 46
abbrev fn_tiles_pane : FuncId := 45

/-! The types by name. -/
abbrev ty_int : TypeId := 3
abbrev ty_bool : TypeId := 4
abbrev ty_u8 : TypeId := 5
abbrev ty_sl_api_Act : TypeId := 22
abbrev ty_api_Act : TypeId := 34
abbrev ty_sl_int : TypeId := 42
abbrev ty_api_Grid : TypeId := 47
abbrev ty_sl_sl_int : TypeId := 52
abbrev ty_api_Event : TypeId := 92
abbrev ty_api_Cell : TypeId := 101
abbrev ty_draw_pen : TypeId := 124
def eqs : List Nat := [31, 34, 81, 101]

theorem eqsOk : EqsOk Tryd.prog eqs := ⟨⟨Tryd.stoodInHeld31, Tryd.eqGuardType31⟩, ⟨Tryd.stoodInHeld34, Tryd.eqGuardType34⟩, ⟨Tryd.stoodInHeld81, Tryd.eqGuardType81⟩, ⟨Tryd.stoodInHeld101, Tryd.eqGuardType101⟩, trivial⟩

theorem ctxOk (real wraps opqs : List Nat) (loops cuts : List (Nat × LShape)) : CtxOk ⟨Tryd.prog, tab, real, wraps, opqs, fns, loops, cuts⟩ := ctxOk_of tabOk (by kernel_rfl) fnsOk eqsOk (by kernel_rfl)

end Go.Proofs.YtkmmphkjmamckabDoor
