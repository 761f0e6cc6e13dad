/-
  The table of types and the functions that may be called, of this seat. Printed by a program of ours (vcgen.py).
-/
import Derived.Test.YtkmmphkjmamckadDoorZB
import Derived.Test.YtkmmphkjmamckadDoorProg
namespace Go.Proofs.YtkmmphkjmamckadDoor
open Go

def tab : List TI := [
  ⟨.tuple [], 1, 0, []⟩,
  ⟨.other, 0, 0, []⟩,
  ⟨.other, 0, 0, []⟩,
  ⟨.cell (.int .i64), 1, 8, [.int .i64 0]⟩,
  ⟨.cell .bool, 1, 1, [.bool false]⟩,
  ⟨.cell (.int .u8), 1, 1, [.int .u8 0]⟩,
  ⟨.other, 0, 0, []⟩,
  ⟨.other, 0, 0, []⟩,
  ⟨.other, 0, 0, []⟩,
  ⟨.cell .str, 1, 16, [.string (ByteArray.mk #[])]⟩,
  ⟨.other, 0, 0, []⟩,
  ⟨.other, 0, 0, []⟩,
  ⟨.other, 0, 0, []⟩,
  ⟨.other, 0, 0, []⟩,
  ⟨.other, 0, 0, []⟩,
  ⟨.other, 0, 0, []⟩,
  ⟨.other, 0, 0, []⟩,
  ⟨.other, 0, 0, []⟩,
  ⟨.other, 0, 0, []⟩,
  ⟨.other, 0, 0, []⟩,
  ⟨.other, 0, 0, []⟩,
  ⟨.other, 0, 0, []⟩,
  ⟨.slice 29, 1, 24, [.slice none 0 0]⟩,
  ⟨.ptr 58, 1, 8, [.pointer none]⟩,
  ⟨.other, 0, 0, []⟩,
  ⟨.ptr 62, 1, 8, [.pointer none]⟩,
  ⟨.tuple [23, 25, 4], 1, 0, []⟩,
  ⟨.other, 0, 0, []⟩,
  ⟨.other, 0, 0, []⟩,
  ⟨.struct [(0, 3), (1, 3), (2, 3), (3, 3), (4, 9)], 5, 48, [.int .i64 0, .int .i64 0, .int .i64 0, .int .i64 0, .string (ByteArray.mk #[])]⟩,
  ⟨.cell (.int .i64), 1, 8, [.int .i64 0]⟩,
  ⟨.other, 0, 0, []⟩,
  ⟨.struct [(0, 30), (1, 3), (2, 9)], 3, 32, [.int .i64 0, .int .i64 0, .string (ByteArray.mk #[])]⟩,
  ⟨.other, 0, 0, []⟩,
  ⟨.other, 0, 0, []⟩,
  ⟨.slice 47, 1, 24, [.slice none 0 0]⟩,
  ⟨.other, 0, 0, []⟩,
  ⟨.struct [(0, 35)], 1, 24, [.slice none 0 0]⟩,
  ⟨.slice 46, 1, 24, [.slice none 0 0]⟩,
  ⟨.other, 0, 0, []⟩,
  ⟨.struct [(0, 3), (1, 3), (2, 38), (3, 3), (4, 3), (5, 3), (6, 4), (7, 3), (8, 3)], 9, 88, [.int .i64 0, .int .i64 0, .slice none 0 0, .int .i64 0, .int .i64 0, .int .i64 0, .bool false, .int .i64 0, .int .i64 0]⟩,
  ⟨.array 6 40, 54, 528, [.int .i64 0, .int .i64 0, .slice none 0 0, .int .i64 0, .int .i64 0, .int .i64 0, .bool false, .int .i64 0, .int .i64 0, .int .i64 0, .int .i64 0, .slice none 0 0, .int .i64 0, .int .i64 0, .int .i64 0, .bool false, .int .i64 0, .int .i64 0, .int .i64 0, .int .i64 0, .slice none 0 0, .int .i64 0, .int .i64 0, .int .i64 0, .bool false, .int .i64 0, .int .i64 0, .int .i64 0, .int .i64 0, .slice none 0 0, .int .i64 0, .int .i64 0, .int .i64 0, .bool false, .int .i64 0, .int .i64 0, .int .i64 0, .int .i64 0, .slice none 0 0, .int .i64 0, .int .i64 0, .int .i64 0, .bool false, .int .i64 0, .int .i64 0, .int .i64 0, .int .i64 0, .slice none 0 0, .int .i64 0, .int .i64 0, .int .i64 0, .bool false, .int .i64 0, .int .i64 0]⟩,
  ⟨.other, 0, 0, []⟩,
  ⟨.struct [(0, 37), (1, 41), (55, 3), (56, 3), (57, 3)], 58, 576, [.slice none 0 0, .int .i64 0, .int .i64 0, .slice none 0 0, .int .i64 0, .int .i64 0, .int .i64 0, .bool false, .int .i64 0, .int .i64 0, .int .i64 0, .int .i64 0, .slice none 0 0, .int .i64 0, .int .i64 0, .int .i64 0, .bool false, .int .i64 0, .int .i64 0, .int .i64 0, .int .i64 0, .slice none 0 0, .int .i64 0, .int .i64 0, .int .i64 0, .bool false, .int .i64 0, .int .i64 0, .int .i64 0, .int .i64 0, .slice none 0 0, .int .i64 0, .int .i64 0, .int .i64 0, .bool false, .int .i64 0, .int .i64 0, .int .i64 0, .int .i64 0, .slice none 0 0, .int .i64 0, .int .i64 0, .int .i64 0, .bool false, .int .i64 0, .int .i64 0, .int .i64 0, .int .i64 0, .slice none 0 0, .int .i64 0, .int .i64 0, .int .i64 0, .bool false, .int .i64 0, .int .i64 0, .int .i64 0, .int .i64 0, .int .i64 0]⟩,
  ⟨.other, 0, 0, []⟩,
  ⟨.other, 0, 0, []⟩,
  ⟨.struct [(0, 3), (1, 3), (2, 3), (3, 4)], 4, 32, [.int .i64 0, .int .i64 0, .int .i64 0, .bool false]⟩,
  ⟨.slice 3, 1, 24, [.slice none 0 0]⟩,
  ⟨.cell .func, 1, 8, [.nilFunc]⟩,
  ⟨.other, 0, 0, []⟩,
  ⟨.other, 0, 0, []⟩,
  ⟨.other, 0, 0, []⟩,
  ⟨.struct [(0, 3), (1, 47), (2, 9), (3, 4)], 4, 56, [.int .i64 0, .slice none 0 0, .string (ByteArray.mk #[]), .bool false]⟩,
  ⟨.array 6 52, 24, 336, [.int .i64 0, .slice none 0 0, .string (ByteArray.mk #[]), .bool false, .int .i64 0, .slice none 0 0, .string (ByteArray.mk #[]), .bool false, .int .i64 0, .slice none 0 0, .string (ByteArray.mk #[]), .bool false, .int .i64 0, .slice none 0 0, .string (ByteArray.mk #[]), .bool false, .int .i64 0, .slice none 0 0, .string (ByteArray.mk #[]), .bool false, .int .i64 0, .slice none 0 0, .string (ByteArray.mk #[]), .bool false]⟩,
  ⟨.other, 0, 0, []⟩,
  ⟨.struct [(0, 4), (1, 40), (10, 9), (11, 4)], 12, 120, [.bool false, .int .i64 0, .int .i64 0, .slice none 0 0, .int .i64 0, .int .i64 0, .int .i64 0, .bool false, .int .i64 0, .int .i64 0, .string (ByteArray.mk #[]), .bool false]⟩,
  ⟨.array 3 55, 36, 360, [.bool false, .int .i64 0, .int .i64 0, .slice none 0 0, .int .i64 0, .int .i64 0, .int .i64 0, .bool false, .int .i64 0, .int .i64 0, .string (ByteArray.mk #[]), .bool false, .bool false, .int .i64 0, .int .i64 0, .slice none 0 0, .int .i64 0, .int .i64 0, .int .i64 0, .bool false, .int .i64 0, .int .i64 0, .string (ByteArray.mk #[]), .bool false, .bool false, .int .i64 0, .int .i64 0, .slice none 0 0, .int .i64 0, .int .i64 0, .int .i64 0, .bool false, .int .i64 0, .int .i64 0, .string (ByteArray.mk #[]), .bool false]⟩,
  ⟨.other, 0, 0, []⟩,
  ⟨.struct [(0, 43), (58, 53), (82, 56), (118, 3)], 119, 1280, [.slice none 0 0, .int .i64 0, .int .i64 0, .slice none 0 0, .int .i64 0, .int .i64 0, .int .i64 0, .bool false, .int .i64 0, .int .i64 0, .int .i64 0, .int .i64 0, .slice none 0 0, .int .i64 0, .int .i64 0, .int .i64 0, .bool false, .int .i64 0, .int .i64 0, .int .i64 0, .int .i64 0, .slice none 0 0, .int .i64 0, .int .i64 0, .int .i64 0, .bool false, .int .i64 0, .int .i64 0, .int .i64 0, .int .i64 0, .slice none 0 0, .int .i64 0, .int .i64 0, .int .i64 0, .bool false, .int .i64 0, .int .i64 0, .int .i64 0, .int .i64 0, .slice none 0 0, .int .i64 0, .int .i64 0, .int .i64 0, .bool false, .int .i64 0, .int .i64 0, .int .i64 0, .int .i64 0, .slice none 0 0, .int .i64 0, .int .i64 0, .int .i64 0, .bool false, .int .i64 0, .int .i64 0, .int .i64 0, .int .i64 0, .int .i64 0, .int .i64 0, .slice none 0 0, .string (ByteArray.mk #[]), .bool false, .int .i64 0, .slice none 0 0, .string (ByteArray.mk #[]), .bool false, .int .i64 0, .slice none 0 0, .string (ByteArray.mk #[]), .bool false, .int .i64 0, .slice none 0 0, .string (ByteArray.mk #[]), .bool false, .int .i64 0, .slice none 0 0, .string (ByteArray.mk #[]), .bool false, .int .i64 0, .slice none 0 0, .string (ByteArray.mk #[]), .bool false, .bool false, .int .i64 0, .int .i64 0, .slice none 0 0, .int .i64 0, .int .i64 0, .int .i64 0, .bool false, .int .i64 0, .int .i64 0, .string (ByteArray.mk #[]), .bool false, .bool false, .int .i64 0, .int .i64 0, .slice none 0 0, .int .i64 0, .int .i64 0, .int .i64 0, .bool false, .int .i64 0, .int .i64 0, .string (ByteArray.mk #[]), .bool false, .bool false, .int .i64 0, .int .i64 0, .slice none 0 0, .int .i64 0, .int .i64 0, .int .i64 0, .bool false, .int .i64 0, .int .i64 0, .string (ByteArray.mk #[]), .bool false, .int .i64 0]⟩,
  ⟨.other, 0, 0, []⟩,
  ⟨.other, 0, 0, []⟩,
  ⟨.struct [(0, 52), (4, 40)], 13, 144, [.int .i64 0, .slice none 0 0, .string (ByteArray.mk #[]), .bool false, .int .i64 0, .int .i64 0, .slice none 0 0, .int .i64 0, .int .i64 0, .int .i64 0, .bool false, .int .i64 0, .int .i64 0]⟩,
  ⟨.array 3 61, 39, 432, [.int .i64 0, .slice none 0 0, .string (ByteArray.mk #[]), .bool false, .int .i64 0, .int .i64 0, .slice none 0 0, .int .i64 0, .int .i64 0, .int .i64 0, .bool false, .int .i64 0, .int .i64 0, .int .i64 0, .slice none 0 0, .string (ByteArray.mk #[]), .bool false, .int .i64 0, .int .i64 0, .slice none 0 0, .int .i64 0, .int .i64 0, .int .i64 0, .bool false, .int .i64 0, .int .i64 0, .int .i64 0, .slice none 0 0, .string (ByteArray.mk #[]), .bool false, .int .i64 0, .int .i64 0, .slice none 0 0, .int .i64 0, .int .i64 0, .int .i64 0, .bool false, .int .i64 0, .int .i64 0]⟩,
  ⟨.other, 0, 0, []⟩,
  ⟨.other, 0, 0, []⟩,
  ⟨.cell .func, 1, 8, [.nilFunc]⟩,
  ⟨.other, 0, 0, []⟩,
  ⟨.other, 0, 0, []⟩,
  ⟨.slice 91, 1, 24, [.slice none 0 0]⟩,
  ⟨.tuple [52, 68, 30], 1, 0, []⟩,
  ⟨.other, 0, 0, []⟩,
  ⟨.tuple [40, 30], 1, 0, []⟩,
  ⟨.other, 0, 0, []⟩,
  ⟨.other, 0, 0, []⟩,
  ⟨.ptr 55, 1, 8, [.pointer none]⟩,
  ⟨.tuple [9, 4, 4], 1, 0, []⟩,
  ⟨.other, 0, 0, []⟩,
  ⟨.other, 0, 0, []⟩,
  ⟨.other, 0, 0, []⟩,
  ⟨.struct [(0, 3), (1, 3), (2, 3), (3, 3)], 4, 32, [.int .i64 0, .int .i64 0, .int .i64 0, .int .i64 0]⟩,
  ⟨.other, 0, 0, []⟩,
  ⟨.other, 0, 0, []⟩,
  ⟨.ptr 61, 1, 8, [.pointer none]⟩,
  ⟨.tuple [37, 30], 1, 0, []⟩,
  ⟨.other, 0, 0, []⟩,
  ⟨.other, 0, 0, []⟩,
  ⟨.tuple [3, 3, 4], 1, 0, []⟩,
  ⟨.other, 0, 0, []⟩,
  ⟨.other, 0, 0, []⟩,
  ⟨.other, 0, 0, []⟩,
  ⟨.other, 0, 0, []⟩,
  ⟨.struct [(0, 3), (1, 3), (2, 47), (3, 9)], 4, 56, [.int .i64 0, .int .i64 0, .slice none 0 0, .string (ByteArray.mk #[])]⟩,
  ⟨.tuple [52, 91], 1, 0, []⟩,
  ⟨.other, 0, 0, []⟩,
  ⟨.other, 0, 0, []⟩,
  ⟨.other, 0, 0, []⟩,
  ⟨.cell .func, 1, 8, [.nilFunc]⟩,
  ⟨.tuple [9, 40, 30], 1, 0, []⟩,
  ⟨.other, 0, 0, []⟩,
  ⟨.other, 0, 0, []⟩,
  ⟨.other, 0, 0, []⟩,
  ⟨.other, 0, 0, []⟩,
  ⟨.tuple [3, 3], 1, 0, []⟩,
  ⟨.other, 0, 0, []⟩,
  ⟨.other, 0, 0, []⟩,
  ⟨.other, 0, 0, []⟩,
  ⟨.ptr 40, 1, 8, [.pointer none]⟩,
  ⟨.other, 0, 0, []⟩,
  ⟨.other, 0, 0, []⟩,
  ⟨.other, 0, 0, []⟩,
  ⟨.other, 0, 0, []⟩,
  ⟨.other, 0, 0, []⟩,
  ⟨.other, 0, 0, []⟩,
  ⟨.other, 0, 0, []⟩,
  ⟨.slice 5, 1, 24, [.slice none 0 0]⟩,
  ⟨.other, 0, 0, []⟩,
  ⟨.other, 0, 0, []⟩,
  ⟨.other, 0, 0, []⟩,
  ⟨.other, 0, 0, []⟩,
  ⟨.other, 0, 0, []⟩,
  ⟨.other, 0, 0, []⟩,
  ⟨.ptr 123, 1, 8, [.pointer none]⟩,
  ⟨.other, 0, 0, []⟩,
  ⟨.struct [(0, 40), (9, 114)], 10, 112, [.int .i64 0, .int .i64 0, .slice none 0 0, .int .i64 0, .int .i64 0, .int .i64 0, .bool false, .int .i64 0, .int .i64 0, .slice none 0 0]⟩,
  ⟨.other, 0, 0, []⟩,
  ⟨.other, 0, 0, []⟩,
  ⟨.other, 0, 0, []⟩,
  ⟨.array 6 4, 6, 6, [.bool false, .bool false, .bool false, .bool false, .bool false, .bool false]⟩,
  ⟨.other, 0, 0, []⟩,
  ⟨.cell .func, 1, 8, [.nilFunc]⟩]

def fns : List Nat := [2, 3, 4, 5, 6, 7, 8, 9, 10, 11, 12, 13, 14, 15, 16, 17, 18, 19, 20, 21, 22, 23, 24, 25, 26, 27, 28, 29, 30, 31, 32, 33, 34, 35, 36, 37, 38, 39, 40, 41, 42, 43, 44, 45, 46, 47, 48, 49, 50, 51, 52, 53, 54, 55, 56, 57, 58, 59, 60, 61, 62, 63, 64, 65, 66, 68, 70, 71, 72, 73, 74, 75, 76, 77, 78, 79, 80, 81, 82, 83, 84, 85, 86, 87, 88, 89, 90, 91, 92, 93, 94, 95, 96, 97, 98, 99, 121]

set_option maxRecDepth 100000 in
theorem tabOk : TabOk Tryd.prog 0 tab := ⟨
  ⟨⟨_, Tryd.type0, rfl, rfl⟩, trivial, trivial, ⟨_, Tryd.underlying0, ⟨_, rfl⟩⟩⟩,
  trivial,
  trivial,
  ⟨⟨_, Tryd.type3, rfl, rfl⟩, ⟨_, _, Tryd.type3, rfl, rfl⟩, rfl, ⟨_, Tryd.underlying3, rfl⟩⟩,
  ⟨⟨_, Tryd.type4, rfl, rfl⟩, ⟨_, _, Tryd.type4, rfl, rfl⟩, rfl, ⟨_, Tryd.underlying4, rfl⟩⟩,
  ⟨⟨_, Tryd.type5, rfl, rfl⟩, ⟨_, _, Tryd.type5, rfl, rfl⟩, rfl, ⟨_, Tryd.underlying5, rfl⟩⟩,
  trivial,
  trivial,
  trivial,
  ⟨⟨_, Tryd.type9, rfl, rfl⟩, ⟨_, _, Tryd.type9, rfl, rfl⟩, rfl, ⟨_, Tryd.underlying9, rfl⟩⟩,
  trivial,
  trivial,
  trivial,
  trivial,
  trivial,
  trivial,
  trivial,
  trivial,
  trivial,
  trivial,
  trivial,
  trivial,
  ⟨⟨_, Tryd.type22, rfl, rfl⟩, ⟨_, _, Tryd.type22, rfl, rfl⟩, rfl, ⟨_, Tryd.underlying22, rfl⟩⟩,
  ⟨⟨_, Tryd.type23, rfl, rfl⟩, ⟨_, _, Tryd.type23, rfl, rfl⟩, rfl, ⟨_, Tryd.underlying23, rfl⟩⟩,
  trivial,
  ⟨⟨_, Tryd.type25, rfl, rfl⟩, ⟨_, _, Tryd.type25, rfl, rfl⟩, rfl, ⟨_, Tryd.underlying25, rfl⟩⟩,
  ⟨⟨_, Tryd.type26, rfl, rfl⟩, trivial, trivial, ⟨_, Tryd.underlying26, ⟨_, rfl⟩⟩⟩,
  trivial,
  trivial,
  ⟨⟨_, Tryd.type29, rfl, rfl⟩, ⟨_, _, Tryd.type29, rfl, rfl⟩, rfl, ⟨_, Tryd.underlying29, ⟨_, rfl, rfl, by decide⟩⟩⟩,
  ⟨⟨_, Tryd.type30, rfl, rfl⟩, ⟨_, _, Tryd.type30, rfl, rfl⟩, rfl, ⟨_, Tryd.underlying30, rfl⟩⟩,
  trivial,
  ⟨⟨_, Tryd.type32, rfl, rfl⟩, ⟨_, _, Tryd.type32, rfl, rfl⟩, rfl, ⟨_, Tryd.underlying32, ⟨_, rfl, rfl, by decide⟩⟩⟩,
  trivial,
  trivial,
  ⟨⟨_, Tryd.type35, rfl, rfl⟩, ⟨_, _, Tryd.type35, rfl, rfl⟩, rfl, ⟨_, Tryd.underlying35, rfl⟩⟩,
  trivial,
  ⟨⟨_, Tryd.type37, rfl, rfl⟩, ⟨_, _, Tryd.type37, rfl, rfl⟩, rfl, ⟨_, Tryd.underlying37, ⟨_, rfl, rfl, by decide⟩⟩⟩,
  ⟨⟨_, Tryd.type38, rfl, rfl⟩, ⟨_, _, Tryd.type38, rfl, rfl⟩, rfl, ⟨_, Tryd.underlying38, rfl⟩⟩,
  trivial,
  ⟨⟨_, Tryd.type40, rfl, rfl⟩, ⟨_, _, Tryd.type40, rfl, rfl⟩, rfl, ⟨_, Tryd.underlying40, ⟨_, rfl, rfl, by decide⟩⟩⟩,
  ⟨⟨_, Tryd.type41, rfl, rfl⟩, ⟨_, _, Tryd.type41, rfl, rfl⟩, rfl, ⟨_, Tryd.underlying41, rfl⟩⟩,
  trivial,
  ⟨⟨_, Tryd.type43, rfl, rfl⟩, ⟨_, _, Tryd.type43, rfl, rfl⟩, rfl, ⟨_, Tryd.underlying43, ⟨_, rfl, rfl, by decide⟩⟩⟩,
  trivial,
  trivial,
  ⟨⟨_, Tryd.type46, rfl, rfl⟩, ⟨_, _, Tryd.type46, rfl, rfl⟩, rfl, ⟨_, Tryd.underlying46, ⟨_, rfl, rfl, by decide⟩⟩⟩,
  ⟨⟨_, Tryd.type47, rfl, rfl⟩, ⟨_, _, Tryd.type47, rfl, rfl⟩, rfl, ⟨_, Tryd.underlying47, rfl⟩⟩,
  ⟨⟨_, Tryd.type48, rfl, rfl⟩, ⟨_, _, Tryd.type48, rfl, rfl⟩, rfl, ⟨_, Tryd.underlying48, ⟨_, _, _, rfl⟩⟩⟩,
  trivial,
  trivial,
  trivial,
  ⟨⟨_, Tryd.type52, rfl, rfl⟩, ⟨_, _, Tryd.type52, rfl, rfl⟩, rfl, ⟨_, Tryd.underlying52, ⟨_, rfl, rfl, by decide⟩⟩⟩,
  ⟨⟨_, Tryd.type53, rfl, rfl⟩, ⟨_, _, Tryd.type53, rfl, rfl⟩, rfl, ⟨_, Tryd.underlying53, rfl⟩⟩,
  trivial,
  ⟨⟨_, Tryd.type55, rfl, rfl⟩, ⟨_, _, Tryd.type55, rfl, rfl⟩, rfl, ⟨_, Tryd.underlying55, ⟨_, rfl, rfl, by decide⟩⟩⟩,
  ⟨⟨_, Tryd.type56, rfl, rfl⟩, ⟨_, _, Tryd.type56, rfl, rfl⟩, rfl, ⟨_, Tryd.underlying56, rfl⟩⟩,
  trivial,
  ⟨⟨_, Tryd.type58, rfl, rfl⟩, ⟨_, _, Tryd.type58, rfl, rfl⟩, rfl, ⟨_, Tryd.underlying58, ⟨_, rfl, rfl, by decide⟩⟩⟩,
  trivial,
  trivial,
  ⟨⟨_, Tryd.type61, rfl, rfl⟩, ⟨_, _, Tryd.type61, rfl, rfl⟩, rfl, ⟨_, Tryd.underlying61, ⟨_, rfl, rfl, by decide⟩⟩⟩,
  ⟨⟨_, Tryd.type62, rfl, rfl⟩, ⟨_, _, Tryd.type62, rfl, rfl⟩, rfl, ⟨_, Tryd.underlying62, rfl⟩⟩,
  trivial,
  trivial,
  ⟨⟨_, Tryd.type65, rfl, rfl⟩, ⟨_, _, Tryd.type65, rfl, rfl⟩, rfl, ⟨_, Tryd.underlying65, ⟨_, _, _, rfl⟩⟩⟩,
  trivial,
  trivial,
  ⟨⟨_, Tryd.type68, rfl, rfl⟩, ⟨_, _, Tryd.type68, rfl, rfl⟩, rfl, ⟨_, Tryd.underlying68, rfl⟩⟩,
  ⟨⟨_, Tryd.type69, rfl, rfl⟩, trivial, trivial, ⟨_, Tryd.underlying69, ⟨_, rfl⟩⟩⟩,
  trivial,
  ⟨⟨_, Tryd.type71, rfl, rfl⟩, trivial, trivial, ⟨_, Tryd.underlying71, ⟨_, rfl⟩⟩⟩,
  trivial,
  trivial,
  ⟨⟨_, Tryd.type74, rfl, rfl⟩, ⟨_, _, Tryd.type74, rfl, rfl⟩, rfl, ⟨_, Tryd.underlying74, rfl⟩⟩,
  ⟨⟨_, Tryd.type75, rfl, rfl⟩, trivial, trivial, ⟨_, Tryd.underlying75, ⟨_, rfl⟩⟩⟩,
  trivial,
  trivial,
  trivial,
  ⟨⟨_, Tryd.type79, rfl, rfl⟩, ⟨_, _, Tryd.type79, rfl, rfl⟩, rfl, ⟨_, Tryd.underlying79, ⟨_, rfl, rfl, by decide⟩⟩⟩,
  trivial,
  trivial,
  ⟨⟨_, Tryd.type82, rfl, rfl⟩, ⟨_, _, Tryd.type82, rfl, rfl⟩, rfl, ⟨_, Tryd.underlying82, rfl⟩⟩,
  ⟨⟨_, Tryd.type83, rfl, rfl⟩, trivial, trivial, ⟨_, Tryd.underlying83, ⟨_, rfl⟩⟩⟩,
  trivial,
  trivial,
  ⟨⟨_, Tryd.type86, rfl, rfl⟩, trivial, trivial, ⟨_, Tryd.underlying86, ⟨_, rfl⟩⟩⟩,
  trivial,
  trivial,
  trivial,
  trivial,
  ⟨⟨_, Tryd.type91, rfl, rfl⟩, ⟨_, _, Tryd.type91, rfl, rfl⟩, rfl, ⟨_, Tryd.underlying91, ⟨_, rfl, rfl, by decide⟩⟩⟩,
  ⟨⟨_, Tryd.type92, rfl, rfl⟩, trivial, trivial, ⟨_, Tryd.underlying92, ⟨_, rfl⟩⟩⟩,
  trivial,
  trivial,
  trivial,
  ⟨⟨_, Tryd.type96, rfl, rfl⟩, ⟨_, _, Tryd.type96, rfl, rfl⟩, rfl, ⟨_, Tryd.underlying96, ⟨_, _, _, rfl⟩⟩⟩,
  ⟨⟨_, Tryd.type97, rfl, rfl⟩, trivial, trivial, ⟨_, Tryd.underlying97, ⟨_, rfl⟩⟩⟩,
  trivial,
  trivial,
  trivial,
  trivial,
  ⟨⟨_, Tryd.type102, rfl, rfl⟩, trivial, trivial, ⟨_, Tryd.underlying102, ⟨_, rfl⟩⟩⟩,
  trivial,
  trivial,
  trivial,
  ⟨⟨_, Tryd.type106, rfl, rfl⟩, ⟨_, _, Tryd.type106, rfl, rfl⟩, rfl, ⟨_, Tryd.underlying106, rfl⟩⟩,
  trivial,
  trivial,
  trivial,
  trivial,
  trivial,
  trivial,
  trivial,
  ⟨⟨_, Tryd.type114, rfl, rfl⟩, ⟨_, _, Tryd.type114, rfl, rfl⟩, rfl, ⟨_, Tryd.underlying114, rfl⟩⟩,
  trivial,
  trivial,
  trivial,
  trivial,
  trivial,
  trivial,
  ⟨⟨_, Tryd.type121, rfl, rfl⟩, ⟨_, _, Tryd.type121, rfl, rfl⟩, rfl, ⟨_, Tryd.underlying121, rfl⟩⟩,
  trivial,
  ⟨⟨_, Tryd.type123, rfl, rfl⟩, ⟨_, _, Tryd.type123, rfl, rfl⟩, rfl, ⟨_, Tryd.underlying123, ⟨_, rfl, rfl, by decide⟩⟩⟩,
  trivial,
  trivial,
  trivial,
  ⟨⟨_, Tryd.type127, rfl, rfl⟩, ⟨_, _, Tryd.type127, rfl, rfl⟩, rfl, ⟨_, Tryd.underlying127, rfl⟩⟩,
  trivial,
  ⟨⟨_, Tryd.type129, rfl, rfl⟩, ⟨_, _, Tryd.type129, rfl, rfl⟩, rfl, ⟨_, Tryd.underlying129, ⟨_, _, _, rfl⟩⟩⟩,
  trivial⟩

set_option maxRecDepth 100000 in
theorem fnsOk : FnsOk Tryd.prog fns := ⟨
  ⟨_, Tryd.func2, by kernel_rfl, rfl⟩,
  ⟨_, Tryd.func3, by kernel_rfl, rfl⟩,
  ⟨_, Tryd.func4, by kernel_rfl, rfl⟩,
  ⟨_, Tryd.func5, by kernel_rfl, rfl⟩,
  ⟨_, Tryd.func6, by kernel_rfl, rfl⟩,
  ⟨_, Tryd.func7, by kernel_rfl, rfl⟩,
  ⟨_, Tryd.func8, by kernel_rfl, rfl⟩,
  ⟨_, Tryd.func9, by kernel_rfl, rfl⟩,
  ⟨_, Tryd.func10, by kernel_rfl, rfl⟩,
  ⟨_, Tryd.func11, by kernel_rfl, rfl⟩,
  ⟨_, Tryd.func12, by kernel_rfl, rfl⟩,
  ⟨_, Tryd.func13, by kernel_rfl, rfl⟩,
  ⟨_, Tryd.func14, by kernel_rfl, rfl⟩,
  ⟨_, Tryd.func15, by kernel_rfl, rfl⟩,
  ⟨_, Tryd.func16, by kernel_rfl, rfl⟩,
  ⟨_, Tryd.func17, by kernel_rfl, rfl⟩,
  ⟨_, Tryd.func18, by kernel_rfl, rfl⟩,
  ⟨_, Tryd.func19, by kernel_rfl, rfl⟩,
  ⟨_, Tryd.func20, by kernel_rfl, rfl⟩,
  ⟨_, Tryd.func21, by kernel_rfl, rfl⟩,
  ⟨_, Tryd.func22, by kernel_rfl, rfl⟩,
  ⟨_, Tryd.func23, by kernel_rfl, rfl⟩,
  ⟨_, Tryd.func24, by kernel_rfl, rfl⟩,
  ⟨_, Tryd.func25, by kernel_rfl, rfl⟩,
  ⟨_, Tryd.func26, by kernel_rfl, rfl⟩,
  ⟨_, Tryd.func27, by kernel_rfl, rfl⟩,
  ⟨_, Tryd.func28, by kernel_rfl, rfl⟩,
  ⟨_, Tryd.func29, by kernel_rfl, rfl⟩,
  ⟨_, Tryd.func30, by kernel_rfl, rfl⟩,
  ⟨_, Tryd.func31, by kernel_rfl, rfl⟩,
  ⟨_, Tryd.func32, by kernel_rfl, rfl⟩,
  ⟨_, Tryd.func33, by kernel_rfl, rfl⟩,
  ⟨_, Tryd.func34, by kernel_rfl, rfl⟩,
  ⟨_, Tryd.func35, by kernel_rfl, rfl⟩,
  ⟨_, Tryd.func36, by kernel_rfl, rfl⟩,
  ⟨_, Tryd.func37, by kernel_rfl, rfl⟩,
  ⟨_, Tryd.func38, by kernel_rfl, rfl⟩,
  ⟨_, Tryd.func39, by kernel_rfl, rfl⟩,
  ⟨_, Tryd.func40, by kernel_rfl, rfl⟩,
  ⟨_, Tryd.func41, by kernel_rfl, rfl⟩,
  ⟨_, Tryd.func42, by kernel_rfl, rfl⟩,
  ⟨_, Tryd.func43, by kernel_rfl, rfl⟩,
  ⟨_, Tryd.func44, by kernel_rfl, rfl⟩,
  ⟨_, Tryd.func45, by kernel_rfl, rfl⟩,
  ⟨_, Tryd.func46, by kernel_rfl, rfl⟩,
  ⟨_, Tryd.func47, by kernel_rfl, rfl⟩,
  ⟨_, Tryd.func48, by kernel_rfl, rfl⟩,
  ⟨_, Tryd.func49, by kernel_rfl, rfl⟩,
  ⟨_, Tryd.func50, by kernel_rfl, rfl⟩,
  ⟨_, Tryd.func51, by kernel_rfl, rfl⟩,
  ⟨_, Tryd.func52, by kernel_rfl, rfl⟩,
  ⟨_, Tryd.func53, by kernel_rfl, rfl⟩,
  ⟨_, Tryd.func54, by kernel_rfl, rfl⟩,
  ⟨_, Tryd.func55, by kernel_rfl, rfl⟩,
  ⟨_, Tryd.func56, by kernel_rfl, rfl⟩,
  ⟨_, Tryd.func57, by kernel_rfl, rfl⟩,
  ⟨_, Tryd.func58, by kernel_rfl, rfl⟩,
  ⟨_, Tryd.func59, by kernel_rfl, rfl⟩,
  ⟨_, Tryd.func60, by kernel_rfl, rfl⟩,
  ⟨_, Tryd.func61, by kernel_rfl, rfl⟩,
  ⟨_, Tryd.func62, by kernel_rfl, rfl⟩,
  ⟨_, Tryd.func63, by kernel_rfl, rfl⟩,
  ⟨_, Tryd.func64, by kernel_rfl, rfl⟩,
  ⟨_, Tryd.func65, by kernel_rfl, rfl⟩,
  ⟨_, Tryd.func66, by kernel_rfl, rfl⟩,
  ⟨_, Tryd.func68, by kernel_rfl, rfl⟩,
  ⟨_, Tryd.func70, by kernel_rfl, rfl⟩,
  ⟨_, Tryd.func71, by kernel_rfl, rfl⟩,
  ⟨_, Tryd.func72, by kernel_rfl, rfl⟩,
  ⟨_, Tryd.func73, by kernel_rfl, rfl⟩,
  ⟨_, Tryd.func74, by kernel_rfl, rfl⟩,
  ⟨_, Tryd.func75, by kernel_rfl, rfl⟩,
  ⟨_, Tryd.func76, by kernel_rfl, rfl⟩,
  ⟨_, Tryd.func77, by kernel_rfl, rfl⟩,
  ⟨_, Tryd.func78, by kernel_rfl, rfl⟩,
  ⟨_, Tryd.func79, by kernel_rfl, rfl⟩,
  ⟨_, Tryd.func80, by kernel_rfl, rfl⟩,
  ⟨_, Tryd.func81, by kernel_rfl, rfl⟩,
  ⟨_, Tryd.func82, by kernel_rfl, rfl⟩,
  ⟨_, Tryd.func83, by kernel_rfl, rfl⟩,
  ⟨_, Tryd.func84, by kernel_rfl, rfl⟩,
  ⟨_, Tryd.func85, by kernel_rfl, rfl⟩,
  ⟨_, Tryd.func86, by kernel_rfl, rfl⟩,
  ⟨_, Tryd.func87, by kernel_rfl, rfl⟩,
  ⟨_, Tryd.func88, by kernel_rfl, rfl⟩,
  ⟨_, Tryd.func89, by kernel_rfl, rfl⟩,
  ⟨_, Tryd.func90, by kernel_rfl, rfl⟩,
  ⟨_, Tryd.func91, by kernel_rfl, rfl⟩,
  ⟨_, Tryd.func92, by kernel_rfl, rfl⟩,
  ⟨_, Tryd.func93, by kernel_rfl, rfl⟩,
  ⟨_, Tryd.func94, by kernel_rfl, rfl⟩,
  ⟨_, Tryd.func95, by kernel_rfl, rfl⟩,
  ⟨_, Tryd.func96, by kernel_rfl, rfl⟩,
  ⟨_, Tryd.func97, by kernel_rfl, rfl⟩,
  ⟨_, Tryd.func98, by kernel_rfl, rfl⟩,
  ⟨_, Tryd.func99, by kernel_rfl, rfl⟩,
  ⟨_, Tryd.func121, by kernel_rfl, rfl⟩, trivial⟩

/-! The functions by name. -/
abbrev fn_draw_Anew : FuncId := 38
abbrev fn_draw_Turn : FuncId := 36
abbrev fn_draw_pen_cell : FuncId := 61
abbrev fn_draw_pen_ink : FuncId := 79
abbrev fn_draw_pen_move : FuncId := 62
abbrev fn_draw_pen_write : FuncId := 78
abbrev fn_fenestratop_TopMemory : FuncId := 3
abbrev fn_fenestratop_TopMemory_c1 : FuncId := 7
abbrev fn_fenestratop_alive : FuncId := 13
abbrev fn_fenestratop_play : FuncId := 6
abbrev fn_fenestratop_same : FuncId := 9
abbrev fn_fenestratop_sameCells : FuncId := 63
abbrev fn_fenestratop_sameGrid : FuncId := 40
abbrev fn_fenestratop_sameNumbers : FuncId := 39
abbrev fn_fenestratop_sameView : FuncId := 25
abbrev fn_fenestratop_terminal_get : FuncId := 15
abbrev fn_grid_All : FuncId := 21
abbrev fn_grid_At : FuncId := 60
abbrev fn_grid_Do : FuncId := 34
abbrev fn_grid_Good : FuncId := 43
abbrev fn_grid_GoodCell : FuncId := 66
abbrev fn_grid_Good_c1 : FuncId := 65
abbrev fn_grid_New : FuncId := 14
abbrev fn_grid_Resize : FuncId := 27
abbrev fn_grid_command : FuncId := 56
abbrev fn_grid_control : FuncId := 55
abbrev fn_grid_down : FuncId := 74
abbrev fn_grid_erase : FuncId := 73
abbrev fn_grid_feed : FuncId := 71
abbrev fn_grid_ink : FuncId := 76
abbrev fn_grid_number : FuncId := 72
abbrev fn_grid_picture : FuncId := 57
abbrev fn_grid_row : FuncId := 44
abbrev fn_grid_show : FuncId := 54
abbrev fn_grid_up : FuncId := 75
abbrev fn_grid_wipe : FuncId := 84
abbrev fn_internal_strconv_FormatInt : FuncId := 88
abbrev fn_internal_strconv_Itoa : FuncId := 85
abbrev fn_internal_strconv_small : FuncId := 89
abbrev fn_paint_Cell : FuncId := 59
abbrev fn_paint_Screen : FuncId := 35
abbrev fn_paint_Status : FuncId := 58
abbrev fn_paint_sign : FuncId := 77
abbrev fn_parse_Feed : FuncId := 20
abbrev fn_parse_Good : FuncId := 31
abbrev fn_parse_command : FuncId := 52
abbrev fn_parse_step : FuncId := 33
abbrev fn_server_New : FuncId := 5
abbrev fn_server_Server_Client : FuncId := 24
abbrev fn_server_Server_Do : FuncId := 8
abbrev fn_server_Server_Do_c1 : FuncId := 16
abbrev fn_server_Server_View : FuncId := 10
abbrev fn_server_Server_fit : FuncId := 12
abbrev fn_server_Server_kill : FuncId := 18
abbrev fn_server_Server_show : FuncId := 22
abbrev fn_server_Server_show_c1 : FuncId := 37
abbrev fn_server_Server_split : FuncId := 17
abbrev fn_server_Server_visit : FuncId := 23
abbrev fn_slices_Clone_api_Cell_api_Cell : FuncId := 53
abbrev fn_slices_Clone_int_int : FuncId := 32
abbrev fn_slices_ContainsFunc_api_Cell_api_Cell : FuncId := 64
abbrev fn_slices_DeleteL_int_int : FuncId := 50
abbrev fn_slices_Delete_int_int : FuncId := 49
abbrev fn_slices_IndexFunc_api_Cell_api_Cell : FuncId := 81
abbrev fn_slices_Index_int_int : FuncId := 51
abbrev fn_slices_InsertL_int_int : FuncId := 47
abbrev fn_slices_Insert_int_int : FuncId := 48
abbrev fn_slices_overlapsL_int : FuncId := 67
abbrev fn_slices_overlaps_int : FuncId := 69
abbrev fn_strconv_Itoa : FuncId := 80
abbrev fn_tiles_Good : FuncId := 41
abbrev fn_tiles_Has : FuncId := 19
abbrev fn_tiles_Kill : FuncId := 29
abbrev fn_tiles_Share : FuncId := 42
abbrev fn_tiles_Split : FuncId := 28
abbrev fn_tiles_Where : FuncId := 26
abbrev fn_tiles_find : FuncId := 30
abbrev fn_tiles_own : FuncId := 46
abbrev fn_tiles_pane : FuncId := 45

/-! The types by name. -/
abbrev ty_int : TypeId := 3
abbrev ty_bool : TypeId := 4
abbrev ty_u8 : TypeId := 5
abbrev ty_sl_api_Act : TypeId := 22
abbrev ty_api_Act : TypeId := 29
abbrev ty_sl_sl_int : TypeId := 35
abbrev ty_api_Grid : TypeId := 40
abbrev ty_api_Cell : TypeId := 46
abbrev ty_sl_int : TypeId := 47
abbrev ty_api_Event : TypeId := 91
abbrev ty_draw_pen : TypeId := 123
def eqs : List Nat := [29, 32, 46, 79]

theorem eqsOk : EqsOk Tryd.prog eqs := ⟨⟨Tryd.stoodInHeld29, Tryd.eqGuardType29⟩, ⟨Tryd.stoodInHeld32, Tryd.eqGuardType32⟩, ⟨Tryd.stoodInHeld46, Tryd.eqGuardType46⟩, ⟨Tryd.stoodInHeld79, Tryd.eqGuardType79⟩, trivial⟩

theorem ctxOk (real wraps opqs : List Nat) (loops cuts : List (Nat × LShape)) : CtxOk ⟨Tryd.prog, tab, real, wraps, opqs, fns, loops, cuts⟩ := ctxOk_of tabOk (by kernel_rfl) fnsOk eqsOk (by kernel_rfl)

end Go.Proofs.YtkmmphkjmamckadDoor
