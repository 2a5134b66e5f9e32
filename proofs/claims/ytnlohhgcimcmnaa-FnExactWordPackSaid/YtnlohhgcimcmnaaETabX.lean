/- A part of the proof of a law of the given program: the types of the program. No condition of its own. -/
import Derived.Test.YtnlohhgcimcmnaaEG4
import Derived.Test.YtnlohhgcimcmnaaChecked
namespace Go.Proofs.YtnlohhgcimcmnaaE
open Go.Proofs Go.RowKit
set_option maxRecDepth 100000
def tab : Tab
  | 1 => some ⟨1, 8, [.any], .func⟩
  | 2 => some ⟨1, 8, [.int .i64 0], .int .i64⟩
  | 3 => some ⟨1, 8, [.int .i64 0], .int .i64⟩
  | 4 => some ⟨1, 1, [.bool false], .bool⟩
  | 5 => some ⟨1, 1, [.int .u8 0], .int .u8⟩
  | 6 => some ⟨1, 1, [.int .u8 0], .int .u8⟩
  | 8 => some ⟨4, 24, [.int .i64 0, .int .i64 0, .bool false, .int .u8 0], .struct [(2, 0), (3, 1), (4, 2), (6, 3)]⟩
  | 9 => some ⟨1, 16, [.str ByteArray.empty], .str⟩
  | 10 => some ⟨1, 16, [.str ByteArray.empty], .str⟩
  | 11 => some ⟨1, 16, [.str ByteArray.empty], .str⟩
  | 12 => some ⟨1, 8, [.int .u64 0], .int .u64⟩
  | 14 => some ⟨2, 24, [.str ByteArray.empty, .int .u64 0], .struct [(9, 0), (12, 1)]⟩
  | 15 => some ⟨1, 8, [.nilp], .ptr 116⟩
  | 16 => some ⟨1, 8, [.nilp], .ptr 119⟩
  | 17 => some ⟨1, 8, [.nilp], .ptr 128⟩
  | 19 => some ⟨1, 8, [.nilp], .struct [(17, 0)]⟩
  | 22 => some ⟨1, 24, [.nils], .slice 97⟩
  | 23 => some ⟨1, 24, [.nils], .slice 3⟩
  | 25 => some ⟨9, 120, [.int .i64 0, .int .i64 0, .int .i64 0, .nils, .int .i64 0, .int .i64 0, .nils, .nils, .int .i64 0], .struct [(3, 0), (3, 1), (3, 2), (22, 3), (3, 4), (3, 5), (23, 6), (23, 7), (3, 8)]⟩
  | 28 => some ⟨1, 24, [.nils], .slice 66⟩
  | 30 => some ⟨9, 120, [.int .i64 0, .int .i64 0, .int .i64 0, .nils, .int .i64 0, .int .i64 0, .nils, .nils, .int .i64 0], .struct [(3, 0), (3, 1), (3, 2), (28, 3), (3, 4), (3, 5), (23, 6), (23, 7), (3, 8)]⟩
  | 34 => some ⟨1, 24, [.nils], .slice 104⟩
  | 36 => some ⟨6, 56, [.int .i64 0, .int .i64 0, .int .i64 0, .int .i64 0, .int .i64 0, .str ByteArray.empty], .struct [(3, 0), (3, 1), (3, 2), (3, 3), (3, 4), (9, 5)]⟩
  | 38 => some ⟨23, 240, [.int .i64 0, .int .i64 0, .int .i64 0, .int .i64 0, .int .i64 0, .int .i64 0, .int .i64 0, .bool false, .nils, .int .i64 0, .int .i64 0, .int .i64 0, .nils, .int .i64 0, .int .i64 0, .int .i64 0, .nils, .int .i64 0, .int .i64 0, .int .i64 0, .int .i64 0, .int .i64 0, .str ByteArray.empty], .struct [(3, 0), (3, 1), (3, 2), (3, 3), (3, 4), (3, 5), (3, 6), (4, 7), (22, 8), (3, 9), (3, 10), (3, 11), (34, 12), (3, 13), (3, 14), (3, 15), (23, 16), (36, 17)]⟩
  | 41 => some ⟨1, 24, [.nils], .slice 91⟩
  | 42 => some ⟨6, 56, [.int .i64 0, .int .i64 0, .int .i64 0, .int .i64 0, .int .i64 0, .str ByteArray.empty], .struct [(3, 0), (3, 1), (3, 2), (3, 3), (3, 4), (9, 5)]⟩
  | 44 => some ⟨23, 240, [.int .i64 0, .int .i64 0, .int .i64 0, .int .i64 0, .int .i64 0, .int .i64 0, .int .i64 0, .bool false, .nils, .int .i64 0, .int .i64 0, .int .i64 0, .nils, .int .i64 0, .int .i64 0, .int .i64 0, .nils, .int .i64 0, .int .i64 0, .int .i64 0, .int .i64 0, .int .i64 0, .str ByteArray.empty], .struct [(3, 0), (3, 1), (3, 2), (3, 3), (3, 4), (3, 5), (3, 6), (4, 7), (28, 8), (3, 9), (3, 10), (3, 11), (41, 12), (3, 13), (3, 14), (3, 15), (23, 16), (42, 17)]⟩
  | 50 => some ⟨1, 24, [.nils], .slice 42⟩
  | 55 => some ⟨1, 24, [.nils], .slice 5⟩
  | 66 => some ⟨7, 64, [.int .i64 0, .int .i64 0, .int .i64 0, .int .i64 0, .int .i64 0, .int .i64 0, .str ByteArray.empty], .struct [(3, 0), (42, 1)]⟩
  | 70 => some ⟨1, 8, [.any], .func⟩
  | 91 => some ⟨2, 16, [.int .i64 0, .int .i64 0], .struct [(3, 0), (3, 1)]⟩
  | 97 => some ⟨7, 64, [.int .i64 0, .int .i64 0, .int .i64 0, .int .i64 0, .int .i64 0, .int .i64 0, .str ByteArray.empty], .struct [(3, 0), (36, 1)]⟩
  | 101 => some ⟨1, 8, [.nilp], .ptr 30⟩
  | 104 => some ⟨2, 16, [.int .i64 0, .int .i64 0], .struct [(3, 0), (3, 1)]⟩
  | 106 => some ⟨1, 8, [.any], .func⟩
  | 108 => some ⟨1, 8, [.any], .func⟩
  | 112 => some ⟨1, 8, [.int .u64 0], .int .u64⟩
  | 116 => some ⟨4, 40, [.nilp, .nilp, .nilp, .str ByteArray.empty], .struct [(17, 0), (17, 1), (17, 2), (9, 3)]⟩
  | 119 => some ⟨0, 0, [], .struct [(117, 0)]⟩
  | 120 => some ⟨1, 4, [.int .u32 0], .int .u32⟩
  | 121 => some ⟨1, 1, [.int .u8 0], .int .u8⟩
  | 122 => some ⟨1, 1, [.int .u8 0], .int .u8⟩
  | 123 => some ⟨1, 8, [.any], .func⟩
  | 124 => some ⟨1, 8, [.nilp], .ptr 5⟩
  | 125 => some ⟨1, 4, [.int .i32 0], .int .i32⟩
  | 126 => some ⟨1, 4, [.int .i32 0], .int .i32⟩
  | 128 => some ⟨11, 48, [.int .u64 0, .int .u64 0, .int .u32 0, .int .u8 0, .int .u8 0, .int .u8 0, .int .u8 0, .any, .nilp, .int .i32 0, .int .i32 0], .struct [(12, 0), (12, 1), (120, 2), (121, 3), (5, 4), (5, 5), (122, 6), (123, 7), (124, 8), (125, 9), (126, 10)]⟩
  | _ => none
theorem tok1 : TOk1 Try.prog 1 ⟨1, 8, [.any], .func⟩ := ⟨⟨_, _, _, Try.underlying1⟩, rfl, Try.t1, _, by kernel_rfl, rfl, rfl, rfl, fun _ _ => ⟨trivial, trivial⟩⟩
theorem tok2 : TOk1 Try.prog 2 ⟨1, 8, [.int .i64 0], .int .i64⟩ := ⟨Try.underlying2, rfl, Try.t2, _, by kernel_rfl, rfl, rfl, rfl, fun _ _ => ⟨rfl, trivial⟩⟩
theorem tok3 : TOk1 Try.prog 3 ⟨1, 8, [.int .i64 0], .int .i64⟩ := ⟨Try.underlying3, rfl, Try.t3, _, by kernel_rfl, rfl, rfl, rfl, fun _ _ => ⟨rfl, trivial⟩⟩
theorem tok4 : TOk1 Try.prog 4 ⟨1, 1, [.bool false], .bool⟩ := ⟨Try.underlying4, rfl, Try.t4, _, by kernel_rfl, rfl, rfl, rfl, fun _ _ => ⟨rfl, trivial⟩⟩
theorem tok5 : TOk1 Try.prog 5 ⟨1, 1, [.int .u8 0], .int .u8⟩ := ⟨Try.underlying5, rfl, Try.t5, _, by kernel_rfl, rfl, rfl, rfl, fun _ _ => ⟨rfl, trivial⟩⟩
theorem tok6 : TOk1 Try.prog 6 ⟨1, 1, [.int .u8 0], .int .u8⟩ := ⟨Try.underlying6, rfl, Try.t6, _, by kernel_rfl, rfl, rfl, rfl, fun _ _ => ⟨rfl, trivial⟩⟩
theorem tok8 : TOk1 Try.prog 8 ⟨4, 24, [.int .i64 0, .int .i64 0, .bool false, .int .u8 0], .struct [(2, 0), (3, 1), (4, 2), (6, 3)]⟩ := ⟨⟨_, Try.underlying8, rfl⟩, rfl, Try.t8, _, by kernel_rfl, rfl, rfl, rfl, fun _ _ => ⟨rfl, rfl, rfl, rfl, trivial⟩⟩
theorem tok9 : TOk1 Try.prog 9 ⟨1, 16, [.str ByteArray.empty], .str⟩ := ⟨Try.underlying9, rfl, Try.t9, _, by kernel_rfl, rfl, rfl, rfl, fun _ _ => ⟨rfl, trivial⟩⟩
theorem tok10 : TOk1 Try.prog 10 ⟨1, 16, [.str ByteArray.empty], .str⟩ := ⟨Try.underlying10, rfl, Try.t10, _, by kernel_rfl, rfl, rfl, rfl, fun _ _ => ⟨rfl, trivial⟩⟩
theorem tok11 : TOk1 Try.prog 11 ⟨1, 16, [.str ByteArray.empty], .str⟩ := ⟨Try.underlying11, rfl, Try.t11, _, by kernel_rfl, rfl, rfl, rfl, fun _ _ => ⟨rfl, trivial⟩⟩
theorem tok12 : TOk1 Try.prog 12 ⟨1, 8, [.int .u64 0], .int .u64⟩ := ⟨Try.underlying12, rfl, Try.t12, _, by kernel_rfl, rfl, rfl, rfl, fun _ _ => ⟨rfl, trivial⟩⟩
theorem tok14 : TOk1 Try.prog 14 ⟨2, 24, [.str ByteArray.empty, .int .u64 0], .struct [(9, 0), (12, 1)]⟩ := ⟨⟨_, Try.underlying14, rfl⟩, rfl, Try.t14, _, by kernel_rfl, rfl, rfl, rfl, fun _ _ => ⟨rfl, rfl, trivial⟩⟩
theorem tok15 : TOk1 Try.prog 15 ⟨1, 8, [.nilp], .ptr 116⟩ := ⟨Try.underlying15, rfl, Try.t15, _, by kernel_rfl, rfl, rfl, rfl, fun _ _ => ⟨rfl, trivial⟩⟩
theorem tok16 : TOk1 Try.prog 16 ⟨1, 8, [.nilp], .ptr 119⟩ := ⟨Try.underlying16, rfl, Try.t16, _, by kernel_rfl, rfl, rfl, rfl, fun _ _ => ⟨rfl, trivial⟩⟩
theorem tok17 : TOk1 Try.prog 17 ⟨1, 8, [.nilp], .ptr 128⟩ := ⟨Try.underlying17, rfl, Try.t17, _, by kernel_rfl, rfl, rfl, rfl, fun _ _ => ⟨rfl, trivial⟩⟩
theorem tok19 : TOk1 Try.prog 19 ⟨1, 8, [.nilp], .struct [(17, 0)]⟩ := ⟨⟨_, Try.underlying19, rfl⟩, rfl, Try.t19, _, by kernel_rfl, rfl, rfl, rfl, fun _ _ => ⟨rfl, trivial⟩⟩
theorem tok22 : TOk1 Try.prog 22 ⟨1, 24, [.nils], .slice 97⟩ := ⟨Try.underlying22, rfl, Try.t22, _, by kernel_rfl, rfl, rfl, rfl, fun _ _ => ⟨rfl, trivial⟩⟩
theorem tok23 : TOk1 Try.prog 23 ⟨1, 24, [.nils], .slice 3⟩ := ⟨Try.underlying23, rfl, Try.t23, _, by kernel_rfl, rfl, rfl, rfl, fun _ _ => ⟨rfl, trivial⟩⟩
theorem tok25 : TOk1 Try.prog 25 ⟨9, 120, [.int .i64 0, .int .i64 0, .int .i64 0, .nils, .int .i64 0, .int .i64 0, .nils, .nils, .int .i64 0], .struct [(3, 0), (3, 1), (3, 2), (22, 3), (3, 4), (3, 5), (23, 6), (23, 7), (3, 8)]⟩ := ⟨⟨_, Try.underlying25, rfl⟩, rfl, Try.t25, _, by kernel_rfl, rfl, rfl, rfl, fun _ _ => ⟨rfl, rfl, rfl, rfl, rfl, rfl, rfl, rfl, rfl, trivial⟩⟩
theorem tok28 : TOk1 Try.prog 28 ⟨1, 24, [.nils], .slice 66⟩ := ⟨Try.underlying28, rfl, Try.t28, _, by kernel_rfl, rfl, rfl, rfl, fun _ _ => ⟨rfl, trivial⟩⟩
theorem tok30 : TOk1 Try.prog 30 ⟨9, 120, [.int .i64 0, .int .i64 0, .int .i64 0, .nils, .int .i64 0, .int .i64 0, .nils, .nils, .int .i64 0], .struct [(3, 0), (3, 1), (3, 2), (28, 3), (3, 4), (3, 5), (23, 6), (23, 7), (3, 8)]⟩ := ⟨⟨_, Try.underlying30, rfl⟩, rfl, Try.t30, _, by kernel_rfl, rfl, rfl, rfl, fun _ _ => ⟨rfl, rfl, rfl, rfl, rfl, rfl, rfl, rfl, rfl, trivial⟩⟩
theorem tok34 : TOk1 Try.prog 34 ⟨1, 24, [.nils], .slice 104⟩ := ⟨Try.underlying34, rfl, Try.t34, _, by kernel_rfl, rfl, rfl, rfl, fun _ _ => ⟨rfl, trivial⟩⟩
theorem tok36 : TOk1 Try.prog 36 ⟨6, 56, [.int .i64 0, .int .i64 0, .int .i64 0, .int .i64 0, .int .i64 0, .str ByteArray.empty], .struct [(3, 0), (3, 1), (3, 2), (3, 3), (3, 4), (9, 5)]⟩ := ⟨⟨_, Try.underlying36, rfl⟩, rfl, Try.t36, _, by kernel_rfl, rfl, rfl, rfl, fun _ _ => ⟨rfl, rfl, rfl, rfl, rfl, rfl, trivial⟩⟩
theorem tok38 : TOk1 Try.prog 38 ⟨23, 240, [.int .i64 0, .int .i64 0, .int .i64 0, .int .i64 0, .int .i64 0, .int .i64 0, .int .i64 0, .bool false, .nils, .int .i64 0, .int .i64 0, .int .i64 0, .nils, .int .i64 0, .int .i64 0, .int .i64 0, .nils, .int .i64 0, .int .i64 0, .int .i64 0, .int .i64 0, .int .i64 0, .str ByteArray.empty], .struct [(3, 0), (3, 1), (3, 2), (3, 3), (3, 4), (3, 5), (3, 6), (4, 7), (22, 8), (3, 9), (3, 10), (3, 11), (34, 12), (3, 13), (3, 14), (3, 15), (23, 16), (36, 17)]⟩ := ⟨⟨_, Try.underlying38, rfl⟩, rfl, Try.t38, _, by kernel_rfl, rfl, rfl, rfl, fun _ _ => ⟨rfl, rfl, rfl, rfl, rfl, rfl, rfl, rfl, rfl, rfl, rfl, rfl, rfl, rfl, rfl, rfl, rfl, rfl, rfl, rfl, rfl, rfl, rfl, trivial⟩⟩
theorem tok41 : TOk1 Try.prog 41 ⟨1, 24, [.nils], .slice 91⟩ := ⟨Try.underlying41, rfl, Try.t41, _, by kernel_rfl, rfl, rfl, rfl, fun _ _ => ⟨rfl, trivial⟩⟩
theorem tok42 : TOk1 Try.prog 42 ⟨6, 56, [.int .i64 0, .int .i64 0, .int .i64 0, .int .i64 0, .int .i64 0, .str ByteArray.empty], .struct [(3, 0), (3, 1), (3, 2), (3, 3), (3, 4), (9, 5)]⟩ := ⟨⟨_, Try.underlying42, rfl⟩, rfl, Try.t42, _, by kernel_rfl, rfl, rfl, rfl, fun _ _ => ⟨rfl, rfl, rfl, rfl, rfl, rfl, trivial⟩⟩
theorem tok44 : TOk1 Try.prog 44 ⟨23, 240, [.int .i64 0, .int .i64 0, .int .i64 0, .int .i64 0, .int .i64 0, .int .i64 0, .int .i64 0, .bool false, .nils, .int .i64 0, .int .i64 0, .int .i64 0, .nils, .int .i64 0, .int .i64 0, .int .i64 0, .nils, .int .i64 0, .int .i64 0, .int .i64 0, .int .i64 0, .int .i64 0, .str ByteArray.empty], .struct [(3, 0), (3, 1), (3, 2), (3, 3), (3, 4), (3, 5), (3, 6), (4, 7), (28, 8), (3, 9), (3, 10), (3, 11), (41, 12), (3, 13), (3, 14), (3, 15), (23, 16), (42, 17)]⟩ := ⟨⟨_, Try.underlying44, rfl⟩, rfl, Try.t44, _, by kernel_rfl, rfl, rfl, rfl, fun _ _ => ⟨rfl, rfl, rfl, rfl, rfl, rfl, rfl, rfl, rfl, rfl, rfl, rfl, rfl, rfl, rfl, rfl, rfl, rfl, rfl, rfl, rfl, rfl, rfl, trivial⟩⟩
theorem tok50 : TOk1 Try.prog 50 ⟨1, 24, [.nils], .slice 42⟩ := ⟨Try.underlying50, rfl, Try.t50, _, by kernel_rfl, rfl, rfl, rfl, fun _ _ => ⟨rfl, trivial⟩⟩
theorem tok55 : TOk1 Try.prog 55 ⟨1, 24, [.nils], .slice 5⟩ := ⟨Try.underlying55, rfl, Try.t55, _, by kernel_rfl, rfl, rfl, rfl, fun _ _ => ⟨rfl, trivial⟩⟩
theorem tok66 : TOk1 Try.prog 66 ⟨7, 64, [.int .i64 0, .int .i64 0, .int .i64 0, .int .i64 0, .int .i64 0, .int .i64 0, .str ByteArray.empty], .struct [(3, 0), (42, 1)]⟩ := ⟨⟨_, Try.underlying66, rfl⟩, rfl, Try.t66, _, by kernel_rfl, rfl, rfl, rfl, fun _ _ => ⟨rfl, rfl, rfl, rfl, rfl, rfl, rfl, trivial⟩⟩
theorem tok70 : TOk1 Try.prog 70 ⟨1, 8, [.any], .func⟩ := ⟨⟨_, _, _, Try.underlying70⟩, rfl, Try.t70, _, by kernel_rfl, rfl, rfl, rfl, fun _ _ => ⟨trivial, trivial⟩⟩
theorem tok91 : TOk1 Try.prog 91 ⟨2, 16, [.int .i64 0, .int .i64 0], .struct [(3, 0), (3, 1)]⟩ := ⟨⟨_, Try.underlying91, rfl⟩, rfl, Try.t91, _, by kernel_rfl, rfl, rfl, rfl, fun _ _ => ⟨rfl, rfl, trivial⟩⟩
theorem tok97 : TOk1 Try.prog 97 ⟨7, 64, [.int .i64 0, .int .i64 0, .int .i64 0, .int .i64 0, .int .i64 0, .int .i64 0, .str ByteArray.empty], .struct [(3, 0), (36, 1)]⟩ := ⟨⟨_, Try.underlying97, rfl⟩, rfl, Try.t97, _, by kernel_rfl, rfl, rfl, rfl, fun _ _ => ⟨rfl, rfl, rfl, rfl, rfl, rfl, rfl, trivial⟩⟩
theorem tok101 : TOk1 Try.prog 101 ⟨1, 8, [.nilp], .ptr 30⟩ := ⟨Try.underlying101, rfl, Try.t101, _, by kernel_rfl, rfl, rfl, rfl, fun _ _ => ⟨rfl, trivial⟩⟩
theorem tok104 : TOk1 Try.prog 104 ⟨2, 16, [.int .i64 0, .int .i64 0], .struct [(3, 0), (3, 1)]⟩ := ⟨⟨_, Try.underlying104, rfl⟩, rfl, Try.t104, _, by kernel_rfl, rfl, rfl, rfl, fun _ _ => ⟨rfl, rfl, trivial⟩⟩
theorem tok106 : TOk1 Try.prog 106 ⟨1, 8, [.any], .func⟩ := ⟨⟨_, _, _, Try.underlying106⟩, rfl, Try.t106, _, by kernel_rfl, rfl, rfl, rfl, fun _ _ => ⟨trivial, trivial⟩⟩
theorem tok108 : TOk1 Try.prog 108 ⟨1, 8, [.any], .func⟩ := ⟨⟨_, _, _, Try.underlying108⟩, rfl, Try.t108, _, by kernel_rfl, rfl, rfl, rfl, fun _ _ => ⟨trivial, trivial⟩⟩
theorem tok112 : TOk1 Try.prog 112 ⟨1, 8, [.int .u64 0], .int .u64⟩ := ⟨Try.underlying112, rfl, Try.t112, _, by kernel_rfl, rfl, rfl, rfl, fun _ _ => ⟨rfl, trivial⟩⟩
theorem tok116 : TOk1 Try.prog 116 ⟨4, 40, [.nilp, .nilp, .nilp, .str ByteArray.empty], .struct [(17, 0), (17, 1), (17, 2), (9, 3)]⟩ := ⟨⟨_, Try.underlying116, rfl⟩, rfl, Try.t116, _, by kernel_rfl, rfl, rfl, rfl, fun _ _ => ⟨rfl, rfl, rfl, rfl, trivial⟩⟩
theorem tok119 : TOk1 Try.prog 119 ⟨0, 0, [], .struct [(117, 0)]⟩ := ⟨⟨_, Try.underlying119, rfl⟩, rfl, Try.t119, _, by kernel_rfl, rfl, rfl, rfl, fun _ _ => trivial⟩
theorem tok120 : TOk1 Try.prog 120 ⟨1, 4, [.int .u32 0], .int .u32⟩ := ⟨Try.underlying120, rfl, Try.t120, _, by kernel_rfl, rfl, rfl, rfl, fun _ _ => ⟨rfl, trivial⟩⟩
theorem tok121 : TOk1 Try.prog 121 ⟨1, 1, [.int .u8 0], .int .u8⟩ := ⟨Try.underlying121, rfl, Try.t121, _, by kernel_rfl, rfl, rfl, rfl, fun _ _ => ⟨rfl, trivial⟩⟩
theorem tok122 : TOk1 Try.prog 122 ⟨1, 1, [.int .u8 0], .int .u8⟩ := ⟨Try.underlying122, rfl, Try.t122, _, by kernel_rfl, rfl, rfl, rfl, fun _ _ => ⟨rfl, trivial⟩⟩
theorem tok123 : TOk1 Try.prog 123 ⟨1, 8, [.any], .func⟩ := ⟨⟨_, _, _, Try.underlying123⟩, rfl, Try.t123, _, by kernel_rfl, rfl, rfl, rfl, fun _ _ => ⟨trivial, trivial⟩⟩
theorem tok124 : TOk1 Try.prog 124 ⟨1, 8, [.nilp], .ptr 5⟩ := ⟨Try.underlying124, rfl, Try.t124, _, by kernel_rfl, rfl, rfl, rfl, fun _ _ => ⟨rfl, trivial⟩⟩
theorem tok125 : TOk1 Try.prog 125 ⟨1, 4, [.int .i32 0], .int .i32⟩ := ⟨Try.underlying125, rfl, Try.t125, _, by kernel_rfl, rfl, rfl, rfl, fun _ _ => ⟨rfl, trivial⟩⟩
theorem tok126 : TOk1 Try.prog 126 ⟨1, 4, [.int .i32 0], .int .i32⟩ := ⟨Try.underlying126, rfl, Try.t126, _, by kernel_rfl, rfl, rfl, rfl, fun _ _ => ⟨rfl, trivial⟩⟩
theorem tok128 : TOk1 Try.prog 128 ⟨11, 48, [.int .u64 0, .int .u64 0, .int .u32 0, .int .u8 0, .int .u8 0, .int .u8 0, .int .u8 0, .any, .nilp, .int .i32 0, .int .i32 0], .struct [(12, 0), (12, 1), (120, 2), (121, 3), (5, 4), (5, 5), (122, 6), (123, 7), (124, 8), (125, 9), (126, 10)]⟩ := ⟨⟨_, Try.underlying128, rfl⟩, rfl, Try.t128, _, by kernel_rfl, rfl, rfl, rfl, fun _ _ => ⟨rfl, rfl, rfl, rfl, rfl, rfl, rfl, trivial, rfl, rfl, rfl, trivial⟩⟩
set_option maxHeartbeats 4000000 in
theorem tok : TOk Try.prog tab := by
  intro t i h
  unfold tab at h
  split at h
  · cases h; exact tok1
  · cases h; exact tok2
  · cases h; exact tok3
  · cases h; exact tok4
  · cases h; exact tok5
  · cases h; exact tok6
  · cases h; exact tok8
  · cases h; exact tok9
  · cases h; exact tok10
  · cases h; exact tok11
  · cases h; exact tok12
  · cases h; exact tok14
  · cases h; exact tok15
  · cases h; exact tok16
  · cases h; exact tok17
  · cases h; exact tok19
  · cases h; exact tok22
  · cases h; exact tok23
  · cases h; exact tok25
  · cases h; exact tok28
  · cases h; exact tok30
  · cases h; exact tok34
  · cases h; exact tok36
  · cases h; exact tok38
  · cases h; exact tok41
  · cases h; exact tok42
  · cases h; exact tok44
  · cases h; exact tok50
  · cases h; exact tok55
  · cases h; exact tok66
  · cases h; exact tok70
  · cases h; exact tok91
  · cases h; exact tok97
  · cases h; exact tok101
  · cases h; exact tok104
  · cases h; exact tok106
  · cases h; exact tok108
  · cases h; exact tok112
  · cases h; exact tok116
  · cases h; exact tok119
  · cases h; exact tok120
  · cases h; exact tok121
  · cases h; exact tok122
  · cases h; exact tok123
  · cases h; exact tok124
  · cases h; exact tok125
  · cases h; exact tok126
  · cases h; exact tok128
  · cases h
end Go.Proofs.YtnlohhgcimcmnaaE
