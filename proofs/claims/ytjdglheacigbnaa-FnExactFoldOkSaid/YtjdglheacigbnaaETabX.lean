/- A part of the proof of a law of the given program: the types of the program. No condition of its own. -/
import Derived.Test.YtjdglheacigbnaaEG4
import Derived.Test.YtjdglheacigbnaaChecked
namespace Go.Proofs.YtjdglheacigbnaaE
open Go.Proofs Go.RowKit
set_option maxRecDepth 100000
def tab : Tab
  | 1 => some ⟨1, 8, [.any], .func⟩
  | 2 => some ⟨1, 8, [.int .i64 0], .int .i64⟩
  | 3 => some ⟨1, 8, [.int .i64 0], .int .i64⟩
  | 4 => some ⟨1, 1, [.bool false], .bool⟩
  | 5 => some ⟨1, 1, [.int .u8 0], .int .u8⟩
  | 6 => some ⟨1, 1, [.int .u8 0], .int .u8⟩
  | 8 => some ⟨4, 24, [.int .i64 0, .int .i64 0, .bool false, .int .u8 0], .struct [(2, 0), (3, 1), (4, 2), (6, 3)]⟩
  | 9 => some ⟨1, 16, [.str ByteArray.empty], .str⟩
  | 10 => some ⟨1, 16, [.str ByteArray.empty], .str⟩
  | 11 => some ⟨1, 16, [.str ByteArray.empty], .str⟩
  | 12 => some ⟨1, 8, [.int .u64 0], .int .u64⟩
  | 14 => some ⟨2, 24, [.str ByteArray.empty, .int .u64 0], .struct [(9, 0), (12, 1)]⟩
  | 15 => some ⟨1, 8, [.nilp], .ptr 213⟩
  | 16 => some ⟨1, 8, [.nilp], .ptr 216⟩
  | 17 => some ⟨1, 8, [.nilp], .ptr 225⟩
  | 19 => some ⟨1, 8, [.nilp], .struct [(17, 0)]⟩
  | 22 => some ⟨1, 24, [.nils], .slice 186⟩
  | 23 => some ⟨1, 24, [.nils], .slice 3⟩
  | 25 => some ⟨9, 120, [.int .i64 0, .int .i64 0, .int .i64 0, .nils, .int .i64 0, .int .i64 0, .nils, .nils, .int .i64 0], .struct [(3, 0), (3, 1), (3, 2), (22, 3), (3, 4), (3, 5), (23, 6), (23, 7), (3, 8)]⟩
  | 26 => some ⟨1, 24, [.nils], .slice 125⟩
  | 27 => some ⟨1, 24, [.nils], .slice 96⟩
  | 28 => some ⟨1, 24, [.nils], .slice 157⟩
  | 29 => some ⟨1, 24, [.nils], .slice 160⟩
  | 30 => some ⟨1, 24, [.nils], .slice 126⟩
  | 32 => some ⟨8, 160, [.int .i64 0, .int .i64 0, .nils, .nils, .nils, .nils, .nils, .nils], .struct [(3, 0), (3, 1), (23, 2), (26, 3), (27, 4), (28, 5), (29, 6), (30, 7)]⟩
  | 34 => some ⟨18, 288, [.bool false, .int .i64 0, .int .i64 0, .int .i64 0, .nils, .int .i64 0, .int .i64 0, .nils, .nils, .int .i64 0, .int .i64 0, .int .i64 0, .nils, .nils, .nils, .nils, .nils, .nils], .struct [(4, 0), (25, 1), (32, 10)]⟩
  | 38 => some ⟨1, 8, [.any], .func⟩
  | 39 => some ⟨1, 24, [.nils], .slice 209⟩
  | 41 => some ⟨3, 40, [.int .i64 0, .int .i64 0, .nils], .struct [(3, 0), (3, 1), (39, 2)]⟩
  | 42 => some ⟨1, 24, [.nils], .slice 194⟩
  | 44 => some ⟨7, 88, [.int .i64 0, .int .i64 0, .int .i64 0, .nils, .nils, .int .i64 0, .int .i64 0], .struct [(3, 0), (41, 1), (42, 4), (3, 5), (3, 6)]⟩
  | 45 => some ⟨1, 24, [.nils], .slice 130⟩
  | 46 => some ⟨1, 24, [.nils], .slice 119⟩
  | 48 => some ⟨9, 136, [.int .i64 0, .int .i64 0, .int .i64 0, .nils, .nils, .int .i64 0, .int .i64 0, .nils, .nils], .struct [(44, 0), (45, 7), (46, 8)]⟩
  | 51 => some ⟨1, 24, [.nils], .slice 190⟩
  | 53 => some ⟨3, 40, [.int .i64 0, .int .i64 0, .nils], .struct [(3, 0), (3, 1), (51, 2)]⟩
  | 54 => some ⟨1, 24, [.nils], .slice 123⟩
  | 56 => some ⟨7, 88, [.int .i64 0, .int .i64 0, .int .i64 0, .nils, .nils, .int .i64 0, .int .i64 0], .struct [(3, 0), (53, 1), (54, 4), (3, 5), (3, 6)]⟩
  | 58 => some ⟨9, 136, [.int .i64 0, .int .i64 0, .int .i64 0, .nils, .nils, .int .i64 0, .int .i64 0, .nils, .nils], .struct [(56, 0), (26, 7), (30, 8)]⟩
  | 62 => some ⟨1, 24, [.nils], .slice 149⟩
  | 63 => some ⟨1, 24, [.nils], .slice 152⟩
  | 64 => some ⟨1, 24, [.nils], .slice 155⟩
  | 66 => some ⟨8, 160, [.int .i64 0, .int .i64 0, .nils, .nils, .nils, .nils, .nils, .nils], .struct [(3, 0), (3, 1), (23, 2), (45, 3), (62, 4), (63, 5), (64, 6), (46, 7)]⟩
  | 96 => some ⟨3, 40, [.int .i64 0, .int .i64 0, .nils], .struct [(3, 0), (3, 1), (26, 2)]⟩
  | 119 => some ⟨4, 48, [.int .i64 0, .int .i64 0, .int .i64 0, .nils], .struct [(3, 0), (3, 1), (3, 2), (23, 3)]⟩
  | 123 => some ⟨3, 24, [.int .i64 0, .int .i64 0, .int .i64 0], .struct [(3, 0), (3, 1), (3, 2)]⟩
  | 125 => some ⟨2, 16, [.int .i64 0, .int .i64 0], .struct [(3, 0), (3, 1)]⟩
  | 126 => some ⟨4, 48, [.int .i64 0, .int .i64 0, .int .i64 0, .nils], .struct [(3, 0), (3, 1), (3, 2), (23, 3)]⟩
  | 130 => some ⟨2, 16, [.int .i64 0, .int .i64 0], .struct [(3, 0), (3, 1)]⟩
  | 132 => some ⟨1, 8, [.any], .func⟩
  | 134 => some ⟨1, 8, [.any], .func⟩
  | 137 => some ⟨1, 8, [.any], .func⟩
  | 139 => some ⟨1, 8, [.any], .func⟩
  | 141 => some ⟨1, 8, [.any], .func⟩
  | 149 => some ⟨3, 40, [.int .i64 0, .int .i64 0, .nils], .struct [(3, 0), (3, 1), (45, 2)]⟩
  | 152 => some ⟨4, 64, [.int .i64 0, .int .i64 0, .nils, .nils], .struct [(3, 0), (3, 1), (45, 2), (23, 3)]⟩
  | 155 => some ⟨4, 64, [.int .i64 0, .int .i64 0, .nils, .nils], .struct [(3, 0), (3, 1), (23, 2), (45, 3)]⟩
  | 157 => some ⟨4, 64, [.int .i64 0, .int .i64 0, .nils, .nils], .struct [(3, 0), (3, 1), (26, 2), (23, 3)]⟩
  | 160 => some ⟨4, 64, [.int .i64 0, .int .i64 0, .nils, .nils], .struct [(3, 0), (3, 1), (23, 2), (26, 3)]⟩
  | 165 => some ⟨1, 8, [.any], .func⟩
  | 167 => some ⟨1, 8, [.any], .func⟩
  | 170 => some ⟨1, 8, [.any], .func⟩
  | 171 => some ⟨1, 8, [.any], .func⟩
  | 173 => some ⟨1, 8, [.any], .func⟩
  | 175 => some ⟨1, 8, [.any], .func⟩
  | 177 => some ⟨1, 8, [.any], .func⟩
  | 184 => some ⟨6, 56, [.int .i64 0, .int .i64 0, .int .i64 0, .int .i64 0, .int .i64 0, .str ByteArray.empty], .struct [(3, 0), (3, 1), (3, 2), (3, 3), (3, 4), (9, 5)]⟩
  | 186 => some ⟨7, 64, [.int .i64 0, .int .i64 0, .int .i64 0, .int .i64 0, .int .i64 0, .int .i64 0, .str ByteArray.empty], .struct [(3, 0), (184, 1)]⟩
  | 190 => some ⟨3, 24, [.int .i64 0, .int .i64 0, .int .i64 0], .struct [(3, 0), (3, 1), (3, 2)]⟩
  | 194 => some ⟨3, 24, [.int .i64 0, .int .i64 0, .int .i64 0], .struct [(3, 0), (3, 1), (3, 2)]⟩
  | 197 => some ⟨1, 8, [.any], .func⟩
  | 207 => some ⟨1, 24, [.nils], .slice 5⟩
  | 209 => some ⟨3, 24, [.int .i64 0, .int .i64 0, .int .i64 0], .struct [(3, 0), (3, 1), (3, 2)]⟩
  | 213 => some ⟨4, 40, [.nilp, .nilp, .nilp, .str ByteArray.empty], .struct [(17, 0), (17, 1), (17, 2), (9, 3)]⟩
  | 216 => some ⟨0, 0, [], .struct [(214, 0)]⟩
  | 217 => some ⟨1, 4, [.int .u32 0], .int .u32⟩
  | 218 => some ⟨1, 1, [.int .u8 0], .int .u8⟩
  | 219 => some ⟨1, 1, [.int .u8 0], .int .u8⟩
  | 220 => some ⟨1, 8, [.any], .func⟩
  | 221 => some ⟨1, 8, [.nilp], .ptr 5⟩
  | 222 => some ⟨1, 4, [.int .i32 0], .int .i32⟩
  | 223 => some ⟨1, 4, [.int .i32 0], .int .i32⟩
  | 225 => some ⟨11, 48, [.int .u64 0, .int .u64 0, .int .u32 0, .int .u8 0, .int .u8 0, .int .u8 0, .int .u8 0, .any, .nilp, .int .i32 0, .int .i32 0], .struct [(12, 0), (12, 1), (217, 2), (218, 3), (5, 4), (5, 5), (219, 6), (220, 7), (221, 8), (222, 9), (223, 10)]⟩
  | _ => none
theorem tok1 : TOk1 Try.prog 1 ⟨1, 8, [.any], .func⟩ := ⟨⟨_, _, _, Try.underlying1⟩, rfl, Try.t1, _, by kernel_rfl, rfl, rfl, rfl, fun _ _ => ⟨trivial, trivial⟩⟩
theorem tok2 : TOk1 Try.prog 2 ⟨1, 8, [.int .i64 0], .int .i64⟩ := ⟨Try.underlying2, rfl, Try.t2, _, by kernel_rfl, rfl, rfl, rfl, fun _ _ => ⟨rfl, trivial⟩⟩
theorem tok3 : TOk1 Try.prog 3 ⟨1, 8, [.int .i64 0], .int .i64⟩ := ⟨Try.underlying3, rfl, Try.t3, _, by kernel_rfl, rfl, rfl, rfl, fun _ _ => ⟨rfl, trivial⟩⟩
theorem tok4 : TOk1 Try.prog 4 ⟨1, 1, [.bool false], .bool⟩ := ⟨Try.underlying4, rfl, Try.t4, _, by kernel_rfl, rfl, rfl, rfl, fun _ _ => ⟨rfl, trivial⟩⟩
theorem tok5 : TOk1 Try.prog 5 ⟨1, 1, [.int .u8 0], .int .u8⟩ := ⟨Try.underlying5, rfl, Try.t5, _, by kernel_rfl, rfl, rfl, rfl, fun _ _ => ⟨rfl, trivial⟩⟩
theorem tok6 : TOk1 Try.prog 6 ⟨1, 1, [.int .u8 0], .int .u8⟩ := ⟨Try.underlying6, rfl, Try.t6, _, by kernel_rfl, rfl, rfl, rfl, fun _ _ => ⟨rfl, trivial⟩⟩
theorem tok8 : TOk1 Try.prog 8 ⟨4, 24, [.int .i64 0, .int .i64 0, .bool false, .int .u8 0], .struct [(2, 0), (3, 1), (4, 2), (6, 3)]⟩ := ⟨⟨_, Try.underlying8, rfl⟩, rfl, Try.t8, _, by kernel_rfl, rfl, rfl, rfl, fun _ _ => ⟨rfl, rfl, rfl, rfl, trivial⟩⟩
theorem tok9 : TOk1 Try.prog 9 ⟨1, 16, [.str ByteArray.empty], .str⟩ := ⟨Try.underlying9, rfl, Try.t9, _, by kernel_rfl, rfl, rfl, rfl, fun _ _ => ⟨rfl, trivial⟩⟩
theorem tok10 : TOk1 Try.prog 10 ⟨1, 16, [.str ByteArray.empty], .str⟩ := ⟨Try.underlying10, rfl, Try.t10, _, by kernel_rfl, rfl, rfl, rfl, fun _ _ => ⟨rfl, trivial⟩⟩
theorem tok11 : TOk1 Try.prog 11 ⟨1, 16, [.str ByteArray.empty], .str⟩ := ⟨Try.underlying11, rfl, Try.t11, _, by kernel_rfl, rfl, rfl, rfl, fun _ _ => ⟨rfl, trivial⟩⟩
theorem tok12 : TOk1 Try.prog 12 ⟨1, 8, [.int .u64 0], .int .u64⟩ := ⟨Try.underlying12, rfl, Try.t12, _, by kernel_rfl, rfl, rfl, rfl, fun _ _ => ⟨rfl, trivial⟩⟩
theorem tok14 : TOk1 Try.prog 14 ⟨2, 24, [.str ByteArray.empty, .int .u64 0], .struct [(9, 0), (12, 1)]⟩ := ⟨⟨_, Try.underlying14, rfl⟩, rfl, Try.t14, _, by kernel_rfl, rfl, rfl, rfl, fun _ _ => ⟨rfl, rfl, trivial⟩⟩
theorem tok15 : TOk1 Try.prog 15 ⟨1, 8, [.nilp], .ptr 213⟩ := ⟨Try.underlying15, rfl, Try.t15, _, by kernel_rfl, rfl, rfl, rfl, fun _ _ => ⟨rfl, trivial⟩⟩
theorem tok16 : TOk1 Try.prog 16 ⟨1, 8, [.nilp], .ptr 216⟩ := ⟨Try.underlying16, rfl, Try.t16, _, by kernel_rfl, rfl, rfl, rfl, fun _ _ => ⟨rfl, trivial⟩⟩
theorem tok17 : TOk1 Try.prog 17 ⟨1, 8, [.nilp], .ptr 225⟩ := ⟨Try.underlying17, rfl, Try.t17, _, by kernel_rfl, rfl, rfl, rfl, fun _ _ => ⟨rfl, trivial⟩⟩
theorem tok19 : TOk1 Try.prog 19 ⟨1, 8, [.nilp], .struct [(17, 0)]⟩ := ⟨⟨_, Try.underlying19, rfl⟩, rfl, Try.t19, _, by kernel_rfl, rfl, rfl, rfl, fun _ _ => ⟨rfl, trivial⟩⟩
theorem tok22 : TOk1 Try.prog 22 ⟨1, 24, [.nils], .slice 186⟩ := ⟨Try.underlying22, rfl, Try.t22, _, by kernel_rfl, rfl, rfl, rfl, fun _ _ => ⟨rfl, trivial⟩⟩
theorem tok23 : TOk1 Try.prog 23 ⟨1, 24, [.nils], .slice 3⟩ := ⟨Try.underlying23, rfl, Try.t23, _, by kernel_rfl, rfl, rfl, rfl, fun _ _ => ⟨rfl, trivial⟩⟩
theorem tok25 : TOk1 Try.prog 25 ⟨9, 120, [.int .i64 0, .int .i64 0, .int .i64 0, .nils, .int .i64 0, .int .i64 0, .nils, .nils, .int .i64 0], .struct [(3, 0), (3, 1), (3, 2), (22, 3), (3, 4), (3, 5), (23, 6), (23, 7), (3, 8)]⟩ := ⟨⟨_, Try.underlying25, rfl⟩, rfl, Try.t25, _, by kernel_rfl, rfl, rfl, rfl, fun _ _ => ⟨rfl, rfl, rfl, rfl, rfl, rfl, rfl, rfl, rfl, trivial⟩⟩
theorem tok26 : TOk1 Try.prog 26 ⟨1, 24, [.nils], .slice 125⟩ := ⟨Try.underlying26, rfl, Try.t26, _, by kernel_rfl, rfl, rfl, rfl, fun _ _ => ⟨rfl, trivial⟩⟩
theorem tok27 : TOk1 Try.prog 27 ⟨1, 24, [.nils], .slice 96⟩ := ⟨Try.underlying27, rfl, Try.t27, _, by kernel_rfl, rfl, rfl, rfl, fun _ _ => ⟨rfl, trivial⟩⟩
theorem tok28 : TOk1 Try.prog 28 ⟨1, 24, [.nils], .slice 157⟩ := ⟨Try.underlying28, rfl, Try.t28, _, by kernel_rfl, rfl, rfl, rfl, fun _ _ => ⟨rfl, trivial⟩⟩
theorem tok29 : TOk1 Try.prog 29 ⟨1, 24, [.nils], .slice 160⟩ := ⟨Try.underlying29, rfl, Try.t29, _, by kernel_rfl, rfl, rfl, rfl, fun _ _ => ⟨rfl, trivial⟩⟩
theorem tok30 : TOk1 Try.prog 30 ⟨1, 24, [.nils], .slice 126⟩ := ⟨Try.underlying30, rfl, Try.t30, _, by kernel_rfl, rfl, rfl, rfl, fun _ _ => ⟨rfl, trivial⟩⟩
theorem tok32 : TOk1 Try.prog 32 ⟨8, 160, [.int .i64 0, .int .i64 0, .nils, .nils, .nils, .nils, .nils, .nils], .struct [(3, 0), (3, 1), (23, 2), (26, 3), (27, 4), (28, 5), (29, 6), (30, 7)]⟩ := ⟨⟨_, Try.underlying32, rfl⟩, rfl, Try.t32, _, by kernel_rfl, rfl, rfl, rfl, fun _ _ => ⟨rfl, rfl, rfl, rfl, rfl, rfl, rfl, rfl, trivial⟩⟩
theorem tok34 : TOk1 Try.prog 34 ⟨18, 288, [.bool false, .int .i64 0, .int .i64 0, .int .i64 0, .nils, .int .i64 0, .int .i64 0, .nils, .nils, .int .i64 0, .int .i64 0, .int .i64 0, .nils, .nils, .nils, .nils, .nils, .nils], .struct [(4, 0), (25, 1), (32, 10)]⟩ := ⟨⟨_, Try.underlying34, rfl⟩, rfl, Try.t34, _, by kernel_rfl, rfl, rfl, rfl, fun _ _ => ⟨rfl, rfl, rfl, rfl, rfl, rfl, rfl, rfl, rfl, rfl, rfl, rfl, rfl, rfl, rfl, rfl, rfl, rfl, trivial⟩⟩
theorem tok38 : TOk1 Try.prog 38 ⟨1, 8, [.any], .func⟩ := ⟨⟨_, _, _, Try.underlying38⟩, rfl, Try.t38, _, by kernel_rfl, rfl, rfl, rfl, fun _ _ => ⟨trivial, trivial⟩⟩
theorem tok39 : TOk1 Try.prog 39 ⟨1, 24, [.nils], .slice 209⟩ := ⟨Try.underlying39, rfl, Try.t39, _, by kernel_rfl, rfl, rfl, rfl, fun _ _ => ⟨rfl, trivial⟩⟩
theorem tok41 : TOk1 Try.prog 41 ⟨3, 40, [.int .i64 0, .int .i64 0, .nils], .struct [(3, 0), (3, 1), (39, 2)]⟩ := ⟨⟨_, Try.underlying41, rfl⟩, rfl, Try.t41, _, by kernel_rfl, rfl, rfl, rfl, fun _ _ => ⟨rfl, rfl, rfl, trivial⟩⟩
theorem tok42 : TOk1 Try.prog 42 ⟨1, 24, [.nils], .slice 194⟩ := ⟨Try.underlying42, rfl, Try.t42, _, by kernel_rfl, rfl, rfl, rfl, fun _ _ => ⟨rfl, trivial⟩⟩
theorem tok44 : TOk1 Try.prog 44 ⟨7, 88, [.int .i64 0, .int .i64 0, .int .i64 0, .nils, .nils, .int .i64 0, .int .i64 0], .struct [(3, 0), (41, 1), (42, 4), (3, 5), (3, 6)]⟩ := ⟨⟨_, Try.underlying44, rfl⟩, rfl, Try.t44, _, by kernel_rfl, rfl, rfl, rfl, fun _ _ => ⟨rfl, rfl, rfl, rfl, rfl, rfl, rfl, trivial⟩⟩
theorem tok45 : TOk1 Try.prog 45 ⟨1, 24, [.nils], .slice 130⟩ := ⟨Try.underlying45, rfl, Try.t45, _, by kernel_rfl, rfl, rfl, rfl, fun _ _ => ⟨rfl, trivial⟩⟩
theorem tok46 : TOk1 Try.prog 46 ⟨1, 24, [.nils], .slice 119⟩ := ⟨Try.underlying46, rfl, Try.t46, _, by kernel_rfl, rfl, rfl, rfl, fun _ _ => ⟨rfl, trivial⟩⟩
theorem tok48 : TOk1 Try.prog 48 ⟨9, 136, [.int .i64 0, .int .i64 0, .int .i64 0, .nils, .nils, .int .i64 0, .int .i64 0, .nils, .nils], .struct [(44, 0), (45, 7), (46, 8)]⟩ := ⟨⟨_, Try.underlying48, rfl⟩, rfl, Try.t48, _, by kernel_rfl, rfl, rfl, rfl, fun _ _ => ⟨rfl, rfl, rfl, rfl, rfl, rfl, rfl, rfl, rfl, trivial⟩⟩
theorem tok51 : TOk1 Try.prog 51 ⟨1, 24, [.nils], .slice 190⟩ := ⟨Try.underlying51, rfl, Try.t51, _, by kernel_rfl, rfl, rfl, rfl, fun _ _ => ⟨rfl, trivial⟩⟩
theorem tok53 : TOk1 Try.prog 53 ⟨3, 40, [.int .i64 0, .int .i64 0, .nils], .struct [(3, 0), (3, 1), (51, 2)]⟩ := ⟨⟨_, Try.underlying53, rfl⟩, rfl, Try.t53, _, by kernel_rfl, rfl, rfl, rfl, fun _ _ => ⟨rfl, rfl, rfl, trivial⟩⟩
theorem tok54 : TOk1 Try.prog 54 ⟨1, 24, [.nils], .slice 123⟩ := ⟨Try.underlying54, rfl, Try.t54, _, by kernel_rfl, rfl, rfl, rfl, fun _ _ => ⟨rfl, trivial⟩⟩
theorem tok56 : TOk1 Try.prog 56 ⟨7, 88, [.int .i64 0, .int .i64 0, .int .i64 0, .nils, .nils, .int .i64 0, .int .i64 0], .struct [(3, 0), (53, 1), (54, 4), (3, 5), (3, 6)]⟩ := ⟨⟨_, Try.underlying56, rfl⟩, rfl, Try.t56, _, by kernel_rfl, rfl, rfl, rfl, fun _ _ => ⟨rfl, rfl, rfl, rfl, rfl, rfl, rfl, trivial⟩⟩
theorem tok58 : TOk1 Try.prog 58 ⟨9, 136, [.int .i64 0, .int .i64 0, .int .i64 0, .nils, .nils, .int .i64 0, .int .i64 0, .nils, .nils], .struct [(56, 0), (26, 7), (30, 8)]⟩ := ⟨⟨_, Try.underlying58, rfl⟩, rfl, Try.t58, _, by kernel_rfl, rfl, rfl, rfl, fun _ _ => ⟨rfl, rfl, rfl, rfl, rfl, rfl, rfl, rfl, rfl, trivial⟩⟩
theorem tok62 : TOk1 Try.prog 62 ⟨1, 24, [.nils], .slice 149⟩ := ⟨Try.underlying62, rfl, Try.t62, _, by kernel_rfl, rfl, rfl, rfl, fun _ _ => ⟨rfl, trivial⟩⟩
theorem tok63 : TOk1 Try.prog 63 ⟨1, 24, [.nils], .slice 152⟩ := ⟨Try.underlying63, rfl, Try.t63, _, by kernel_rfl, rfl, rfl, rfl, fun _ _ => ⟨rfl, trivial⟩⟩
theorem tok64 : TOk1 Try.prog 64 ⟨1, 24, [.nils], .slice 155⟩ := ⟨Try.underlying64, rfl, Try.t64, _, by kernel_rfl, rfl, rfl, rfl, fun _ _ => ⟨rfl, trivial⟩⟩
theorem tok66 : TOk1 Try.prog 66 ⟨8, 160, [.int .i64 0, .int .i64 0, .nils, .nils, .nils, .nils, .nils, .nils], .struct [(3, 0), (3, 1), (23, 2), (45, 3), (62, 4), (63, 5), (64, 6), (46, 7)]⟩ := ⟨⟨_, Try.underlying66, rfl⟩, rfl, Try.t66, _, by kernel_rfl, rfl, rfl, rfl, fun _ _ => ⟨rfl, rfl, rfl, rfl, rfl, rfl, rfl, rfl, trivial⟩⟩
theorem tok96 : TOk1 Try.prog 96 ⟨3, 40, [.int .i64 0, .int .i64 0, .nils], .struct [(3, 0), (3, 1), (26, 2)]⟩ := ⟨⟨_, Try.underlying96, rfl⟩, rfl, Try.t96, _, by kernel_rfl, rfl, rfl, rfl, fun _ _ => ⟨rfl, rfl, rfl, trivial⟩⟩
theorem tok119 : TOk1 Try.prog 119 ⟨4, 48, [.int .i64 0, .int .i64 0, .int .i64 0, .nils], .struct [(3, 0), (3, 1), (3, 2), (23, 3)]⟩ := ⟨⟨_, Try.underlying119, rfl⟩, rfl, Try.t119, _, by kernel_rfl, rfl, rfl, rfl, fun _ _ => ⟨rfl, rfl, rfl, rfl, trivial⟩⟩
theorem tok123 : TOk1 Try.prog 123 ⟨3, 24, [.int .i64 0, .int .i64 0, .int .i64 0], .struct [(3, 0), (3, 1), (3, 2)]⟩ := ⟨⟨_, Try.underlying123, rfl⟩, rfl, Try.t123, _, by kernel_rfl, rfl, rfl, rfl, fun _ _ => ⟨rfl, rfl, rfl, trivial⟩⟩
theorem tok125 : TOk1 Try.prog 125 ⟨2, 16, [.int .i64 0, .int .i64 0], .struct [(3, 0), (3, 1)]⟩ := ⟨⟨_, Try.underlying125, rfl⟩, rfl, Try.t125, _, by kernel_rfl, rfl, rfl, rfl, fun _ _ => ⟨rfl, rfl, trivial⟩⟩
theorem tok126 : TOk1 Try.prog 126 ⟨4, 48, [.int .i64 0, .int .i64 0, .int .i64 0, .nils], .struct [(3, 0), (3, 1), (3, 2), (23, 3)]⟩ := ⟨⟨_, Try.underlying126, rfl⟩, rfl, Try.t126, _, by kernel_rfl, rfl, rfl, rfl, fun _ _ => ⟨rfl, rfl, rfl, rfl, trivial⟩⟩
theorem tok130 : TOk1 Try.prog 130 ⟨2, 16, [.int .i64 0, .int .i64 0], .struct [(3, 0), (3, 1)]⟩ := ⟨⟨_, Try.underlying130, rfl⟩, rfl, Try.t130, _, by kernel_rfl, rfl, rfl, rfl, fun _ _ => ⟨rfl, rfl, trivial⟩⟩
theorem tok132 : TOk1 Try.prog 132 ⟨1, 8, [.any], .func⟩ := ⟨⟨_, _, _, Try.underlying132⟩, rfl, Try.t132, _, by kernel_rfl, rfl, rfl, rfl, fun _ _ => ⟨trivial, trivial⟩⟩
theorem tok134 : TOk1 Try.prog 134 ⟨1, 8, [.any], .func⟩ := ⟨⟨_, _, _, Try.underlying134⟩, rfl, Try.t134, _, by kernel_rfl, rfl, rfl, rfl, fun _ _ => ⟨trivial, trivial⟩⟩
theorem tok137 : TOk1 Try.prog 137 ⟨1, 8, [.any], .func⟩ := ⟨⟨_, _, _, Try.underlying137⟩, rfl, Try.t137, _, by kernel_rfl, rfl, rfl, rfl, fun _ _ => ⟨trivial, trivial⟩⟩
theorem tok139 : TOk1 Try.prog 139 ⟨1, 8, [.any], .func⟩ := ⟨⟨_, _, _, Try.underlying139⟩, rfl, Try.t139, _, by kernel_rfl, rfl, rfl, rfl, fun _ _ => ⟨trivial, trivial⟩⟩
theorem tok141 : TOk1 Try.prog 141 ⟨1, 8, [.any], .func⟩ := ⟨⟨_, _, _, Try.underlying141⟩, rfl, Try.t141, _, by kernel_rfl, rfl, rfl, rfl, fun _ _ => ⟨trivial, trivial⟩⟩
theorem tok149 : TOk1 Try.prog 149 ⟨3, 40, [.int .i64 0, .int .i64 0, .nils], .struct [(3, 0), (3, 1), (45, 2)]⟩ := ⟨⟨_, Try.underlying149, rfl⟩, rfl, Try.t149, _, by kernel_rfl, rfl, rfl, rfl, fun _ _ => ⟨rfl, rfl, rfl, trivial⟩⟩
theorem tok152 : TOk1 Try.prog 152 ⟨4, 64, [.int .i64 0, .int .i64 0, .nils, .nils], .struct [(3, 0), (3, 1), (45, 2), (23, 3)]⟩ := ⟨⟨_, Try.underlying152, rfl⟩, rfl, Try.t152, _, by kernel_rfl, rfl, rfl, rfl, fun _ _ => ⟨rfl, rfl, rfl, rfl, trivial⟩⟩
theorem tok155 : TOk1 Try.prog 155 ⟨4, 64, [.int .i64 0, .int .i64 0, .nils, .nils], .struct [(3, 0), (3, 1), (23, 2), (45, 3)]⟩ := ⟨⟨_, Try.underlying155, rfl⟩, rfl, Try.t155, _, by kernel_rfl, rfl, rfl, rfl, fun _ _ => ⟨rfl, rfl, rfl, rfl, trivial⟩⟩
theorem tok157 : TOk1 Try.prog 157 ⟨4, 64, [.int .i64 0, .int .i64 0, .nils, .nils], .struct [(3, 0), (3, 1), (26, 2), (23, 3)]⟩ := ⟨⟨_, Try.underlying157, rfl⟩, rfl, Try.t157, _, by kernel_rfl, rfl, rfl, rfl, fun _ _ => ⟨rfl, rfl, rfl, rfl, trivial⟩⟩
theorem tok160 : TOk1 Try.prog 160 ⟨4, 64, [.int .i64 0, .int .i64 0, .nils, .nils], .struct [(3, 0), (3, 1), (23, 2), (26, 3)]⟩ := ⟨⟨_, Try.underlying160, rfl⟩, rfl, Try.t160, _, by kernel_rfl, rfl, rfl, rfl, fun _ _ => ⟨rfl, rfl, rfl, rfl, trivial⟩⟩
theorem tok165 : TOk1 Try.prog 165 ⟨1, 8, [.any], .func⟩ := ⟨⟨_, _, _, Try.underlying165⟩, rfl, Try.t165, _, by kernel_rfl, rfl, rfl, rfl, fun _ _ => ⟨trivial, trivial⟩⟩
theorem tok167 : TOk1 Try.prog 167 ⟨1, 8, [.any], .func⟩ := ⟨⟨_, _, _, Try.underlying167⟩, rfl, Try.t167, _, by kernel_rfl, rfl, rfl, rfl, fun _ _ => ⟨trivial, trivial⟩⟩
theorem tok170 : TOk1 Try.prog 170 ⟨1, 8, [.any], .func⟩ := ⟨⟨_, _, _, Try.underlying170⟩, rfl, Try.t170, _, by kernel_rfl, rfl, rfl, rfl, fun _ _ => ⟨trivial, trivial⟩⟩
theorem tok171 : TOk1 Try.prog 171 ⟨1, 8, [.any], .func⟩ := ⟨⟨_, _, _, Try.underlying171⟩, rfl, Try.t171, _, by kernel_rfl, rfl, rfl, rfl, fun _ _ => ⟨trivial, trivial⟩⟩
theorem tok173 : TOk1 Try.prog 173 ⟨1, 8, [.any], .func⟩ := ⟨⟨_, _, _, Try.underlying173⟩, rfl, Try.t173, _, by kernel_rfl, rfl, rfl, rfl, fun _ _ => ⟨trivial, trivial⟩⟩
theorem tok175 : TOk1 Try.prog 175 ⟨1, 8, [.any], .func⟩ := ⟨⟨_, _, _, Try.underlying175⟩, rfl, Try.t175, _, by kernel_rfl, rfl, rfl, rfl, fun _ _ => ⟨trivial, trivial⟩⟩
theorem tok177 : TOk1 Try.prog 177 ⟨1, 8, [.any], .func⟩ := ⟨⟨_, _, _, Try.underlying177⟩, rfl, Try.t177, _, by kernel_rfl, rfl, rfl, rfl, fun _ _ => ⟨trivial, trivial⟩⟩
theorem tok184 : TOk1 Try.prog 184 ⟨6, 56, [.int .i64 0, .int .i64 0, .int .i64 0, .int .i64 0, .int .i64 0, .str ByteArray.empty], .struct [(3, 0), (3, 1), (3, 2), (3, 3), (3, 4), (9, 5)]⟩ := ⟨⟨_, Try.underlying184, rfl⟩, rfl, Try.t184, _, by kernel_rfl, rfl, rfl, rfl, fun _ _ => ⟨rfl, rfl, rfl, rfl, rfl, rfl, trivial⟩⟩
theorem tok186 : TOk1 Try.prog 186 ⟨7, 64, [.int .i64 0, .int .i64 0, .int .i64 0, .int .i64 0, .int .i64 0, .int .i64 0, .str ByteArray.empty], .struct [(3, 0), (184, 1)]⟩ := ⟨⟨_, Try.underlying186, rfl⟩, rfl, Try.t186, _, by kernel_rfl, rfl, rfl, rfl, fun _ _ => ⟨rfl, rfl, rfl, rfl, rfl, rfl, rfl, trivial⟩⟩
theorem tok190 : TOk1 Try.prog 190 ⟨3, 24, [.int .i64 0, .int .i64 0, .int .i64 0], .struct [(3, 0), (3, 1), (3, 2)]⟩ := ⟨⟨_, Try.underlying190, rfl⟩, rfl, Try.t190, _, by kernel_rfl, rfl, rfl, rfl, fun _ _ => ⟨rfl, rfl, rfl, trivial⟩⟩
theorem tok194 : TOk1 Try.prog 194 ⟨3, 24, [.int .i64 0, .int .i64 0, .int .i64 0], .struct [(3, 0), (3, 1), (3, 2)]⟩ := ⟨⟨_, Try.underlying194, rfl⟩, rfl, Try.t194, _, by kernel_rfl, rfl, rfl, rfl, fun _ _ => ⟨rfl, rfl, rfl, trivial⟩⟩
theorem tok197 : TOk1 Try.prog 197 ⟨1, 8, [.any], .func⟩ := ⟨⟨_, _, _, Try.underlying197⟩, rfl, Try.t197, _, by kernel_rfl, rfl, rfl, rfl, fun _ _ => ⟨trivial, trivial⟩⟩
theorem tok207 : TOk1 Try.prog 207 ⟨1, 24, [.nils], .slice 5⟩ := ⟨Try.underlying207, rfl, Try.t207, _, by kernel_rfl, rfl, rfl, rfl, fun _ _ => ⟨rfl, trivial⟩⟩
theorem tok209 : TOk1 Try.prog 209 ⟨3, 24, [.int .i64 0, .int .i64 0, .int .i64 0], .struct [(3, 0), (3, 1), (3, 2)]⟩ := ⟨⟨_, Try.underlying209, rfl⟩, rfl, Try.t209, _, by kernel_rfl, rfl, rfl, rfl, fun _ _ => ⟨rfl, rfl, rfl, trivial⟩⟩
theorem tok213 : TOk1 Try.prog 213 ⟨4, 40, [.nilp, .nilp, .nilp, .str ByteArray.empty], .struct [(17, 0), (17, 1), (17, 2), (9, 3)]⟩ := ⟨⟨_, Try.underlying213, rfl⟩, rfl, Try.t213, _, by kernel_rfl, rfl, rfl, rfl, fun _ _ => ⟨rfl, rfl, rfl, rfl, trivial⟩⟩
theorem tok216 : TOk1 Try.prog 216 ⟨0, 0, [], .struct [(214, 0)]⟩ := ⟨⟨_, Try.underlying216, rfl⟩, rfl, Try.t216, _, by kernel_rfl, rfl, rfl, rfl, fun _ _ => trivial⟩
theorem tok217 : TOk1 Try.prog 217 ⟨1, 4, [.int .u32 0], .int .u32⟩ := ⟨Try.underlying217, rfl, Try.t217, _, by kernel_rfl, rfl, rfl, rfl, fun _ _ => ⟨rfl, trivial⟩⟩
theorem tok218 : TOk1 Try.prog 218 ⟨1, 1, [.int .u8 0], .int .u8⟩ := ⟨Try.underlying218, rfl, Try.t218, _, by kernel_rfl, rfl, rfl, rfl, fun _ _ => ⟨rfl, trivial⟩⟩
theorem tok219 : TOk1 Try.prog 219 ⟨1, 1, [.int .u8 0], .int .u8⟩ := ⟨Try.underlying219, rfl, Try.t219, _, by kernel_rfl, rfl, rfl, rfl, fun _ _ => ⟨rfl, trivial⟩⟩
theorem tok220 : TOk1 Try.prog 220 ⟨1, 8, [.any], .func⟩ := ⟨⟨_, _, _, Try.underlying220⟩, rfl, Try.t220, _, by kernel_rfl, rfl, rfl, rfl, fun _ _ => ⟨trivial, trivial⟩⟩
theorem tok221 : TOk1 Try.prog 221 ⟨1, 8, [.nilp], .ptr 5⟩ := ⟨Try.underlying221, rfl, Try.t221, _, by kernel_rfl, rfl, rfl, rfl, fun _ _ => ⟨rfl, trivial⟩⟩
theorem tok222 : TOk1 Try.prog 222 ⟨1, 4, [.int .i32 0], .int .i32⟩ := ⟨Try.underlying222, rfl, Try.t222, _, by kernel_rfl, rfl, rfl, rfl, fun _ _ => ⟨rfl, trivial⟩⟩
theorem tok223 : TOk1 Try.prog 223 ⟨1, 4, [.int .i32 0], .int .i32⟩ := ⟨Try.underlying223, rfl, Try.t223, _, by kernel_rfl, rfl, rfl, rfl, fun _ _ => ⟨rfl, trivial⟩⟩
theorem tok225 : TOk1 Try.prog 225 ⟨11, 48, [.int .u64 0, .int .u64 0, .int .u32 0, .int .u8 0, .int .u8 0, .int .u8 0, .int .u8 0, .any, .nilp, .int .i32 0, .int .i32 0], .struct [(12, 0), (12, 1), (217, 2), (218, 3), (5, 4), (5, 5), (219, 6), (220, 7), (221, 8), (222, 9), (223, 10)]⟩ := ⟨⟨_, Try.underlying225, rfl⟩, rfl, Try.t225, _, by kernel_rfl, rfl, rfl, rfl, fun _ _ => ⟨rfl, rfl, rfl, rfl, rfl, rfl, rfl, trivial, rfl, rfl, rfl, trivial⟩⟩
set_option maxHeartbeats 4000000 in
theorem tok : TOk Try.prog tab := by
  intro t i h
  unfold tab at h
  split at h
  · cases h; exact tok1
  · cases h; exact tok2
  · cases h; exact tok3
  · cases h; exact tok4
  · cases h; exact tok5
  · cases h; exact tok6
  · cases h; exact tok8
  · cases h; exact tok9
  · cases h; exact tok10
  · cases h; exact tok11
  · cases h; exact tok12
  · cases h; exact tok14
  · cases h; exact tok15
  · cases h; exact tok16
  · cases h; exact tok17
  · cases h; exact tok19
  · cases h; exact tok22
  · cases h; exact tok23
  · cases h; exact tok25
  · cases h; exact tok26
  · cases h; exact tok27
  · cases h; exact tok28
  · cases h; exact tok29
  · cases h; exact tok30
  · cases h; exact tok32
  · cases h; exact tok34
  · cases h; exact tok38
  · cases h; exact tok39
  · cases h; exact tok41
  · cases h; exact tok42
  · cases h; exact tok44
  · cases h; exact tok45
  · cases h; exact tok46
  · cases h; exact tok48
  · cases h; exact tok51
  · cases h; exact tok53
  · cases h; exact tok54
  · cases h; exact tok56
  · cases h; exact tok58
  · cases h; exact tok62
  · cases h; exact tok63
  · cases h; exact tok64
  · cases h; exact tok66
  · cases h; exact tok96
  · cases h; exact tok119
  · cases h; exact tok123
  · cases h; exact tok125
  · cases h; exact tok126
  · cases h; exact tok130
  · cases h; exact tok132
  · cases h; exact tok134
  · cases h; exact tok137
  · cases h; exact tok139
  · cases h; exact tok141
  · cases h; exact tok149
  · cases h; exact tok152
  · cases h; exact tok155
  · cases h; exact tok157
  · cases h; exact tok160
  · cases h; exact tok165
  · cases h; exact tok167
  · cases h; exact tok170
  · cases h; exact tok171
  · cases h; exact tok173
  · cases h; exact tok175
  · cases h; exact tok177
  · cases h; exact tok184
  · cases h; exact tok186
  · cases h; exact tok190
  · cases h; exact tok194
  · cases h; exact tok197
  · cases h; exact tok207
  · cases h; exact tok209
  · cases h; exact tok213
  · cases h; exact tok216
  · cases h; exact tok217
  · cases h; exact tok218
  · cases h; exact tok219
  · cases h; exact tok220
  · cases h; exact tok221
  · cases h; exact tok222
  · cases h; exact tok223
  · cases h; exact tok225
  · cases h
end Go.Proofs.YtjdglheacigbnaaE
