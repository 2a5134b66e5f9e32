/- A part of the proof of a law of the given program: the types of the program. No condition of its own. -/
import Derived.Test.YtjdglheacigbnaaGreatEG4
import Derived.Test.YtjdglheacigbnaaGreatChecked
namespace Go.Proofs.YtjdglheacigbnaaGreatE
open Go.Proofs Go.RowKit
set_option maxRecDepth 100000
def tab : Tab
  | 2 => some ⟨1, 8, [.int .i64 0], .int .i64⟩
  | 3 => some ⟨1, 8, [.int .i64 0], .int .i64⟩
  | 4 => some ⟨1, 1, [.bool false], .bool⟩
  | 5 => some ⟨1, 1, [.int .u8 0], .int .u8⟩
  | 6 => some ⟨1, 1, [.int .u8 0], .int .u8⟩
  | 8 => some ⟨4, 24, [.int .i64 0, .int .i64 0, .bool false, .int .u8 0], .struct [(2, 0), (3, 1), (4, 2), (6, 3)]⟩
  | 9 => some ⟨1, 16, [.str ByteArray.empty], .str⟩
  | 10 => some ⟨1, 16, [.str ByteArray.empty], .str⟩
  | 11 => some ⟨1, 16, [.str ByteArray.empty], .str⟩
  | 12 => some ⟨1, 8, [.int .u64 0], .int .u64⟩
  | 14 => some ⟨2, 24, [.str ByteArray.empty, .int .u64 0], .struct [(9, 0), (12, 1)]⟩
  | 15 => some ⟨1, 8, [.nilp], .ptr 172⟩
  | 16 => some ⟨1, 8, [.nilp], .ptr 175⟩
  | 17 => some ⟨1, 8, [.nilp], .ptr 184⟩
  | 19 => some ⟨1, 8, [.nilp], .struct [(17, 0)]⟩
  | 22 => some ⟨1, 24, [.nils], .slice 100⟩
  | 23 => some ⟨1, 24, [.nils], .slice 3⟩
  | 25 => some ⟨9, 120, [.int .i64 0, .int .i64 0, .int .i64 0, .nils, .int .i64 0, .int .i64 0, .nils, .nils, .int .i64 0], .struct [(3, 0), (3, 1), (3, 2), (22, 3), (3, 4), (3, 5), (23, 6), (23, 7), (3, 8)]⟩
  | 26 => some ⟨1, 24, [.nils], .slice 125⟩
  | 27 => some ⟨1, 24, [.nils], .slice 103⟩
  | 28 => some ⟨1, 24, [.nils], .slice 106⟩
  | 29 => some ⟨1, 24, [.nils], .slice 109⟩
  | 30 => some ⟨1, 24, [.nils], .slice 112⟩
  | 32 => some ⟨8, 160, [.int .i64 0, .int .i64 0, .nils, .nils, .nils, .nils, .nils, .nils], .struct [(3, 0), (3, 1), (23, 2), (26, 3), (27, 4), (28, 5), (29, 6), (30, 7)]⟩
  | 34 => some ⟨18, 288, [.bool false, .int .i64 0, .int .i64 0, .int .i64 0, .nils, .int .i64 0, .int .i64 0, .nils, .nils, .int .i64 0, .int .i64 0, .int .i64 0, .nils, .nils, .nils, .nils, .nils, .nils], .struct [(4, 0), (25, 1), (32, 10)]⟩
  | 37 => some ⟨1, 24, [.nils], .slice 73⟩
  | 39 => some ⟨9, 120, [.int .i64 0, .int .i64 0, .int .i64 0, .nils, .int .i64 0, .int .i64 0, .nils, .nils, .int .i64 0], .struct [(3, 0), (3, 1), (3, 2), (37, 3), (3, 4), (3, 5), (23, 6), (23, 7), (3, 8)]⟩
  | 40 => some ⟨1, 24, [.nils], .slice 116⟩
  | 41 => some ⟨1, 24, [.nils], .slice 78⟩
  | 42 => some ⟨1, 24, [.nils], .slice 119⟩
  | 43 => some ⟨1, 24, [.nils], .slice 122⟩
  | 44 => some ⟨1, 24, [.nils], .slice 117⟩
  | 46 => some ⟨8, 160, [.int .i64 0, .int .i64 0, .nils, .nils, .nils, .nils, .nils, .nils], .struct [(3, 0), (3, 1), (23, 2), (40, 3), (41, 4), (42, 5), (43, 6), (44, 7)]⟩
  | 48 => some ⟨18, 288, [.bool false, .int .i64 0, .int .i64 0, .int .i64 0, .nils, .int .i64 0, .int .i64 0, .nils, .nils, .int .i64 0, .int .i64 0, .int .i64 0, .nils, .nils, .nils, .nils, .nils, .nils], .struct [(4, 0), (39, 1), (46, 10)]⟩
  | 71 => some ⟨6, 56, [.int .i64 0, .int .i64 0, .int .i64 0, .int .i64 0, .int .i64 0, .str ByteArray.empty], .struct [(3, 0), (3, 1), (3, 2), (3, 3), (3, 4), (9, 5)]⟩
  | 73 => some ⟨7, 64, [.int .i64 0, .int .i64 0, .int .i64 0, .int .i64 0, .int .i64 0, .int .i64 0, .str ByteArray.empty], .struct [(3, 0), (71, 1)]⟩
  | 78 => some ⟨3, 40, [.int .i64 0, .int .i64 0, .nils], .struct [(3, 0), (3, 1), (40, 2)]⟩
  | 86 => some ⟨1, 8, [.any], .func⟩
  | 98 => some ⟨6, 56, [.int .i64 0, .int .i64 0, .int .i64 0, .int .i64 0, .int .i64 0, .str ByteArray.empty], .struct [(3, 0), (3, 1), (3, 2), (3, 3), (3, 4), (9, 5)]⟩
  | 100 => some ⟨7, 64, [.int .i64 0, .int .i64 0, .int .i64 0, .int .i64 0, .int .i64 0, .int .i64 0, .str ByteArray.empty], .struct [(3, 0), (98, 1)]⟩
  | 103 => some ⟨3, 40, [.int .i64 0, .int .i64 0, .nils], .struct [(3, 0), (3, 1), (26, 2)]⟩
  | 106 => some ⟨4, 64, [.int .i64 0, .int .i64 0, .nils, .nils], .struct [(3, 0), (3, 1), (26, 2), (23, 3)]⟩
  | 109 => some ⟨4, 64, [.int .i64 0, .int .i64 0, .nils, .nils], .struct [(3, 0), (3, 1), (23, 2), (26, 3)]⟩
  | 112 => some ⟨4, 48, [.int .i64 0, .int .i64 0, .int .i64 0, .nils], .struct [(3, 0), (3, 1), (3, 2), (23, 3)]⟩
  | 114 => some ⟨1, 8, [.any], .func⟩
  | 116 => some ⟨2, 16, [.int .i64 0, .int .i64 0], .struct [(3, 0), (3, 1)]⟩
  | 117 => some ⟨4, 48, [.int .i64 0, .int .i64 0, .int .i64 0, .nils], .struct [(3, 0), (3, 1), (3, 2), (23, 3)]⟩
  | 119 => some ⟨4, 64, [.int .i64 0, .int .i64 0, .nils, .nils], .struct [(3, 0), (3, 1), (40, 2), (23, 3)]⟩
  | 122 => some ⟨4, 64, [.int .i64 0, .int .i64 0, .nils, .nils], .struct [(3, 0), (3, 1), (23, 2), (40, 3)]⟩
  | 125 => some ⟨2, 16, [.int .i64 0, .int .i64 0], .struct [(3, 0), (3, 1)]⟩
  | 131 => some ⟨1, 8, [.nilp], .ptr 39⟩
  | 135 => some ⟨1, 8, [.any], .func⟩
  | 136 => some ⟨1, 8, [.any], .func⟩
  | 139 => some ⟨1, 8, [.any], .func⟩
  | 140 => some ⟨1, 8, [.any], .func⟩
  | 142 => some ⟨1, 8, [.any], .func⟩
  | 144 => some ⟨1, 8, [.any], .func⟩
  | 146 => some ⟨1, 8, [.any], .func⟩
  | 149 => some ⟨1, 8, [.any], .func⟩
  | 151 => some ⟨1, 8, [.any], .func⟩
  | 163 => some ⟨1, 8, [.any], .func⟩
  | 172 => some ⟨4, 40, [.nilp, .nilp, .nilp, .str ByteArray.empty], .struct [(17, 0), (17, 1), (17, 2), (9, 3)]⟩
  | 175 => some ⟨0, 0, [], .struct [(173, 0)]⟩
  | 176 => some ⟨1, 4, [.int .u32 0], .int .u32⟩
  | 177 => some ⟨1, 1, [.int .u8 0], .int .u8⟩
  | 178 => some ⟨1, 1, [.int .u8 0], .int .u8⟩
  | 179 => some ⟨1, 8, [.any], .func⟩
  | 180 => some ⟨1, 8, [.nilp], .ptr 5⟩
  | 181 => some ⟨1, 4, [.int .i32 0], .int .i32⟩
  | 182 => some ⟨1, 4, [.int .i32 0], .int .i32⟩
  | 184 => some ⟨11, 48, [.int .u64 0, .int .u64 0, .int .u32 0, .int .u8 0, .int .u8 0, .int .u8 0, .int .u8 0, .any, .nilp, .int .i32 0, .int .i32 0], .struct [(12, 0), (12, 1), (176, 2), (177, 3), (5, 4), (5, 5), (178, 6), (179, 7), (180, 8), (181, 9), (182, 10)]⟩
  | _ => none
theorem tok2 : TOk1 Tryz.prog 2 ⟨1, 8, [.int .i64 0], .int .i64⟩ := ⟨Tryz.underlying2, rfl, Tryz.t2, _, by kernel_rfl, rfl, rfl, rfl, fun _ _ => ⟨rfl, trivial⟩⟩
theorem tok3 : TOk1 Tryz.prog 3 ⟨1, 8, [.int .i64 0], .int .i64⟩ := ⟨Tryz.underlying3, rfl, Tryz.t3, _, by kernel_rfl, rfl, rfl, rfl, fun _ _ => ⟨rfl, trivial⟩⟩
theorem tok4 : TOk1 Tryz.prog 4 ⟨1, 1, [.bool false], .bool⟩ := ⟨Tryz.underlying4, rfl, Tryz.t4, _, by kernel_rfl, rfl, rfl, rfl, fun _ _ => ⟨rfl, trivial⟩⟩
theorem tok5 : TOk1 Tryz.prog 5 ⟨1, 1, [.int .u8 0], .int .u8⟩ := ⟨Tryz.underlying5, rfl, Tryz.t5, _, by kernel_rfl, rfl, rfl, rfl, fun _ _ => ⟨rfl, trivial⟩⟩
theorem tok6 : TOk1 Tryz.prog 6 ⟨1, 1, [.int .u8 0], .int .u8⟩ := ⟨Tryz.underlying6, rfl, Tryz.t6, _, by kernel_rfl, rfl, rfl, rfl, fun _ _ => ⟨rfl, trivial⟩⟩
theorem tok8 : TOk1 Tryz.prog 8 ⟨4, 24, [.int .i64 0, .int .i64 0, .bool false, .int .u8 0], .struct [(2, 0), (3, 1), (4, 2), (6, 3)]⟩ := ⟨⟨_, Tryz.underlying8, rfl⟩, rfl, Tryz.t8, _, by kernel_rfl, rfl, rfl, rfl, fun _ _ => ⟨rfl, rfl, rfl, rfl, trivial⟩⟩
theorem tok9 : TOk1 Tryz.prog 9 ⟨1, 16, [.str ByteArray.empty], .str⟩ := ⟨Tryz.underlying9, rfl, Tryz.t9, _, by kernel_rfl, rfl, rfl, rfl, fun _ _ => ⟨rfl, trivial⟩⟩
theorem tok10 : TOk1 Tryz.prog 10 ⟨1, 16, [.str ByteArray.empty], .str⟩ := ⟨Tryz.underlying10, rfl, Tryz.t10, _, by kernel_rfl, rfl, rfl, rfl, fun _ _ => ⟨rfl, trivial⟩⟩
theorem tok11 : TOk1 Tryz.prog 11 ⟨1, 16, [.str ByteArray.empty], .str⟩ := ⟨Tryz.underlying11, rfl, Tryz.t11, _, by kernel_rfl, rfl, rfl, rfl, fun _ _ => ⟨rfl, trivial⟩⟩
theorem tok12 : TOk1 Tryz.prog 12 ⟨1, 8, [.int .u64 0], .int .u64⟩ := ⟨Tryz.underlying12, rfl, Tryz.t12, _, by kernel_rfl, rfl, rfl, rfl, fun _ _ => ⟨rfl, trivial⟩⟩
theorem tok14 : TOk1 Tryz.prog 14 ⟨2, 24, [.str ByteArray.empty, .int .u64 0], .struct [(9, 0), (12, 1)]⟩ := ⟨⟨_, Tryz.underlying14, rfl⟩, rfl, Tryz.t14, _, by kernel_rfl, rfl, rfl, rfl, fun _ _ => ⟨rfl, rfl, trivial⟩⟩
theorem tok15 : TOk1 Tryz.prog 15 ⟨1, 8, [.nilp], .ptr 172⟩ := ⟨Tryz.underlying15, rfl, Tryz.t15, _, by kernel_rfl, rfl, rfl, rfl, fun _ _ => ⟨rfl, trivial⟩⟩
theorem tok16 : TOk1 Tryz.prog 16 ⟨1, 8, [.nilp], .ptr 175⟩ := ⟨Tryz.underlying16, rfl, Tryz.t16, _, by kernel_rfl, rfl, rfl, rfl, fun _ _ => ⟨rfl, trivial⟩⟩
theorem tok17 : TOk1 Tryz.prog 17 ⟨1, 8, [.nilp], .ptr 184⟩ := ⟨Tryz.underlying17, rfl, Tryz.t17, _, by kernel_rfl, rfl, rfl, rfl, fun _ _ => ⟨rfl, trivial⟩⟩
theorem tok19 : TOk1 Tryz.prog 19 ⟨1, 8, [.nilp], .struct [(17, 0)]⟩ := ⟨⟨_, Tryz.underlying19, rfl⟩, rfl, Tryz.t19, _, by kernel_rfl, rfl, rfl, rfl, fun _ _ => ⟨rfl, trivial⟩⟩
theorem tok22 : TOk1 Tryz.prog 22 ⟨1, 24, [.nils], .slice 100⟩ := ⟨Tryz.underlying22, rfl, Tryz.t22, _, by kernel_rfl, rfl, rfl, rfl, fun _ _ => ⟨rfl, trivial⟩⟩
theorem tok23 : TOk1 Tryz.prog 23 ⟨1, 24, [.nils], .slice 3⟩ := ⟨Tryz.underlying23, rfl, Tryz.t23, _, by kernel_rfl, rfl, rfl, rfl, fun _ _ => ⟨rfl, trivial⟩⟩
theorem tok25 : TOk1 Tryz.prog 25 ⟨9, 120, [.int .i64 0, .int .i64 0, .int .i64 0, .nils, .int .i64 0, .int .i64 0, .nils, .nils, .int .i64 0], .struct [(3, 0), (3, 1), (3, 2), (22, 3), (3, 4), (3, 5), (23, 6), (23, 7), (3, 8)]⟩ := ⟨⟨_, Tryz.underlying25, rfl⟩, rfl, Tryz.t25, _, by kernel_rfl, rfl, rfl, rfl, fun _ _ => ⟨rfl, rfl, rfl, rfl, rfl, rfl, rfl, rfl, rfl, trivial⟩⟩
theorem tok26 : TOk1 Tryz.prog 26 ⟨1, 24, [.nils], .slice 125⟩ := ⟨Tryz.underlying26, rfl, Tryz.t26, _, by kernel_rfl, rfl, rfl, rfl, fun _ _ => ⟨rfl, trivial⟩⟩
theorem tok27 : TOk1 Tryz.prog 27 ⟨1, 24, [.nils], .slice 103⟩ := ⟨Tryz.underlying27, rfl, Tryz.t27, _, by kernel_rfl, rfl, rfl, rfl, fun _ _ => ⟨rfl, trivial⟩⟩
theorem tok28 : TOk1 Tryz.prog 28 ⟨1, 24, [.nils], .slice 106⟩ := ⟨Tryz.underlying28, rfl, Tryz.t28, _, by kernel_rfl, rfl, rfl, rfl, fun _ _ => ⟨rfl, trivial⟩⟩
theorem tok29 : TOk1 Tryz.prog 29 ⟨1, 24, [.nils], .slice 109⟩ := ⟨Tryz.underlying29, rfl, Tryz.t29, _, by kernel_rfl, rfl, rfl, rfl, fun _ _ => ⟨rfl, trivial⟩⟩
theorem tok30 : TOk1 Tryz.prog 30 ⟨1, 24, [.nils], .slice 112⟩ := ⟨Tryz.underlying30, rfl, Tryz.t30, _, by kernel_rfl, rfl, rfl, rfl, fun _ _ => ⟨rfl, trivial⟩⟩
theorem tok32 : TOk1 Tryz.prog 32 ⟨8, 160, [.int .i64 0, .int .i64 0, .nils, .nils, .nils, .nils, .nils, .nils], .struct [(3, 0), (3, 1), (23, 2), (26, 3), (27, 4), (28, 5), (29, 6), (30, 7)]⟩ := ⟨⟨_, Tryz.underlying32, rfl⟩, rfl, Tryz.t32, _, by kernel_rfl, rfl, rfl, rfl, fun _ _ => ⟨rfl, rfl, rfl, rfl, rfl, rfl, rfl, rfl, trivial⟩⟩
theorem tok34 : TOk1 Tryz.prog 34 ⟨18, 288, [.bool false, .int .i64 0, .int .i64 0, .int .i64 0, .nils, .int .i64 0, .int .i64 0, .nils, .nils, .int .i64 0, .int .i64 0, .int .i64 0, .nils, .nils, .nils, .nils, .nils, .nils], .struct [(4, 0), (25, 1), (32, 10)]⟩ := ⟨⟨_, Tryz.underlying34, rfl⟩, rfl, Tryz.t34, _, by kernel_rfl, rfl, rfl, rfl, fun _ _ => ⟨rfl, rfl, rfl, rfl, rfl, rfl, rfl, rfl, rfl, rfl, rfl, rfl, rfl, rfl, rfl, rfl, rfl, rfl, trivial⟩⟩
theorem tok37 : TOk1 Tryz.prog 37 ⟨1, 24, [.nils], .slice 73⟩ := ⟨Tryz.underlying37, rfl, Tryz.t37, _, by kernel_rfl, rfl, rfl, rfl, fun _ _ => ⟨rfl, trivial⟩⟩
theorem tok39 : TOk1 Tryz.prog 39 ⟨9, 120, [.int .i64 0, .int .i64 0, .int .i64 0, .nils, .int .i64 0, .int .i64 0, .nils, .nils, .int .i64 0], .struct [(3, 0), (3, 1), (3, 2), (37, 3), (3, 4), (3, 5), (23, 6), (23, 7), (3, 8)]⟩ := ⟨⟨_, Tryz.underlying39, rfl⟩, rfl, Tryz.t39, _, by kernel_rfl, rfl, rfl, rfl, fun _ _ => ⟨rfl, rfl, rfl, rfl, rfl, rfl, rfl, rfl, rfl, trivial⟩⟩
theorem tok40 : TOk1 Tryz.prog 40 ⟨1, 24, [.nils], .slice 116⟩ := ⟨Tryz.underlying40, rfl, Tryz.t40, _, by kernel_rfl, rfl, rfl, rfl, fun _ _ => ⟨rfl, trivial⟩⟩
theorem tok41 : TOk1 Tryz.prog 41 ⟨1, 24, [.nils], .slice 78⟩ := ⟨Tryz.underlying41, rfl, Tryz.t41, _, by kernel_rfl, rfl, rfl, rfl, fun _ _ => ⟨rfl, trivial⟩⟩
theorem tok42 : TOk1 Tryz.prog 42 ⟨1, 24, [.nils], .slice 119⟩ := ⟨Tryz.underlying42, rfl, Tryz.t42, _, by kernel_rfl, rfl, rfl, rfl, fun _ _ => ⟨rfl, trivial⟩⟩
theorem tok43 : TOk1 Tryz.prog 43 ⟨1, 24, [.nils], .slice 122⟩ := ⟨Tryz.underlying43, rfl, Tryz.t43, _, by kernel_rfl, rfl, rfl, rfl, fun _ _ => ⟨rfl, trivial⟩⟩
theorem tok44 : TOk1 Tryz.prog 44 ⟨1, 24, [.nils], .slice 117⟩ := ⟨Tryz.underlying44, rfl, Tryz.t44, _, by kernel_rfl, rfl, rfl, rfl, fun _ _ => ⟨rfl, trivial⟩⟩
theorem tok46 : TOk1 Tryz.prog 46 ⟨8, 160, [.int .i64 0, .int .i64 0, .nils, .nils, .nils, .nils, .nils, .nils], .struct [(3, 0), (3, 1), (23, 2), (40, 3), (41, 4), (42, 5), (43, 6), (44, 7)]⟩ := ⟨⟨_, Tryz.underlying46, rfl⟩, rfl, Tryz.t46, _, by kernel_rfl, rfl, rfl, rfl, fun _ _ => ⟨rfl, rfl, rfl, rfl, rfl, rfl, rfl, rfl, trivial⟩⟩
theorem tok48 : TOk1 Tryz.prog 48 ⟨18, 288, [.bool false, .int .i64 0, .int .i64 0, .int .i64 0, .nils, .int .i64 0, .int .i64 0, .nils, .nils, .int .i64 0, .int .i64 0, .int .i64 0, .nils, .nils, .nils, .nils, .nils, .nils], .struct [(4, 0), (39, 1), (46, 10)]⟩ := ⟨⟨_, Tryz.underlying48, rfl⟩, rfl, Tryz.t48, _, by kernel_rfl, rfl, rfl, rfl, fun _ _ => ⟨rfl, rfl, rfl, rfl, rfl, rfl, rfl, rfl, rfl, rfl, rfl, rfl, rfl, rfl, rfl, rfl, rfl, rfl, trivial⟩⟩
theorem tok71 : TOk1 Tryz.prog 71 ⟨6, 56, [.int .i64 0, .int .i64 0, .int .i64 0, .int .i64 0, .int .i64 0, .str ByteArray.empty], .struct [(3, 0), (3, 1), (3, 2), (3, 3), (3, 4), (9, 5)]⟩ := ⟨⟨_, Tryz.underlying71, rfl⟩, rfl, Tryz.t71, _, by kernel_rfl, rfl, rfl, rfl, fun _ _ => ⟨rfl, rfl, rfl, rfl, rfl, rfl, trivial⟩⟩
theorem tok73 : TOk1 Tryz.prog 73 ⟨7, 64, [.int .i64 0, .int .i64 0, .int .i64 0, .int .i64 0, .int .i64 0, .int .i64 0, .str ByteArray.empty], .struct [(3, 0), (71, 1)]⟩ := ⟨⟨_, Tryz.underlying73, rfl⟩, rfl, Tryz.t73, _, by kernel_rfl, rfl, rfl, rfl, fun _ _ => ⟨rfl, rfl, rfl, rfl, rfl, rfl, rfl, trivial⟩⟩
theorem tok78 : TOk1 Tryz.prog 78 ⟨3, 40, [.int .i64 0, .int .i64 0, .nils], .struct [(3, 0), (3, 1), (40, 2)]⟩ := ⟨⟨_, Tryz.underlying78, rfl⟩, rfl, Tryz.t78, _, by kernel_rfl, rfl, rfl, rfl, fun _ _ => ⟨rfl, rfl, rfl, trivial⟩⟩
theorem tok86 : TOk1 Tryz.prog 86 ⟨1, 8, [.any], .func⟩ := ⟨⟨_, _, _, Tryz.underlying86⟩, rfl, Tryz.t86, _, by kernel_rfl, rfl, rfl, rfl, fun _ _ => ⟨trivial, trivial⟩⟩
theorem tok98 : TOk1 Tryz.prog 98 ⟨6, 56, [.int .i64 0, .int .i64 0, .int .i64 0, .int .i64 0, .int .i64 0, .str ByteArray.empty], .struct [(3, 0), (3, 1), (3, 2), (3, 3), (3, 4), (9, 5)]⟩ := ⟨⟨_, Tryz.underlying98, rfl⟩, rfl, Tryz.t98, _, by kernel_rfl, rfl, rfl, rfl, fun _ _ => ⟨rfl, rfl, rfl, rfl, rfl, rfl, trivial⟩⟩
theorem tok100 : TOk1 Tryz.prog 100 ⟨7, 64, [.int .i64 0, .int .i64 0, .int .i64 0, .int .i64 0, .int .i64 0, .int .i64 0, .str ByteArray.empty], .struct [(3, 0), (98, 1)]⟩ := ⟨⟨_, Tryz.underlying100, rfl⟩, rfl, Tryz.t100, _, by kernel_rfl, rfl, rfl, rfl, fun _ _ => ⟨rfl, rfl, rfl, rfl, rfl, rfl, rfl, trivial⟩⟩
theorem tok103 : TOk1 Tryz.prog 103 ⟨3, 40, [.int .i64 0, .int .i64 0, .nils], .struct [(3, 0), (3, 1), (26, 2)]⟩ := ⟨⟨_, Tryz.underlying103, rfl⟩, rfl, Tryz.t103, _, by kernel_rfl, rfl, rfl, rfl, fun _ _ => ⟨rfl, rfl, rfl, trivial⟩⟩
theorem tok106 : TOk1 Tryz.prog 106 ⟨4, 64, [.int .i64 0, .int .i64 0, .nils, .nils], .struct [(3, 0), (3, 1), (26, 2), (23, 3)]⟩ := ⟨⟨_, Tryz.underlying106, rfl⟩, rfl, Tryz.t106, _, by kernel_rfl, rfl, rfl, rfl, fun _ _ => ⟨rfl, rfl, rfl, rfl, trivial⟩⟩
theorem tok109 : TOk1 Tryz.prog 109 ⟨4, 64, [.int .i64 0, .int .i64 0, .nils, .nils], .struct [(3, 0), (3, 1), (23, 2), (26, 3)]⟩ := ⟨⟨_, Tryz.underlying109, rfl⟩, rfl, Tryz.t109, _, by kernel_rfl, rfl, rfl, rfl, fun _ _ => ⟨rfl, rfl, rfl, rfl, trivial⟩⟩
theorem tok112 : TOk1 Tryz.prog 112 ⟨4, 48, [.int .i64 0, .int .i64 0, .int .i64 0, .nils], .struct [(3, 0), (3, 1), (3, 2), (23, 3)]⟩ := ⟨⟨_, Tryz.underlying112, rfl⟩, rfl, Tryz.t112, _, by kernel_rfl, rfl, rfl, rfl, fun _ _ => ⟨rfl, rfl, rfl, rfl, trivial⟩⟩
theorem tok114 : TOk1 Tryz.prog 114 ⟨1, 8, [.any], .func⟩ := ⟨⟨_, _, _, Tryz.underlying114⟩, rfl, Tryz.t114, _, by kernel_rfl, rfl, rfl, rfl, fun _ _ => ⟨trivial, trivial⟩⟩
theorem tok116 : TOk1 Tryz.prog 116 ⟨2, 16, [.int .i64 0, .int .i64 0], .struct [(3, 0), (3, 1)]⟩ := ⟨⟨_, Tryz.underlying116, rfl⟩, rfl, Tryz.t116, _, by kernel_rfl, rfl, rfl, rfl, fun _ _ => ⟨rfl, rfl, trivial⟩⟩
theorem tok117 : TOk1 Tryz.prog 117 ⟨4, 48, [.int .i64 0, .int .i64 0, .int .i64 0, .nils], .struct [(3, 0), (3, 1), (3, 2), (23, 3)]⟩ := ⟨⟨_, Tryz.underlying117, rfl⟩, rfl, Tryz.t117, _, by kernel_rfl, rfl, rfl, rfl, fun _ _ => ⟨rfl, rfl, rfl, rfl, trivial⟩⟩
theorem tok119 : TOk1 Tryz.prog 119 ⟨4, 64, [.int .i64 0, .int .i64 0, .nils, .nils], .struct [(3, 0), (3, 1), (40, 2), (23, 3)]⟩ := ⟨⟨_, Tryz.underlying119, rfl⟩, rfl, Tryz.t119, _, by kernel_rfl, rfl, rfl, rfl, fun _ _ => ⟨rfl, rfl, rfl, rfl, trivial⟩⟩
theorem tok122 : TOk1 Tryz.prog 122 ⟨4, 64, [.int .i64 0, .int .i64 0, .nils, .nils], .struct [(3, 0), (3, 1), (23, 2), (40, 3)]⟩ := ⟨⟨_, Tryz.underlying122, rfl⟩, rfl, Tryz.t122, _, by kernel_rfl, rfl, rfl, rfl, fun _ _ => ⟨rfl, rfl, rfl, rfl, trivial⟩⟩
theorem tok125 : TOk1 Tryz.prog 125 ⟨2, 16, [.int .i64 0, .int .i64 0], .struct [(3, 0), (3, 1)]⟩ := ⟨⟨_, Tryz.underlying125, rfl⟩, rfl, Tryz.t125, _, by kernel_rfl, rfl, rfl, rfl, fun _ _ => ⟨rfl, rfl, trivial⟩⟩
theorem tok131 : TOk1 Tryz.prog 131 ⟨1, 8, [.nilp], .ptr 39⟩ := ⟨Tryz.underlying131, rfl, Tryz.t131, _, by kernel_rfl, rfl, rfl, rfl, fun _ _ => ⟨rfl, trivial⟩⟩
theorem tok135 : TOk1 Tryz.prog 135 ⟨1, 8, [.any], .func⟩ := ⟨⟨_, _, _, Tryz.underlying135⟩, rfl, Tryz.t135, _, by kernel_rfl, rfl, rfl, rfl, fun _ _ => ⟨trivial, trivial⟩⟩
theorem tok136 : TOk1 Tryz.prog 136 ⟨1, 8, [.any], .func⟩ := ⟨⟨_, _, _, Tryz.underlying136⟩, rfl, Tryz.t136, _, by kernel_rfl, rfl, rfl, rfl, fun _ _ => ⟨trivial, trivial⟩⟩
theorem tok139 : TOk1 Tryz.prog 139 ⟨1, 8, [.any], .func⟩ := ⟨⟨_, _, _, Tryz.underlying139⟩, rfl, Tryz.t139, _, by kernel_rfl, rfl, rfl, rfl, fun _ _ => ⟨trivial, trivial⟩⟩
theorem tok140 : TOk1 Tryz.prog 140 ⟨1, 8, [.any], .func⟩ := ⟨⟨_, _, _, Tryz.underlying140⟩, rfl, Tryz.t140, _, by kernel_rfl, rfl, rfl, rfl, fun _ _ => ⟨trivial, trivial⟩⟩
theorem tok142 : TOk1 Tryz.prog 142 ⟨1, 8, [.any], .func⟩ := ⟨⟨_, _, _, Tryz.underlying142⟩, rfl, Tryz.t142, _, by kernel_rfl, rfl, rfl, rfl, fun _ _ => ⟨trivial, trivial⟩⟩
theorem tok144 : TOk1 Tryz.prog 144 ⟨1, 8, [.any], .func⟩ := ⟨⟨_, _, _, Tryz.underlying144⟩, rfl, Tryz.t144, _, by kernel_rfl, rfl, rfl, rfl, fun _ _ => ⟨trivial, trivial⟩⟩
theorem tok146 : TOk1 Tryz.prog 146 ⟨1, 8, [.any], .func⟩ := ⟨⟨_, _, _, Tryz.underlying146⟩, rfl, Tryz.t146, _, by kernel_rfl, rfl, rfl, rfl, fun _ _ => ⟨trivial, trivial⟩⟩
theorem tok149 : TOk1 Tryz.prog 149 ⟨1, 8, [.any], .func⟩ := ⟨⟨_, _, _, Tryz.underlying149⟩, rfl, Tryz.t149, _, by kernel_rfl, rfl, rfl, rfl, fun _ _ => ⟨trivial, trivial⟩⟩
theorem tok151 : TOk1 Tryz.prog 151 ⟨1, 8, [.any], .func⟩ := ⟨⟨_, _, _, Tryz.underlying151⟩, rfl, Tryz.t151, _, by kernel_rfl, rfl, rfl, rfl, fun _ _ => ⟨trivial, trivial⟩⟩
theorem tok163 : TOk1 Tryz.prog 163 ⟨1, 8, [.any], .func⟩ := ⟨⟨_, _, _, Tryz.underlying163⟩, rfl, Tryz.t163, _, by kernel_rfl, rfl, rfl, rfl, fun _ _ => ⟨trivial, trivial⟩⟩
theorem tok172 : TOk1 Tryz.prog 172 ⟨4, 40, [.nilp, .nilp, .nilp, .str ByteArray.empty], .struct [(17, 0), (17, 1), (17, 2), (9, 3)]⟩ := ⟨⟨_, Tryz.underlying172, rfl⟩, rfl, Tryz.t172, _, by kernel_rfl, rfl, rfl, rfl, fun _ _ => ⟨rfl, rfl, rfl, rfl, trivial⟩⟩
theorem tok175 : TOk1 Tryz.prog 175 ⟨0, 0, [], .struct [(173, 0)]⟩ := ⟨⟨_, Tryz.underlying175, rfl⟩, rfl, Tryz.t175, _, by kernel_rfl, rfl, rfl, rfl, fun _ _ => trivial⟩
theorem tok176 : TOk1 Tryz.prog 176 ⟨1, 4, [.int .u32 0], .int .u32⟩ := ⟨Tryz.underlying176, rfl, Tryz.t176, _, by kernel_rfl, rfl, rfl, rfl, fun _ _ => ⟨rfl, trivial⟩⟩
theorem tok177 : TOk1 Tryz.prog 177 ⟨1, 1, [.int .u8 0], .int .u8⟩ := ⟨Tryz.underlying177, rfl, Tryz.t177, _, by kernel_rfl, rfl, rfl, rfl, fun _ _ => ⟨rfl, trivial⟩⟩
theorem tok178 : TOk1 Tryz.prog 178 ⟨1, 1, [.int .u8 0], .int .u8⟩ := ⟨Tryz.underlying178, rfl, Tryz.t178, _, by kernel_rfl, rfl, rfl, rfl, fun _ _ => ⟨rfl, trivial⟩⟩
theorem tok179 : TOk1 Tryz.prog 179 ⟨1, 8, [.any], .func⟩ := ⟨⟨_, _, _, Tryz.underlying179⟩, rfl, Tryz.t179, _, by kernel_rfl, rfl, rfl, rfl, fun _ _ => ⟨trivial, trivial⟩⟩
theorem tok180 : TOk1 Tryz.prog 180 ⟨1, 8, [.nilp], .ptr 5⟩ := ⟨Tryz.underlying180, rfl, Tryz.t180, _, by kernel_rfl, rfl, rfl, rfl, fun _ _ => ⟨rfl, trivial⟩⟩
theorem tok181 : TOk1 Tryz.prog 181 ⟨1, 4, [.int .i32 0], .int .i32⟩ := ⟨Tryz.underlying181, rfl, Tryz.t181, _, by kernel_rfl, rfl, rfl, rfl, fun _ _ => ⟨rfl, trivial⟩⟩
theorem tok182 : TOk1 Tryz.prog 182 ⟨1, 4, [.int .i32 0], .int .i32⟩ := ⟨Tryz.underlying182, rfl, Tryz.t182, _, by kernel_rfl, rfl, rfl, rfl, fun _ _ => ⟨rfl, trivial⟩⟩
theorem tok184 : TOk1 Tryz.prog 184 ⟨11, 48, [.int .u64 0, .int .u64 0, .int .u32 0, .int .u8 0, .int .u8 0, .int .u8 0, .int .u8 0, .any, .nilp, .int .i32 0, .int .i32 0], .struct [(12, 0), (12, 1), (176, 2), (177, 3), (5, 4), (5, 5), (178, 6), (179, 7), (180, 8), (181, 9), (182, 10)]⟩ := ⟨⟨_, Tryz.underlying184, rfl⟩, rfl, Tryz.t184, _, by kernel_rfl, rfl, rfl, rfl, fun _ _ => ⟨rfl, rfl, rfl, rfl, rfl, rfl, rfl, trivial, rfl, rfl, rfl, trivial⟩⟩
set_option maxHeartbeats 4000000 in
theorem tok : TOk Tryz.prog tab := by
  intro t i h
  unfold tab at h
  split at h
  · cases h; exact tok2
  · cases h; exact tok3
  · cases h; exact tok4
  · cases h; exact tok5
  · cases h; exact tok6
  · cases h; exact tok8
  · cases h; exact tok9
  · cases h; exact tok10
  · cases h; exact tok11
  · cases h; exact tok12
  · cases h; exact tok14
  · cases h; exact tok15
  · cases h; exact tok16
  · cases h; exact tok17
  · cases h; exact tok19
  · cases h; exact tok22
  · cases h; exact tok23
  · cases h; exact tok25
  · cases h; exact tok26
  · cases h; exact tok27
  · cases h; exact tok28
  · cases h; exact tok29
  · cases h; exact tok30
  · cases h; exact tok32
  · cases h; exact tok34
  · cases h; exact tok37
  · cases h; exact tok39
  · cases h; exact tok40
  · cases h; exact tok41
  · cases h; exact tok42
  · cases h; exact tok43
  · cases h; exact tok44
  · cases h; exact tok46
  · cases h; exact tok48
  · cases h; exact tok71
  · cases h; exact tok73
  · cases h; exact tok78
  · cases h; exact tok86
  · cases h; exact tok98
  · cases h; exact tok100
  · cases h; exact tok103
  · cases h; exact tok106
  · cases h; exact tok109
  · cases h; exact tok112
  · cases h; exact tok114
  · cases h; exact tok116
  · cases h; exact tok117
  · cases h; exact tok119
  · cases h; exact tok122
  · cases h; exact tok125
  · cases h; exact tok131
  · cases h; exact tok135
  · cases h; exact tok136
  · cases h; exact tok139
  · cases h; exact tok140
  · cases h; exact tok142
  · cases h; exact tok144
  · cases h; exact tok146
  · cases h; exact tok149
  · cases h; exact tok151
  · cases h; exact tok163
  · cases h; exact tok172
  · cases h; exact tok175
  · cases h; exact tok176
  · cases h; exact tok177
  · cases h; exact tok178
  · cases h; exact tok179
  · cases h; exact tok180
  · cases h; exact tok181
  · cases h; exact tok182
  · cases h; exact tok184
  · cases h
end Go.Proofs.YtjdglheacigbnaaGreatE
