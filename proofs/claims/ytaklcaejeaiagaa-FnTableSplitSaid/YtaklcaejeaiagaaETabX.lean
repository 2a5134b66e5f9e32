/- A part of the proof of a law of the given program: the types of the program. No condition of its own. -/
import Derived.Test.YtaklcaejeaiagaaEG4
import Derived.Test.YtaklcaejeaiagaaChecked
namespace Go.Proofs.YtaklcaejeaiagaaE
open Go.Proofs Go.RowKit
set_option maxRecDepth 100000
def tab : Tab
  | 1 => some ⟨1, 8, [.any], .func⟩
  | 2 => some ⟨1, 8, [.int .i64 0], .int .i64⟩
  | 3 => some ⟨1, 8, [.int .i64 0], .int .i64⟩
  | 4 => some ⟨1, 1, [.bool false], .bool⟩
  | 5 => some ⟨1, 1, [.int .u8 0], .int .u8⟩
  | 6 => some ⟨1, 1, [.int .u8 0], .int .u8⟩
  | 8 => some ⟨4, 24, [.int .i64 0, .int .i64 0, .bool false, .int .u8 0], .struct [(2, 0), (3, 1), (4, 2), (6, 3)]⟩
  | 9 => some ⟨1, 16, [.str ByteArray.empty], .str⟩
  | 10 => some ⟨1, 16, [.str ByteArray.empty], .str⟩
  | 11 => some ⟨1, 16, [.str ByteArray.empty], .str⟩
  | 12 => some ⟨1, 8, [.int .u64 0], .int .u64⟩
  | 14 => some ⟨2, 24, [.str ByteArray.empty, .int .u64 0], .struct [(9, 0), (12, 1)]⟩
  | 15 => some ⟨1, 8, [.nilp], .ptr 188⟩
  | 16 => some ⟨1, 8, [.nilp], .ptr 191⟩
  | 17 => some ⟨1, 8, [.nilp], .ptr 199⟩
  | 19 => some ⟨1, 8, [.nilp], .struct [(17, 0)]⟩
  | 22 => some ⟨1, 24, [.nils], .slice 117⟩
  | 24 => some ⟨3, 40, [.int .i64 0, .int .i64 0, .nils], .struct [(3, 0), (3, 1), (22, 2)]⟩
  | 26 => some ⟨1, 24, [.nils], .slice 72⟩
  | 28 => some ⟨3, 40, [.int .i64 0, .int .i64 0, .nils], .struct [(3, 0), (3, 1), (26, 2)]⟩
  | 35 => some ⟨1, 24, [.nils], .slice 5⟩
  | 39 => some ⟨1, 24, [.nils], .slice 127⟩
  | 40 => some ⟨1, 24, [.nils], .slice 129⟩
  | 41 => some ⟨1, 24, [.nils], .slice 3⟩
  | 43 => some ⟨3, 72, [.nils, .nils, .nils], .struct [(39, 0), (40, 1), (41, 2)]⟩
  | 46 => some ⟨1, 24, [.nils], .slice 92⟩
  | 47 => some ⟨1, 24, [.nils], .slice 94⟩
  | 49 => some ⟨3, 72, [.nils, .nils, .nils], .struct [(46, 0), (47, 1), (41, 2)]⟩
  | 56 => some ⟨1, 24, [.nils], .slice 63⟩
  | 63 => some ⟨2, 16, [.int .i64 0, .int .i64 0], .struct [(3, 0), (3, 1)]⟩
  | 64 => some ⟨1, 24, [.nils], .slice 112⟩
  | 72 => some ⟨3, 24, [.int .i64 0, .int .i64 0, .int .i64 0], .struct [(3, 0), (3, 1), (3, 2)]⟩
  | 75 => some ⟨1, 8, [.nilp], .ptr 28⟩
  | 76 => some ⟨1, 8, [.any], .func⟩
  | 77 => some ⟨1, 8, [.nilp], .ptr 72⟩
  | 79 => some ⟨1, 8, [.any], .func⟩
  | 82 => some ⟨1, 8, [.nilp], .ptr 124⟩
  | 92 => some ⟨3, 24, [.int .i64 0, .int .i64 0, .int .i64 0], .struct [(3, 0), (3, 1), (3, 2)]⟩
  | 94 => some ⟨3, 24, [.int .i64 0, .int .i64 0, .int .i64 0], .struct [(3, 0), (3, 1), (3, 2)]⟩
  | 107 => some ⟨1, 8, [.any], .func⟩
  | 109 => some ⟨1, 8, [.any], .func⟩
  | 112 => some ⟨2, 16, [.int .i64 0, .int .i64 0], .struct [(3, 0), (3, 1)]⟩
  | 117 => some ⟨3, 24, [.int .i64 0, .int .i64 0, .int .i64 0], .struct [(3, 0), (3, 1), (3, 2)]⟩
  | 120 => some ⟨1, 8, [.any], .func⟩
  | 124 => some ⟨2, 32, [.nils, .int .i64 0], .struct [(35, 0), (3, 1)]⟩
  | 125 => some ⟨1, 8, [.any], .func⟩
  | 127 => some ⟨3, 24, [.int .i64 0, .int .i64 0, .int .i64 0], .struct [(3, 0), (3, 1), (3, 2)]⟩
  | 129 => some ⟨3, 24, [.int .i64 0, .int .i64 0, .int .i64 0], .struct [(3, 0), (3, 1), (3, 2)]⟩
  | 130 => some ⟨1, 8, [.any], .func⟩
  | 131 => some ⟨1, 8, [.any], .func⟩
  | 136 => some ⟨1, 8, [.any], .func⟩
  | 138 => some ⟨1, 8, [.any], .func⟩
  | 142 => some ⟨1, 8, [.int .u64 0], .int .u64⟩
  | 146 => some ⟨1, 8, [.any], .func⟩
  | 157 => some ⟨1, 8, [.int .i64 0], .int .i64⟩
  | 165 => some ⟨1, 4, [.int .u32 0], .int .u32⟩
  | 167 => some ⟨1, 8, [.int .u64 0], .int .u64⟩
  | 174 => some ⟨1, 8, [.int .u64 0], .int .u64⟩
  | 178 => some ⟨1, 8, [.nilp], .ptr 3⟩
  | 182 => some ⟨1, 8, [.nilp], .ptr 174⟩
  | 188 => some ⟨4, 40, [.nilp, .nilp, .nilp, .str ByteArray.empty], .struct [(17, 0), (17, 1), (17, 2), (9, 3)]⟩
  | 191 => some ⟨0, 0, [], .struct [(189, 0)]⟩
  | 192 => some ⟨1, 1, [.int .u8 0], .int .u8⟩
  | 193 => some ⟨1, 1, [.int .u8 0], .int .u8⟩
  | 194 => some ⟨1, 8, [.any], .func⟩
  | 195 => some ⟨1, 8, [.nilp], .ptr 5⟩
  | 196 => some ⟨1, 4, [.int .i32 0], .int .i32⟩
  | 197 => some ⟨1, 4, [.int .i32 0], .int .i32⟩
  | 199 => some ⟨11, 48, [.int .u64 0, .int .u64 0, .int .u32 0, .int .u8 0, .int .u8 0, .int .u8 0, .int .u8 0, .any, .nilp, .int .i32 0, .int .i32 0], .struct [(12, 0), (12, 1), (165, 2), (192, 3), (5, 4), (5, 5), (193, 6), (194, 7), (195, 8), (196, 9), (197, 10)]⟩
  | _ => none
theorem tok1 : TOk1 Try.prog 1 ⟨1, 8, [.any], .func⟩ := ⟨⟨_, _, _, Try.underlying1⟩, rfl, Try.t1, _, by kernel_rfl, rfl, rfl, rfl, fun _ _ => ⟨trivial, trivial⟩⟩
theorem tok2 : TOk1 Try.prog 2 ⟨1, 8, [.int .i64 0], .int .i64⟩ := ⟨Try.underlying2, rfl, Try.t2, _, by kernel_rfl, rfl, rfl, rfl, fun _ _ => ⟨rfl, trivial⟩⟩
theorem tok3 : TOk1 Try.prog 3 ⟨1, 8, [.int .i64 0], .int .i64⟩ := ⟨Try.underlying3, rfl, Try.t3, _, by kernel_rfl, rfl, rfl, rfl, fun _ _ => ⟨rfl, trivial⟩⟩
theorem tok4 : TOk1 Try.prog 4 ⟨1, 1, [.bool false], .bool⟩ := ⟨Try.underlying4, rfl, Try.t4, _, by kernel_rfl, rfl, rfl, rfl, fun _ _ => ⟨rfl, trivial⟩⟩
theorem tok5 : TOk1 Try.prog 5 ⟨1, 1, [.int .u8 0], .int .u8⟩ := ⟨Try.underlying5, rfl, Try.t5, _, by kernel_rfl, rfl, rfl, rfl, fun _ _ => ⟨rfl, trivial⟩⟩
theorem tok6 : TOk1 Try.prog 6 ⟨1, 1, [.int .u8 0], .int .u8⟩ := ⟨Try.underlying6, rfl, Try.t6, _, by kernel_rfl, rfl, rfl, rfl, fun _ _ => ⟨rfl, trivial⟩⟩
theorem tok8 : TOk1 Try.prog 8 ⟨4, 24, [.int .i64 0, .int .i64 0, .bool false, .int .u8 0], .struct [(2, 0), (3, 1), (4, 2), (6, 3)]⟩ := ⟨⟨_, Try.underlying8, rfl⟩, rfl, Try.t8, _, by kernel_rfl, rfl, rfl, rfl, fun _ _ => ⟨rfl, rfl, rfl, rfl, trivial⟩⟩
theorem tok9 : TOk1 Try.prog 9 ⟨1, 16, [.str ByteArray.empty], .str⟩ := ⟨Try.underlying9, rfl, Try.t9, _, by kernel_rfl, rfl, rfl, rfl, fun _ _ => ⟨rfl, trivial⟩⟩
theorem tok10 : TOk1 Try.prog 10 ⟨1, 16, [.str ByteArray.empty], .str⟩ := ⟨Try.underlying10, rfl, Try.t10, _, by kernel_rfl, rfl, rfl, rfl, fun _ _ => ⟨rfl, trivial⟩⟩
theorem tok11 : TOk1 Try.prog 11 ⟨1, 16, [.str ByteArray.empty], .str⟩ := ⟨Try.underlying11, rfl, Try.t11, _, by kernel_rfl, rfl, rfl, rfl, fun _ _ => ⟨rfl, trivial⟩⟩
theorem tok12 : TOk1 Try.prog 12 ⟨1, 8, [.int .u64 0], .int .u64⟩ := ⟨Try.underlying12, rfl, Try.t12, _, by kernel_rfl, rfl, rfl, rfl, fun _ _ => ⟨rfl, trivial⟩⟩
theorem tok14 : TOk1 Try.prog 14 ⟨2, 24, [.str ByteArray.empty, .int .u64 0], .struct [(9, 0), (12, 1)]⟩ := ⟨⟨_, Try.underlying14, rfl⟩, rfl, Try.t14, _, by kernel_rfl, rfl, rfl, rfl, fun _ _ => ⟨rfl, rfl, trivial⟩⟩
theorem tok15 : TOk1 Try.prog 15 ⟨1, 8, [.nilp], .ptr 188⟩ := ⟨Try.underlying15, rfl, Try.t15, _, by kernel_rfl, rfl, rfl, rfl, fun _ _ => ⟨rfl, trivial⟩⟩
theorem tok16 : TOk1 Try.prog 16 ⟨1, 8, [.nilp], .ptr 191⟩ := ⟨Try.underlying16, rfl, Try.t16, _, by kernel_rfl, rfl, rfl, rfl, fun _ _ => ⟨rfl, trivial⟩⟩
theorem tok17 : TOk1 Try.prog 17 ⟨1, 8, [.nilp], .ptr 199⟩ := ⟨Try.underlying17, rfl, Try.t17, _, by kernel_rfl, rfl, rfl, rfl, fun _ _ => ⟨rfl, trivial⟩⟩
theorem tok19 : TOk1 Try.prog 19 ⟨1, 8, [.nilp], .struct [(17, 0)]⟩ := ⟨⟨_, Try.underlying19, rfl⟩, rfl, Try.t19, _, by kernel_rfl, rfl, rfl, rfl, fun _ _ => ⟨rfl, trivial⟩⟩
theorem tok22 : TOk1 Try.prog 22 ⟨1, 24, [.nils], .slice 117⟩ := ⟨Try.underlying22, rfl, Try.t22, _, by kernel_rfl, rfl, rfl, rfl, fun _ _ => ⟨rfl, trivial⟩⟩
theorem tok24 : TOk1 Try.prog 24 ⟨3, 40, [.int .i64 0, .int .i64 0, .nils], .struct [(3, 0), (3, 1), (22, 2)]⟩ := ⟨⟨_, Try.underlying24, rfl⟩, rfl, Try.t24, _, by kernel_rfl, rfl, rfl, rfl, fun _ _ => ⟨rfl, rfl, rfl, trivial⟩⟩
theorem tok26 : TOk1 Try.prog 26 ⟨1, 24, [.nils], .slice 72⟩ := ⟨Try.underlying26, rfl, Try.t26, _, by kernel_rfl, rfl, rfl, rfl, fun _ _ => ⟨rfl, trivial⟩⟩
theorem tok28 : TOk1 Try.prog 28 ⟨3, 40, [.int .i64 0, .int .i64 0, .nils], .struct [(3, 0), (3, 1), (26, 2)]⟩ := ⟨⟨_, Try.underlying28, rfl⟩, rfl, Try.t28, _, by kernel_rfl, rfl, rfl, rfl, fun _ _ => ⟨rfl, rfl, rfl, trivial⟩⟩
theorem tok35 : TOk1 Try.prog 35 ⟨1, 24, [.nils], .slice 5⟩ := ⟨Try.underlying35, rfl, Try.t35, _, by kernel_rfl, rfl, rfl, rfl, fun _ _ => ⟨rfl, trivial⟩⟩
theorem tok39 : TOk1 Try.prog 39 ⟨1, 24, [.nils], .slice 127⟩ := ⟨Try.underlying39, rfl, Try.t39, _, by kernel_rfl, rfl, rfl, rfl, fun _ _ => ⟨rfl, trivial⟩⟩
theorem tok40 : TOk1 Try.prog 40 ⟨1, 24, [.nils], .slice 129⟩ := ⟨Try.underlying40, rfl, Try.t40, _, by kernel_rfl, rfl, rfl, rfl, fun _ _ => ⟨rfl, trivial⟩⟩
theorem tok41 : TOk1 Try.prog 41 ⟨1, 24, [.nils], .slice 3⟩ := ⟨Try.underlying41, rfl, Try.t41, _, by kernel_rfl, rfl, rfl, rfl, fun _ _ => ⟨rfl, trivial⟩⟩
theorem tok43 : TOk1 Try.prog 43 ⟨3, 72, [.nils, .nils, .nils], .struct [(39, 0), (40, 1), (41, 2)]⟩ := ⟨⟨_, Try.underlying43, rfl⟩, rfl, Try.t43, _, by kernel_rfl, rfl, rfl, rfl, fun _ _ => ⟨rfl, rfl, rfl, trivial⟩⟩
theorem tok46 : TOk1 Try.prog 46 ⟨1, 24, [.nils], .slice 92⟩ := ⟨Try.underlying46, rfl, Try.t46, _, by kernel_rfl, rfl, rfl, rfl, fun _ _ => ⟨rfl, trivial⟩⟩
theorem tok47 : TOk1 Try.prog 47 ⟨1, 24, [.nils], .slice 94⟩ := ⟨Try.underlying47, rfl, Try.t47, _, by kernel_rfl, rfl, rfl, rfl, fun _ _ => ⟨rfl, trivial⟩⟩
theorem tok49 : TOk1 Try.prog 49 ⟨3, 72, [.nils, .nils, .nils], .struct [(46, 0), (47, 1), (41, 2)]⟩ := ⟨⟨_, Try.underlying49, rfl⟩, rfl, Try.t49, _, by kernel_rfl, rfl, rfl, rfl, fun _ _ => ⟨rfl, rfl, rfl, trivial⟩⟩
theorem tok56 : TOk1 Try.prog 56 ⟨1, 24, [.nils], .slice 63⟩ := ⟨Try.underlying56, rfl, Try.t56, _, by kernel_rfl, rfl, rfl, rfl, fun _ _ => ⟨rfl, trivial⟩⟩
theorem tok63 : TOk1 Try.prog 63 ⟨2, 16, [.int .i64 0, .int .i64 0], .struct [(3, 0), (3, 1)]⟩ := ⟨⟨_, Try.underlying63, rfl⟩, rfl, Try.t63, _, by kernel_rfl, rfl, rfl, rfl, fun _ _ => ⟨rfl, rfl, trivial⟩⟩
theorem tok64 : TOk1 Try.prog 64 ⟨1, 24, [.nils], .slice 112⟩ := ⟨Try.underlying64, rfl, Try.t64, _, by kernel_rfl, rfl, rfl, rfl, fun _ _ => ⟨rfl, trivial⟩⟩
theorem tok72 : TOk1 Try.prog 72 ⟨3, 24, [.int .i64 0, .int .i64 0, .int .i64 0], .struct [(3, 0), (3, 1), (3, 2)]⟩ := ⟨⟨_, Try.underlying72, rfl⟩, rfl, Try.t72, _, by kernel_rfl, rfl, rfl, rfl, fun _ _ => ⟨rfl, rfl, rfl, trivial⟩⟩
theorem tok75 : TOk1 Try.prog 75 ⟨1, 8, [.nilp], .ptr 28⟩ := ⟨Try.underlying75, rfl, Try.t75, _, by kernel_rfl, rfl, rfl, rfl, fun _ _ => ⟨rfl, trivial⟩⟩
theorem tok76 : TOk1 Try.prog 76 ⟨1, 8, [.any], .func⟩ := ⟨⟨_, _, _, Try.underlying76⟩, rfl, Try.t76, _, by kernel_rfl, rfl, rfl, rfl, fun _ _ => ⟨trivial, trivial⟩⟩
theorem tok77 : TOk1 Try.prog 77 ⟨1, 8, [.nilp], .ptr 72⟩ := ⟨Try.underlying77, rfl, Try.t77, _, by kernel_rfl, rfl, rfl, rfl, fun _ _ => ⟨rfl, trivial⟩⟩
theorem tok79 : TOk1 Try.prog 79 ⟨1, 8, [.any], .func⟩ := ⟨⟨_, _, _, Try.underlying79⟩, rfl, Try.t79, _, by kernel_rfl, rfl, rfl, rfl, fun _ _ => ⟨trivial, trivial⟩⟩
theorem tok82 : TOk1 Try.prog 82 ⟨1, 8, [.nilp], .ptr 124⟩ := ⟨Try.underlying82, rfl, Try.t82, _, by kernel_rfl, rfl, rfl, rfl, fun _ _ => ⟨rfl, trivial⟩⟩
theorem tok92 : TOk1 Try.prog 92 ⟨3, 24, [.int .i64 0, .int .i64 0, .int .i64 0], .struct [(3, 0), (3, 1), (3, 2)]⟩ := ⟨⟨_, Try.underlying92, rfl⟩, rfl, Try.t92, _, by kernel_rfl, rfl, rfl, rfl, fun _ _ => ⟨rfl, rfl, rfl, trivial⟩⟩
theorem tok94 : TOk1 Try.prog 94 ⟨3, 24, [.int .i64 0, .int .i64 0, .int .i64 0], .struct [(3, 0), (3, 1), (3, 2)]⟩ := ⟨⟨_, Try.underlying94, rfl⟩, rfl, Try.t94, _, by kernel_rfl, rfl, rfl, rfl, fun _ _ => ⟨rfl, rfl, rfl, trivial⟩⟩
theorem tok107 : TOk1 Try.prog 107 ⟨1, 8, [.any], .func⟩ := ⟨⟨_, _, _, Try.underlying107⟩, rfl, Try.t107, _, by kernel_rfl, rfl, rfl, rfl, fun _ _ => ⟨trivial, trivial⟩⟩
theorem tok109 : TOk1 Try.prog 109 ⟨1, 8, [.any], .func⟩ := ⟨⟨_, _, _, Try.underlying109⟩, rfl, Try.t109, _, by kernel_rfl, rfl, rfl, rfl, fun _ _ => ⟨trivial, trivial⟩⟩
theorem tok112 : TOk1 Try.prog 112 ⟨2, 16, [.int .i64 0, .int .i64 0], .struct [(3, 0), (3, 1)]⟩ := ⟨⟨_, Try.underlying112, rfl⟩, rfl, Try.t112, _, by kernel_rfl, rfl, rfl, rfl, fun _ _ => ⟨rfl, rfl, trivial⟩⟩
theorem tok117 : TOk1 Try.prog 117 ⟨3, 24, [.int .i64 0, .int .i64 0, .int .i64 0], .struct [(3, 0), (3, 1), (3, 2)]⟩ := ⟨⟨_, Try.underlying117, rfl⟩, rfl, Try.t117, _, by kernel_rfl, rfl, rfl, rfl, fun _ _ => ⟨rfl, rfl, rfl, trivial⟩⟩
theorem tok120 : TOk1 Try.prog 120 ⟨1, 8, [.any], .func⟩ := ⟨⟨_, _, _, Try.underlying120⟩, rfl, Try.t120, _, by kernel_rfl, rfl, rfl, rfl, fun _ _ => ⟨trivial, trivial⟩⟩
theorem tok124 : TOk1 Try.prog 124 ⟨2, 32, [.nils, .int .i64 0], .struct [(35, 0), (3, 1)]⟩ := ⟨⟨_, Try.underlying124, rfl⟩, rfl, Try.t124, _, by kernel_rfl, rfl, rfl, rfl, fun _ _ => ⟨rfl, rfl, trivial⟩⟩
theorem tok125 : TOk1 Try.prog 125 ⟨1, 8, [.any], .func⟩ := ⟨⟨_, _, _, Try.underlying125⟩, rfl, Try.t125, _, by kernel_rfl, rfl, rfl, rfl, fun _ _ => ⟨trivial, trivial⟩⟩
theorem tok127 : TOk1 Try.prog 127 ⟨3, 24, [.int .i64 0, .int .i64 0, .int .i64 0], .struct [(3, 0), (3, 1), (3, 2)]⟩ := ⟨⟨_, Try.underlying127, rfl⟩, rfl, Try.t127, _, by kernel_rfl, rfl, rfl, rfl, fun _ _ => ⟨rfl, rfl, rfl, trivial⟩⟩
theorem tok129 : TOk1 Try.prog 129 ⟨3, 24, [.int .i64 0, .int .i64 0, .int .i64 0], .struct [(3, 0), (3, 1), (3, 2)]⟩ := ⟨⟨_, Try.underlying129, rfl⟩, rfl, Try.t129, _, by kernel_rfl, rfl, rfl, rfl, fun _ _ => ⟨rfl, rfl, rfl, trivial⟩⟩
theorem tok130 : TOk1 Try.prog 130 ⟨1, 8, [.any], .func⟩ := ⟨⟨_, _, _, Try.underlying130⟩, rfl, Try.t130, _, by kernel_rfl, rfl, rfl, rfl, fun _ _ => ⟨trivial, trivial⟩⟩
theorem tok131 : TOk1 Try.prog 131 ⟨1, 8, [.any], .func⟩ := ⟨⟨_, _, _, Try.underlying131⟩, rfl, Try.t131, _, by kernel_rfl, rfl, rfl, rfl, fun _ _ => ⟨trivial, trivial⟩⟩
theorem tok136 : TOk1 Try.prog 136 ⟨1, 8, [.any], .func⟩ := ⟨⟨_, _, _, Try.underlying136⟩, rfl, Try.t136, _, by kernel_rfl, rfl, rfl, rfl, fun _ _ => ⟨trivial, trivial⟩⟩
theorem tok138 : TOk1 Try.prog 138 ⟨1, 8, [.any], .func⟩ := ⟨⟨_, _, _, Try.underlying138⟩, rfl, Try.t138, _, by kernel_rfl, rfl, rfl, rfl, fun _ _ => ⟨trivial, trivial⟩⟩
theorem tok142 : TOk1 Try.prog 142 ⟨1, 8, [.int .u64 0], .int .u64⟩ := ⟨Try.underlying142, rfl, Try.t142, _, by kernel_rfl, rfl, rfl, rfl, fun _ _ => ⟨rfl, trivial⟩⟩
theorem tok146 : TOk1 Try.prog 146 ⟨1, 8, [.any], .func⟩ := ⟨⟨_, _, _, Try.underlying146⟩, rfl, Try.t146, _, by kernel_rfl, rfl, rfl, rfl, fun _ _ => ⟨trivial, trivial⟩⟩
theorem tok157 : TOk1 Try.prog 157 ⟨1, 8, [.int .i64 0], .int .i64⟩ := ⟨Try.underlying157, rfl, Try.t157, _, by kernel_rfl, rfl, rfl, rfl, fun _ _ => ⟨rfl, trivial⟩⟩
theorem tok165 : TOk1 Try.prog 165 ⟨1, 4, [.int .u32 0], .int .u32⟩ := ⟨Try.underlying165, rfl, Try.t165, _, by kernel_rfl, rfl, rfl, rfl, fun _ _ => ⟨rfl, trivial⟩⟩
theorem tok167 : TOk1 Try.prog 167 ⟨1, 8, [.int .u64 0], .int .u64⟩ := ⟨Try.underlying167, rfl, Try.t167, _, by kernel_rfl, rfl, rfl, rfl, fun _ _ => ⟨rfl, trivial⟩⟩
theorem tok174 : TOk1 Try.prog 174 ⟨1, 8, [.int .u64 0], .int .u64⟩ := ⟨Try.underlying174, rfl, Try.t174, _, by kernel_rfl, rfl, rfl, rfl, fun _ _ => ⟨rfl, trivial⟩⟩
theorem tok178 : TOk1 Try.prog 178 ⟨1, 8, [.nilp], .ptr 3⟩ := ⟨Try.underlying178, rfl, Try.t178, _, by kernel_rfl, rfl, rfl, rfl, fun _ _ => ⟨rfl, trivial⟩⟩
theorem tok182 : TOk1 Try.prog 182 ⟨1, 8, [.nilp], .ptr 174⟩ := ⟨Try.underlying182, rfl, Try.t182, _, by kernel_rfl, rfl, rfl, rfl, fun _ _ => ⟨rfl, trivial⟩⟩
theorem tok188 : TOk1 Try.prog 188 ⟨4, 40, [.nilp, .nilp, .nilp, .str ByteArray.empty], .struct [(17, 0), (17, 1), (17, 2), (9, 3)]⟩ := ⟨⟨_, Try.underlying188, rfl⟩, rfl, Try.t188, _, by kernel_rfl, rfl, rfl, rfl, fun _ _ => ⟨rfl, rfl, rfl, rfl, trivial⟩⟩
theorem tok191 : TOk1 Try.prog 191 ⟨0, 0, [], .struct [(189, 0)]⟩ := ⟨⟨_, Try.underlying191, rfl⟩, rfl, Try.t191, _, by kernel_rfl, rfl, rfl, rfl, fun _ _ => trivial⟩
theorem tok192 : TOk1 Try.prog 192 ⟨1, 1, [.int .u8 0], .int .u8⟩ := ⟨Try.underlying192, rfl, Try.t192, _, by kernel_rfl, rfl, rfl, rfl, fun _ _ => ⟨rfl, trivial⟩⟩
theorem tok193 : TOk1 Try.prog 193 ⟨1, 1, [.int .u8 0], .int .u8⟩ := ⟨Try.underlying193, rfl, Try.t193, _, by kernel_rfl, rfl, rfl, rfl, fun _ _ => ⟨rfl, trivial⟩⟩
theorem tok194 : TOk1 Try.prog 194 ⟨1, 8, [.any], .func⟩ := ⟨⟨_, _, _, Try.underlying194⟩, rfl, Try.t194, _, by kernel_rfl, rfl, rfl, rfl, fun _ _ => ⟨trivial, trivial⟩⟩
theorem tok195 : TOk1 Try.prog 195 ⟨1, 8, [.nilp], .ptr 5⟩ := ⟨Try.underlying195, rfl, Try.t195, _, by kernel_rfl, rfl, rfl, rfl, fun _ _ => ⟨rfl, trivial⟩⟩
theorem tok196 : TOk1 Try.prog 196 ⟨1, 4, [.int .i32 0], .int .i32⟩ := ⟨Try.underlying196, rfl, Try.t196, _, by kernel_rfl, rfl, rfl, rfl, fun _ _ => ⟨rfl, trivial⟩⟩
theorem tok197 : TOk1 Try.prog 197 ⟨1, 4, [.int .i32 0], .int .i32⟩ := ⟨Try.underlying197, rfl, Try.t197, _, by kernel_rfl, rfl, rfl, rfl, fun _ _ => ⟨rfl, trivial⟩⟩
theorem tok199 : TOk1 Try.prog 199 ⟨11, 48, [.int .u64 0, .int .u64 0, .int .u32 0, .int .u8 0, .int .u8 0, .int .u8 0, .int .u8 0, .any, .nilp, .int .i32 0, .int .i32 0], .struct [(12, 0), (12, 1), (165, 2), (192, 3), (5, 4), (5, 5), (193, 6), (194, 7), (195, 8), (196, 9), (197, 10)]⟩ := ⟨⟨_, Try.underlying199, rfl⟩, rfl, Try.t199, _, by kernel_rfl, rfl, rfl, rfl, fun _ _ => ⟨rfl, rfl, rfl, rfl, rfl, rfl, rfl, trivial, rfl, rfl, rfl, trivial⟩⟩
set_option maxHeartbeats 4000000 in
theorem tok : TOk Try.prog tab := by
  intro t i h
  unfold tab at h
  split at h
  · cases h; exact tok1
  · cases h; exact tok2
  · cases h; exact tok3
  · cases h; exact tok4
  · cases h; exact tok5
  · cases h; exact tok6
  · cases h; exact tok8
  · cases h; exact tok9
  · cases h; exact tok10
  · cases h; exact tok11
  · cases h; exact tok12
  · cases h; exact tok14
  · cases h; exact tok15
  · cases h; exact tok16
  · cases h; exact tok17
  · cases h; exact tok19
  · cases h; exact tok22
  · cases h; exact tok24
  · cases h; exact tok26
  · cases h; exact tok28
  · cases h; exact tok35
  · cases h; exact tok39
  · cases h; exact tok40
  · cases h; exact tok41
  · cases h; exact tok43
  · cases h; exact tok46
  · cases h; exact tok47
  · cases h; exact tok49
  · cases h; exact tok56
  · cases h; exact tok63
  · cases h; exact tok64
  · cases h; exact tok72
  · cases h; exact tok75
  · cases h; exact tok76
  · cases h; exact tok77
  · cases h; exact tok79
  · cases h; exact tok82
  · cases h; exact tok92
  · cases h; exact tok94
  · cases h; exact tok107
  · cases h; exact tok109
  · cases h; exact tok112
  · cases h; exact tok117
  · cases h; exact tok120
  · cases h; exact tok124
  · cases h; exact tok125
  · cases h; exact tok127
  · cases h; exact tok129
  · cases h; exact tok130
  · cases h; exact tok131
  · cases h; exact tok136
  · cases h; exact tok138
  · cases h; exact tok142
  · cases h; exact tok146
  · cases h; exact tok157
  · cases h; exact tok165
  · cases h; exact tok167
  · cases h; exact tok174
  · cases h; exact tok178
  · cases h; exact tok182
  · cases h; exact tok188
  · cases h; exact tok191
  · cases h; exact tok192
  · cases h; exact tok193
  · cases h; exact tok194
  · cases h; exact tok195
  · cases h; exact tok196
  · cases h; exact tok197
  · cases h; exact tok199
  · cases h
end Go.Proofs.YtaklcaejeaiagaaE
