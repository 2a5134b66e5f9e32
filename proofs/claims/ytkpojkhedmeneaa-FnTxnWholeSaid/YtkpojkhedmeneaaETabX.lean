/- A part of the proof of a law of the given program: the types of the program. No condition of its own. -/
import Derived.Test.YtkpojkhedmeneaaEG4
import Derived.Test.YtkpojkhedmeneaaChecked
namespace Go.Proofs.YtkpojkhedmeneaaE
open Go.Proofs Go.RowKit
set_option maxRecDepth 100000
def tab : Tab
  | 1 => some ⟨1, 8, [.any], .func⟩
  | 2 => some ⟨1, 8, [.int .i64 0], .int .i64⟩
  | 3 => some ⟨1, 8, [.int .i64 0], .int .i64⟩
  | 4 => some ⟨1, 1, [.bool false], .bool⟩
  | 5 => some ⟨1, 1, [.int .u8 0], .int .u8⟩
  | 6 => some ⟨1, 1, [.int .u8 0], .int .u8⟩
  | 8 => some ⟨4, 24, [.int .i64 0, .int .i64 0, .bool false, .int .u8 0], .struct [(2, 0), (3, 1), (4, 2), (6, 3)]⟩
  | 9 => some ⟨1, 16, [.str ByteArray.empty], .str⟩
  | 10 => some ⟨1, 16, [.str ByteArray.empty], .str⟩
  | 11 => some ⟨1, 16, [.str ByteArray.empty], .str⟩
  | 12 => some ⟨1, 8, [.int .u64 0], .int .u64⟩
  | 14 => some ⟨2, 24, [.str ByteArray.empty, .int .u64 0], .struct [(9, 0), (12, 1)]⟩
  | 15 => some ⟨1, 8, [.nilp], .ptr 178⟩
  | 16 => some ⟨1, 8, [.nilp], .ptr 181⟩
  | 17 => some ⟨1, 8, [.nilp], .ptr 189⟩
  | 19 => some ⟨1, 8, [.nilp], .struct [(17, 0)]⟩
  | 22 => some ⟨1, 24, [.nils], .slice 102⟩
  | 23 => some ⟨1, 24, [.nils], .slice 104⟩
  | 24 => some ⟨1, 24, [.nils], .slice 3⟩
  | 26 => some ⟨3, 72, [.nils, .nils, .nils], .struct [(22, 0), (23, 1), (24, 2)]⟩
  | 29 => some ⟨1, 24, [.nils], .slice 57⟩
  | 30 => some ⟨1, 24, [.nils], .slice 53⟩
  | 32 => some ⟨3, 72, [.nils, .nils, .nils], .struct [(29, 0), (30, 1), (24, 2)]⟩
  | 36 => some ⟨1, 24, [.nils], .slice 85⟩
  | 38 => some ⟨1, 24, [.nils], .slice 55⟩
  | 48 => some ⟨1, 24, [.nils], .slice 5⟩
  | 53 => some ⟨3, 24, [.int .i64 0, .int .i64 0, .int .i64 0], .struct [(3, 0), (3, 1), (3, 2)]⟩
  | 55 => some ⟨2, 16, [.int .i64 0, .int .i64 0], .struct [(3, 0), (3, 1)]⟩
  | 57 => some ⟨3, 24, [.int .i64 0, .int .i64 0, .int .i64 0], .struct [(3, 0), (3, 1), (3, 2)]⟩
  | 65 => some ⟨1, 8, [.any], .func⟩
  | 69 => some ⟨1, 8, [.any], .func⟩
  | 70 => some ⟨1, 8, [.any], .func⟩
  | 75 => some ⟨1, 8, [.any], .func⟩
  | 77 => some ⟨1, 8, [.any], .func⟩
  | 79 => some ⟨1, 8, [.any], .func⟩
  | 85 => some ⟨2, 16, [.int .i64 0, .int .i64 0], .struct [(3, 0), (3, 1)]⟩
  | 89 => some ⟨1, 8, [.nilp], .ptr 113⟩
  | 97 => some ⟨1, 8, [.any], .func⟩
  | 99 => some ⟨1, 8, [.any], .func⟩
  | 102 => some ⟨3, 24, [.int .i64 0, .int .i64 0, .int .i64 0], .struct [(3, 0), (3, 1), (3, 2)]⟩
  | 104 => some ⟨3, 24, [.int .i64 0, .int .i64 0, .int .i64 0], .struct [(3, 0), (3, 1), (3, 2)]⟩
  | 111 => some ⟨1, 8, [.any], .func⟩
  | 113 => some ⟨2, 32, [.nils, .int .i64 0], .struct [(48, 0), (3, 1)]⟩
  | 114 => some ⟨1, 8, [.nilp], .ptr 130⟩
  | 119 => some ⟨1, 8, [.int .u64 0], .int .u64⟩
  | 122 => some ⟨1, 24, [.nils], .slice 160⟩
  | 123 => some ⟨1, 24, [.nils], .slice 193⟩
  | 124 => some ⟨1, 24, [.nils], .slice 195⟩
  | 126 => some ⟨4, 80, [.int .i64 0, .nils, .nils, .nils], .struct [(3, 0), (122, 1), (123, 2), (124, 3)]⟩
  | 128 => some ⟨1, 24, [.nils], .slice 197⟩
  | 130 => some ⟨6, 112, [.nilp, .int .i64 0, .nils, .nils, .nils, .nils], .struct [(89, 0), (126, 1), (128, 5)]⟩
  | 133 => some ⟨1, 8, [.int .i64 0], .int .i64⟩
  | 142 => some ⟨1, 4, [.int .u32 0], .int .u32⟩
  | 144 => some ⟨1, 8, [.int .u64 0], .int .u64⟩
  | 150 => some ⟨1, 24, [.nils], .slice 199⟩
  | 152 => some ⟨9, 120, [.int .i64 0, .int .i64 0, .int .i64 0, .nils, .int .i64 0, .int .i64 0, .nils, .nils, .int .i64 0], .struct [(3, 0), (3, 1), (3, 2), (150, 3), (3, 4), (3, 5), (24, 6), (24, 7), (3, 8)]⟩
  | 153 => some ⟨1, 24, [.nils], .slice 202⟩
  | 154 => some ⟨1, 24, [.nils], .slice 204⟩
  | 155 => some ⟨1, 24, [.nils], .slice 206⟩
  | 156 => some ⟨1, 24, [.nils], .slice 208⟩
  | 158 => some ⟨8, 160, [.int .i64 0, .int .i64 0, .nils, .nils, .nils, .nils, .nils, .nils], .struct [(3, 0), (3, 1), (24, 2), (38, 3), (153, 4), (154, 5), (155, 6), (156, 7)]⟩
  | 160 => some ⟨18, 288, [.bool false, .int .i64 0, .int .i64 0, .int .i64 0, .nils, .int .i64 0, .int .i64 0, .nils, .nils, .int .i64 0, .int .i64 0, .int .i64 0, .nils, .nils, .nils, .nils, .nils, .nils], .struct [(4, 0), (152, 1), (158, 10)]⟩
  | 162 => some ⟨1, 8, [.int .u64 0], .int .u64⟩
  | 166 => some ⟨1, 8, [.nilp], .ptr 3⟩
  | 172 => some ⟨1, 8, [.nilp], .ptr 162⟩
  | 178 => some ⟨4, 40, [.nilp, .nilp, .nilp, .str ByteArray.empty], .struct [(17, 0), (17, 1), (17, 2), (9, 3)]⟩
  | 181 => some ⟨0, 0, [], .struct [(179, 0)]⟩
  | 182 => some ⟨1, 1, [.int .u8 0], .int .u8⟩
  | 183 => some ⟨1, 1, [.int .u8 0], .int .u8⟩
  | 184 => some ⟨1, 8, [.any], .func⟩
  | 185 => some ⟨1, 8, [.nilp], .ptr 5⟩
  | 186 => some ⟨1, 4, [.int .i32 0], .int .i32⟩
  | 187 => some ⟨1, 4, [.int .i32 0], .int .i32⟩
  | 189 => some ⟨11, 48, [.int .u64 0, .int .u64 0, .int .u32 0, .int .u8 0, .int .u8 0, .int .u8 0, .int .u8 0, .any, .nilp, .int .i32 0, .int .i32 0], .struct [(12, 0), (12, 1), (142, 2), (182, 3), (5, 4), (5, 5), (183, 6), (184, 7), (185, 8), (186, 9), (187, 10)]⟩
  | 191 => some ⟨6, 56, [.int .i64 0, .int .i64 0, .int .i64 0, .int .i64 0, .int .i64 0, .str ByteArray.empty], .struct [(3, 0), (3, 1), (3, 2), (3, 3), (3, 4), (9, 5)]⟩
  | 193 => some ⟨23, 240, [.int .i64 0, .int .i64 0, .int .i64 0, .int .i64 0, .int .i64 0, .int .i64 0, .int .i64 0, .bool false, .nils, .int .i64 0, .int .i64 0, .int .i64 0, .nils, .int .i64 0, .int .i64 0, .int .i64 0, .nils, .int .i64 0, .int .i64 0, .int .i64 0, .int .i64 0, .int .i64 0, .str ByteArray.empty], .struct [(3, 0), (3, 1), (3, 2), (3, 3), (3, 4), (3, 5), (3, 6), (4, 7), (150, 8), (3, 9), (3, 10), (3, 11), (38, 12), (3, 13), (3, 14), (3, 15), (24, 16), (191, 17)]⟩
  | 195 => some ⟨11, 112, [.int .i64 0, .int .i64 0, .int .i64 0, .int .i64 0, .int .i64 0, .str ByteArray.empty, .int .i64 0, .int .i64 0, .bool false, .int .i64 0, .nils], .struct [(191, 0), (3, 6), (3, 7), (4, 8), (3, 9), (24, 10)]⟩
  | 197 => some ⟨11, 96, [.int .i64 0, .int .i64 0, .int .i64 0, .int .i64 0, .bool false, .int .i64 0, .int .i64 0, .int .i64 0, .int .i64 0, .int .i64 0, .str ByteArray.empty], .struct [(3, 0), (3, 1), (3, 2), (3, 3), (4, 4), (191, 5)]⟩
  | 199 => some ⟨7, 64, [.int .i64 0, .int .i64 0, .int .i64 0, .int .i64 0, .int .i64 0, .int .i64 0, .str ByteArray.empty], .struct [(3, 0), (191, 1)]⟩
  | 202 => some ⟨3, 40, [.int .i64 0, .int .i64 0, .nils], .struct [(3, 0), (3, 1), (38, 2)]⟩
  | 204 => some ⟨4, 64, [.int .i64 0, .int .i64 0, .nils, .nils], .struct [(3, 0), (3, 1), (38, 2), (24, 3)]⟩
  | 206 => some ⟨4, 64, [.int .i64 0, .int .i64 0, .nils, .nils], .struct [(3, 0), (3, 1), (24, 2), (38, 3)]⟩
  | 208 => some ⟨4, 48, [.int .i64 0, .int .i64 0, .int .i64 0, .nils], .struct [(3, 0), (3, 1), (3, 2), (24, 3)]⟩
  | _ => none
theorem tok1 : TOk1 Try.prog 1 ⟨1, 8, [.any], .func⟩ := ⟨⟨_, _, _, Try.underlying1⟩, rfl, Try.t1, _, by kernel_rfl, rfl, rfl, rfl, fun _ _ => ⟨trivial, trivial⟩⟩
theorem tok2 : TOk1 Try.prog 2 ⟨1, 8, [.int .i64 0], .int .i64⟩ := ⟨Try.underlying2, rfl, Try.t2, _, by kernel_rfl, rfl, rfl, rfl, fun _ _ => ⟨rfl, trivial⟩⟩
theorem tok3 : TOk1 Try.prog 3 ⟨1, 8, [.int .i64 0], .int .i64⟩ := ⟨Try.underlying3, rfl, Try.t3, _, by kernel_rfl, rfl, rfl, rfl, fun _ _ => ⟨rfl, trivial⟩⟩
theorem tok4 : TOk1 Try.prog 4 ⟨1, 1, [.bool false], .bool⟩ := ⟨Try.underlying4, rfl, Try.t4, _, by kernel_rfl, rfl, rfl, rfl, fun _ _ => ⟨rfl, trivial⟩⟩
theorem tok5 : TOk1 Try.prog 5 ⟨1, 1, [.int .u8 0], .int .u8⟩ := ⟨Try.underlying5, rfl, Try.t5, _, by kernel_rfl, rfl, rfl, rfl, fun _ _ => ⟨rfl, trivial⟩⟩
theorem tok6 : TOk1 Try.prog 6 ⟨1, 1, [.int .u8 0], .int .u8⟩ := ⟨Try.underlying6, rfl, Try.t6, _, by kernel_rfl, rfl, rfl, rfl, fun _ _ => ⟨rfl, trivial⟩⟩
theorem tok8 : TOk1 Try.prog 8 ⟨4, 24, [.int .i64 0, .int .i64 0, .bool false, .int .u8 0], .struct [(2, 0), (3, 1), (4, 2), (6, 3)]⟩ := ⟨⟨_, Try.underlying8, rfl⟩, rfl, Try.t8, _, by kernel_rfl, rfl, rfl, rfl, fun _ _ => ⟨rfl, rfl, rfl, rfl, trivial⟩⟩
theorem tok9 : TOk1 Try.prog 9 ⟨1, 16, [.str ByteArray.empty], .str⟩ := ⟨Try.underlying9, rfl, Try.t9, _, by kernel_rfl, rfl, rfl, rfl, fun _ _ => ⟨rfl, trivial⟩⟩
theorem tok10 : TOk1 Try.prog 10 ⟨1, 16, [.str ByteArray.empty], .str⟩ := ⟨Try.underlying10, rfl, Try.t10, _, by kernel_rfl, rfl, rfl, rfl, fun _ _ => ⟨rfl, trivial⟩⟩
theorem tok11 : TOk1 Try.prog 11 ⟨1, 16, [.str ByteArray.empty], .str⟩ := ⟨Try.underlying11, rfl, Try.t11, _, by kernel_rfl, rfl, rfl, rfl, fun _ _ => ⟨rfl, trivial⟩⟩
theorem tok12 : TOk1 Try.prog 12 ⟨1, 8, [.int .u64 0], .int .u64⟩ := ⟨Try.underlying12, rfl, Try.t12, _, by kernel_rfl, rfl, rfl, rfl, fun _ _ => ⟨rfl, trivial⟩⟩
theorem tok14 : TOk1 Try.prog 14 ⟨2, 24, [.str ByteArray.empty, .int .u64 0], .struct [(9, 0), (12, 1)]⟩ := ⟨⟨_, Try.underlying14, rfl⟩, rfl, Try.t14, _, by kernel_rfl, rfl, rfl, rfl, fun _ _ => ⟨rfl, rfl, trivial⟩⟩
theorem tok15 : TOk1 Try.prog 15 ⟨1, 8, [.nilp], .ptr 178⟩ := ⟨Try.underlying15, rfl, Try.t15, _, by kernel_rfl, rfl, rfl, rfl, fun _ _ => ⟨rfl, trivial⟩⟩
theorem tok16 : TOk1 Try.prog 16 ⟨1, 8, [.nilp], .ptr 181⟩ := ⟨Try.underlying16, rfl, Try.t16, _, by kernel_rfl, rfl, rfl, rfl, fun _ _ => ⟨rfl, trivial⟩⟩
theorem tok17 : TOk1 Try.prog 17 ⟨1, 8, [.nilp], .ptr 189⟩ := ⟨Try.underlying17, rfl, Try.t17, _, by kernel_rfl, rfl, rfl, rfl, fun _ _ => ⟨rfl, trivial⟩⟩
theorem tok19 : TOk1 Try.prog 19 ⟨1, 8, [.nilp], .struct [(17, 0)]⟩ := ⟨⟨_, Try.underlying19, rfl⟩, rfl, Try.t19, _, by kernel_rfl, rfl, rfl, rfl, fun _ _ => ⟨rfl, trivial⟩⟩
theorem tok22 : TOk1 Try.prog 22 ⟨1, 24, [.nils], .slice 102⟩ := ⟨Try.underlying22, rfl, Try.t22, _, by kernel_rfl, rfl, rfl, rfl, fun _ _ => ⟨rfl, trivial⟩⟩
theorem tok23 : TOk1 Try.prog 23 ⟨1, 24, [.nils], .slice 104⟩ := ⟨Try.underlying23, rfl, Try.t23, _, by kernel_rfl, rfl, rfl, rfl, fun _ _ => ⟨rfl, trivial⟩⟩
theorem tok24 : TOk1 Try.prog 24 ⟨1, 24, [.nils], .slice 3⟩ := ⟨Try.underlying24, rfl, Try.t24, _, by kernel_rfl, rfl, rfl, rfl, fun _ _ => ⟨rfl, trivial⟩⟩
theorem tok26 : TOk1 Try.prog 26 ⟨3, 72, [.nils, .nils, .nils], .struct [(22, 0), (23, 1), (24, 2)]⟩ := ⟨⟨_, Try.underlying26, rfl⟩, rfl, Try.t26, _, by kernel_rfl, rfl, rfl, rfl, fun _ _ => ⟨rfl, rfl, rfl, trivial⟩⟩
theorem tok29 : TOk1 Try.prog 29 ⟨1, 24, [.nils], .slice 57⟩ := ⟨Try.underlying29, rfl, Try.t29, _, by kernel_rfl, rfl, rfl, rfl, fun _ _ => ⟨rfl, trivial⟩⟩
theorem tok30 : TOk1 Try.prog 30 ⟨1, 24, [.nils], .slice 53⟩ := ⟨Try.underlying30, rfl, Try.t30, _, by kernel_rfl, rfl, rfl, rfl, fun _ _ => ⟨rfl, trivial⟩⟩
theorem tok32 : TOk1 Try.prog 32 ⟨3, 72, [.nils, .nils, .nils], .struct [(29, 0), (30, 1), (24, 2)]⟩ := ⟨⟨_, Try.underlying32, rfl⟩, rfl, Try.t32, _, by kernel_rfl, rfl, rfl, rfl, fun _ _ => ⟨rfl, rfl, rfl, trivial⟩⟩
theorem tok36 : TOk1 Try.prog 36 ⟨1, 24, [.nils], .slice 85⟩ := ⟨Try.underlying36, rfl, Try.t36, _, by kernel_rfl, rfl, rfl, rfl, fun _ _ => ⟨rfl, trivial⟩⟩
theorem tok38 : TOk1 Try.prog 38 ⟨1, 24, [.nils], .slice 55⟩ := ⟨Try.underlying38, rfl, Try.t38, _, by kernel_rfl, rfl, rfl, rfl, fun _ _ => ⟨rfl, trivial⟩⟩
theorem tok48 : TOk1 Try.prog 48 ⟨1, 24, [.nils], .slice 5⟩ := ⟨Try.underlying48, rfl, Try.t48, _, by kernel_rfl, rfl, rfl, rfl, fun _ _ => ⟨rfl, trivial⟩⟩
theorem tok53 : TOk1 Try.prog 53 ⟨3, 24, [.int .i64 0, .int .i64 0, .int .i64 0], .struct [(3, 0), (3, 1), (3, 2)]⟩ := ⟨⟨_, Try.underlying53, rfl⟩, rfl, Try.t53, _, by kernel_rfl, rfl, rfl, rfl, fun _ _ => ⟨rfl, rfl, rfl, trivial⟩⟩
theorem tok55 : TOk1 Try.prog 55 ⟨2, 16, [.int .i64 0, .int .i64 0], .struct [(3, 0), (3, 1)]⟩ := ⟨⟨_, Try.underlying55, rfl⟩, rfl, Try.t55, _, by kernel_rfl, rfl, rfl, rfl, fun _ _ => ⟨rfl, rfl, trivial⟩⟩
theorem tok57 : TOk1 Try.prog 57 ⟨3, 24, [.int .i64 0, .int .i64 0, .int .i64 0], .struct [(3, 0), (3, 1), (3, 2)]⟩ := ⟨⟨_, Try.underlying57, rfl⟩, rfl, Try.t57, _, by kernel_rfl, rfl, rfl, rfl, fun _ _ => ⟨rfl, rfl, rfl, trivial⟩⟩
theorem tok65 : TOk1 Try.prog 65 ⟨1, 8, [.any], .func⟩ := ⟨⟨_, _, _, Try.underlying65⟩, rfl, Try.t65, _, by kernel_rfl, rfl, rfl, rfl, fun _ _ => ⟨trivial, trivial⟩⟩
theorem tok69 : TOk1 Try.prog 69 ⟨1, 8, [.any], .func⟩ := ⟨⟨_, _, _, Try.underlying69⟩, rfl, Try.t69, _, by kernel_rfl, rfl, rfl, rfl, fun _ _ => ⟨trivial, trivial⟩⟩
theorem tok70 : TOk1 Try.prog 70 ⟨1, 8, [.any], .func⟩ := ⟨⟨_, _, _, Try.underlying70⟩, rfl, Try.t70, _, by kernel_rfl, rfl, rfl, rfl, fun _ _ => ⟨trivial, trivial⟩⟩
theorem tok75 : TOk1 Try.prog 75 ⟨1, 8, [.any], .func⟩ := ⟨⟨_, _, _, Try.underlying75⟩, rfl, Try.t75, _, by kernel_rfl, rfl, rfl, rfl, fun _ _ => ⟨trivial, trivial⟩⟩
theorem tok77 : TOk1 Try.prog 77 ⟨1, 8, [.any], .func⟩ := ⟨⟨_, _, _, Try.underlying77⟩, rfl, Try.t77, _, by kernel_rfl, rfl, rfl, rfl, fun _ _ => ⟨trivial, trivial⟩⟩
theorem tok79 : TOk1 Try.prog 79 ⟨1, 8, [.any], .func⟩ := ⟨⟨_, _, _, Try.underlying79⟩, rfl, Try.t79, _, by kernel_rfl, rfl, rfl, rfl, fun _ _ => ⟨trivial, trivial⟩⟩
theorem tok85 : TOk1 Try.prog 85 ⟨2, 16, [.int .i64 0, .int .i64 0], .struct [(3, 0), (3, 1)]⟩ := ⟨⟨_, Try.underlying85, rfl⟩, rfl, Try.t85, _, by kernel_rfl, rfl, rfl, rfl, fun _ _ => ⟨rfl, rfl, trivial⟩⟩
theorem tok89 : TOk1 Try.prog 89 ⟨1, 8, [.nilp], .ptr 113⟩ := ⟨Try.underlying89, rfl, Try.t89, _, by kernel_rfl, rfl, rfl, rfl, fun _ _ => ⟨rfl, trivial⟩⟩
theorem tok97 : TOk1 Try.prog 97 ⟨1, 8, [.any], .func⟩ := ⟨⟨_, _, _, Try.underlying97⟩, rfl, Try.t97, _, by kernel_rfl, rfl, rfl, rfl, fun _ _ => ⟨trivial, trivial⟩⟩
theorem tok99 : TOk1 Try.prog 99 ⟨1, 8, [.any], .func⟩ := ⟨⟨_, _, _, Try.underlying99⟩, rfl, Try.t99, _, by kernel_rfl, rfl, rfl, rfl, fun _ _ => ⟨trivial, trivial⟩⟩
theorem tok102 : TOk1 Try.prog 102 ⟨3, 24, [.int .i64 0, .int .i64 0, .int .i64 0], .struct [(3, 0), (3, 1), (3, 2)]⟩ := ⟨⟨_, Try.underlying102, rfl⟩, rfl, Try.t102, _, by kernel_rfl, rfl, rfl, rfl, fun _ _ => ⟨rfl, rfl, rfl, trivial⟩⟩
theorem tok104 : TOk1 Try.prog 104 ⟨3, 24, [.int .i64 0, .int .i64 0, .int .i64 0], .struct [(3, 0), (3, 1), (3, 2)]⟩ := ⟨⟨_, Try.underlying104, rfl⟩, rfl, Try.t104, _, by kernel_rfl, rfl, rfl, rfl, fun _ _ => ⟨rfl, rfl, rfl, trivial⟩⟩
theorem tok111 : TOk1 Try.prog 111 ⟨1, 8, [.any], .func⟩ := ⟨⟨_, _, _, Try.underlying111⟩, rfl, Try.t111, _, by kernel_rfl, rfl, rfl, rfl, fun _ _ => ⟨trivial, trivial⟩⟩
theorem tok113 : TOk1 Try.prog 113 ⟨2, 32, [.nils, .int .i64 0], .struct [(48, 0), (3, 1)]⟩ := ⟨⟨_, Try.underlying113, rfl⟩, rfl, Try.t113, _, by kernel_rfl, rfl, rfl, rfl, fun _ _ => ⟨rfl, rfl, trivial⟩⟩
theorem tok114 : TOk1 Try.prog 114 ⟨1, 8, [.nilp], .ptr 130⟩ := ⟨Try.underlying114, rfl, Try.t114, _, by kernel_rfl, rfl, rfl, rfl, fun _ _ => ⟨rfl, trivial⟩⟩
theorem tok119 : TOk1 Try.prog 119 ⟨1, 8, [.int .u64 0], .int .u64⟩ := ⟨Try.underlying119, rfl, Try.t119, _, by kernel_rfl, rfl, rfl, rfl, fun _ _ => ⟨rfl, trivial⟩⟩
theorem tok122 : TOk1 Try.prog 122 ⟨1, 24, [.nils], .slice 160⟩ := ⟨Try.underlying122, rfl, Try.t122, _, by kernel_rfl, rfl, rfl, rfl, fun _ _ => ⟨rfl, trivial⟩⟩
theorem tok123 : TOk1 Try.prog 123 ⟨1, 24, [.nils], .slice 193⟩ := ⟨Try.underlying123, rfl, Try.t123, _, by kernel_rfl, rfl, rfl, rfl, fun _ _ => ⟨rfl, trivial⟩⟩
theorem tok124 : TOk1 Try.prog 124 ⟨1, 24, [.nils], .slice 195⟩ := ⟨Try.underlying124, rfl, Try.t124, _, by kernel_rfl, rfl, rfl, rfl, fun _ _ => ⟨rfl, trivial⟩⟩
theorem tok126 : TOk1 Try.prog 126 ⟨4, 80, [.int .i64 0, .nils, .nils, .nils], .struct [(3, 0), (122, 1), (123, 2), (124, 3)]⟩ := ⟨⟨_, Try.underlying126, rfl⟩, rfl, Try.t126, _, by kernel_rfl, rfl, rfl, rfl, fun _ _ => ⟨rfl, rfl, rfl, rfl, trivial⟩⟩
theorem tok128 : TOk1 Try.prog 128 ⟨1, 24, [.nils], .slice 197⟩ := ⟨Try.underlying128, rfl, Try.t128, _, by kernel_rfl, rfl, rfl, rfl, fun _ _ => ⟨rfl, trivial⟩⟩
theorem tok130 : TOk1 Try.prog 130 ⟨6, 112, [.nilp, .int .i64 0, .nils, .nils, .nils, .nils], .struct [(89, 0), (126, 1), (128, 5)]⟩ := ⟨⟨_, Try.underlying130, rfl⟩, rfl, Try.t130, _, by kernel_rfl, rfl, rfl, rfl, fun _ _ => ⟨rfl, rfl, rfl, rfl, rfl, rfl, trivial⟩⟩
theorem tok133 : TOk1 Try.prog 133 ⟨1, 8, [.int .i64 0], .int .i64⟩ := ⟨Try.underlying133, rfl, Try.t133, _, by kernel_rfl, rfl, rfl, rfl, fun _ _ => ⟨rfl, trivial⟩⟩
theorem tok142 : TOk1 Try.prog 142 ⟨1, 4, [.int .u32 0], .int .u32⟩ := ⟨Try.underlying142, rfl, Try.t142, _, by kernel_rfl, rfl, rfl, rfl, fun _ _ => ⟨rfl, trivial⟩⟩
theorem tok144 : TOk1 Try.prog 144 ⟨1, 8, [.int .u64 0], .int .u64⟩ := ⟨Try.underlying144, rfl, Try.t144, _, by kernel_rfl, rfl, rfl, rfl, fun _ _ => ⟨rfl, trivial⟩⟩
theorem tok150 : TOk1 Try.prog 150 ⟨1, 24, [.nils], .slice 199⟩ := ⟨Try.underlying150, rfl, Try.t150, _, by kernel_rfl, rfl, rfl, rfl, fun _ _ => ⟨rfl, trivial⟩⟩
theorem tok152 : TOk1 Try.prog 152 ⟨9, 120, [.int .i64 0, .int .i64 0, .int .i64 0, .nils, .int .i64 0, .int .i64 0, .nils, .nils, .int .i64 0], .struct [(3, 0), (3, 1), (3, 2), (150, 3), (3, 4), (3, 5), (24, 6), (24, 7), (3, 8)]⟩ := ⟨⟨_, Try.underlying152, rfl⟩, rfl, Try.t152, _, by kernel_rfl, rfl, rfl, rfl, fun _ _ => ⟨rfl, rfl, rfl, rfl, rfl, rfl, rfl, rfl, rfl, trivial⟩⟩
theorem tok153 : TOk1 Try.prog 153 ⟨1, 24, [.nils], .slice 202⟩ := ⟨Try.underlying153, rfl, Try.t153, _, by kernel_rfl, rfl, rfl, rfl, fun _ _ => ⟨rfl, trivial⟩⟩
theorem tok154 : TOk1 Try.prog 154 ⟨1, 24, [.nils], .slice 204⟩ := ⟨Try.underlying154, rfl, Try.t154, _, by kernel_rfl, rfl, rfl, rfl, fun _ _ => ⟨rfl, trivial⟩⟩
theorem tok155 : TOk1 Try.prog 155 ⟨1, 24, [.nils], .slice 206⟩ := ⟨Try.underlying155, rfl, Try.t155, _, by kernel_rfl, rfl, rfl, rfl, fun _ _ => ⟨rfl, trivial⟩⟩
theorem tok156 : TOk1 Try.prog 156 ⟨1, 24, [.nils], .slice 208⟩ := ⟨Try.underlying156, rfl, Try.t156, _, by kernel_rfl, rfl, rfl, rfl, fun _ _ => ⟨rfl, trivial⟩⟩
theorem tok158 : TOk1 Try.prog 158 ⟨8, 160, [.int .i64 0, .int .i64 0, .nils, .nils, .nils, .nils, .nils, .nils], .struct [(3, 0), (3, 1), (24, 2), (38, 3), (153, 4), (154, 5), (155, 6), (156, 7)]⟩ := ⟨⟨_, Try.underlying158, rfl⟩, rfl, Try.t158, _, by kernel_rfl, rfl, rfl, rfl, fun _ _ => ⟨rfl, rfl, rfl, rfl, rfl, rfl, rfl, rfl, trivial⟩⟩
theorem tok160 : TOk1 Try.prog 160 ⟨18, 288, [.bool false, .int .i64 0, .int .i64 0, .int .i64 0, .nils, .int .i64 0, .int .i64 0, .nils, .nils, .int .i64 0, .int .i64 0, .int .i64 0, .nils, .nils, .nils, .nils, .nils, .nils], .struct [(4, 0), (152, 1), (158, 10)]⟩ := ⟨⟨_, Try.underlying160, rfl⟩, rfl, Try.t160, _, by kernel_rfl, rfl, rfl, rfl, fun _ _ => ⟨rfl, rfl, rfl, rfl, rfl, rfl, rfl, rfl, rfl, rfl, rfl, rfl, rfl, rfl, rfl, rfl, rfl, rfl, trivial⟩⟩
theorem tok162 : TOk1 Try.prog 162 ⟨1, 8, [.int .u64 0], .int .u64⟩ := ⟨Try.underlying162, rfl, Try.t162, _, by kernel_rfl, rfl, rfl, rfl, fun _ _ => ⟨rfl, trivial⟩⟩
theorem tok166 : TOk1 Try.prog 166 ⟨1, 8, [.nilp], .ptr 3⟩ := ⟨Try.underlying166, rfl, Try.t166, _, by kernel_rfl, rfl, rfl, rfl, fun _ _ => ⟨rfl, trivial⟩⟩
theorem tok172 : TOk1 Try.prog 172 ⟨1, 8, [.nilp], .ptr 162⟩ := ⟨Try.underlying172, rfl, Try.t172, _, by kernel_rfl, rfl, rfl, rfl, fun _ _ => ⟨rfl, trivial⟩⟩
theorem tok178 : TOk1 Try.prog 178 ⟨4, 40, [.nilp, .nilp, .nilp, .str ByteArray.empty], .struct [(17, 0), (17, 1), (17, 2), (9, 3)]⟩ := ⟨⟨_, Try.underlying178, rfl⟩, rfl, Try.t178, _, by kernel_rfl, rfl, rfl, rfl, fun _ _ => ⟨rfl, rfl, rfl, rfl, trivial⟩⟩
theorem tok181 : TOk1 Try.prog 181 ⟨0, 0, [], .struct [(179, 0)]⟩ := ⟨⟨_, Try.underlying181, rfl⟩, rfl, Try.t181, _, by kernel_rfl, rfl, rfl, rfl, fun _ _ => trivial⟩
theorem tok182 : TOk1 Try.prog 182 ⟨1, 1, [.int .u8 0], .int .u8⟩ := ⟨Try.underlying182, rfl, Try.t182, _, by kernel_rfl, rfl, rfl, rfl, fun _ _ => ⟨rfl, trivial⟩⟩
theorem tok183 : TOk1 Try.prog 183 ⟨1, 1, [.int .u8 0], .int .u8⟩ := ⟨Try.underlying183, rfl, Try.t183, _, by kernel_rfl, rfl, rfl, rfl, fun _ _ => ⟨rfl, trivial⟩⟩
theorem tok184 : TOk1 Try.prog 184 ⟨1, 8, [.any], .func⟩ := ⟨⟨_, _, _, Try.underlying184⟩, rfl, Try.t184, _, by kernel_rfl, rfl, rfl, rfl, fun _ _ => ⟨trivial, trivial⟩⟩
theorem tok185 : TOk1 Try.prog 185 ⟨1, 8, [.nilp], .ptr 5⟩ := ⟨Try.underlying185, rfl, Try.t185, _, by kernel_rfl, rfl, rfl, rfl, fun _ _ => ⟨rfl, trivial⟩⟩
theorem tok186 : TOk1 Try.prog 186 ⟨1, 4, [.int .i32 0], .int .i32⟩ := ⟨Try.underlying186, rfl, Try.t186, _, by kernel_rfl, rfl, rfl, rfl, fun _ _ => ⟨rfl, trivial⟩⟩
theorem tok187 : TOk1 Try.prog 187 ⟨1, 4, [.int .i32 0], .int .i32⟩ := ⟨Try.underlying187, rfl, Try.t187, _, by kernel_rfl, rfl, rfl, rfl, fun _ _ => ⟨rfl, trivial⟩⟩
theorem tok189 : TOk1 Try.prog 189 ⟨11, 48, [.int .u64 0, .int .u64 0, .int .u32 0, .int .u8 0, .int .u8 0, .int .u8 0, .int .u8 0, .any, .nilp, .int .i32 0, .int .i32 0], .struct [(12, 0), (12, 1), (142, 2), (182, 3), (5, 4), (5, 5), (183, 6), (184, 7), (185, 8), (186, 9), (187, 10)]⟩ := ⟨⟨_, Try.underlying189, rfl⟩, rfl, Try.t189, _, by kernel_rfl, rfl, rfl, rfl, fun _ _ => ⟨rfl, rfl, rfl, rfl, rfl, rfl, rfl, trivial, rfl, rfl, rfl, trivial⟩⟩
theorem tok191 : TOk1 Try.prog 191 ⟨6, 56, [.int .i64 0, .int .i64 0, .int .i64 0, .int .i64 0, .int .i64 0, .str ByteArray.empty], .struct [(3, 0), (3, 1), (3, 2), (3, 3), (3, 4), (9, 5)]⟩ := ⟨⟨_, Try.underlying191, rfl⟩, rfl, Try.t191, _, by kernel_rfl, rfl, rfl, rfl, fun _ _ => ⟨rfl, rfl, rfl, rfl, rfl, rfl, trivial⟩⟩
theorem tok193 : TOk1 Try.prog 193 ⟨23, 240, [.int .i64 0, .int .i64 0, .int .i64 0, .int .i64 0, .int .i64 0, .int .i64 0, .int .i64 0, .bool false, .nils, .int .i64 0, .int .i64 0, .int .i64 0, .nils, .int .i64 0, .int .i64 0, .int .i64 0, .nils, .int .i64 0, .int .i64 0, .int .i64 0, .int .i64 0, .int .i64 0, .str ByteArray.empty], .struct [(3, 0), (3, 1), (3, 2), (3, 3), (3, 4), (3, 5), (3, 6), (4, 7), (150, 8), (3, 9), (3, 10), (3, 11), (38, 12), (3, 13), (3, 14), (3, 15), (24, 16), (191, 17)]⟩ := ⟨⟨_, Try.underlying193, rfl⟩, rfl, Try.t193, _, by kernel_rfl, rfl, rfl, rfl, fun _ _ => ⟨rfl, rfl, rfl, rfl, rfl, rfl, rfl, rfl, rfl, rfl, rfl, rfl, rfl, rfl, rfl, rfl, rfl, rfl, rfl, rfl, rfl, rfl, rfl, trivial⟩⟩
theorem tok195 : TOk1 Try.prog 195 ⟨11, 112, [.int .i64 0, .int .i64 0, .int .i64 0, .int .i64 0, .int .i64 0, .str ByteArray.empty, .int .i64 0, .int .i64 0, .bool false, .int .i64 0, .nils], .struct [(191, 0), (3, 6), (3, 7), (4, 8), (3, 9), (24, 10)]⟩ := ⟨⟨_, Try.underlying195, rfl⟩, rfl, Try.t195, _, by kernel_rfl, rfl, rfl, rfl, fun _ _ => ⟨rfl, rfl, rfl, rfl, rfl, rfl, rfl, rfl, rfl, rfl, rfl, trivial⟩⟩
theorem tok197 : TOk1 Try.prog 197 ⟨11, 96, [.int .i64 0, .int .i64 0, .int .i64 0, .int .i64 0, .bool false, .int .i64 0, .int .i64 0, .int .i64 0, .int .i64 0, .int .i64 0, .str ByteArray.empty], .struct [(3, 0), (3, 1), (3, 2), (3, 3), (4, 4), (191, 5)]⟩ := ⟨⟨_, Try.underlying197, rfl⟩, rfl, Try.t197, _, by kernel_rfl, rfl, rfl, rfl, fun _ _ => ⟨rfl, rfl, rfl, rfl, rfl, rfl, rfl, rfl, rfl, rfl, rfl, trivial⟩⟩
theorem tok199 : TOk1 Try.prog 199 ⟨7, 64, [.int .i64 0, .int .i64 0, .int .i64 0, .int .i64 0, .int .i64 0, .int .i64 0, .str ByteArray.empty], .struct [(3, 0), (191, 1)]⟩ := ⟨⟨_, Try.underlying199, rfl⟩, rfl, Try.t199, _, by kernel_rfl, rfl, rfl, rfl, fun _ _ => ⟨rfl, rfl, rfl, rfl, rfl, rfl, rfl, trivial⟩⟩
theorem tok202 : TOk1 Try.prog 202 ⟨3, 40, [.int .i64 0, .int .i64 0, .nils], .struct [(3, 0), (3, 1), (38, 2)]⟩ := ⟨⟨_, Try.underlying202, rfl⟩, rfl, Try.t202, _, by kernel_rfl, rfl, rfl, rfl, fun _ _ => ⟨rfl, rfl, rfl, trivial⟩⟩
theorem tok204 : TOk1 Try.prog 204 ⟨4, 64, [.int .i64 0, .int .i64 0, .nils, .nils], .struct [(3, 0), (3, 1), (38, 2), (24, 3)]⟩ := ⟨⟨_, Try.underlying204, rfl⟩, rfl, Try.t204, _, by kernel_rfl, rfl, rfl, rfl, fun _ _ => ⟨rfl, rfl, rfl, rfl, trivial⟩⟩
theorem tok206 : TOk1 Try.prog 206 ⟨4, 64, [.int .i64 0, .int .i64 0, .nils, .nils], .struct [(3, 0), (3, 1), (24, 2), (38, 3)]⟩ := ⟨⟨_, Try.underlying206, rfl⟩, rfl, Try.t206, _, by kernel_rfl, rfl, rfl, rfl, fun _ _ => ⟨rfl, rfl, rfl, rfl, trivial⟩⟩
theorem tok208 : TOk1 Try.prog 208 ⟨4, 48, [.int .i64 0, .int .i64 0, .int .i64 0, .nils], .struct [(3, 0), (3, 1), (3, 2), (24, 3)]⟩ := ⟨⟨_, Try.underlying208, rfl⟩, rfl, Try.t208, _, by kernel_rfl, rfl, rfl, rfl, fun _ _ => ⟨rfl, rfl, rfl, rfl, trivial⟩⟩
set_option maxHeartbeats 4000000 in
theorem tok : TOk Try.prog tab := by
  intro t i h
  unfold tab at h
  split at h
  · cases h; exact tok1
  · cases h; exact tok2
  · cases h; exact tok3
  · cases h; exact tok4
  · cases h; exact tok5
  · cases h; exact tok6
  · cases h; exact tok8
  · cases h; exact tok9
  · cases h; exact tok10
  · cases h; exact tok11
  · cases h; exact tok12
  · cases h; exact tok14
  · cases h; exact tok15
  · cases h; exact tok16
  · cases h; exact tok17
  · cases h; exact tok19
  · cases h; exact tok22
  · cases h; exact tok23
  · cases h; exact tok24
  · cases h; exact tok26
  · cases h; exact tok29
  · cases h; exact tok30
  · cases h; exact tok32
  · cases h; exact tok36
  · cases h; exact tok38
  · cases h; exact tok48
  · cases h; exact tok53
  · cases h; exact tok55
  · cases h; exact tok57
  · cases h; exact tok65
  · cases h; exact tok69
  · cases h; exact tok70
  · cases h; exact tok75
  · cases h; exact tok77
  · cases h; exact tok79
  · cases h; exact tok85
  · cases h; exact tok89
  · cases h; exact tok97
  · cases h; exact tok99
  · cases h; exact tok102
  · cases h; exact tok104
  · cases h; exact tok111
  · cases h; exact tok113
  · cases h; exact tok114
  · cases h; exact tok119
  · cases h; exact tok122
  · cases h; exact tok123
  · cases h; exact tok124
  · cases h; exact tok126
  · cases h; exact tok128
  · cases h; exact tok130
  · cases h; exact tok133
  · cases h; exact tok142
  · cases h; exact tok144
  · cases h; exact tok150
  · cases h; exact tok152
  · cases h; exact tok153
  · cases h; exact tok154
  · cases h; exact tok155
  · cases h; exact tok156
  · cases h; exact tok158
  · cases h; exact tok160
  · cases h; exact tok162
  · cases h; exact tok166
  · cases h; exact tok172
  · cases h; exact tok178
  · cases h; exact tok181
  · cases h; exact tok182
  · cases h; exact tok183
  · cases h; exact tok184
  · cases h; exact tok185
  · cases h; exact tok186
  · cases h; exact tok187
  · cases h; exact tok189
  · cases h; exact tok191
  · cases h; exact tok193
  · cases h; exact tok195
  · cases h; exact tok197
  · cases h; exact tok199
  · cases h; exact tok202
  · cases h; exact tok204
  · cases h; exact tok206
  · cases h; exact tok208
  · cases h
end Go.Proofs.YtkpojkhedmeneaaE
