/- A part of the proof of a law of the given program: the types of the program. No condition of its own. -/
import Derived.Test.YtekhlpkodgjdeaaEE20
import Derived.Test.YtekhlpkodgjdeaaChecked
namespace Go.Proofs.YtekhlpkodgjdeaaE
open Go.Proofs Go.RowKit
set_option maxRecDepth 100000
def tab : Tab
  | 1 => some ⟨1, 8, [.any], .func⟩
  | 2 => some ⟨1, 8, [.int .i64 0], .int .i64⟩
  | 3 => some ⟨1, 8, [.int .i64 0], .int .i64⟩
  | 4 => some ⟨1, 1, [.bool false], .bool⟩
  | 5 => some ⟨1, 1, [.int .u8 0], .int .u8⟩
  | 6 => some ⟨1, 1, [.int .u8 0], .int .u8⟩
  | 7 => some ⟨4, 24, [.int .i64 0, .int .i64 0, .bool false, .int .u8 0], .struct [(2, 0), (3, 1), (4, 2), (6, 3)]⟩
  | 8 => some ⟨4, 24, [.int .i64 0, .int .i64 0, .bool false, .int .u8 0], .struct [(2, 0), (3, 1), (4, 2), (6, 3)]⟩
  | 9 => some ⟨1, 16, [.str ByteArray.empty], .str⟩
  | 10 => some ⟨1, 16, [.str ByteArray.empty], .str⟩
  | 11 => some ⟨1, 16, [.str ByteArray.empty], .str⟩
  | 12 => some ⟨1, 8, [.int .u64 0], .int .u64⟩
  | 13 => some ⟨2, 24, [.str ByteArray.empty, .int .u64 0], .struct [(9, 0), (12, 1)]⟩
  | 14 => some ⟨2, 24, [.str ByteArray.empty, .int .u64 0], .struct [(9, 0), (12, 1)]⟩
  | 15 => some ⟨1, 8, [.nilp], .ptr 84⟩
  | 16 => some ⟨1, 8, [.nilp], .ptr 87⟩
  | 17 => some ⟨1, 8, [.nilp], .ptr 96⟩
  | 18 => some ⟨1, 8, [.nilp], .struct [(17, 0)]⟩
  | 19 => some ⟨1, 8, [.nilp], .struct [(17, 0)]⟩
  | 21 => some ⟨1, 4, [.int .i32 0], .int .i32⟩
  | 22 => some ⟨1, 24, [.nils], .slice 72⟩
  | 23 => some ⟨3, 40, [.int .i64 0, .int .i64 0, .nils], .struct [(3, 0), (3, 1), (22, 2)]⟩
  | 24 => some ⟨3, 40, [.int .i64 0, .int .i64 0, .nils], .struct [(3, 0), (3, 1), (22, 2)]⟩
  | 25 => some ⟨1, 8, [.any], .func⟩
  | 26 => some ⟨1, 8, [.any], .func⟩
  | 27 => some ⟨1, 24, [.nils], .slice 40⟩
  | 28 => some ⟨3, 40, [.int .i64 0, .int .i64 0, .nils], .struct [(3, 0), (3, 1), (27, 2)]⟩
  | 29 => some ⟨3, 40, [.int .i64 0, .int .i64 0, .nils], .struct [(3, 0), (3, 1), (27, 2)]⟩
  | 30 => some ⟨1, 8, [.any], .func⟩
  | 31 => some ⟨1, 8, [.any], .func⟩
  | 32 => some ⟨1, 8, [.any], .func⟩
  | 33 => some ⟨1, 8, [.any], .func⟩
  | 34 => some ⟨1, 8, [.any], .func⟩
  | 36 => some ⟨1, 8, [.any], .func⟩
  | 37 => some ⟨1, 24, [.nils], .slice 5⟩
  | 38 => some ⟨1, 8, [.any], .func⟩
  | 39 => some ⟨3, 24, [.int .i64 0, .int .i64 0, .int .i64 0], .struct [(3, 0), (3, 1), (3, 2)]⟩
  | 40 => some ⟨3, 24, [.int .i64 0, .int .i64 0, .int .i64 0], .struct [(3, 0), (3, 1), (3, 2)]⟩
  | 41 => some ⟨1, 8, [.any], .func⟩
  | 42 => some ⟨1, 8, [.any], .func⟩
  | 43 => some ⟨1, 8, [.any], .func⟩
  | 45 => some ⟨1, 8, [.any], .func⟩
  | 46 => some ⟨1, 8, [.any], .func⟩
  | 47 => some ⟨1, 8, [.any], .func⟩
  | 48 => some ⟨1, 8, [.any], .func⟩
  | 49 => some ⟨1, 8, [.any], .func⟩
  | 50 => some ⟨1, 8, [.any], .func⟩
  | 51 => some ⟨1, 8, [.any], .func⟩
  | 52 => some ⟨1, 8, [.any], .func⟩
  | 53 => some ⟨1, 8, [.any], .func⟩
  | 54 => some ⟨1, 8, [.any], .func⟩
  | 55 => some ⟨1, 8, [.any], .func⟩
  | 56 => some ⟨1, 8, [.any], .func⟩
  | 57 => some ⟨1, 8, [.any], .func⟩
  | 58 => some ⟨1, 8, [.any], .func⟩
  | 59 => some ⟨1, 8, [.nilp], .ptr 29⟩
  | 60 => some ⟨1, 8, [.any], .func⟩
  | 61 => some ⟨1, 8, [.any], .func⟩
  | 62 => some ⟨1, 8, [.any], .func⟩
  | 63 => some ⟨1, 8, [.any], .func⟩
  | 64 => some ⟨1, 8, [.any], .func⟩
  | 65 => some ⟨1, 8, [.nilp], .ptr 78⟩
  | 66 => some ⟨1, 8, [.any], .func⟩
  | 67 => some ⟨1, 8, [.any], .func⟩
  | 68 => some ⟨1, 8, [.nilp], .ptr 40⟩
  | 69 => some ⟨1, 8, [.any], .func⟩
  | 70 => some ⟨1, 8, [.any], .func⟩
  | 71 => some ⟨1, 8, [.any], .func⟩
  | 72 => some ⟨3, 24, [.int .i64 0, .int .i64 0, .int .i64 0], .struct [(3, 0), (3, 1), (3, 2)]⟩
  | 73 => some ⟨1, 8, [.any], .func⟩
  | 74 => some ⟨1, 8, [.any], .func⟩
  | 75 => some ⟨1, 8, [.any], .func⟩
  | 76 => some ⟨1, 24, [.nils], .slice 3⟩
  | 77 => some ⟨2, 32, [.nils, .int .i64 0], .struct [(37, 0), (3, 1)]⟩
  | 78 => some ⟨2, 32, [.nils, .int .i64 0], .struct [(37, 0), (3, 1)]⟩
  | 79 => some ⟨1, 8, [.any], .func⟩
  | 80 => some ⟨1, 8, [.any], .func⟩
  | 81 => some ⟨1, 8, [.any], .func⟩
  | 82 => some ⟨1, 8, [.any], .func⟩
  | 83 => some ⟨4, 40, [.nilp, .nilp, .nilp, .str ByteArray.empty], .struct [(17, 0), (17, 1), (17, 2), (9, 3)]⟩
  | 84 => some ⟨4, 40, [.nilp, .nilp, .nilp, .str ByteArray.empty], .struct [(17, 0), (17, 1), (17, 2), (9, 3)]⟩
  | 86 => some ⟨0, 0, [], .struct [(85, 0)]⟩
  | 87 => some ⟨0, 0, [], .struct [(85, 0)]⟩
  | 88 => some ⟨1, 4, [.int .u32 0], .int .u32⟩
  | 89 => some ⟨1, 1, [.int .u8 0], .int .u8⟩
  | 90 => some ⟨1, 1, [.int .u8 0], .int .u8⟩
  | 91 => some ⟨1, 8, [.any], .func⟩
  | 92 => some ⟨1, 8, [.nilp], .ptr 5⟩
  | 93 => some ⟨1, 4, [.int .i32 0], .int .i32⟩
  | 94 => some ⟨1, 4, [.int .i32 0], .int .i32⟩
  | 95 => some ⟨11, 48, [.int .u64 0, .int .u64 0, .int .u32 0, .int .u8 0, .int .u8 0, .int .u8 0, .int .u8 0, .any, .nilp, .int .i32 0, .int .i32 0], .struct [(12, 0), (12, 1), (88, 2), (89, 3), (5, 4), (5, 5), (90, 6), (91, 7), (92, 8), (93, 9), (94, 10)]⟩
  | 96 => some ⟨11, 48, [.int .u64 0, .int .u64 0, .int .u32 0, .int .u8 0, .int .u8 0, .int .u8 0, .int .u8 0, .any, .nilp, .int .i32 0, .int .i32 0], .struct [(12, 0), (12, 1), (88, 2), (89, 3), (5, 4), (5, 5), (90, 6), (91, 7), (92, 8), (93, 9), (94, 10)]⟩
  | _ => none
theorem tok1 : TOk1 Try.prog 1 ⟨1, 8, [.any], .func⟩ := ⟨⟨_, _, _, Try.underlying1⟩, rfl, Try.t1, _, by kernel_rfl, rfl, rfl, rfl, fun _ _ => ⟨trivial, trivial⟩⟩
theorem tok2 : TOk1 Try.prog 2 ⟨1, 8, [.int .i64 0], .int .i64⟩ := ⟨Try.underlying2, rfl, Try.t2, _, by kernel_rfl, rfl, rfl, rfl, fun _ _ => ⟨rfl, trivial⟩⟩
theorem tok3 : TOk1 Try.prog 3 ⟨1, 8, [.int .i64 0], .int .i64⟩ := ⟨Try.underlying3, rfl, Try.t3, _, by kernel_rfl, rfl, rfl, rfl, fun _ _ => ⟨rfl, trivial⟩⟩
theorem tok4 : TOk1 Try.prog 4 ⟨1, 1, [.bool false], .bool⟩ := ⟨Try.underlying4, rfl, Try.t4, _, by kernel_rfl, rfl, rfl, rfl, fun _ _ => ⟨rfl, trivial⟩⟩
theorem tok5 : TOk1 Try.prog 5 ⟨1, 1, [.int .u8 0], .int .u8⟩ := ⟨Try.underlying5, rfl, Try.t5, _, by kernel_rfl, rfl, rfl, rfl, fun _ _ => ⟨rfl, trivial⟩⟩
theorem tok6 : TOk1 Try.prog 6 ⟨1, 1, [.int .u8 0], .int .u8⟩ := ⟨Try.underlying6, rfl, Try.t6, _, by kernel_rfl, rfl, rfl, rfl, fun _ _ => ⟨rfl, trivial⟩⟩
theorem tok7 : TOk1 Try.prog 7 ⟨4, 24, [.int .i64 0, .int .i64 0, .bool false, .int .u8 0], .struct [(2, 0), (3, 1), (4, 2), (6, 3)]⟩ := ⟨⟨_, Try.underlying7, rfl⟩, rfl, Try.t7, _, by kernel_rfl, rfl, rfl, rfl, fun _ _ => ⟨rfl, rfl, rfl, rfl, trivial⟩⟩
theorem tok8 : TOk1 Try.prog 8 ⟨4, 24, [.int .i64 0, .int .i64 0, .bool false, .int .u8 0], .struct [(2, 0), (3, 1), (4, 2), (6, 3)]⟩ := ⟨⟨_, Try.underlying8, rfl⟩, rfl, Try.t8, _, by kernel_rfl, rfl, rfl, rfl, fun _ _ => ⟨rfl, rfl, rfl, rfl, trivial⟩⟩
theorem tok9 : TOk1 Try.prog 9 ⟨1, 16, [.str ByteArray.empty], .str⟩ := ⟨Try.underlying9, rfl, Try.t9, _, by kernel_rfl, rfl, rfl, rfl, fun _ _ => ⟨rfl, trivial⟩⟩
theorem tok10 : TOk1 Try.prog 10 ⟨1, 16, [.str ByteArray.empty], .str⟩ := ⟨Try.underlying10, rfl, Try.t10, _, by kernel_rfl, rfl, rfl, rfl, fun _ _ => ⟨rfl, trivial⟩⟩
theorem tok11 : TOk1 Try.prog 11 ⟨1, 16, [.str ByteArray.empty], .str⟩ := ⟨Try.underlying11, rfl, Try.t11, _, by kernel_rfl, rfl, rfl, rfl, fun _ _ => ⟨rfl, trivial⟩⟩
theorem tok12 : TOk1 Try.prog 12 ⟨1, 8, [.int .u64 0], .int .u64⟩ := ⟨Try.underlying12, rfl, Try.t12, _, by kernel_rfl, rfl, rfl, rfl, fun _ _ => ⟨rfl, trivial⟩⟩
theorem tok13 : TOk1 Try.prog 13 ⟨2, 24, [.str ByteArray.empty, .int .u64 0], .struct [(9, 0), (12, 1)]⟩ := ⟨⟨_, Try.underlying13, rfl⟩, rfl, Try.t13, _, by kernel_rfl, rfl, rfl, rfl, fun _ _ => ⟨rfl, rfl, trivial⟩⟩
theorem tok14 : TOk1 Try.prog 14 ⟨2, 24, [.str ByteArray.empty, .int .u64 0], .struct [(9, 0), (12, 1)]⟩ := ⟨⟨_, Try.underlying14, rfl⟩, rfl, Try.t14, _, by kernel_rfl, rfl, rfl, rfl, fun _ _ => ⟨rfl, rfl, trivial⟩⟩
theorem tok15 : TOk1 Try.prog 15 ⟨1, 8, [.nilp], .ptr 84⟩ := ⟨Try.underlying15, rfl, Try.t15, _, by kernel_rfl, rfl, rfl, rfl, fun _ _ => ⟨rfl, trivial⟩⟩
theorem tok16 : TOk1 Try.prog 16 ⟨1, 8, [.nilp], .ptr 87⟩ := ⟨Try.underlying16, rfl, Try.t16, _, by kernel_rfl, rfl, rfl, rfl, fun _ _ => ⟨rfl, trivial⟩⟩
theorem tok17 : TOk1 Try.prog 17 ⟨1, 8, [.nilp], .ptr 96⟩ := ⟨Try.underlying17, rfl, Try.t17, _, by kernel_rfl, rfl, rfl, rfl, fun _ _ => ⟨rfl, trivial⟩⟩
theorem tok18 : TOk1 Try.prog 18 ⟨1, 8, [.nilp], .struct [(17, 0)]⟩ := ⟨⟨_, Try.underlying18, rfl⟩, rfl, Try.t18, _, by kernel_rfl, rfl, rfl, rfl, fun _ _ => ⟨rfl, trivial⟩⟩
theorem tok19 : TOk1 Try.prog 19 ⟨1, 8, [.nilp], .struct [(17, 0)]⟩ := ⟨⟨_, Try.underlying19, rfl⟩, rfl, Try.t19, _, by kernel_rfl, rfl, rfl, rfl, fun _ _ => ⟨rfl, trivial⟩⟩
theorem tok21 : TOk1 Try.prog 21 ⟨1, 4, [.int .i32 0], .int .i32⟩ := ⟨Try.underlying21, rfl, Try.t21, _, by kernel_rfl, rfl, rfl, rfl, fun _ _ => ⟨rfl, trivial⟩⟩
theorem tok22 : TOk1 Try.prog 22 ⟨1, 24, [.nils], .slice 72⟩ := ⟨Try.underlying22, rfl, Try.t22, _, by kernel_rfl, rfl, rfl, rfl, fun _ _ => ⟨rfl, trivial⟩⟩
theorem tok23 : TOk1 Try.prog 23 ⟨3, 40, [.int .i64 0, .int .i64 0, .nils], .struct [(3, 0), (3, 1), (22, 2)]⟩ := ⟨⟨_, Try.underlying23, rfl⟩, rfl, Try.t23, _, by kernel_rfl, rfl, rfl, rfl, fun _ _ => ⟨rfl, rfl, rfl, trivial⟩⟩
theorem tok24 : TOk1 Try.prog 24 ⟨3, 40, [.int .i64 0, .int .i64 0, .nils], .struct [(3, 0), (3, 1), (22, 2)]⟩ := ⟨⟨_, Try.underlying24, rfl⟩, rfl, Try.t24, _, by kernel_rfl, rfl, rfl, rfl, fun _ _ => ⟨rfl, rfl, rfl, trivial⟩⟩
theorem tok25 : TOk1 Try.prog 25 ⟨1, 8, [.any], .func⟩ := ⟨⟨_, _, _, Try.underlying25⟩, rfl, Try.t25, _, by kernel_rfl, rfl, rfl, rfl, fun _ _ => ⟨trivial, trivial⟩⟩
theorem tok26 : TOk1 Try.prog 26 ⟨1, 8, [.any], .func⟩ := ⟨⟨_, _, _, Try.underlying26⟩, rfl, Try.t26, _, by kernel_rfl, rfl, rfl, rfl, fun _ _ => ⟨trivial, trivial⟩⟩
theorem tok27 : TOk1 Try.prog 27 ⟨1, 24, [.nils], .slice 40⟩ := ⟨Try.underlying27, rfl, Try.t27, _, by kernel_rfl, rfl, rfl, rfl, fun _ _ => ⟨rfl, trivial⟩⟩
theorem tok28 : TOk1 Try.prog 28 ⟨3, 40, [.int .i64 0, .int .i64 0, .nils], .struct [(3, 0), (3, 1), (27, 2)]⟩ := ⟨⟨_, Try.underlying28, rfl⟩, rfl, Try.t28, _, by kernel_rfl, rfl, rfl, rfl, fun _ _ => ⟨rfl, rfl, rfl, trivial⟩⟩
theorem tok29 : TOk1 Try.prog 29 ⟨3, 40, [.int .i64 0, .int .i64 0, .nils], .struct [(3, 0), (3, 1), (27, 2)]⟩ := ⟨⟨_, Try.underlying29, rfl⟩, rfl, Try.t29, _, by kernel_rfl, rfl, rfl, rfl, fun _ _ => ⟨rfl, rfl, rfl, trivial⟩⟩
theorem tok30 : TOk1 Try.prog 30 ⟨1, 8, [.any], .func⟩ := ⟨⟨_, _, _, Try.underlying30⟩, rfl, Try.t30, _, by kernel_rfl, rfl, rfl, rfl, fun _ _ => ⟨trivial, trivial⟩⟩
theorem tok31 : TOk1 Try.prog 31 ⟨1, 8, [.any], .func⟩ := ⟨⟨_, _, _, Try.underlying31⟩, rfl, Try.t31, _, by kernel_rfl, rfl, rfl, rfl, fun _ _ => ⟨trivial, trivial⟩⟩
theorem tok32 : TOk1 Try.prog 32 ⟨1, 8, [.any], .func⟩ := ⟨⟨_, _, _, Try.underlying32⟩, rfl, Try.t32, _, by kernel_rfl, rfl, rfl, rfl, fun _ _ => ⟨trivial, trivial⟩⟩
theorem tok33 : TOk1 Try.prog 33 ⟨1, 8, [.any], .func⟩ := ⟨⟨_, _, _, Try.underlying33⟩, rfl, Try.t33, _, by kernel_rfl, rfl, rfl, rfl, fun _ _ => ⟨trivial, trivial⟩⟩
theorem tok34 : TOk1 Try.prog 34 ⟨1, 8, [.any], .func⟩ := ⟨⟨_, _, _, Try.underlying34⟩, rfl, Try.t34, _, by kernel_rfl, rfl, rfl, rfl, fun _ _ => ⟨trivial, trivial⟩⟩
theorem tok36 : TOk1 Try.prog 36 ⟨1, 8, [.any], .func⟩ := ⟨⟨_, _, _, Try.underlying36⟩, rfl, Try.t36, _, by kernel_rfl, rfl, rfl, rfl, fun _ _ => ⟨trivial, trivial⟩⟩
theorem tok37 : TOk1 Try.prog 37 ⟨1, 24, [.nils], .slice 5⟩ := ⟨Try.underlying37, rfl, Try.t37, _, by kernel_rfl, rfl, rfl, rfl, fun _ _ => ⟨rfl, trivial⟩⟩
theorem tok38 : TOk1 Try.prog 38 ⟨1, 8, [.any], .func⟩ := ⟨⟨_, _, _, Try.underlying38⟩, rfl, Try.t38, _, by kernel_rfl, rfl, rfl, rfl, fun _ _ => ⟨trivial, trivial⟩⟩
theorem tok39 : TOk1 Try.prog 39 ⟨3, 24, [.int .i64 0, .int .i64 0, .int .i64 0], .struct [(3, 0), (3, 1), (3, 2)]⟩ := ⟨⟨_, Try.underlying39, rfl⟩, rfl, Try.t39, _, by kernel_rfl, rfl, rfl, rfl, fun _ _ => ⟨rfl, rfl, rfl, trivial⟩⟩
theorem tok40 : TOk1 Try.prog 40 ⟨3, 24, [.int .i64 0, .int .i64 0, .int .i64 0], .struct [(3, 0), (3, 1), (3, 2)]⟩ := ⟨⟨_, Try.underlying40, rfl⟩, rfl, Try.t40, _, by kernel_rfl, rfl, rfl, rfl, fun _ _ => ⟨rfl, rfl, rfl, trivial⟩⟩
theorem tok41 : TOk1 Try.prog 41 ⟨1, 8, [.any], .func⟩ := ⟨⟨_, _, _, Try.underlying41⟩, rfl, Try.t41, _, by kernel_rfl, rfl, rfl, rfl, fun _ _ => ⟨trivial, trivial⟩⟩
theorem tok42 : TOk1 Try.prog 42 ⟨1, 8, [.any], .func⟩ := ⟨⟨_, _, _, Try.underlying42⟩, rfl, Try.t42, _, by kernel_rfl, rfl, rfl, rfl, fun _ _ => ⟨trivial, trivial⟩⟩
theorem tok43 : TOk1 Try.prog 43 ⟨1, 8, [.any], .func⟩ := ⟨⟨_, _, _, Try.underlying43⟩, rfl, Try.t43, _, by kernel_rfl, rfl, rfl, rfl, fun _ _ => ⟨trivial, trivial⟩⟩
theorem tok45 : TOk1 Try.prog 45 ⟨1, 8, [.any], .func⟩ := ⟨⟨_, _, _, Try.underlying45⟩, rfl, Try.t45, _, by kernel_rfl, rfl, rfl, rfl, fun _ _ => ⟨trivial, trivial⟩⟩
theorem tok46 : TOk1 Try.prog 46 ⟨1, 8, [.any], .func⟩ := ⟨⟨_, _, _, Try.underlying46⟩, rfl, Try.t46, _, by kernel_rfl, rfl, rfl, rfl, fun _ _ => ⟨trivial, trivial⟩⟩
theorem tok47 : TOk1 Try.prog 47 ⟨1, 8, [.any], .func⟩ := ⟨⟨_, _, _, Try.underlying47⟩, rfl, Try.t47, _, by kernel_rfl, rfl, rfl, rfl, fun _ _ => ⟨trivial, trivial⟩⟩
theorem tok48 : TOk1 Try.prog 48 ⟨1, 8, [.any], .func⟩ := ⟨⟨_, _, _, Try.underlying48⟩, rfl, Try.t48, _, by kernel_rfl, rfl, rfl, rfl, fun _ _ => ⟨trivial, trivial⟩⟩
theorem tok49 : TOk1 Try.prog 49 ⟨1, 8, [.any], .func⟩ := ⟨⟨_, _, _, Try.underlying49⟩, rfl, Try.t49, _, by kernel_rfl, rfl, rfl, rfl, fun _ _ => ⟨trivial, trivial⟩⟩
theorem tok50 : TOk1 Try.prog 50 ⟨1, 8, [.any], .func⟩ := ⟨⟨_, _, _, Try.underlying50⟩, rfl, Try.t50, _, by kernel_rfl, rfl, rfl, rfl, fun _ _ => ⟨trivial, trivial⟩⟩
theorem tok51 : TOk1 Try.prog 51 ⟨1, 8, [.any], .func⟩ := ⟨⟨_, _, _, Try.underlying51⟩, rfl, Try.t51, _, by kernel_rfl, rfl, rfl, rfl, fun _ _ => ⟨trivial, trivial⟩⟩
theorem tok52 : TOk1 Try.prog 52 ⟨1, 8, [.any], .func⟩ := ⟨⟨_, _, _, Try.underlying52⟩, rfl, Try.t52, _, by kernel_rfl, rfl, rfl, rfl, fun _ _ => ⟨trivial, trivial⟩⟩
theorem tok53 : TOk1 Try.prog 53 ⟨1, 8, [.any], .func⟩ := ⟨⟨_, _, _, Try.underlying53⟩, rfl, Try.t53, _, by kernel_rfl, rfl, rfl, rfl, fun _ _ => ⟨trivial, trivial⟩⟩
theorem tok54 : TOk1 Try.prog 54 ⟨1, 8, [.any], .func⟩ := ⟨⟨_, _, _, Try.underlying54⟩, rfl, Try.t54, _, by kernel_rfl, rfl, rfl, rfl, fun _ _ => ⟨trivial, trivial⟩⟩
theorem tok55 : TOk1 Try.prog 55 ⟨1, 8, [.any], .func⟩ := ⟨⟨_, _, _, Try.underlying55⟩, rfl, Try.t55, _, by kernel_rfl, rfl, rfl, rfl, fun _ _ => ⟨trivial, trivial⟩⟩
theorem tok56 : TOk1 Try.prog 56 ⟨1, 8, [.any], .func⟩ := ⟨⟨_, _, _, Try.underlying56⟩, rfl, Try.t56, _, by kernel_rfl, rfl, rfl, rfl, fun _ _ => ⟨trivial, trivial⟩⟩
theorem tok57 : TOk1 Try.prog 57 ⟨1, 8, [.any], .func⟩ := ⟨⟨_, _, _, Try.underlying57⟩, rfl, Try.t57, _, by kernel_rfl, rfl, rfl, rfl, fun _ _ => ⟨trivial, trivial⟩⟩
theorem tok58 : TOk1 Try.prog 58 ⟨1, 8, [.any], .func⟩ := ⟨⟨_, _, _, Try.underlying58⟩, rfl, Try.t58, _, by kernel_rfl, rfl, rfl, rfl, fun _ _ => ⟨trivial, trivial⟩⟩
theorem tok59 : TOk1 Try.prog 59 ⟨1, 8, [.nilp], .ptr 29⟩ := ⟨Try.underlying59, rfl, Try.t59, _, by kernel_rfl, rfl, rfl, rfl, fun _ _ => ⟨rfl, trivial⟩⟩
theorem tok60 : TOk1 Try.prog 60 ⟨1, 8, [.any], .func⟩ := ⟨⟨_, _, _, Try.underlying60⟩, rfl, Try.t60, _, by kernel_rfl, rfl, rfl, rfl, fun _ _ => ⟨trivial, trivial⟩⟩
theorem tok61 : TOk1 Try.prog 61 ⟨1, 8, [.any], .func⟩ := ⟨⟨_, _, _, Try.underlying61⟩, rfl, Try.t61, _, by kernel_rfl, rfl, rfl, rfl, fun _ _ => ⟨trivial, trivial⟩⟩
theorem tok62 : TOk1 Try.prog 62 ⟨1, 8, [.any], .func⟩ := ⟨⟨_, _, _, Try.underlying62⟩, rfl, Try.t62, _, by kernel_rfl, rfl, rfl, rfl, fun _ _ => ⟨trivial, trivial⟩⟩
theorem tok63 : TOk1 Try.prog 63 ⟨1, 8, [.any], .func⟩ := ⟨⟨_, _, _, Try.underlying63⟩, rfl, Try.t63, _, by kernel_rfl, rfl, rfl, rfl, fun _ _ => ⟨trivial, trivial⟩⟩
theorem tok64 : TOk1 Try.prog 64 ⟨1, 8, [.any], .func⟩ := ⟨⟨_, _, _, Try.underlying64⟩, rfl, Try.t64, _, by kernel_rfl, rfl, rfl, rfl, fun _ _ => ⟨trivial, trivial⟩⟩
theorem tok65 : TOk1 Try.prog 65 ⟨1, 8, [.nilp], .ptr 78⟩ := ⟨Try.underlying65, rfl, Try.t65, _, by kernel_rfl, rfl, rfl, rfl, fun _ _ => ⟨rfl, trivial⟩⟩
theorem tok66 : TOk1 Try.prog 66 ⟨1, 8, [.any], .func⟩ := ⟨⟨_, _, _, Try.underlying66⟩, rfl, Try.t66, _, by kernel_rfl, rfl, rfl, rfl, fun _ _ => ⟨trivial, trivial⟩⟩
theorem tok67 : TOk1 Try.prog 67 ⟨1, 8, [.any], .func⟩ := ⟨⟨_, _, _, Try.underlying67⟩, rfl, Try.t67, _, by kernel_rfl, rfl, rfl, rfl, fun _ _ => ⟨trivial, trivial⟩⟩
theorem tok68 : TOk1 Try.prog 68 ⟨1, 8, [.nilp], .ptr 40⟩ := ⟨Try.underlying68, rfl, Try.t68, _, by kernel_rfl, rfl, rfl, rfl, fun _ _ => ⟨rfl, trivial⟩⟩
theorem tok69 : TOk1 Try.prog 69 ⟨1, 8, [.any], .func⟩ := ⟨⟨_, _, _, Try.underlying69⟩, rfl, Try.t69, _, by kernel_rfl, rfl, rfl, rfl, fun _ _ => ⟨trivial, trivial⟩⟩
theorem tok70 : TOk1 Try.prog 70 ⟨1, 8, [.any], .func⟩ := ⟨⟨_, _, _, Try.underlying70⟩, rfl, Try.t70, _, by kernel_rfl, rfl, rfl, rfl, fun _ _ => ⟨trivial, trivial⟩⟩
theorem tok71 : TOk1 Try.prog 71 ⟨1, 8, [.any], .func⟩ := ⟨⟨_, _, _, Try.underlying71⟩, rfl, Try.t71, _, by kernel_rfl, rfl, rfl, rfl, fun _ _ => ⟨trivial, trivial⟩⟩
theorem tok72 : TOk1 Try.prog 72 ⟨3, 24, [.int .i64 0, .int .i64 0, .int .i64 0], .struct [(3, 0), (3, 1), (3, 2)]⟩ := ⟨⟨_, Try.underlying72, rfl⟩, rfl, Try.t72, _, by kernel_rfl, rfl, rfl, rfl, fun _ _ => ⟨rfl, rfl, rfl, trivial⟩⟩
theorem tok73 : TOk1 Try.prog 73 ⟨1, 8, [.any], .func⟩ := ⟨⟨_, _, _, Try.underlying73⟩, rfl, Try.t73, _, by kernel_rfl, rfl, rfl, rfl, fun _ _ => ⟨trivial, trivial⟩⟩
theorem tok74 : TOk1 Try.prog 74 ⟨1, 8, [.any], .func⟩ := ⟨⟨_, _, _, Try.underlying74⟩, rfl, Try.t74, _, by kernel_rfl, rfl, rfl, rfl, fun _ _ => ⟨trivial, trivial⟩⟩
theorem tok75 : TOk1 Try.prog 75 ⟨1, 8, [.any], .func⟩ := ⟨⟨_, _, _, Try.underlying75⟩, rfl, Try.t75, _, by kernel_rfl, rfl, rfl, rfl, fun _ _ => ⟨trivial, trivial⟩⟩
theorem tok76 : TOk1 Try.prog 76 ⟨1, 24, [.nils], .slice 3⟩ := ⟨Try.underlying76, rfl, Try.t76, _, by kernel_rfl, rfl, rfl, rfl, fun _ _ => ⟨rfl, trivial⟩⟩
theorem tok77 : TOk1 Try.prog 77 ⟨2, 32, [.nils, .int .i64 0], .struct [(37, 0), (3, 1)]⟩ := ⟨⟨_, Try.underlying77, rfl⟩, rfl, Try.t77, _, by kernel_rfl, rfl, rfl, rfl, fun _ _ => ⟨rfl, rfl, trivial⟩⟩
theorem tok78 : TOk1 Try.prog 78 ⟨2, 32, [.nils, .int .i64 0], .struct [(37, 0), (3, 1)]⟩ := ⟨⟨_, Try.underlying78, rfl⟩, rfl, Try.t78, _, by kernel_rfl, rfl, rfl, rfl, fun _ _ => ⟨rfl, rfl, trivial⟩⟩
theorem tok79 : TOk1 Try.prog 79 ⟨1, 8, [.any], .func⟩ := ⟨⟨_, _, _, Try.underlying79⟩, rfl, Try.t79, _, by kernel_rfl, rfl, rfl, rfl, fun _ _ => ⟨trivial, trivial⟩⟩
theorem tok80 : TOk1 Try.prog 80 ⟨1, 8, [.any], .func⟩ := ⟨⟨_, _, _, Try.underlying80⟩, rfl, Try.t80, _, by kernel_rfl, rfl, rfl, rfl, fun _ _ => ⟨trivial, trivial⟩⟩
theorem tok81 : TOk1 Try.prog 81 ⟨1, 8, [.any], .func⟩ := ⟨⟨_, _, _, Try.underlying81⟩, rfl, Try.t81, _, by kernel_rfl, rfl, rfl, rfl, fun _ _ => ⟨trivial, trivial⟩⟩
theorem tok82 : TOk1 Try.prog 82 ⟨1, 8, [.any], .func⟩ := ⟨⟨_, _, _, Try.underlying82⟩, rfl, Try.t82, _, by kernel_rfl, rfl, rfl, rfl, fun _ _ => ⟨trivial, trivial⟩⟩
theorem tok83 : TOk1 Try.prog 83 ⟨4, 40, [.nilp, .nilp, .nilp, .str ByteArray.empty], .struct [(17, 0), (17, 1), (17, 2), (9, 3)]⟩ := ⟨⟨_, Try.underlying83, rfl⟩, rfl, Try.t83, _, by kernel_rfl, rfl, rfl, rfl, fun _ _ => ⟨rfl, rfl, rfl, rfl, trivial⟩⟩
theorem tok84 : TOk1 Try.prog 84 ⟨4, 40, [.nilp, .nilp, .nilp, .str ByteArray.empty], .struct [(17, 0), (17, 1), (17, 2), (9, 3)]⟩ := ⟨⟨_, Try.underlying84, rfl⟩, rfl, Try.t84, _, by kernel_rfl, rfl, rfl, rfl, fun _ _ => ⟨rfl, rfl, rfl, rfl, trivial⟩⟩
theorem tok86 : TOk1 Try.prog 86 ⟨0, 0, [], .struct [(85, 0)]⟩ := ⟨⟨_, Try.underlying86, rfl⟩, rfl, Try.t86, _, by kernel_rfl, rfl, rfl, rfl, fun _ _ => trivial⟩
theorem tok87 : TOk1 Try.prog 87 ⟨0, 0, [], .struct [(85, 0)]⟩ := ⟨⟨_, Try.underlying87, rfl⟩, rfl, Try.t87, _, by kernel_rfl, rfl, rfl, rfl, fun _ _ => trivial⟩
theorem tok88 : TOk1 Try.prog 88 ⟨1, 4, [.int .u32 0], .int .u32⟩ := ⟨Try.underlying88, rfl, Try.t88, _, by kernel_rfl, rfl, rfl, rfl, fun _ _ => ⟨rfl, trivial⟩⟩
theorem tok89 : TOk1 Try.prog 89 ⟨1, 1, [.int .u8 0], .int .u8⟩ := ⟨Try.underlying89, rfl, Try.t89, _, by kernel_rfl, rfl, rfl, rfl, fun _ _ => ⟨rfl, trivial⟩⟩
theorem tok90 : TOk1 Try.prog 90 ⟨1, 1, [.int .u8 0], .int .u8⟩ := ⟨Try.underlying90, rfl, Try.t90, _, by kernel_rfl, rfl, rfl, rfl, fun _ _ => ⟨rfl, trivial⟩⟩
theorem tok91 : TOk1 Try.prog 91 ⟨1, 8, [.any], .func⟩ := ⟨⟨_, _, _, Try.underlying91⟩, rfl, Try.t91, _, by kernel_rfl, rfl, rfl, rfl, fun _ _ => ⟨trivial, trivial⟩⟩
theorem tok92 : TOk1 Try.prog 92 ⟨1, 8, [.nilp], .ptr 5⟩ := ⟨Try.underlying92, rfl, Try.t92, _, by kernel_rfl, rfl, rfl, rfl, fun _ _ => ⟨rfl, trivial⟩⟩
theorem tok93 : TOk1 Try.prog 93 ⟨1, 4, [.int .i32 0], .int .i32⟩ := ⟨Try.underlying93, rfl, Try.t93, _, by kernel_rfl, rfl, rfl, rfl, fun _ _ => ⟨rfl, trivial⟩⟩
theorem tok94 : TOk1 Try.prog 94 ⟨1, 4, [.int .i32 0], .int .i32⟩ := ⟨Try.underlying94, rfl, Try.t94, _, by kernel_rfl, rfl, rfl, rfl, fun _ _ => ⟨rfl, trivial⟩⟩
theorem tok95 : TOk1 Try.prog 95 ⟨11, 48, [.int .u64 0, .int .u64 0, .int .u32 0, .int .u8 0, .int .u8 0, .int .u8 0, .int .u8 0, .any, .nilp, .int .i32 0, .int .i32 0], .struct [(12, 0), (12, 1), (88, 2), (89, 3), (5, 4), (5, 5), (90, 6), (91, 7), (92, 8), (93, 9), (94, 10)]⟩ := ⟨⟨_, Try.underlying95, rfl⟩, rfl, Try.t95, _, by kernel_rfl, rfl, rfl, rfl, fun _ _ => ⟨rfl, rfl, rfl, rfl, rfl, rfl, rfl, trivial, rfl, rfl, rfl, trivial⟩⟩
theorem tok96 : TOk1 Try.prog 96 ⟨11, 48, [.int .u64 0, .int .u64 0, .int .u32 0, .int .u8 0, .int .u8 0, .int .u8 0, .int .u8 0, .any, .nilp, .int .i32 0, .int .i32 0], .struct [(12, 0), (12, 1), (88, 2), (89, 3), (5, 4), (5, 5), (90, 6), (91, 7), (92, 8), (93, 9), (94, 10)]⟩ := ⟨⟨_, Try.underlying96, rfl⟩, rfl, Try.t96, _, by kernel_rfl, rfl, rfl, rfl, fun _ _ => ⟨rfl, rfl, rfl, rfl, rfl, rfl, rfl, trivial, rfl, rfl, rfl, trivial⟩⟩
theorem tok : TOk Try.prog tab := by
  intro t i h
  unfold tab at h
  split at h
  · cases h; exact tok1
  · cases h; exact tok2
  · cases h; exact tok3
  · cases h; exact tok4
  · cases h; exact tok5
  · cases h; exact tok6
  · cases h; exact tok7
  · cases h; exact tok8
  · cases h; exact tok9
  · cases h; exact tok10
  · cases h; exact tok11
  · cases h; exact tok12
  · cases h; exact tok13
  · cases h; exact tok14
  · cases h; exact tok15
  · cases h; exact tok16
  · cases h; exact tok17
  · cases h; exact tok18
  · cases h; exact tok19
  · cases h; exact tok21
  · cases h; exact tok22
  · cases h; exact tok23
  · cases h; exact tok24
  · cases h; exact tok25
  · cases h; exact tok26
  · cases h; exact tok27
  · cases h; exact tok28
  · cases h; exact tok29
  · cases h; exact tok30
  · cases h; exact tok31
  · cases h; exact tok32
  · cases h; exact tok33
  · cases h; exact tok34
  · cases h; exact tok36
  · cases h; exact tok37
  · cases h; exact tok38
  · cases h; exact tok39
  · cases h; exact tok40
  · cases h; exact tok41
  · cases h; exact tok42
  · cases h; exact tok43
  · cases h; exact tok45
  · cases h; exact tok46
  · cases h; exact tok47
  · cases h; exact tok48
  · cases h; exact tok49
  · cases h; exact tok50
  · cases h; exact tok51
  · cases h; exact tok52
  · cases h; exact tok53
  · cases h; exact tok54
  · cases h; exact tok55
  · cases h; exact tok56
  · cases h; exact tok57
  · cases h; exact tok58
  · cases h; exact tok59
  · cases h; exact tok60
  · cases h; exact tok61
  · cases h; exact tok62
  · cases h; exact tok63
  · cases h; exact tok64
  · cases h; exact tok65
  · cases h; exact tok66
  · cases h; exact tok67
  · cases h; exact tok68
  · cases h; exact tok69
  · cases h; exact tok70
  · cases h; exact tok71
  · cases h; exact tok72
  · cases h; exact tok73
  · cases h; exact tok74
  · cases h; exact tok75
  · cases h; exact tok76
  · cases h; exact tok77
  · cases h; exact tok78
  · cases h; exact tok79
  · cases h; exact tok80
  · cases h; exact tok81
  · cases h; exact tok82
  · cases h; exact tok83
  · cases h; exact tok84
  · cases h; exact tok86
  · cases h; exact tok87
  · cases h; exact tok88
  · cases h; exact tok89
  · cases h; exact tok90
  · cases h; exact tok91
  · cases h; exact tok92
  · cases h; exact tok93
  · cases h; exact tok94
  · cases h; exact tok95
  · cases h; exact tok96
  · cases h
end Go.Proofs.YtekhlpkodgjdeaaE
