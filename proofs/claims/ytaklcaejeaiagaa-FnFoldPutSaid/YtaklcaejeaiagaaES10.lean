/- A part of the proof of a law of the given program: contracts of functions. No condition of its own. -/
import Derived.Test.YtaklcaejeaiagaaES8
import Derived.Test.YtaklcaejeaiagaaES9
namespace Go.Proofs.YtaklcaejeaiagaaE
open Go.Proofs Go.Shelf Go.RowKit Go.Lib
open Go.Sort (alloc_eq_grow grow_grow)
set_option maxHeartbeats 1000000 in
theorem clF2 (x y : KP) (W : World) : Calls Try.prog 83 #[.agg (encK x).toArray, .agg (encK y).toArray] W fun e w' => e = .returned (.int .i64 (cfK x y)) ∧ ∃ q os', w' = Go.Sort.grow (W.drewN q) os' := by
  obtain ⟨⟨x1, x2⟩, hx⟩ := x
  obtain ⟨⟨y1, y2⟩, hy⟩ := y
  simp only at hx hy
  have hw : IntKind.i64.wrap (x1 - y1) = x1 - y1 := by rw [IntKind.wrap_i64]; omega
  show Calls Try.prog 83 #[.agg #[.int .i64 x1, .int .i64 x2], .agg #[.int .i64 y1, .int .i64 y2]] W fun e w' => e = .returned (.int .i64 (x1 - y1)) ∧ ∃ q os', w' = Go.Sort.grow (W.drewN q) os'
  go_enter Try.func83, Try.ntmps83
  go_wp2
  go_ret
  exact ⟨rfl, 0, _, by rw [alloc_eq_grow, alloc_eq_grow, grow_grow]; rfl⟩
theorem t82 (l : List (Int × Int)) (p : Nat) (hn : 0 < l.length) (hn2 : l.length < 4611686018427387904) (hk : ∀ x ∈ l, 0 ≤ x.1 ∧ x.1 ≤ 39) (hd : l.Pairwise fun x y => x.1 ≠ y.1) :
    Tri Try.prog 82 [.sl 0 0 0 l.length p, .fn 83 []] [some (.one true (.arr 2 l.length fun i => [.i64 (l.getD i (0, 0)).1, .i64 (l.getD i (0, 0)).2]))] (.tup [])
      [some (.one true (.arr 2 (sortP l).length fun i => [.i64 ((sortP l).getD i (0, 0)).1, .i64 ((sortP l).getD i (0, 0)).2]))] :=
  Tri.sortP layF Try.isAgg63 Try.sizeOf63 83 (enters Try.func83 (by kernel_rfl) rfl) clF2 hn hn2 hk hd
theorem t68 (l : List Int) (p : Nat) (hn : 0 < l.length) (hn2 : l.length < 4611686018427387904) :
    Tri Try.prog 68 [.sl 0 0 0 l.length p] [some (.one true (.arr 1 l.length fun i => [.i64 (l.getD i 0)]))] (.tup []) [some (.one true (.arr 1 (sortN l).length fun i => [.i64 ((sortN l).getD i 0)]))] :=
  Tri.sortN layI hn hn2
end Go.Proofs.YtaklcaejeaiagaaE
