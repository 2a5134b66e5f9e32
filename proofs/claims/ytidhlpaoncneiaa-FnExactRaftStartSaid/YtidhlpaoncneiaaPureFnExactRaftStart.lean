/- What a node has of the log at the beginning is what the reference tells, for every number of a node. Its condition: the number is one of its kind. -/
import Derived.Test.YtidhlpaoncneiaaPFnExactRaftStartx4
import Derived.Test.YtidhlpaoncneiaaHLoops
namespace Go.Proofs.Ytidhlpaoncneiaa.Pure
open Go.RowKit Go.Proofs.Ytidhlpaoncneiaa.PFnExactRaftStart Go.Proofs.YtidhlpaoncneiaaH Go.Proofs.YtidhlpaoncneiaaW.PrintWords Go.Proofs.YtidhlpaoncneiaaW.PrintLast Go.Proofs.YtidhlpaoncneiaaW.PrintMore
set_option linter.unusedVariables false
set_option linter.unusedSimpArgs false
theorem impl_in_eq (a b c : Int) : impl_in.f a b c = some (decide (b ≤ a ∧ a ≤ c)) := by
  unfold impl_in.f
  by_cases h : a ≥ b
  · rw [if_pos h]; have : b ≤ a := h; simp [this]
  · rw [if_neg h]; have : ¬ b ≤ a := h; simp [this]
theorem spec_in_eq (a b c : Int) : spec_l6In.f a b c = some (decide (b ≤ a ∧ a ≤ c)) := by
  unfold spec_l6In.f
  by_cases h : a ≥ b
  · rw [if_pos h]; have : b ≤ a := h; simp [this]
  · rw [if_neg h]; have : ¬ b ≤ a := h; simp [this]
theorem spec_out (a : Int) (h : ¬ (0 ≤ a ∧ a ≤ 4)) : spec_RaftStart.f a = spec_RaftStart.f (-1) := by
  unfold spec_RaftStart.f
  rw [spec_in_eq, spec_in_eq, decide_eq_false h]
  rfl
theorem impl_out (a : Int) (h : ¬ (0 ≤ a ∧ a ≤ 4)) : impl_RaftStart.f a = impl_RaftStart.f (-1) := by
  unfold impl_RaftStart.f impl_isNode.f
  rw [impl_in_eq, impl_in_eq, decide_eq_false h]
  rfl
theorem FnExactRaftStart : laws_FnExactRaftStart.Pure := by
  intro a _
  refine ⟨20, ?_⟩
  by_cases h : 0 ≤ a ∧ a ≤ 4
  · have : a = 0 ∨ a = 1 ∨ a = 2 ∨ a = 3 ∨ a = 4 := by omega
    rcases this with rfl | rfl | rfl | rfl | rfl <;> decide +kernel
  · have e : laws_FnExactRaftStart.f 20 a = laws_FnExactRaftStart.f 20 (-1) := by
      unfold laws_FnExactRaftStart.f
      rw [spec_out a h, impl_out a h]
    rw [e]
    decide +kernel

end Go.Proofs.Ytidhlpaoncneiaa.Pure
