/- A part of the proof of a law of the given program: contracts of functions. No condition of its own. -/
import Derived.Test.YtaklcaejeaiagaaECU8
namespace Go.Proofs.YtaklcaejeaiagaaE
open Go.Proofs
set_option maxRecDepth 100000
theorem lft_nn {l : Int} {n : Nat} (hl : 0 ≤ l ∧ l ≤ 1048576) (hn : n ≤ 9223372036854775807) (h : ¬ lft l n < 0) : n ≤ 1048576 ∧ (0 ≤ lft l n ∧ lft l n ≤ 1048576) := by
  unfold lft at *
  have hw : IntKind.i64.wrap (l - n) = l - n := by rw [IntKind.wrap_i64]; omega
  rw [hw] at h ⊢
  by_cases h0 : l - (n : Int) < 0
  · rw [if_pos h0] at h; omega
  · rw [if_neg h0]; omega
theorem szT_le {n1 n2 n3 : Nat} (b1 : n1 ≤ 9223372036854775807) (b2 : n2 ≤ 9223372036854775807) (b3 : n3 ≤ 9223372036854775807) (h : ¬ szT 1048576 n1 n2 n3 < 0) : n1 ≤ 1048576 ∧ n2 ≤ 1048576 ∧ n3 ≤ 1048576 ∧ (0 ≤ szT 1048576 n1 n2 n3 ∧ szT 1048576 n1 n2 n3 ≤ 1048576) := by
  unfold szT at *
  by_cases h1 : lft 1048576 n1 < 0
  · rw [if_pos h1] at h; omega
  rw [if_neg h1] at h ⊢
  obtain ⟨k1, k2⟩ := lft_nn (by omega) b1 h1
  by_cases h2 : lft (lft 1048576 n1) n2 < 0
  · rw [if_pos h2] at h; omega
  rw [if_neg h2] at h ⊢
  obtain ⟨k3, k4⟩ := lft_nn k2 b2 h2
  by_cases h3 : lft (lft (lft 1048576 n1) n2) n3 < 0
  · rw [if_pos h3] at h; omega
  rw [if_neg h3] at h ⊢
  obtain ⟨k5, k6⟩ := lft_nn k4 b3 h3
  exact ⟨k1, k3, k5, k6⟩
end Go.Proofs.YtaklcaejeaiagaaE
