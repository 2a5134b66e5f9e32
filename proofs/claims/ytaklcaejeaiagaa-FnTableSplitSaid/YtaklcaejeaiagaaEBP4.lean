/- A part of the proof of a law of the given program: contracts of functions. No condition of its own. -/
import Derived.Test.YtaklcaejeaiagaaEBP3
namespace Go.Proofs.YtaklcaejeaiagaaE
open Go.Proofs
set_option maxRecDepth 100000
theorem lea_eq {t : TT} {nd : Int} (h : cX t.e (t.leaC nd) = 0) : t.lea nd = ⟨t.e + 1, t.m - 2 ^ nd.toNat, t.n, t.a, t.b, t.c⟩ := by unfold TT.lea; rw [chg_e h]
theorem joi_eq {t : TT} {nd : Int} (h : cX t.e (t.joiC nd) = 0) : t.joi nd = ⟨t.e + 1, t.m + 2 ^ nd.toNat, t.n, t.a, t.b, t.c⟩ := by unfold TT.joi; rw [chg_e h]
theorem lea_facts {t : TT} {nd : Int} (h : cX t.e (t.leaC nd) = 0) : hasS t.m nd ∧ ∀ i, i < t.n → t.c i ≠ nd := by
  have h2 := (cX_zero h).2
  unfold TT.leaC lvC at h2
  split at h2
  · omega
  · rename_i h3
    split at h2
    · omega
    · rename_i h4
      exact ⟨Classical.byContradiction h3, fun i hi hc => h4 (by simp only [TT.own, decide_eq_true_eq]; exact ⟨i, hi, hc⟩)⟩
theorem joi_facts {t : TT} {nd : Int} (h : cX t.e (t.joiC nd) = 0) : (0 ≤ nd ∧ nd ≤ 4) ∧ ¬ hasS t.m nd := by
  have h2 := (cX_zero h).2
  unfold TT.joiC jnC at h2
  split at h2
  · omega
  · rename_i h3
    split at h2
    · omega
    · rename_i h4
      exact ⟨Classical.byContradiction h3, h4⟩
theorem lea_kp {t : TT} (hok : t.ok) {nd : Int} (h : cX t.e (t.leaC nd) = 0) (k : Int) : t.kp k = (t.lea nd).kp k :=
  kp_same hok (lea_ok hok nd) fun i hi h1 h2 => by rw [lea_eq h]; exact ⟨i, hi, h1, h2, rfl⟩
theorem joi_kp {t : TT} (hok : t.ok) {nd : Int} (h : cX t.e (t.joiC nd) = 0) (k : Int) : t.kp k = (t.joi nd).kp k :=
  kp_same hok (joi_ok hok nd) fun i hi h1 h2 => by rw [joi_eq h]; exact ⟨i, hi, h1, h2, rfl⟩
theorem lea_no {t : TT} (hok : t.ok) {nd : Int} (h : cX t.e (t.leaC nd) = 0) (k : Int) : t.kp k ≠ nd := by
  obtain ⟨h1, h2⟩ := lea_facts h
  by_cases hk : 0 ≤ k ∧ k < 40
  · obtain ⟨i, h3, h4, h5⟩ := ok_cover hok hk
    rw [kp_at hok h3 ⟨h4, h5⟩]
    exact h2 i h3
  · rw [kp_out hk]
    have := h1.1
    omega
theorem lea_lt {t : TT} {nd : Int} (h : cX t.e (t.leaC nd) = 0) : (t.lea nd).m < t.m := by
  have := (lea_facts h).1.1
  have := pow_le nd.toNat (by omega)
  rw [lea_eq h]
  simp only; omega
/-- who joined leaves again. -/
theorem join_leave {t : TT} (hok : t.ok) {nd : Int} (h : cX t.e (t.joiC nd) = 0) : cX (t.joi nd).e ((t.joi nd).leaC nd) = 4 ∨ (cX (t.joi nd).e ((t.joi nd).leaC nd) = 0 ∧ (t.joi nd).lea nd = ⟨t.e + 2, t.m, t.n, t.a, t.b, t.c⟩) := by
  obtain ⟨h1, h2⟩ := joi_facts h
  have hx := joi_ok hok nd
  have hj := joi_hasS (q := nd) hok.2.1 h1 h2
  by_cases h9 : (t.joi nd).e = 9999
  · left; unfold cX; rw [if_pos h9]
  · right
    have hown : (t.joi nd).own nd = false := by
      cases ho : (t.joi nd).own nd
      · rfl
      · obtain ⟨i, hi, hc⟩ := (show (∃ i, i < (t.joi nd).n ∧ (t.joi nd).c i = nd) by simpa only [TT.own, decide_eq_true_eq] using ho)
        rw [joi_eq h] at hi hc
        simp only at hi hc
        have := (hok.2.2.2.1 i hi).2.2.2
        rw [hc] at this
        exact absurd this h2
    have hcode : (t.joi nd).leaC nd = 0 := by
      unfold TT.leaC lvC
      rw [hown]
      have : hasS (t.joi nd).m nd := by rw [joi_eq h]; exact hj.2.2 (.inr rfl)
      simp [this]
    have h0 : cX (t.joi nd).e ((t.joi nd).leaC nd) = 0 := by unfold cX; rw [if_neg h9, hcode]
    refine ⟨h0, ?_⟩
    rw [lea_eq h0, joi_eq h]
    simp only [TT.mk.injEq, and_true]
    omega
end Go.Proofs.YtaklcaejeaiagaaE
