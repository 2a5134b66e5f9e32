/- A part of the proof of a law of the given program: contracts of functions. No condition of its own. -/
import Derived.Test.YtaklcaejeaiagaaEBP4
namespace Go.Proofs.YtaklcaejeaiagaaE
open Go.Proofs
set_option maxRecDepth 100000
theorem mrg_eq {t : TT} {key : Int} (h : cX t.e (t.mrgC key) = 0) : t.mrg key = ⟨t.e + 1, t.m, t.n - 1, del (t.idx key).toNat t.a, mgB (t.idx key).toNat t.b, del (t.idx key).toNat t.c⟩ := by unfold TT.mrg; rw [chg_e h]
theorem mrg_facts {t : TT} (hok : t.ok) {key : Int} (h : cX t.e (t.mrgC key) = 0) : 1 ≤ (t.idx key).toNat ∧ (t.idx key).toNat < t.n ∧ t.c ((t.idx key).toNat - 1) = t.c (t.idx key).toNat := by
  have h2 := (cX_zero h).2
  unfold TT.mrgC mgC at h2
  split at h2
  · omega
  · rename_i h3
    split at h2
    · omega
    · rename_i h4
      have hr : ¬ t.idx key < 1 := fun hh => h3 (.inl hh)
      obtain ⟨k1, k2, k3⟩ := ok_idx hok (key := key) (by omega)
      exact ⟨by omega, k1, Classical.byContradiction fun hh => h4 hh⟩
theorem mrg_kp {t : TT} (hok : t.ok) {key : Int} (h : cX t.e (t.mrgC key) = 0) (k : Int) : t.kp k = (t.mrg key).kp k := by
  obtain ⟨f1, f2, f3⟩ := mrg_facts hok h
  refine kp_same hok (mrg_ok hok key) fun i hi h1 h2 => ?_
  rw [mrg_eq h]
  generalize (t.idx key).toNat = r at *
  simp only
  by_cases c1 : i < r - 1
  · refine ⟨i, by omega, ?_, ?_, ?_⟩
    · simp only [del]; rw [if_pos (by omega)]; exact h1
    · simp only [mgB, del, upd]; rw [if_pos (by omega), if_neg (by omega)]; exact h2
    · simp only [del]; rw [if_pos (by omega)]
  · by_cases c2 : i = r - 1
    · subst c2
      refine ⟨r - 1, by omega, ?_, ?_, ?_⟩
      · simp only [del]; rw [if_pos (by omega)]; exact h1
      · simp only [mgB, del, upd]; rw [if_pos (by omega), if_pos trivial]
        have := ok_before hok (i := r - 1) (j := r) (by omega) f2
        have := ok_lt hok f2
        omega
      · simp only [del]; rw [if_pos (by omega)]
    · by_cases c3 : i = r
      · subst c3
        refine ⟨i - 1, by omega, ?_, ?_, ?_⟩
        · simp only [del]; rw [if_pos (by omega)]
          have := ok_before hok (i := i - 1) (j := i) (by omega) f2
          have := ok_lt hok (i := i - 1) (by omega)
          omega
        · simp only [mgB, del, upd]; rw [if_pos (by omega), if_pos trivial]; exact h2
        · simp only [del]; rw [if_pos (by omega)]; exact f3
      · have e1 : i - 1 + 1 = i := by omega
        refine ⟨i - 1, by omega, ?_, ?_, ?_⟩
        · simp only [del]; rw [if_neg (by omega), e1]; exact h1
        · simp only [mgB, del, upd]; rw [if_neg (by omega), if_neg (by omega), e1]; exact h2
        · simp only [del]; rw [if_neg (by omega), e1]
end Go.Proofs.YtaklcaejeaiagaaE
