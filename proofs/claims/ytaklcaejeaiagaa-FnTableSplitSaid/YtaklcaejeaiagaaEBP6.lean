/- A part of the proof of a law of the given program: contracts of functions. No condition of its own. -/
import Derived.Test.YtaklcaejeaiagaaEBP5
namespace Go.Proofs.YtaklcaejeaiagaaE
open Go.Proofs
set_option maxRecDepth 100000
theorem spl_eq {t : TT} {key : Int} (h : cX t.e (t.splC key) = 0) : t.spl key = ⟨t.e + 1, t.m, t.n + 1, ins (t.idx key).toNat (t.a (t.idx key).toNat) key t.a, ins (t.idx key).toNat key (t.b (t.idx key).toNat) t.b, ins (t.idx key).toNat (t.c (t.idx key).toNat) (t.c (t.idx key).toNat) t.c⟩ := by unfold TT.spl; rw [chg_e h]
theorem spl_facts {t : TT} (hok : t.ok) {key : Int} (h : cX t.e (t.splC key) = 0) : ¬ t.idx key < 0 ∧ (t.idx key).toNat < t.n ∧ t.a (t.idx key).toNat < key ∧ key < t.b (t.idx key).toNat ∧ t.n < 8 := by
  have h2 := (cX_zero h).2
  unfold TT.splC spC at h2
  split at h2
  · omega
  · rename_i h3
    split at h2
    · omega
    · rename_i h4
      have hr : ¬ t.idx key < 0 := fun hh => h3 (.inl hh)
      obtain ⟨k1, k2, k3⟩ := ok_idx hok hr
      have hne : t.a (t.idx key).toNat ≠ key := fun hh => h3 (.inr hh)
      exact ⟨hr, k1, by omega, k3, by omega⟩
theorem spl_kp {t : TT} (hok : t.ok) {key : Int} (h : cX t.e (t.splC key) = 0) (k : Int) : t.kp k = (t.spl key).kp k := by
  obtain ⟨f0, f1, f2, f3, f4⟩ := spl_facts hok h
  refine kp_same hok (spl_ok hok key) fun i hi h1 h2 => ?_
  rw [spl_eq h]
  generalize (t.idx key).toNat = r at *
  simp only
  by_cases c1 : i < r
  · exact ⟨i, by omega, by simp only [ins]; rw [if_pos c1]; exact h1, by simp only [ins]; rw [if_pos c1]; exact h2, by simp only [ins]; rw [if_pos c1]⟩
  · by_cases c2 : i = r
    · subst c2
      by_cases c3 : k < key
      · exact ⟨i, by omega, by simp [ins]; exact h1, by simp [ins]; exact c3, by simp [ins]⟩
      · have e4 : ¬ i + 1 < i := by omega
        exact ⟨i + 1, by omega, by simp [ins, e4]; omega, by simp [ins, e4]; exact h2, by simp [ins, e4]⟩
    · have e1 : ¬ i + 1 < r := by omega
      have e2 : ¬ i + 1 = r := by omega
      have e3 : ¬ i = r := c2
      exact ⟨i + 1, by omega, by simp [ins, e1, e2, e3]; exact h1, by simp [ins, e1, e2, e3]; exact h2, by simp [ins, e1, e2, e3]⟩
theorem spl_idx {t : TT} (hok : t.ok) {key : Int} (h : cX t.e (t.splC key) = 0) : (t.spl key).idx key = ((t.idx key).toNat + 1 : Nat) := by
  obtain ⟨f0, f1, f2, f3, f4⟩ := spl_facts hok h
  refine idx_of (spl_ok hok key) ?_ ?_
  · rw [spl_eq h]; show _ < t.n + 1; omega
  · rw [spl_eq h]; simp [ins]; omega
theorem spl_mrgC {t : TT} (hok : t.ok) {key : Int} (h : cX t.e (t.splC key) = 0) : (t.spl key).mrgC key = 0 := by
  have hi := spl_idx hok h
  unfold TT.mrgC
  rw [hi, spl_eq h]
  generalize (t.idx key).toNat = r at *
  have e4 : ¬ r + 1 < r := by omega
  have e5 : ¬ (r : Int) + 1 < 1 := by omega
  simp [mgC, ins, e4, e5]
theorem spl_mrg {t : TT} (hok : t.ok) {key : Int} (h : cX t.e (t.splC key) = 0) (h2 : cX (t.spl key).e ((t.spl key).mrgC key) = 0) : (t.spl key).mrg key = ⟨t.e + 1 + 1, t.m, t.n, t.a, t.b, t.c⟩ := by
  rw [mrg_eq h2, spl_idx hok h, spl_eq h]
  generalize (t.idx key).toNat = r
  simp only [Int.toNat_natCast]
  have d : ∀ (x y : Int) (f : Nat → Int), f r = x → del (r + 1) (ins r x y f) = f := by
    intro x y f hf
    funext i
    unfold del ins
    by_cases c1 : i < r
    · rw [if_pos (by omega), if_pos c1]
    · by_cases c2 : i = r
      · subst c2; simp [hf]
      · rw [if_neg (by omega), if_neg (by omega), if_neg (by omega)]
        by_cases c3 : i + 1 = r + 1
        · omega
        · rw [if_neg c3]; simp
  have e : mgB (r + 1) (ins r key (t.b r) t.b) = t.b := by
    funext i
    unfold mgB del upd ins
    by_cases c1 : i < r
    · have c2 : ¬ i = r := by omega
      have c3 : i < r + 1 := by omega
      simp [c1, c2, c3]
    · by_cases c2 : i = r
      · subst c2
        have e4 : ¬ i + 1 < i := by omega
        simp [e4]
      · have c3 : ¬ i < r + 1 := by omega
        have c4 : ¬ i + 1 = r := by omega
        have c5 : ¬ i + 1 < r := by omega
        simp [c2, c3, c4, c5]
  rw [d _ _ _ rfl, d _ _ _ rfl, e]
  simp
end Go.Proofs.YtaklcaejeaiagaaE
