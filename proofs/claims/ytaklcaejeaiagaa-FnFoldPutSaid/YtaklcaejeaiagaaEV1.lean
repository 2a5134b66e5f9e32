/- A part of the proof of a law of the given program: contracts of functions. No condition of its own. -/
namespace Go.Proofs.YtaklcaejeaiagaaE
/-! ### the value of a key among pairs -/
def getV (n : Nat) (g h : Nat → Int) (k : Int) : Int :=
  match n with
  | 0 => 0
  | n + 1 => if g 0 = k then h 0 else getV n (fun i => g (i + 1)) (fun i => h (i + 1)) k
theorem getV_miss : ∀ {n : Nat} {g h : Nat → Int} {k : Int}, (∀ i, i < n → g i ≠ k) → getV n g h k = 0
  | 0, _, _, _, _ => rfl
  | n + 1, g, h, k, hh => by
    simp only [getV, if_neg (hh 0 (by omega))]
    exact getV_miss fun i hi => hh (i + 1) (by omega)
theorem getV_hit : ∀ {n : Nat} {g h : Nat → Int} {k : Int} {i : Nat}, i < n → g i = k → (∀ j, j < i → g j ≠ k) → getV n g h k = h i
  | n + 1, g, h, k, 0, _, hk, _ => by simp only [getV, if_pos hk]
  | n + 1, g, h, k, i + 1, hi, hk, hj => by
    simp only [getV, if_neg (hj 0 (by omega))]
    exact getV_hit (g := fun i => g (i + 1)) (h := fun i => h (i + 1)) (by omega) hk fun j hj' => hj (j + 1) (by omega)
theorem getV_cases (n : Nat) (g h : Nat → Int) (k : Int) : (∃ i, i < n ∧ g i = k ∧ getV n g h k = h i) ∨ getV n g h k = 0 := by
  induction n generalizing g h with
  | zero => exact .inr rfl
  | succ n ih =>
    simp only [getV]
    by_cases h0 : g 0 = k
    · exact .inl ⟨0, by omega, h0, by rw [if_pos h0]⟩
    · rw [if_neg h0]
      rcases ih (fun i => g (i + 1)) (fun i => h (i + 1)) with ⟨i, h1, h2, h3⟩ | h1
      · exact .inl ⟨i + 1, by omega, h2, h3⟩
      · exact .inr h1
end Go.Proofs.YtaklcaejeaiagaaE
