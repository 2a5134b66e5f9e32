/- A part of the proof of a law of the given program: contracts of functions. No condition of its own. -/
import Derived.Test.YtaklcaejeaiagaaES1
namespace Go.Proofs.YtaklcaejeaiagaaE
section
variable {α : Type} {κ : α → Int}
def Rise (κ : α → Int) (n : Nat) (f : Nat → α) : Prop := ∀ i j, i < j → j < n → κ (f i) < κ (f j)
def mem (n : Nat) (f : Nat → α) (x : α) : Prop := ∃ i, i < n ∧ f i = x
theorem rise_at {n m : Nat} {f g : Nat → α} (hf : Rise κ n f) (hg : Rise κ m g) (h : ∀ x, mem n f x ↔ mem m g x) : ∀ i, i < n → i < m ∧ f i = g i := by
  intro i
  induction i using Nat.strongRecOn with
  | ind i ih =>
    intro hi
    obtain ⟨j, hj, e⟩ := (h (f i)).1 ⟨i, hi, rfl⟩
    have hji : ¬ j < i := fun hlt => by
      obtain ⟨h1, h2⟩ := ih j hlt (by omega)
      have := hf j i hlt hi
      rw [h2, e] at this; omega
    have him : i < m := by omega
    refine ⟨him, ?_⟩
    by_cases hij : j = i
    · rw [← hij, e, hij]
    · have h1 := hg i j (by omega) hj
      rw [e] at h1
      obtain ⟨l, hl, e2⟩ := (h (g i)).2 ⟨i, him, rfl⟩
      have hli : ¬ l < i := fun hlt => by
        obtain ⟨h3, h4⟩ := ih l hlt (by omega)
        have := hg l i hlt him
        rw [← h4, e2] at this; omega
      by_cases hl2 : l = i
      · rw [← hl2, e2, hl2]
      · have h5 := hf i l (by omega) hl
        rw [e2] at h5; omega
theorem rise_eq {n m : Nat} {f g : Nat → α} (hf : Rise κ n f) (hg : Rise κ m g) (h : ∀ x, mem n f x ↔ mem m g x) : n = m ∧ ∀ i, i < n → f i = g i := by
  have h1 := rise_at hf hg h
  have h2 := rise_at hg hf (fun x => (h x).symm)
  refine ⟨?_, fun i hi => (h1 i hi).2⟩
  rcases Nat.lt_trichotomy n m with k | k | k
  · have := (h2 n k).1; omega
  · exact k
  · have := (h1 m k).1; omega
theorem rise_ex [Inhabited α] (S : α → Prop) (h0 : ∀ x, S x → 0 ≤ κ x) (hu : ∀ x y, S x → S y → κ x = κ y → x = y) : ∀ B : Nat, ∃ (n : Nat) (f : Nat → α), Rise κ n f ∧ ∀ x, mem n f x ↔ (S x ∧ κ x < B)
  | 0 => ⟨0, fun _ => default, fun i j h1 h2 => by omega, fun x => ⟨fun ⟨i, hi, _⟩ => by omega, fun ⟨h1, h2⟩ => by have := h0 x h1; omega⟩⟩
  | B + 1 => by
    obtain ⟨n, f, h1, h2⟩ := rise_ex S h0 hu B
    by_cases hx : ∃ x, S x ∧ κ x = B
    · obtain ⟨x, hx1, hx2⟩ := hx
      refine ⟨n + 1, fun i => if i < n then f i else x, fun i j hij hj => ?_, fun y => ⟨fun ⟨i, hi, e⟩ => ?_, fun ⟨k1, k2⟩ => ?_⟩⟩
      · dsimp only
        rw [if_pos (by omega)]
        have h3 := ((h2 (f i)).1 ⟨i, by omega, rfl⟩).2
        split
        · exact h1 i j hij (by assumption)
        · omega
      · dsimp only at e
        by_cases hin : i < n
        · rw [if_pos hin] at e
          have h3 := (h2 y).1 ⟨i, hin, e⟩
          exact ⟨h3.1, by omega⟩
        · rw [if_neg hin] at e
          subst e; exact ⟨hx1, by omega⟩
      · by_cases hy : κ y < B
        · obtain ⟨i, hi, e⟩ := (h2 y).2 ⟨k1, hy⟩
          exact ⟨i, by omega, by dsimp only; rw [if_pos hi]; exact e⟩
        · have : y = x := hu y x k1 hx1 (by omega)
          exact ⟨n, by omega, by dsimp only; rw [if_neg (by omega)]; exact this.symm⟩
    · refine ⟨n, f, h1, fun y => ?_⟩
      rw [h2 y]
      refine ⟨fun ⟨k1, k2⟩ => ⟨k1, by omega⟩, fun ⟨k1, k2⟩ => ⟨k1, ?_⟩⟩
      have : κ y ≠ B := fun e => hx ⟨y, k1, e⟩
      omega
end
theorem pigeon : ∀ (m n : Nat) (f : Nat → Nat), (∀ i, i < n → f i < m) → (∀ i j, i < j → j < n → f i ≠ f j) → n ≤ m
  | 0, n, f, h, _ => by
    by_cases h0 : n = 0
    · omega
    · have := h 0 (by omega); omega
  | m + 1, n, f, h, hd => by
    by_cases hx : ∃ i, i < n ∧ f i = m
    · obtain ⟨i0, hi0, e0⟩ := hx
      have := pigeon m (n - 1) (fun i => f (if i < i0 then i else i + 1)) (fun i hi => ?_) (fun i j hij hj => ?_)
      · omega
      · have hne : f (if i < i0 then i else i + 1) ≠ m := by
          split
          · rename_i hlt; rw [← e0]; exact hd i i0 hlt hi0
          · rename_i hlt; rw [← e0]; exact (hd i0 (i + 1) (by omega) (by omega)).symm
        have := h (if i < i0 then i else i + 1) (by split <;> omega)
        omega
      · exact hd _ _ (by split <;> split <;> omega) (by split <;> omega)
    · have := pigeon m n f (fun i hi => by
        have h1 := h i hi
        have h2 : f i ≠ m := fun e => hx ⟨i, hi, e⟩
        omega) hd
      omega
end Go.Proofs.YtaklcaejeaiagaaE
