/- A part of the proof of a law of the given program: contracts of functions. No condition of its own. -/
import Derived.Test.YtaklcaejeaiagaaEG4
namespace Go.Proofs.YtaklcaejeaiagaaE
/-! ### one row is another in another order, between two places -/
def PermR {α : Type} (a b : Nat) (f g : Nat → α) : Prop :=
  ∃ σ τ : Nat → Nat, (∀ i, τ (σ i) = i) ∧ (∀ i, σ (τ i) = i) ∧ (∀ i, ¬ (a ≤ i ∧ i < b) → σ i = i) ∧ ∀ i, g i = f (σ i)
theorem PermR.refl {α : Type} (a b : Nat) (f : Nat → α) : PermR a b f f := ⟨id, id, fun _ => rfl, fun _ => rfl, fun _ _ => rfl, fun _ => rfl⟩
theorem PermR.trans {α : Type} {a b : Nat} {f g h : Nat → α} (p : PermR a b f g) (q : PermR a b g h) : PermR a b f h := by
  obtain ⟨σ, τ, h1, h2, h3, h4⟩ := p
  obtain ⟨ς, υ, k1, k2, k3, k4⟩ := q
  refine ⟨fun i => σ (ς i), fun i => υ (τ i), fun i => by simp only [h1, k1], fun i => by simp only [h2, k2], fun i hi => ?_, fun i => by rw [k4, h4]⟩
  show σ (ς i) = i
  rw [k3 i hi, h3 i hi]
theorem PermR.mono {α : Type} {a b a' b' : Nat} {f g : Nat → α} (p : PermR a b f g) (ha : a' ≤ a) (hb : b ≤ b') : PermR a' b' f g := by
  obtain ⟨σ, τ, h1, h2, h3, h4⟩ := p
  exact ⟨σ, τ, h1, h2, fun i hi => h3 i (by omega), h4⟩
theorem PermR.same {α : Type} {a b : Nat} {f g : Nat → α} (p : PermR a b f g) {i : Nat} (hi : ¬ (a ≤ i ∧ i < b)) : g i = f i := by
  obtain ⟨σ, τ, h1, h2, h3, h4⟩ := p
  rw [h4, h3 i hi]
theorem PermR.from {α : Type} {a b : Nat} {f g : Nat → α} (p : PermR a b f g) {i : Nat} (hi : a ≤ i ∧ i < b) : ∃ j, (a ≤ j ∧ j < b) ∧ g i = f j := by
  obtain ⟨σ, τ, h1, h2, h3, h4⟩ := p
  refine ⟨σ i, Classical.byContradiction fun hn => ?_, h4 i⟩
  have := h3 (σ i) hn
  have h5 : σ i = i := by rw [← h1 (σ i), this, h1]
  rw [h5] at hn
  exact hn hi
theorem PermR.symm {α : Type} {a b : Nat} {f g : Nat → α} (p : PermR a b f g) : PermR a b g f := by
  obtain ⟨σ, τ, h1, h2, h3, h4⟩ := p
  refine ⟨τ, σ, h2, h1, fun i hi => ?_, fun i => by rw [h4, h2]⟩
  have := h3 i hi
  rw [← this, h1, this]
theorem PermR.all {α : Type} {a b : Nat} {f g : Nat → α} (p : PermR a b f g) {P : α → Prop} (h : ∀ i, a ≤ i → i < b → P (f i)) : ∀ i, a ≤ i → i < b → P (g i) := by
  intro i h1 h2
  obtain ⟨j, hj, e⟩ := p.from ⟨h1, h2⟩
  rw [e]; exact h j hj.1 hj.2
theorem PermR.ever {α : Type} {a b : Nat} {f g : Nat → α} (p : PermR a b f g) {P : α → Prop} (h : ∀ i, P (f i)) : ∀ i, P (g i) := by
  intro i
  obtain ⟨σ, τ, h1, h2, h3, h4⟩ := p
  rw [h4]; exact h _
def swp {α : Type} (f : Nat → α) (i j : Nat) : Nat → α := fun k => if k = i then f j else if k = j then f i else f k
theorem PermR.swp {α : Type} {a b : Nat} (f : Nat → α) {i j : Nat} (hi : a ≤ i ∧ i < b) (hj : a ≤ j ∧ j < b) : PermR a b f (swp f i j) := by
  refine ⟨fun k => if k = i then j else if k = j then i else k, fun k => if k = i then j else if k = j then i else k, fun k => ?_, fun k => ?_, fun k hk => ?_, fun k => ?_⟩
  · dsimp only; (repeat' split) <;> omega
  · dsimp only; (repeat' split) <;> omega
  · dsimp only
    rw [if_neg (by omega), if_neg (by omega)]
  · unfold Go.Proofs.YtaklcaejeaiagaaE.swp
    dsimp only
    split
    · rfl
    · split <;> rfl
theorem swp_left {α : Type} (f : Nat → α) (i j : Nat) : swp f i j i = f j := by simp [swp]
theorem swp_right {α : Type} (f : Nat → α) (i j : Nat) : swp f i j j = f i := by
  unfold swp; split
  · rename_i h; rw [h]
  · simp
theorem swp_other {α : Type} (f : Nat → α) {i j k : Nat} (h1 : k ≠ i) (h2 : k ≠ j) : swp f i j k = f k := by simp [swp, h1, h2]
/-- In order from 'a' to 'b'. -/
def Srt {α : Type} (κ : α → Int) (a b : Nat) (f : Nat → α) : Prop := ∀ i j, a ≤ i → i < j → j < b → κ (f i) ≤ κ (f j)
end Go.Proofs.YtaklcaejeaiagaaE
