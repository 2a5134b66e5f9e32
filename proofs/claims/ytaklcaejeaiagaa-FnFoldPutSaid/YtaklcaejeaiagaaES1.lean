/- A part of the proof of a law of the given program: contracts of functions. No condition of its own. -/
import Derived.Test.YtaklcaejeaiagaaES0
namespace Go.Proofs.YtaklcaejeaiagaaE
section
variable {α : Type} {κ : α → Int}
/-! ### in order but for what lies between two places -/
def Outw (κ : α → Int) (lo hi a b : Nat) (g : Nat → α) : Prop := ∀ i j, lo ≤ i → i < j → j < hi → ¬ (a ≤ i ∧ j < b) → κ (g i) ≤ κ (g j)
theorem PermR.at {a b : Nat} {f g : Nat → α} (p : PermR a b f g) (i : Nat) : ∃ i', g i = f i' ∧ ((a ≤ i ∧ i < b) → (a ≤ i' ∧ i' < b)) ∧ (¬ (a ≤ i ∧ i < b) → i' = i) := by
  by_cases h : a ≤ i ∧ i < b
  · obtain ⟨j, h1, h2⟩ := p.from h
    exact ⟨j, h2, fun _ => h1, fun k => absurd h k⟩
  · exact ⟨i, p.same h, fun k => absurd k h, fun _ => rfl⟩
theorem Outw.perm {lo hi a b : Nat} {g g' : Nat → α} (h : Outw κ lo hi a b g) (p : PermR a b g g') (ha : lo ≤ a) (hb : b ≤ hi) : Outw κ lo hi a b g' := by
  intro i j h1 h2 h3 h4
  obtain ⟨i', ei, i1, i2⟩ := p.at i
  obtain ⟨j', ej, j1, j2⟩ := p.at j
  rw [ei, ej]
  by_cases hi' : a ≤ i ∧ i < b
  · have := i1 hi'
    have hj : ¬ (a ≤ j ∧ j < b) := by omega
    have := j2 hj
    exact h i' j' (by omega) (by omega) (by omega) (by omega)
  · have := i2 hi'
    by_cases hj : a ≤ j ∧ j < b
    · have := j1 hj
      exact h i' j' (by omega) (by omega) (by omega) (by omega)
    · have := j2 hj
      exact h i' j' (by omega) (by omega) (by omega) (by omega)
theorem Outw.srt {lo hi a b : Nat} {g : Nat → α} (h : Outw κ lo hi a b g) (s : Srt κ a b g) : Srt κ lo hi g := by
  intro i j h1 h2 h3
  by_cases k : a ≤ i ∧ j < b
  · exact s i j k.1 h2 k.2
  · exact h i j h1 h2 h3 k
theorem Outw.all {lo hi : Nat} {g : Nat → α} : Outw κ lo hi lo hi g := fun i j h1 h2 h3 h4 => absurd ⟨h1, h3⟩ h4
/-- A range that was put apart at 'm', of which the left part is in order now. -/
theorem Outw.left {lo hi a b m : Nat} {g : Nat → α} (h : Outw κ lo hi a b g) (hm : a ≤ m ∧ m < b) (ha : lo ≤ a) (hb : b ≤ hi) (s : Srt κ a m g) (h1 : ∀ k, a ≤ k → k < m → κ (g k) ≤ κ (g m)) (h2 : ∀ k, m < k → k < b → κ (g m) ≤ κ (g k)) : Outw κ lo hi (m + 1) b g := by
  intro i j k1 k2 k3 k4
  by_cases hw : a ≤ i ∧ j < b
  · by_cases hj : j < m
    · exact s i j hw.1 k2 hj
    · by_cases hjm : j = m
      · subst hjm; exact h1 i hw.1 k2
      · by_cases him : i = m
        · subst him; exact h2 j k2 hw.2
        · exact Int.le_trans (h1 i hw.1 (by omega)) (h2 j (by omega) hw.2)
  · exact h i j k1 k2 k3 hw
theorem Outw.right {lo hi a b m : Nat} {g : Nat → α} (h : Outw κ lo hi a b g) (hm : a ≤ m ∧ m < b) (ha : lo ≤ a) (hb : b ≤ hi) (s : Srt κ (m + 1) b g) (h1 : ∀ k, a ≤ k → k < m → κ (g k) ≤ κ (g m)) (h2 : ∀ k, m < k → k < b → κ (g m) ≤ κ (g k)) : Outw κ lo hi a m g := by
  intro i j k1 k2 k3 k4
  by_cases hw : a ≤ i ∧ j < b
  · by_cases hj : m < i
    · exact s i j hj k2 hw.2
    · by_cases him : i = m
      · subst him; exact h2 j k2 hw.2
      · by_cases hjm : j = m
        · subst hjm; exact h1 i hw.1 (by omega)
        · exact Int.le_trans (h1 i hw.1 (by omega)) (h2 j (by omega) hw.2)
  · exact h i j k1 k2 k3 hw
/-- What is equal to the least, put to the left. -/
theorem Outw.equal {lo hi a b m : Nat} {g : Nat → α} (h : Outw κ lo hi a b g) (hm : a ≤ m ∧ m ≤ b) (ha : lo ≤ a) (hb : b ≤ hi) {x : Int} (h1 : ∀ k, a ≤ k → k < m → κ (g k) = x) (h2 : ∀ k, m ≤ k → k < b → x ≤ κ (g k)) : Outw κ lo hi m b g := by
  intro i j k1 k2 k3 k4
  by_cases hw : a ≤ i ∧ j < b
  · have : κ (g i) = x := h1 i hw.1 (by omega)
    by_cases hj : j < m
    · rw [this, h1 j (by omega) hj]; exact Int.le_refl _
    · rw [this]; exact h2 j (by omega) hw.2
  · exact h i j k1 k2 k3 hw
/-! ### insertion -/
def Ins (κ : α → Int) (a i j : Nat) (g : Nat → α) : Prop := (∀ p q, a ≤ p → p < q → q ≤ i → p ≠ j → q ≠ j → κ (g p) ≤ κ (g q)) ∧ ∀ q, j < q → q ≤ i → κ (g j) ≤ κ (g q)
theorem Ins.start {a i : Nat} {g : Nat → α} (h : Srt κ a i g) : Ins κ a i i g := ⟨fun p q h1 h2 h3 h4 h5 => h p q h1 h2 (by omega), fun q h1 h2 => by omega⟩
theorem Ins.step {a i j : Nat} {g : Nat → α} (h : Ins κ a i j g) (hj : a < j) (hl : κ (g j) < κ (g (j - 1))) : Ins κ a i (j - 1) (swp g j (j - 1)) := by
  obtain ⟨h1, h2⟩ := h
  refine ⟨fun p q k1 k2 k3 k4 k5 => ?_, fun q k1 k2 => ?_⟩
  · by_cases hq : q = j
    · subst hq
      rw [swp_left, swp_other _ (by omega) (by omega)]
      exact h1 p (q - 1) k1 (by omega) (by omega) (by omega) (by omega)
    · by_cases hp : p = j
      · subst hp
        rw [swp_left, swp_other _ (by omega) (by omega)]
        exact h1 (p - 1) q (by omega) (by omega) k3 (by omega) (by omega)
      · rw [swp_other _ (by omega) (by omega), swp_other _ (by omega) (by omega)]
        exact h1 p q k1 k2 k3 hp hq
  · by_cases hq : q = j
    · subst hq
      rw [swp_left, swp_right]; omega
    · rw [swp_right, swp_other _ (by omega) (by omega)]
      exact h2 q (by omega) k2
theorem Ins.done0 {a i : Nat} {g : Nat → α} (h : Ins κ a i a g) : Srt κ a (i + 1) g := by
  intro p q k1 k2 k3
  by_cases hp : p = a
  · subst hp; exact h.2 q k2 (by omega)
  · exact h.1 p q k1 k2 (by omega) hp (by omega)
theorem Ins.done1 {a i j : Nat} {g : Nat → α} (h : Ins κ a i j g) (hj : a < j) (hji : j ≤ i) (hl : ¬ κ (g j) < κ (g (j - 1))) : Srt κ a (i + 1) g := by
  intro p q k1 k2 k3
  by_cases hq : q = j
  · subst hq
    by_cases hp : p = q - 1
    · subst hp; omega
    · have := h.1 p (q - 1) k1 (by omega) (by omega) (by omega) (by omega)
      omega
  · by_cases hp : p = j
    · subst hp; exact h.2 q k2 (by omega)
    · exact h.1 p q k1 k2 (by omega) hp hq
/-! ### heaps -/
def Hp (κ : α → Int) (s lo hi : Nat) (g : Nat → α) : Prop := ∀ c, 0 < c → c < hi → lo ≤ (c - 1) / 2 → κ (g (s + c)) ≤ κ (g (s + (c - 1) / 2))
theorem Hp.top {s hi : Nat} {g : Nat → α} (h : Hp κ s 0 hi g) : ∀ c, c < hi → κ (g (s + c)) ≤ κ (g s) := by
  intro c
  induction c using Nat.strongRecOn with
  | ind c ih =>
    intro hc
    by_cases h0 : c = 0
    · subst h0; exact Int.le_refl _
    · exact Int.le_trans (h c (by omega) hc (by omega)) (ih ((c - 1) / 2) (by omega) (by omega))
def Sft (κ : α → Int) (s lo hi r : Nat) (g : Nat → α) : Prop :=
  lo ≤ r ∧ (∀ c, 0 < c → c < hi → lo ≤ (c - 1) / 2 → (c - 1) / 2 ≠ r → κ (g (s + c)) ≤ κ (g (s + (c - 1) / 2))) ∧
    ∀ c, 0 < c → c < hi → (c - 1) / 2 = r → lo ≤ (r - 1) / 2 → 0 < r → κ (g (s + c)) ≤ κ (g (s + (r - 1) / 2))
theorem Sft.start {s lo hi : Nat} {g : Nat → α} (h : Hp κ s (lo + 1) hi g) : Sft κ s lo hi lo g :=
  ⟨Nat.le_refl _, fun c h1 h2 h3 h4 => h c h1 h2 (by omega), fun c h1 h2 h3 h4 h5 => by omega⟩
theorem Sft.step {s lo hi r x : Nat} {g : Nat → α} (h : Sft κ s lo hi r g) (hx : x = 2 * r + 1 ∨ x = 2 * r + 2) (hxh : x < hi) (hmax : ∀ c, c < hi → c = 2 * r + 1 ∨ c = 2 * r + 2 → κ (g (s + c)) ≤ κ (g (s + x))) (hl : κ (g (s + r)) < κ (g (s + x))) :
    Sft κ s lo hi x (swp g (s + r) (s + x)) := by
  obtain ⟨h0, h1, h2⟩ := h
  refine ⟨by omega, fun c k1 k2 k3 k4 => ?_, fun c k1 k2 k3 k4 k5 => ?_⟩
  · by_cases hp : (c - 1) / 2 = r
    · rw [hp, swp_left]
      by_cases hc : c = x
      · subst hc; rw [swp_right]; omega
      · rw [swp_other _ (by omega) (by omega)]; exact hmax c k2 (by omega)
    · rw [swp_other (k := s + (c - 1) / 2) _ (by omega) (by omega)]
      by_cases hc : c = r
      · subst hc
        rw [swp_left]
        exact h2 x (by omega) hxh (by omega) k3 k1
      · rw [swp_other _ (by omega) (by omega)]
        exact h1 c k1 k2 k3 hp
  · rw [show (x - 1) / 2 = r by omega, swp_left, swp_other _ (by omega) (by omega)]
    have := h1 c k1 k2 (by omega) (by omega)
    rw [k3] at this; exact this
theorem Sft.done {s lo hi r : Nat} {g : Nat → α} (h : Sft κ s lo hi r g) (hl : ∀ c, c < hi → c = 2 * r + 1 ∨ c = 2 * r + 2 → κ (g (s + c)) ≤ κ (g (s + r))) : Hp κ s lo hi g := by
  intro c k1 k2 k3
  by_cases hp : (c - 1) / 2 = r
  · rw [hp]; exact hl c k2 (by omega)
  · exact h.2.1 c k1 k2 k3 hp
/-! ### apart -/
def Apt (κ : α → Int) (a i j b : Nat) (g : Nat → α) : Prop := (∀ k, a < k → k < i → κ (g k) < κ (g a)) ∧ ∀ k, j < k → k < b → κ (g a) ≤ κ (g k)
theorem Apt.step {a i j b : Nat} {g : Nat → α} (h : Apt κ a i j b g) (hi : a < i) (hij : i < j) (hjb : j < b) (h1 : ¬ κ (g i) < κ (g a)) (h2 : κ (g j) < κ (g a)) : Apt κ a (i + 1) (j - 1) b (swp g i j) := by
  refine ⟨fun k k1 k2 => ?_, fun k k1 k2 => ?_⟩
  · rw [swp_other (k := a) _ (by omega) (by omega)]
    by_cases hk : k = i
    · subst hk; rw [swp_left]; exact h2
    · rw [swp_other _ (by omega) (by omega)]; exact h.1 k k1 (by omega)
  · rw [swp_other (k := a) _ (by omega) (by omega)]
    by_cases hk : k = j
    · subst hk; rw [swp_right]; omega
    · rw [swp_other _ (by omega) (by omega)]; exact h.2 k (by omega) k2
theorem Apt.done {a i j b : Nat} {g : Nat → α} (h : Apt κ a i j b g) (hi : j < i) (ha : a ≤ j) (hjb : j < b) : (∀ k, a ≤ k → k < j → κ (swp g j a k) ≤ κ (swp g j a j)) ∧ ∀ k, j < k → k < b → κ (swp g j a j) ≤ κ (swp g j a k) := by
  refine ⟨fun k k1 k2 => ?_, fun k k1 k2 => ?_⟩
  · rw [swp_left]
    by_cases hk : k = a
    · subst hk; rw [swp_right]; have := h.1 j (by omega) hi; omega
    · rw [swp_other _ (by omega) hk]; have := h.1 k (by omega) (by omega); omega
  · rw [swp_left, swp_other _ (by omega) (by omega)]; exact h.2 k k1 k2
/-- Apart by what is not more than the first. -/
def Eqp (κ : α → Int) (a i j b : Nat) (g : Nat → α) : Prop := (∀ k, a < k → k < i → κ (g k) ≤ κ (g a)) ∧ ∀ k, j < k → k < b → κ (g a) < κ (g k)
theorem Eqp.step {a i j b : Nat} {g : Nat → α} (h : Eqp κ a i j b g) (hi : a < i) (hij : i < j) (hjb : j < b) (h1 : κ (g a) < κ (g i)) (h2 : ¬ κ (g a) < κ (g j)) : Eqp κ a (i + 1) (j - 1) b (swp g i j) := by
  refine ⟨fun k k1 k2 => ?_, fun k k1 k2 => ?_⟩
  · rw [swp_other (k := a) _ (by omega) (by omega)]
    by_cases hk : k = i
    · subst hk; rw [swp_left]; omega
    · rw [swp_other _ (by omega) (by omega)]; exact h.1 k k1 (by omega)
  · rw [swp_other (k := a) _ (by omega) (by omega)]
    by_cases hk : k = j
    · subst hk; rw [swp_right]; exact h1
    · rw [swp_other _ (by omega) (by omega)]; exact h.2 k (by omega) k2
end
end Go.Proofs.YtaklcaejeaiagaaE
