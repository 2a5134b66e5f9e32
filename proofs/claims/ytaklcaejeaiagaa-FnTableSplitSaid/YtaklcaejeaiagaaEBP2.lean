/- A part of the proof of a law of the given program: contracts of functions. No condition of its own. -/
import Derived.Test.YtaklcaejeaiagaaEBP1
namespace Go.Proofs.YtaklcaejeaiagaaE
open Go.Proofs
set_option maxRecDepth 100000
theorem ok_a0 {t : TT} (h : t.ok) : t.a 0 = 0 := by have := (h.2.2.2.1 0 (by have := h.2.2.1; omega)).1; simpa [prv] using this
theorem ok_next {t : TT} (h : t.ok) {i : Nat} (hi : i + 1 < t.n) : t.a (i + 1) = t.b i := by have := (h.2.2.2.1 (i + 1) hi).1; simpa [prv] using this
theorem ok_last {t : TT} (h : t.ok) : t.b (t.n - 1) = 40 := by
  have := h.2.2.2.2
  have h2 := h.2.2.1
  simp only [prv] at this
  rwa [if_neg (by omega)] at this
theorem ok_lt {t : TT} (h : t.ok) {i : Nat} (hi : i < t.n) : t.a i < t.b i := (h.2.2.2.1 i hi).2.1
theorem ok_before {t : TT} (h : t.ok) {i : Nat} : ∀ {j : Nat}, i < j → j < t.n → t.b i ≤ t.a j
  | 0, h1, _ => by omega
  | j + 1, h1, h2 => by
    rw [ok_next h h2]
    by_cases hij : i = j
    · subst hij; exact Int.le_refl _
    · exact Int.le_trans (ok_before h (by omega) (by omega : j < t.n)) (Int.le_of_lt (ok_lt h (by omega)))
theorem ok_one {t : TT} (h : t.ok) {key : Int} {i j : Nat} (hi : i < t.n) (hj : j < t.n) (h1 : t.a i ≤ key ∧ key < t.b i) (h2 : t.a j ≤ key ∧ key < t.b j) : i = j := by
  rcases Nat.lt_trichotomy i j with h3 | h3 | h3
  · have := ok_before h h3 hj; omega
  · exact h3
  · have := ok_before h h3 hi; omega
theorem ok_a {t : TT} (h : t.ok) : ∀ {i : Nat}, i < t.n → 0 ≤ t.a i
  | 0, _ => by rw [ok_a0 h]; exact Int.le_refl _
  | i + 1, hi => by rw [ok_next h hi]; have := ok_a h (i := i) (by omega); have := ok_lt h (i := i) (by omega); omega
theorem ok_hit {t : TT} (h : t.ok) {key : Int} {i : Nat} (hi : i < t.n) : hit key t.a t.b i ↔ t.a i ≤ key ∧ key < t.b i := by
  have h1 := ok_a h hi
  have h2 := ok_lt h hi
  have h3 : t.b i ≤ 40 := (h.2.2.2.1 i hi).2.2.1
  have hw : IntKind.i64.wrap (t.b i - 1) = t.b i - 1 := by rw [IntKind.wrap_i64]; omega
  unfold hit
  rw [hw]
  constructor <;> rintro ⟨h4, h5⟩ <;> exact ⟨h4, by omega⟩
theorem ok_cover {t : TT} (h : t.ok) {key : Int} (hk : 0 ≤ key ∧ key < 40) : ∃ i, i < t.n ∧ t.a i ≤ key ∧ key < t.b i := by
  have hl := ok_last h
  have hn := h.2.2.1
  have key2 : ∀ j, j < t.n → t.b j ≤ key ∨ ∃ i, i < t.n ∧ t.a i ≤ key ∧ key < t.b i := by
    intro j
    induction j with
    | zero =>
      intro hj
      by_cases h1 : key < t.b 0
      · exact .inr ⟨0, hj, by rw [ok_a0 h]; exact hk.1, h1⟩
      · exact .inl (by omega)
    | succ j ih =>
      intro hj
      rcases ih (by omega) with h1 | h1
      · by_cases h2 : key < t.b (j + 1)
        · exact .inr ⟨j + 1, hj, by rw [ok_next h hj]; exact h1, h2⟩
        · exact .inl (by omega)
      · exact .inr h1
  rcases key2 (t.n - 1) (by omega) with h1 | h1
  · omega
  · exact h1
theorem idx_of {t : TT} (h : t.ok) {key : Int} {i : Nat} (hi : i < t.n) (h1 : t.a i ≤ key ∧ key < t.b i) : t.idx key = i := by
  rcases t.idx_is key with ⟨h2, h3⟩ | ⟨j, h2, h3, h4, h5⟩
  · exact absurd ((ok_hit h hi).2 h1) (h3 i hi)
  · rw [h3, ok_one h hi h2 h1 ((ok_hit h h2).1 h4)]
theorem idx_in {t : TT} (h : t.ok) {key : Int} (hk : 0 ≤ key ∧ key < 40) : ¬ t.idx key < 0 := by
  obtain ⟨i, h1, h2, h3⟩ := ok_cover h hk
  rw [idx_of h h1 ⟨h2, h3⟩]; omega
theorem idx_out {t : TT} (h : t.ok) {key : Int} (hk : ¬ (0 ≤ key ∧ key < 40)) : t.idx key = -1 := by
  rcases t.idx_is key with ⟨h2, h3⟩ | ⟨j, h2, h3, h4, h5⟩
  · exact h2
  · have h6 := (ok_hit h h2).1 h4
    have h7 := ok_a h h2
    have h8 : t.b j ≤ 40 := (h.2.2.2.1 j h2).2.2.1
    omega
open Classical in
/-- who keeps a key. -/
noncomputable def TT.kp (t : TT) (key : Int) : Int := if t.ok ∧ 0 ≤ key ∧ key < 40 then t.c (t.idx key).toNat else -1
theorem kp_nn {t : TT} {key : Int} : (0 ≤ t.kp key) ↔ (t.ok ∧ 0 ≤ key ∧ key < 40) := by
  unfold TT.kp
  split
  · rename_i h
    have h1 := ok_idx h.1 (idx_in h.1 h.2)
    have h2 := (h.1.2.2.2.1 _ h1.1).2.2.2
    exact ⟨fun _ => h, fun _ => h2.1.1⟩
  · rename_i h
    constructor
    · intro h1; omega
    · intro h1; exact absurd h1 h
theorem kp_at {t : TT} (h : t.ok) {key : Int} {i : Nat} (hi : i < t.n) (h1 : t.a i ≤ key ∧ key < t.b i) : t.kp key = t.c i := by
  have h2 := ok_a h hi
  have h3 : t.b i ≤ 40 := (h.2.2.2.1 i hi).2.2.1
  unfold TT.kp
  rw [if_pos ⟨h, by omega, by omega⟩, idx_of h hi h1]
  simp
/-- how many of the first i ranges have a key. -/
def cntF (a b : Nat → Int) (key : Int) : Nat → Nat
  | 0 => 0
  | i + 1 => cntF a b key i + (if a i ≤ key ∧ key < b i then 1 else 0)
theorem cnt_le (a b : Nat → Int) (key : Int) : ∀ i, cntF a b key i ≤ i
  | 0 => Nat.le_refl _
  | i + 1 => by have := cnt_le a b key i; simp only [cntF]; split <;> omega
theorem cnt_zero {a b : Nat → Int} {key : Int} : ∀ {i : Nat}, (∀ j, j < i → ¬ (a j ≤ key ∧ key < b j)) → cntF a b key i = 0
  | 0, _ => rfl
  | i + 1, h => by simp only [cntF]; rw [cnt_zero fun j hj => h j (by omega), if_neg (h i (by omega))]
theorem cnt_one {a b : Nat → Int} {key : Int} {q : Nat} (hq : a q ≤ key ∧ key < b q) : ∀ {i : Nat}, q < i → (∀ j, j < i → (a j ≤ key ∧ key < b j) → j = q) → cntF a b key i = 1
  | 0, h, _ => by omega
  | i + 1, h, h1 => by
    simp only [cntF]
    by_cases hi : i = q
    · subst hi
      rw [cnt_zero fun j hj hh => by have := h1 j (by omega) hh; omega, if_pos hq]
    · rw [cnt_one hq (by omega) fun j hj => h1 j (by omega), if_neg fun hh => hi (h1 i (by omega) hh)]
theorem cnt_all {t : TT} (h : t.ok) {key : Int} (hk : 0 ≤ key ∧ key < 40) : cntF t.a t.b key t.n = 1 := by
  obtain ⟨q, h1, h2⟩ := ok_cover h hk
  exact cnt_one h2 h1 fun j hj hh => ok_one h hj h1 hh h2
end Go.Proofs.YtaklcaejeaiagaaE
