/- A part of the proof of a law of the given program: contracts of functions. No condition of its own. -/
import Derived.Test.YtaklcaejeaiagaaEW3
namespace Go.Proofs.YtaklcaejeaiagaaE
open Go.Proofs
set_option maxRecDepth 100000
theorem snocInd {α : Type} {M : List α → Prop} (h0 : M []) (h1 : ∀ l x, M l → M (l ++ [x])) (l : List α) : M l := by
  have : ∀ m : List α, M m.reverse := fun m => by
    induction m with
    | nil => exact h0
    | cons x m ih => rw [List.reverse_cons]; exact h1 _ _ ih
  have := this l.reverse
  rwa [List.reverse_reverse] at this
theorem addAll_lt (k : Int) (l : List Int) (h : ∀ x ∈ l, x < k) : addAll k l = (l, false) := by
  induction l using snocInd with
  | h0 => rfl
  | h1 l x ih =>
    rw [addAll_snoc, ih (fun y hy => h y (List.mem_append_left _ hy))]
    have hx : x < k := h x (by simp)
    simp [addStep, Int.ne_of_lt hx, Int.not_le.2 hx]
theorem addAll_ge (k : Int) (l : List Int) (hs : l.Pairwise (· < ·)) (h : ∃ x ∈ l, k ≤ x) : addAll k l = (l.filter (· < k) ++ k :: l.filter (k < ·), true) := by
  induction l using snocInd with
  | h0 => obtain ⟨x, hx, _⟩ := h; cases hx
  | h1 l x ih =>
    rw [addAll_snoc]
    obtain ⟨s1, s2, s3⟩ := List.pairwise_append.1 hs
    have hlx : ∀ y ∈ l, y < x := fun y hy => s3 y hy x (by simp)
    by_cases hl : ∃ y ∈ l, k ≤ y
    · rw [ih s1 hl]
      obtain ⟨y, hy, hk⟩ := hl
      have hx := hlx y hy
      have h1 : ¬ x < k := by omega
      have h2 : k < x := by omega
      have h3 : x ≠ k := by omega
      simp [addStep, h1, h2, h3]
    · have hl' : ∀ y ∈ l, y < k := fun y hy => by
        have : ¬ k ≤ y := fun e => hl ⟨y, hy, e⟩
        omega
      rw [addAll_lt k l hl']
      have hkx : k ≤ x := by
        obtain ⟨y, hy, hk⟩ := h
        rcases List.mem_append.1 hy with h1 | h1
        · exact absurd hk (by have := hl' y h1; omega)
        · have : y = x := by simpa using h1
          omega
      have f1 : l.filter (· < k) = l := List.filter_eq_self.2 fun y hy => by simpa using hl' y hy
      have f2 : l.filter (k < ·) = [] := List.filter_eq_nil_iff.2 fun y hy => by have := hl' y hy; simp; omega
      have h1 : ¬ x < k := by omega
      by_cases h3 : x = k
      · subst h3
        simp only [addStep, List.filter_append, f1, f2]
        simp
      · have h2 : k < x := by omega
        simp only [addStep, List.filter_append, f1, f2]
        simp [h1, h2, h3, hkx]
theorem addL_rise (k : Int) (l : List Int) (hs : l.Pairwise (· < ·)) : (addL k l).Pairwise (· < ·) ∧ ∀ x, x ∈ addL k l ↔ x ∈ l ∨ x = k := by
  by_cases h : ∃ x ∈ l, k ≤ x
  · unfold addL
    rw [addAll_ge k l hs h]
    simp only [if_true]
    refine ⟨?_, fun x => ?_⟩
    · refine List.pairwise_append.2 ⟨hs.filter _, List.pairwise_cons.2 ⟨fun y hy => ?_, hs.filter _⟩, fun a ha b hb => ?_⟩
      · have := (List.mem_filter.1 hy).2; simpa using this
      · have h1 := (List.mem_filter.1 ha).2
        have h1 : a < k := by simpa using h1
        rcases List.mem_cons.1 hb with rfl | hb
        · exact h1
        · have h2 := (List.mem_filter.1 hb).2
          have h2 : k < b := by simpa using h2
          omega
    · simp only [List.mem_append, List.mem_cons, List.mem_filter, decide_eq_true_eq]
      constructor
      · rintro (⟨h1, _⟩ | rfl | ⟨h1, _⟩)
        · exact .inl h1
        · exact .inr rfl
        · exact .inl h1
      · rintro (h1 | rfl)
        · rcases Int.lt_trichotomy x k with h2 | h2 | h2
          · exact .inl ⟨h1, h2⟩
          · exact .inr (.inl h2)
          · exact .inr (.inr ⟨h1, h2⟩)
        · exact .inr (.inl rfl)
  · have h' : ∀ x ∈ l, x < k := fun x hx => by
      have : ¬ k ≤ x := fun e => h ⟨x, hx, e⟩
      omega
    unfold addL
    rw [addAll_lt k l h']
    simp only [Bool.false_eq_true, if_false]
    refine ⟨List.pairwise_append.2 ⟨hs, by simp, fun a ha b hb => ?_⟩, fun x => by simp⟩
    have : b = k := by simpa using hb
    rw [this]; exact h' a ha
theorem fG_mem (a : Nat → Int) (s : List Int) (hs : s.Pairwise (· < ·)) : ∀ n, (fG a s n).Pairwise (· < ·) ∧ ∀ x, x ∈ fG a s n ↔ x ∈ s ∨ ∃ i, i < n ∧ a i = x
  | 0 => ⟨hs, fun x => ⟨fun h => .inl h, fun h => by rcases h with h | ⟨i, h, _⟩; (exact h); omega⟩⟩
  | n + 1 => by
    obtain ⟨h1, h2⟩ := fG_mem a s hs n
    obtain ⟨k1, k2⟩ := addL_rise (a n) (fG a s n) h1
    refine ⟨k1, fun x => ?_⟩
    simp only [fG]
    rw [k2, h2]
    constructor
    · rintro ((h | ⟨i, hi, e⟩) | rfl)
      · exact .inl h
      · exact .inr ⟨i, by omega, e⟩
      · exact .inr ⟨n, by omega, rfl⟩
    · rintro (h | ⟨i, hi, e⟩)
      · exact .inl (.inl h)
      · by_cases hin : i = n
        · subst hin; exact .inr e.symm
        · exact .inl (.inr ⟨i, by omega, e⟩)
theorem fW_mem (d e : Nat → Int) (s : List Int) (hs : s.Pairwise (· < ·)) : ∀ n, (fW d e s n).Pairwise (· < ·) ∧ ∀ x, x ∈ fW d e s n ↔ x ∈ s ∨ ∃ i, i < n ∧ (d i = x ∨ (0 ≤ e i ∧ e i = x))
  | 0 => ⟨hs, fun x => ⟨fun h => .inl h, fun h => by rcases h with h | ⟨i, h, _⟩; (exact h); omega⟩⟩
  | n + 1 => by
    obtain ⟨h1, h2⟩ := fW_mem d e s hs n
    obtain ⟨k1, k2⟩ := addL_rise (d n) (fW d e s n) h1
    obtain ⟨j1, j2⟩ := addL_rise (e n) (addL (d n) (fW d e s n)) k1
    have hx : ∀ x, x ∈ fW d e s (n + 1) ↔ (x ∈ fW d e s n ∨ x = d n) ∨ (0 ≤ e n ∧ x = e n) := by
      intro x
      simp only [fW]
      by_cases h : 0 ≤ e n
      · rw [if_pos h, j2, k2]; exact ⟨fun hh => hh.imp id fun h3 => ⟨h, h3⟩, fun hh => hh.imp id fun h3 => h3.2⟩
      · rw [if_neg h, k2]; exact ⟨fun hh => .inl hh, fun hh => by rcases hh with hh | ⟨h3, _⟩; (exact hh); exact absurd h3 h⟩
    refine ⟨?_, fun x => ?_⟩
    · simp only [fW]; split
      · exact j1
      · exact k1
    · rw [hx, h2]
      constructor
      · rintro (((h | ⟨i, hi, hh⟩) | rfl) | ⟨h3, rfl⟩)
        · exact .inl h
        · exact .inr ⟨i, by omega, hh⟩
        · exact .inr ⟨n, by omega, .inl rfl⟩
        · exact .inr ⟨n, by omega, .inr ⟨h3, rfl⟩⟩
      · rintro (h | ⟨i, hi, hh⟩)
        · exact .inl (.inl (.inl h))
        · by_cases hin : i = n
          · subst hin
            rcases hh with hh | ⟨h3, hh⟩
            · exact .inl (.inr hh.symm)
            · exact .inr ⟨h3, hh.symm⟩
          · exact .inl (.inl (.inr ⟨i, by omega, hh⟩))
theorem aG_mem (a : Nat → Int) (s : List Int) : ∀ n x, x ∈ aG a s n ↔ x ∈ s ∨ ∃ i, i < n ∧ a i = x
  | 0, x => ⟨fun h => .inl h, fun h => by rcases h with h | ⟨i, h, _⟩; (exact h); omega⟩
  | n + 1, x => by
    simp only [aG, List.mem_append, List.mem_singleton]
    rw [aG_mem a s n x]
    constructor
    · rintro ((h | ⟨i, hi, e⟩) | rfl)
      · exact .inl h
      · exact .inr ⟨i, by omega, e⟩
      · exact .inr ⟨n, by omega, rfl⟩
    · rintro (h | ⟨i, hi, e⟩)
      · exact .inl (.inl h)
      · by_cases hin : i = n
        · subst hin; exact .inr e.symm
        · exact .inl (.inr ⟨i, by omega, e⟩)
theorem aW_mem (d e : Nat → Int) (s : List Int) : ∀ n x, x ∈ aW d e s n ↔ x ∈ s ∨ ∃ i, i < n ∧ (d i = x ∨ (0 ≤ e i ∧ e i = x))
  | 0, x => ⟨fun h => .inl h, fun h => by rcases h with h | ⟨i, h, _⟩; (exact h); omega⟩
  | n + 1, x => by
    have ih := aW_mem d e s n x
    have hx : x ∈ aW d e s (n + 1) ↔ (x ∈ aW d e s n ∨ x = d n) ∨ (0 ≤ e n ∧ x = e n) := by
      simp only [aW]
      by_cases h : 0 ≤ e n
      · rw [if_pos h]; simp only [List.mem_append, List.mem_singleton]; exact ⟨fun hh => hh.imp id fun h3 => ⟨h, h3⟩, fun hh => hh.imp id fun h3 => h3.2⟩
      · rw [if_neg h]; simp only [List.mem_append, List.mem_singleton]; exact ⟨fun hh => .inl hh, fun hh => by rcases hh with hh | ⟨h3, _⟩; (exact hh); exact absurd h3 h⟩
    rw [hx, ih]
    constructor
    · rintro (((h | ⟨i, hi, hh⟩) | rfl) | ⟨h3, rfl⟩)
      · exact .inl h
      · exact .inr ⟨i, by omega, hh⟩
      · exact .inr ⟨n, by omega, .inl rfl⟩
      · exact .inr ⟨n, by omega, .inr ⟨h3, rfl⟩⟩
    · rintro (h | ⟨i, hi, hh⟩)
      · exact .inl (.inl (.inl h))
      · by_cases hin : i = n
        · subst hin
          rcases hh with hh | ⟨h3, hh⟩
          · exact .inl (.inr hh.symm)
          · exact .inr ⟨h3, hh.symm⟩
        · exact .inl (.inl (.inr ⟨i, by omega, hh⟩))
theorem cmpT_rise {m : List Int} (hm : m.Pairwise (· ≤ ·)) : ∀ i, i ≤ m.length → (cmpT m i).Pairwise (· < ·) ∧ (∀ x, x ∈ cmpT m i ↔ x ∈ m.take i) ∧ ∀ x ∈ cmpT m i, x ≤ m.getD (i - 1) 0
  | 0, _ => ⟨by simp [cmpT], by simp [cmpT], by simp [cmpT]⟩
  | i + 1, hi => by
    obtain ⟨h1, h2, h3⟩ := cmpT_rise hm i (by omega)
    have hget : m.getD i 0 = m[i] := by simp [List.getD_eq_getElem?_getD, (by omega : i < m.length)]
    have hle : 0 < i → m.getD (i - 1) 0 ≤ m.getD i 0 := fun h0 => by
      have := List.pairwise_iff_getElem.1 hm (i - 1) i (by omega) (by omega) (by omega)
      rw [hget]
      simpa [List.getD_eq_getElem?_getD, (by omega : i - 1 < m.length)] using this
    have htk : m.take (i + 1) = m.take i ++ [m.getD i 0] := by rw [List.take_succ_eq_append_getElem (by omega), hget]
    simp only [cmpT, Nat.add_sub_cancel]
    by_cases hc : i = 0 ∨ m.getD i 0 ≠ m.getD (i - 1) 0
    · rw [if_pos hc]
      refine ⟨List.pairwise_append.2 ⟨h1, by simp, fun x hx y hy => ?_⟩, fun x => ?_, fun x hx => ?_⟩
      · have hy : y = m.getD i 0 := by simpa using hy
        by_cases h0 : i = 0
        · subst h0; simp [cmpT] at hx
        · have k1 := h3 x hx
          have k2 := hle (by omega)
          have k3 : m.getD i 0 ≠ m.getD (i - 1) 0 := by rcases hc with hc | hc; (omega); exact hc
          rw [hy]; omega
      · rw [htk, List.mem_append, List.mem_append, h2]
      · rcases List.mem_append.1 hx with hx | hx
        · by_cases h0 : i = 0
          · subst h0; simp [cmpT] at hx
          · have := h3 x hx; have := hle (by omega); omega
        · have hx : x = m.getD i 0 := by simpa using hx
          rw [hx]; exact Int.le_refl _
    · rw [if_neg hc]
      have h0 : 0 < i := Nat.pos_of_ne_zero fun h => hc (.inl h)
      have he : m.getD i 0 = m.getD (i - 1) 0 := Classical.byContradiction fun h => hc (.inr h)
      refine ⟨h1, fun x => ?_, fun x hx => by rw [he]; exact h3 x hx⟩
      rw [htk, List.mem_append, h2]
      refine ⟨fun h => .inl h, fun h => ?_⟩
      rcases h with h | h
      · exact h
      · have hx : x = m.getD i 0 := by simpa using h
        rw [hx, he]
        have : m.getD (i - 1) 0 = (m.take i)[i - 1]'(by rw [List.length_take]; omega) := by simp [List.getD_eq_getElem?_getD, (by omega : i - 1 < m.length)]
        rw [this]; exact List.getElem_mem _
theorem allI_eq (bb : Bool) (n1 n2 n3 : Nat) (a d e r : Nat → Int) : allI bb n1 n2 n3 a d e r = allS bb n1 n2 n3 a d e r := by
  cases bb
  · rfl
  · unfold allI allS allO
    simp only [if_true]
    obtain ⟨s1, s2, _⟩ := cmpT_rise (sortN_le (aW d e (aG a (aG r [] n3) n1) n2)) (sortN (aW d e (aG a (aG r [] n3) n1) n2)).length (Nat.le_refl _)
    obtain ⟨g1, g2⟩ := fG_mem a [] List.Pairwise.nil n1
    obtain ⟨w1, w2⟩ := fW_mem d e (fG a [] n1) g1 n2
    obtain ⟨r1, r2⟩ := fG_mem r (fW d e (fG a [] n1) n2) w1 n3
    refine list_rise_eq (κ := fun x : Int => x) s1 r1 fun x => ?_
    show x ∈ cmpT _ _ ↔ _
    rw [s2, List.take_length, (sortN_perm _).mem_iff, r2, w2, g2, aW_mem, aG_mem, aG_mem]
    simp only [List.not_mem_nil, false_or]
    constructor
    · rintro ((h | h) | h)
      · exact .inr h
      · exact .inl (.inl h)
      · exact .inl (.inr h)
    · rintro ((h | h) | h)
      · exact .inl (.inr h)
      · exact .inr h
      · exact .inl (.inl h)
end Go.Proofs.YtaklcaejeaiagaaE
