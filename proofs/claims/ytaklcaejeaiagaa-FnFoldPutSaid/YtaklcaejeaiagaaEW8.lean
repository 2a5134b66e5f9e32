/- A part of the proof of a law of the given program: contracts of functions. No condition of its own. -/
import Derived.Test.YtaklcaejeaiagaaEW7
import Derived.Test.YtaklcaejeaiagaaES10
import Derived.Test.YtaklcaejeaiagaaEV1
namespace Go.Proofs.YtaklcaejeaiagaaE
open Go.Proofs
/-- No pair of a row has the key. -/
def noK (g' : Nat → Int) (k : Int) : Nat → Bool
  | 0 => true
  | m + 1 => noK g' k m && decide (g' m ≠ k)
theorem noK_iff {g' : Nat → Int} {k : Int} : ∀ {m : Nat}, noK g' k m = true ↔ ∀ j, j < m → g' j ≠ k
  | 0 => by simp [noK]
  | m + 1 => by
    have ih := noK_iff (g' := g') (k := k) (m := m)
    simp only [noK, Bool.and_eq_true, ih, decide_eq_true_eq]
    exact ⟨fun h j hj => by by_cases hjm : j = m; (subst hjm; exact h.2); exact h.1 j (by omega), fun h => ⟨fun j hj => h j (by omega), h m (by omega)⟩⟩
/-- A row as a list. -/
def mk (g h : Nat → Int) : Nat → List (Int × Int)
  | 0 => []
  | m + 1 => mk g h m ++ [(g m, h m)]
theorem mk_len (g h : Nat → Int) : ∀ m, (mk g h m).length = m
  | 0 => rfl
  | m + 1 => by have := mk_len g h m; simp only [mk, List.length_append, List.length_cons, List.length_nil]; omega
theorem mk_get (g h : Nat → Int) : ∀ (m i : Nat), i < m → pg (mk g h m) i = g i ∧ ph (mk g h m) i = h i
  | 0, _, hi => by omega
  | m + 1, i, hi => by
    have hl := mk_len g h m
    simp only [mk]
    by_cases h1 : i < m
    · rw [(pg_app (by omega)).1, (pg_app (by omega)).2]; exact mk_get g h m i h1
    · obtain rfl : i = m := by omega
      have := pg_snoc (l := mk g h i) (g i) (h i)
      rw [hl] at this
      exact this
theorem mk_mem (g h : Nat → Int) (x : Int × Int) : ∀ m, x ∈ mk g h m ↔ ∃ j, j < m ∧ x = (g j, h j)
  | 0 => by simp [mk]
  | m + 1 => by
    simp only [mk, List.mem_append, List.mem_singleton, mk_mem g h x m]
    constructor
    · rintro (⟨j, h1, h2⟩ | h1)
      · exact ⟨j, by omega, h2⟩
      · exact ⟨m, by omega, h1⟩
    · rintro ⟨j, h1, h2⟩
      by_cases h3 : j = m
      · subst h3; exact .inr h2
      · exact .inl ⟨j, by omega, h2⟩
/-- What stands there ahead of the sort: the later pairs, and those earlier ones that they leave. -/
def oP (m : Nat) (g' h' g h : Nat → Int) : Nat → List (Int × Int)
  | 0 => mk g' h' m
  | i + 1 => if noK g' (g i) m then oP m g' h' g h i ++ [(g i, h i)] else oP m g' h' g h i
theorem oP_len (m : Nat) (g' h' g h : Nat → Int) : ∀ i, (oP m g' h' g h i).length ≤ m + i
  | 0 => by simp [oP, mk_len]
  | i + 1 => by
    have := oP_len m g' h' g h i
    simp only [oP]
    split
    · simp only [List.length_append, List.length_cons, List.length_nil]; omega
    · omega
theorem oP_mem (m : Nat) (g' h' g h : Nat → Int) (x : Int × Int) : ∀ i, x ∈ oP m g' h' g h i ↔ (∃ j, j < m ∧ x = (g' j, h' j)) ∨ ∃ j, j < i ∧ x = (g j, h j) ∧ noK g' (g j) m = true
  | 0 => by simp [oP, mk_mem]
  | i + 1 => by
    have ih := oP_mem m g' h' g h x i
    simp only [oP]
    by_cases hk : noK g' (g i) m = true
    · rw [if_pos hk, List.mem_append, ih, List.mem_singleton]
      constructor
      · rintro ((h1 | ⟨j, h1, h2, h3⟩) | h1)
        · exact .inl h1
        · exact .inr ⟨j, by omega, h2, h3⟩
        · exact .inr ⟨i, by omega, h1, hk⟩
      · rintro (h1 | ⟨j, h1, h2, h3⟩)
        · exact .inl (.inl h1)
        · by_cases h4 : j = i
          · subst h4; exact .inr h2
          · exact .inl (.inr ⟨j, by omega, h2, h3⟩)
    · rw [if_neg hk, ih]
      constructor
      · rintro (h1 | ⟨j, h1, h2, h3⟩)
        · exact .inl h1
        · exact .inr ⟨j, by omega, h2, h3⟩
      · rintro (h1 | ⟨j, h1, h2, h3⟩)
        · exact .inl h1
        · by_cases h4 : j = i
          · subst h4; exact absurd h3 hk
          · exact .inr ⟨j, by omega, h2, h3⟩
theorem okP_mono {n : Nat} {g h : Nat → Int} (hk : okP n g h) : ∀ (j i : Nat), i < j → j < n → g i < g j
  | 0, _, h1, _ => by omega
  | j + 1, i, h1, h2 => by
    have h3 := (hk.2 (j + 1) h2).2 (by omega)
    rw [Nat.add_sub_cancel] at h3
    by_cases h4 : i = j
    · subst h4; exact h3
    · have := okP_mono hk j i (by omega) (by omega)
      omega
theorem okP_inj {n : Nat} {g h : Nat → Int} (hk : okP n g h) {i j : Nat} (hi : i < n) (hj : j < n) (he : g i = g j) : i = j := by
  rcases Nat.lt_trichotomy i j with h1 | h1 | h1
  · have := okP_mono hk j i h1 hj; omega
  · exact h1
  · have := okP_mono hk i j h1 hi; omega
theorem mk_dist {n : Nat} {g h : Nat → Int} (hk : okP n g h) : ∀ m, m ≤ n → (mk g h m).Pairwise fun x y => x.1 ≠ y.1
  | 0, _ => by simp [mk]
  | m + 1, hm => by
    simp only [mk]
    rw [List.pairwise_append]
    refine ⟨mk_dist hk m (by omega), List.pairwise_singleton _ _, fun x hx y hy => ?_⟩
    obtain ⟨j, h1, rfl⟩ := (mk_mem g h x m).1 hx
    rw [List.mem_singleton] at hy
    subst hy
    intro he
    have := okP_inj hk (by omega) (by omega) he
    omega
theorem oP_dist {n m : Nat} {g h g' h' : Nat → Int} (hk : okP n g h) (hk' : okP m g' h') : ∀ i, i ≤ n → (oP m g' h' g h i).Pairwise fun x y => x.1 ≠ y.1
  | 0, _ => mk_dist hk' m (Nat.le_refl _)
  | i + 1, hi => by
    have ih := oP_dist hk hk' i (by omega)
    simp only [oP]
    split
    · rename_i hno
      rw [List.pairwise_append]
      refine ⟨ih, List.pairwise_singleton _ _, fun x hx y hy => ?_⟩
      rw [List.mem_singleton] at hy
      subst hy
      rcases (oP_mem m g' h' g h x i).1 hx with ⟨j, h1, rfl⟩ | ⟨j, h1, rfl, _⟩
      · exact noK_iff.1 hno j h1
      · intro he
        have := okP_inj hk (by omega) (by omega) he
        omega
    · exact ih
theorem oP_keys {n m : Nat} {g h g' h' : Nat → Int} (hk : okP n g h) (hk' : okP m g' h') : ∀ x ∈ oP m g' h' g h n, 0 ≤ x.1 ∧ x.1 ≤ 39 := by
  intro x hx
  rcases (oP_mem m g' h' g h x n).1 hx with ⟨j, h1, rfl⟩ | ⟨j, h1, rfl, _⟩
  · exact (hk'.2 j h1).1.1
  · exact (hk.2 j h1).1.1
theorem delT_eq (l : List (Int × Int)) : ∀ i, i ≤ l.length → delT l i = (l.take i).filter fun x => decide (x.2 ≠ 0)
  | 0, _ => by simp [delT]
  | i + 1, hi => by
    have hp : (pg l i, ph l i) = l[i] := by simp [pg, ph, List.getD_eq_getElem?_getD, (by omega : i < l.length)]
    have hp2 : ph l i = l[i].2 := by rw [← hp]
    simp only [delT]
    rw [delT_eq l i (by omega), List.take_succ_eq_append_getElem (by omega), List.filter_append, hp, hp2]
    by_cases h0 : l[i].2 = 0 <;> simp [h0]
theorem delL_eq (l : List (Int × Int)) : delL l = l.filter fun x => decide (x.2 ≠ 0) := by
  have := delT_eq l l.length (Nat.le_refl _)
  rwa [List.take_length] at this
theorem putL_mem (n : Nat) (g h : Nat → Int) (m : Nat) (g' h' : Nat → Int) (x : Int × Int) : ∀ k, x ∈ putL n g h m g' h' k ↔ ∃ c : Nat, c < k ∧ putV n g h m g' h' c ≠ 0 ∧ x = ((c : Int), putV n g h m g' h' c)
  | 0 => by simp [putL]
  | k + 1 => by
    have ih := putL_mem n g h m g' h' x k
    simp only [putL]
    by_cases h0 : putV n g h m g' h' k = 0
    · rw [if_pos h0, ih]
      constructor
      · rintro ⟨c, h1, h2, h3⟩; exact ⟨c, by omega, h2, h3⟩
      · rintro ⟨c, h1, h2, h3⟩
        by_cases h4 : c = k
        · subst h4; exact absurd h0 h2
        · exact ⟨c, by omega, h2, h3⟩
    · rw [if_neg h0, List.mem_append, ih, List.mem_singleton]
      constructor
      · rintro (⟨c, h1, h2, h3⟩ | h1)
        · exact ⟨c, by omega, h2, h3⟩
        · exact ⟨k, by omega, h0, h1⟩
      · rintro ⟨c, h1, h2, h3⟩
        by_cases h4 : c = k
        · subst h4; exact .inr h3
        · exact .inl ⟨c, by omega, h2, h3⟩
theorem putL_rise (n : Nat) (g h : Nat → Int) (m : Nat) (g' h' : Nat → Int) : ∀ k, (putL n g h m g' h' k).Pairwise fun x y => x.1 < y.1
  | 0 => by simp [putL]
  | k + 1 => by
    have ih := putL_rise n g h m g' h' k
    simp only [putL]
    split
    · exact ih
    · rw [List.pairwise_append]
      refine ⟨ih, List.pairwise_singleton _ _, fun x hx y hy => ?_⟩
      rw [List.mem_singleton] at hy
      obtain ⟨c, h1, _, rfl⟩ := (putL_mem n g h m g' h' x k).1 hx
      subst hy
      simp only
      omega
theorem lastV_miss {g' h' : Nat → Int} {k acc : Int} : ∀ {m : Nat}, (∀ j, j < m → g' j ≠ k) → lastV m g' h' k acc = acc
  | 0, _ => rfl
  | m + 1, hh => by
    simp only [lastV, if_neg (hh m (by omega))]
    exact lastV_miss fun j hj => hh j (by omega)
theorem lastV_hit {g' h' : Nat → Int} {k acc : Int} {j : Nat} (hj : g' j = k) : ∀ {m : Nat}, j < m → (∀ i, i < m → g' i = k → i = j) → lastV m g' h' k acc = h' j
  | 0, h1, _ => by omega
  | m + 1, h1, h2 => by
    simp only [lastV]
    by_cases h3 : g' m = k
    · rw [if_pos h3, h2 m (by omega) h3]
    · rw [if_neg h3]
      have : j ≠ m := fun hh => h3 (by rw [← hh]; exact hj)
      exact lastV_hit hj (by omega) fun i hi => h2 i (by omega)
theorem putV_of {n m : Nat} {g h g' h' : Nat → Int} (hk : okP n g h) (hk' : okP m g' h') (x : Int × Int) : x ∈ oP m g' h' g h n → putV n g h m g' h' x.1 = x.2 := by
  intro hx
  rcases (oP_mem m g' h' g h x n).1 hx with ⟨j, h1, rfl⟩ | ⟨j, h1, rfl, h3⟩
  · exact lastV_hit rfl h1 fun i hi he => okP_inj hk' hi h1 he
  · have := lastV_miss (h' := h') (acc := getV n g h (g j)) (noK_iff.1 h3)
    simp only [putV, this]
    exact getV_hit h1 rfl fun i hi he => by have := okP_inj hk (by omega) h1 he; omega
theorem putV_ex {n m : Nat} {g h g' h' : Nat → Int} (_hk : okP n g h) (hk' : okP m g' h') (c : Int) (h0 : putV n g h m g' h' c ≠ 0) : (c, putV n g h m g' h' c) ∈ oP m g' h' g h n := by
  by_cases hc : noK g' c m = true
  · have hl := lastV_miss (h' := h') (acc := getV n g h c) (noK_iff.1 hc)
    simp only [putV, hl] at h0 ⊢
    rcases getV_cases n g h c with ⟨i, h1, h2, h3⟩ | h1
    · refine (oP_mem ..).2 (.inr ⟨i, h1, by rw [h3, h2], by rw [h2]; exact hc⟩)
    · exact absurd h1 h0
  · have : ¬ ∀ j, j < m → g' j ≠ c := fun hh => hc (noK_iff.2 hh)
    obtain ⟨j, hj⟩ := Classical.not_forall.1 this
    obtain ⟨h1, h2⟩ := Classical.not_imp.1 hj
    have h2 : g' j = c := Classical.not_not.1 h2
    have h4 : putV n g h m g' h' c = h' j := lastV_hit h2 h1 fun i hi he => okP_inj hk' hi h1 (by rw [he, h2])
    exact (oP_mem ..).2 (.inl ⟨j, h1, by rw [h4, h2]⟩)
theorem put_eq {n m : Nat} {g h g' h' : Nat → Int} (hk : okP n g h) (hk' : okP m g' h') : delL (sortP (oP m g' h' g h n)) = putL n g h m g' h' 40 := by
  rw [delL_eq]
  refine list_rise_eq (κ := fun x : Int × Int => x.1) ((sortP_rise (oP_dist hk hk' n (Nat.le_refl _))).filter _) (putL_rise ..) fun x => ?_
  rw [List.mem_filter, (sortP_perm _).mem_iff, putL_mem, decide_eq_true_eq]
  constructor
  · rintro ⟨h1, h2⟩
    obtain ⟨k1, k2⟩ := oP_keys hk hk' x h1
    have h3 := putV_of hk hk' x h1
    refine ⟨x.1.toNat, by omega, ?_, ?_⟩
    · rw [show ((x.1.toNat : Nat) : Int) = x.1 by omega, h3]; exact h2
    · rw [show ((x.1.toNat : Nat) : Int) = x.1 by omega, h3]
  · rintro ⟨c, h1, h2, rfl⟩
    exact ⟨putV_ex hk hk' _ h2, h2⟩
end Go.Proofs.YtaklcaejeaiagaaE
