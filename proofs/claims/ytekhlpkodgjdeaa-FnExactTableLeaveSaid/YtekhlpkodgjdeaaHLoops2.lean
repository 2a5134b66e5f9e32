/- Loops that ask something of each element of a list, as the print tells them, by what they come to. Plain Lean: no program. Conditions: lists are shorter than 2 to the 62, the rounds are enough. -/
import Derived.Test.YtekhlpkodgjdeaaHLoops
namespace Go.Proofs.YtekhlpkodgjdeaaH
open Go.RowKit Go.Proofs.YtekhlpkodgjdeaaW.PrintWords Go.Proofs.YtekhlpkodgjdeaaW.PrintLast Go.Proofs.YtekhlpkodgjdeaaW.PrintMore
set_option linter.unusedVariables false
set_option linter.unusedSimpArgs false
/-- Does it rise, behind a number? -/
def upB {α : Type} (key : α → Int) : Option Int → List α → Bool
  | _, [] => true
  | none, b :: t => upB key (some (key b)) t
  | some a, b :: t => decide (a < key b) && upB key (some (key b)) t
def allUp {α : Type} (ok : α → Bool) (key : α → Int) : Option Int → List α → Bool
  | _, [] => true
  | none, b :: t => ok b && allUp ok key (some (key b)) t
  | some a, b :: t => ok b && decide (a < key b) && allUp ok key (some (key b)) t
theorem allUp_eq {α : Type} (ok : α → Bool) (key : α → Int) : ∀ (l : List α) (a : Option Int), allUp ok key a l = (l.all ok && upB key a l)
  | [], none => rfl
  | [], some _ => rfl
  | b :: t, none => by simp [allUp, upB, allUp_eq ok key t, Bool.and_assoc]
  | b :: t, some a => by
    simp only [allUp, upB, allUp_eq ok key t, List.all_cons]
    cases ok b <;> cases decide (a < key b) <;> cases t.all ok <;> rfl
theorem any_not {α : Type} (p ok : α → Bool) : ∀ (l : List α), (∀ a ∈ l, p a = !ok a) → (!l.any p) = l.all ok
  | [], _ => rfl
  | a :: t, h => by
    have := any_not p ok t (fun b hb => h b (by simp [hb]))
    simp only [List.any_cons, List.all_cons, h a (by simp), ← this, Bool.not_or, Bool.not_not]
theorem loop_any {α : Type} (z : α) (p : α → Bool) (F : Nat → α → Option Bool) (L : Nat → List α → Int → Int → Option Int) (K : Nat) (l : List α)
    (hL : ∀ k x n i, L (k + 1) x n i = if i < n then (if 0 ≤ i then (if i < (x.length : Int) then ((F k (x.getD i.toNat z)).bind fun t => if t = true then some i else L k x n (wrap64 (i + 1))) else none) else none) else some (-1))
    (hl : l.length < 4611686018427387904) (hF : ∀ k a, a ∈ l → K ≤ k → F k a = some (p a)) :
    ∀ (d k i : Nat), l.length - i = d → i ≤ l.length → d + K < k → ∃ v, L k l (l.length : Int) (i : Int) = some v ∧ decide (v ≥ 0) = (l.drop i).any p := by
  intro d
  induction d with
  | zero =>
    intro k i hd hi hk
    obtain ⟨k, rfl⟩ := succ_of hk
    refine ⟨-1, by rw [hL, if_neg (by omega)], ?_⟩
    rw [List.drop_of_length_le (by omega)]; rfl
  | succ d ih =>
    intro k i hd hi hk
    obtain ⟨k, rfl⟩ := succ_of hk
    rw [hL, if_pos (by omega), if_pos (by omega), if_pos (by omega), getD_cast, getD_lt l z i (by omega), hF k _ (List.getElem_mem _) (by omega)]
    simp only [Option.bind_some]
    rw [List.drop_eq_getElem_cons (by omega), List.any_cons]
    by_cases hp : p l[i] = true
    · rw [if_pos hp, hp]
      exact ⟨i, rfl, by simp⟩
    · rw [if_neg hp, wrap_suc i (by omega)]
      have hp' : p l[i] = false := by simpa using hp
      rw [hp', Bool.false_or]
      exact ih k (i + 1) (by omega) (by omega) (by omega)
theorem loop_rise {α : Type} (z : α) (key : α → Int) (L : Nat → List α → Int → Option Bool) (K : Nat) (l : List α)
    (hL : ∀ k (i : Nat), K ≤ k → 1 ≤ i → i < l.length → L (k + 1) l (i : Int) = if key (l.getD i z) ≤ key (l.getD (i - 1) z) then some false else L k l (wrap64 ((i : Int) + 1)))
    (hE : ∀ k (i : Nat), ¬ i < l.length → L (k + 1) l (i : Int) = some true)
    (hl : l.length < 4611686018427387904) (k : Nat) (hk : l.length + K < k) : L k l 1 = some (upB key none l) := by
  have main : ∀ (d k i : Nat), l.length - i = d → 1 ≤ i → i ≤ l.length → d + K < k → L k l (i : Int) = some (upB key (some (key (l.getD (i - 1) z))) (l.drop i)) := by
    intro d
    induction d with
    | zero =>
      intro k i hd h1 hi hk
      obtain ⟨k, rfl⟩ := succ_of hk
      rw [hE k _ (by omega), List.drop_of_length_le (by omega)]; rfl
    | succ d ih =>
      intro k i hd h1 hi hk
      obtain ⟨k, rfl⟩ := succ_of hk
      rw [hL k i (by omega) h1 (by omega), List.drop_eq_getElem_cons (by omega), getD_lt l z i (by omega)]
      simp only [upB]
      by_cases hp : key l[i] ≤ key (l.getD (i - 1) z)
      · rw [if_pos hp, decide_eq_false (by omega)]; rfl
      · rw [if_neg hp, decide_eq_true (by omega), Bool.true_and, wrap_suc i (by omega), ih k (i + 1) (by omega) (by omega) (by omega) (by omega), Nat.add_sub_cancel, getD_lt l z i (by omega)]
  cases hl0 : l with
  | nil =>
    obtain ⟨k, rfl⟩ := succ_of hk
    have := hE k 1 (by rw [hl0]; simp)
    rw [hl0] at this
    simp only [upB]
    exact this
  | cons a t =>
    have h := main (l.length - 1) k 1 rfl (by omega) (by rw [hl0]; simp) (by omega)
    rw [hl0] at h
    simpa [upB] using h
theorem loop_spec {α : Type} (z : α) (ok : α → Bool) (key : α → Int) (L : Nat → List α → Int → Option Bool) (K : Nat) (l : List α)
    (hL : ∀ k (i : Nat), K ≤ k → i < l.length → L (k + 1) l (i : Int) = if (ok (l.getD i z) && (decide (i = 0) || decide (key (l.getD (i - 1) z) < key (l.getD i z)))) = true then L k l (wrap64 ((i : Int) + 1)) else some false)
    (hE : ∀ k (i : Nat), ¬ i < l.length → L (k + 1) l (i : Int) = some true)
    (hl : l.length < 4611686018427387904) (k : Nat) (hk : l.length + K < k) : L k l 0 = some (allUp ok key none l) := by
  have main : ∀ (d k i : Nat), l.length - i = d → i ≤ l.length → d + K < k → L k l (i : Int) = some (allUp ok key (if i = 0 then none else some (key (l.getD (i - 1) z))) (l.drop i)) := by
    intro d
    induction d with
    | zero =>
      intro k i hd hi hk
      obtain ⟨k, rfl⟩ := succ_of hk
      rw [hE k _ (by omega), List.drop_of_length_le (by omega)]
      split <;> rfl
    | succ d ih =>
      intro k i hd hi hk
      obtain ⟨k, rfl⟩ := succ_of hk
      rw [hL k i (by omega) (by omega), List.drop_eq_getElem_cons (by omega), getD_lt l z i (by omega), wrap_suc i (by omega), ih k (i + 1) (by omega) (by omega) (by omega), Nat.add_sub_cancel, getD_lt l z i (by omega)]
      rw [if_neg (Nat.succ_ne_zero i)]
      by_cases h0 : i = 0
      · simp only [h0, if_true, decide_true, Bool.true_or, Bool.and_true]
        cases hok : ok l[0] <;> simp [allUp, hok]
      · simp only [h0, if_false, decide_false, Bool.false_or]
        by_cases hok : (ok l[i] && decide (key (l.getD (i - 1) z) < key l[i])) = true
        · rw [if_pos hok]; simp only [allUp]; rw [hok, Bool.true_and]
        · rw [if_neg hok]
          have : (ok l[i] && decide (key (l.getD (i - 1) z) < key l[i])) = false := by simpa using hok
          simp only [allUp]; rw [this, Bool.false_and]
  have h := main l.length k 0 (by omega) (by omega) hk
  simpa using h
end Go.Proofs.YtekhlpkodgjdeaaH
