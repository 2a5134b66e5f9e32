/- Loops over lists, as the print tells them, by what they come to. Plain Lean: no program. Conditions: lists are shorter than 2 to the 62, the rounds are enough. -/
import Derived.Test.YtekhlpkodgjdeaaWWords
import Derived.Test.YtekhlpkodgjdeaaWMore
namespace Go.Proofs.YtekhlpkodgjdeaaH
open Go.RowKit Go.Proofs.YtekhlpkodgjdeaaW.PrintWords Go.Proofs.YtekhlpkodgjdeaaW.PrintLast Go.Proofs.YtekhlpkodgjdeaaW.PrintMore
set_option linter.unusedVariables false
set_option linter.unusedSimpArgs false

theorem wrap_id {x : Int} (h0 : -9223372036854775808 ≤ x) (h1 : x ≤ 9223372036854775807) : wrap64 x = x := by unfold wrap64; omega
theorem wrap_suc (i : Nat) (h : i < 4611686018427387904) : wrap64 ((i : Int) + 1) = ((i + 1 : Nat) : Int) := by rw [wrap_id (by omega) (by omega)]; omega
theorem getD_cast {α : Type} (l : List α) (z : α) (i : Nat) : l.getD ((i : Int)).toNat z = l.getD i z := by rw [Int.toNat_natCast]
theorem getD_lt {α : Type} (l : List α) (z : α) (i : Nat) (h : i < l.length) : l.getD i z = l[i] := by simp [List.getD_eq_getElem?_getD, h]
theorem succ_of {k d : Nat} (h : d < k) : ∃ m, k = m + 1 := ⟨k - 1, by omega⟩

/-- Equal lists are told equal. -/
theorem loop_eq {α : Type} (z : α) (E : Nat → α → α → Option Bool) (L : Nat → List α → List α → Int → Option Bool)
    (hL : ∀ k x y i, L (k + 1) x y i = if i < (x.length : Int) then (if 0 ≤ i then (if i < (y.length : Int) then ((E k (x.getD i.toNat z) (y.getD i.toNat z)).bind fun t => if t = true then L k x y (wrap64 (i + 1)) else some false) else none) else none) else some true)
    (K : Nat) (l : List α) (hl : l.length < 4611686018427387904) (hE : ∀ k a, a ∈ l → K ≤ k → E k a a = some true) :
    ∀ (d : Nat) (k i : Nat), l.length - i = d → i ≤ l.length → d + K < k → L k l l (i : Int) = some true := by
  intro d
  induction d with
  | zero =>
    intro k i hd hi hk
    obtain ⟨k, rfl⟩ := succ_of hk
    rw [hL, if_neg (by omega)]
  | succ d ih =>
    intro k i hd hi hk
    obtain ⟨k, rfl⟩ := succ_of hk
    rw [hL, if_pos (by omega), if_pos (by omega), if_pos (by omega), getD_cast, getD_lt l z i (by omega), hE k _ (List.getElem_mem _) (by omega)]
    simp only [Option.bind_some, if_true]
    rw [wrap_suc i (by omega)]
    exact ih k (i + 1) (by omega) (by omega) (by omega)

/-- A list made anew, element by element. -/
theorem loop_map {α β γ : Type} (z : α) (G : Nat → α → Option γ) (mk : γ → β) (g : α → β) (L : Nat → List α → List β → Int → Option (List β))
    (hL : ∀ k x y i, L (k + 1) x y i = if i < (x.length : Int) then (if 0 ≤ i then ((G k (x.getD i.toNat z)).bind fun b => if i < (y.length : Int) then L k x (y.set (i : Int).toNat (mk b)) (wrap64 (i + 1)) else none) else none) else some y)
    (K : Nat) (l : List α) (hl : l.length < 4611686018427387904) (hG : ∀ k a, a ∈ l → K ≤ k → ∃ c, G k a = some c ∧ mk c = g a) :
    ∀ (d : Nat) (k i : Nat) (y : List β), l.length - i = d → i ≤ l.length → y.length = l.length → y.take i = (l.take i).map g → d + K < k → L k l y (i : Int) = some (l.map g) := by
  intro d
  induction d with
  | zero =>
    intro k i y hd hi hy ht hk
    obtain ⟨k, rfl⟩ := succ_of hk
    rw [hL, if_neg (by omega)]
    have e : i = l.length := by omega
    subst e
    rw [List.take_of_length_le (by omega), List.take_of_length_le (by omega)] at ht
    rw [ht]
  | succ d ih =>
    intro k i y hd hi hy ht hk
    obtain ⟨k, rfl⟩ := succ_of hk
    obtain ⟨c, hc, hm⟩ := hG k l[i] (List.getElem_mem _) (by omega)
    rw [hL, if_pos (by omega), if_pos (by omega), getD_cast, getD_lt l z i (by omega), hc]
    simp only [Option.bind_some]
    rw [if_pos (by omega), wrap_suc i (by omega), Int.toNat_natCast, hm]
    refine ih k (i + 1) _ (by omega) (by omega) (by simpa using hy) ?_ (by omega)
    rw [List.take_succ_eq_append_getElem (by simp; omega), List.take_succ_eq_append_getElem (by omega), List.map_append, ← ht]
    simp [List.take_set_of_le (Nat.le_refl i)]

/-- Marks: what each element becomes, and the counter behind it. -/
def markL {α : Type} (mk : α → Int → α) (nx : α → Int → Int) : Int → List α → Int × List α
  | x, [] => (x, [])
  | x, a :: t => ((markL mk nx (nx a x) t).1, mk a x :: (markL mk nx (nx a x) t).2)
theorem markL_len {α : Type} (mk : α → Int → α) (nx : α → Int → Int) : ∀ (l : List α) (x : Int), (markL mk nx x l).2.length = l.length
  | [], _ => rfl
  | _ :: t, x => by simp [markL, markL_len mk nx t]

theorem loop_mark {α : Type} (z : α) (mk : α → Int → α) (nx : α → Int → Int) (L : Nat → List α → Int → Int → Option (Int × List α)) (K : Nat)
    (hL : ∀ k (x : List α) c (i : Nat) (_ : i < x.length), K ≤ k → L (k + 1) x c (i : Int) = L k (x.set i (mk (x.getD i z) c)) (nx (x.getD i z) c) (wrap64 ((i : Int) + 1)))
    (hE : ∀ k (x : List α) c (i : Nat), ¬ i < x.length → L (k + 1) x c (i : Int) = some (c, x)) :
    ∀ (t p : List α) (k : Nat) (c : Int), p.length + t.length < 4611686018427387904 → t.length + K < k → L k (p ++ t) c (p.length : Int) = some ((markL mk nx c t).1, p ++ (markL mk nx c t).2) := by
  intro t
  induction t with
  | nil =>
    intro p k c hl hk
    obtain ⟨k, rfl⟩ := succ_of hk
    rw [hE k _ _ _ (by simp)]
    simp [markL]
  | cons a t ih =>
    intro p k c hl hk
    obtain ⟨k, rfl⟩ := succ_of hk
    rw [List.length_cons] at hl hk
    rw [hL k _ _ _ (by simp) (by omega), wrap_suc _ (by omega)]
    have e1 : (p ++ a :: t).getD p.length z = a := by simp [List.getD_eq_getElem?_getD]
    have e2 : (p ++ a :: t).set p.length (mk a c) = (p ++ [mk a c]) ++ t := by simp
    have h := ih (p ++ [mk a c]) k (nx a c) (by simp; omega) (by omega)
    rw [e1, e2]
    rw [List.length_append, List.length_singleton] at h
    rw [h]
    simp [markL]

/-- Marks are found again. -/
theorem loop_held {α : Type} (z : α) (mk : α → Int → α) (nx : α → Int → Int) (L : Nat → List α → Int → Int → Option Int) (K : Nat)
    (hL : ∀ k (x : List α) c (i : Nat) (_ : i < x.length) a, x.getD i z = mk a c → K ≤ k → L (k + 1) x c (i : Int) = L k x (nx a c) (wrap64 ((i : Int) + 1)))
    (hE : ∀ k (x : List α) c (i : Nat), ¬ i < x.length → L (k + 1) x c (i : Int) = some c) :
    ∀ (t p : List α) (k : Nat) (c : Int), p.length + t.length < 4611686018427387904 → t.length + K < k → L k (p ++ (markL mk nx c t).2) c (p.length : Int) = some (markL mk nx c t).1 := by
  intro t
  induction t with
  | nil =>
    intro p k c hl hk
    obtain ⟨k, rfl⟩ := succ_of hk
    rw [hE k _ _ _ (by simp [markL])]
    simp [markL]
  | cons a t ih =>
    intro p k c hl hk
    obtain ⟨k, rfl⟩ := succ_of hk
    rw [List.length_cons] at hl hk
    simp only [markL]
    rw [hL k _ _ _ (by simp) a (by simp [List.getD_eq_getElem?_getD]) (by omega), wrap_suc _ (by omega)]
    have h := ih (p ++ [mk a c]) k (nx a c) (by simp; omega) (by omega)
    rw [List.length_append, List.length_singleton, List.append_assoc, List.singleton_append] at h
    exact h
end Go.Proofs.YtekhlpkodgjdeaaH
