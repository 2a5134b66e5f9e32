/- A part of the proof of a law of the given program: the logic of runs over laid-out memory. No condition of its own. -/
import Derived.Test.YtkpojkhedmeneaaEE13
namespace Go.Proofs.YtkpojkhedmeneaaE
open Go.RowKit
/-! ### a region whose order is drawn -/
structure Stp where
  X : List Nat
  W : List Nat
  v : DV
  H : Heap
instance : Inhabited Stp := ⟨⟨[], [], .any, []⟩⟩
def Ent.flag (f : Bool) : Ent → Ent
  | .one w r => .one (f && w) r
  | .fam w m g => .fam (f && w) m g
theorem Ent.flag_w (f : Bool) (e : Ent) : (e.flag f).w = (f && e.w) := by cases e <;> rfl
theorem Ent.flag_m (f : Bool) (e : Ent) : (e.flag f).m = e.m := by cases e <;> rfl
theorem Ent.flag_row (f : Bool) (e : Ent) : (e.flag f).row = e.row := by cases e <;> rfl
def maskH (X W : List Nat) : Nat → Heap → Heap
  | _, [] => []
  | b, x :: H => (if X.contains b then none else x.map (Ent.flag (W.contains b))) :: maskH X W (b + 1) H
theorem maskH_length (X W : List Nat) : ∀ (H : Heap) (b : Nat), (maskH X W b H).length = H.length
  | [], _ => rfl
  | _ :: H, b => by simp [maskH, maskH_length X W H (b + 1)]
theorem maskH_look (X W : List Nat) : ∀ (H : Heap) (b k : Nat), look (maskH X W b H) k = if X.contains (b + k) then none else (look H k).map (Ent.flag (W.contains (b + k)))
  | [], b, k => by simp [maskH, look]
  | x :: H, b, 0 => by simp [maskH, look]
  | x :: H, b, k + 1 => by
    have := maskH_look X W H (b + 1) k
    have e1 : look (maskH X W b (x :: H)) (k + 1) = look (maskH X W (b + 1) H) k := by simp [maskH, look]
    have e2 : look (x :: H) (k + 1) = look H k := by simp [look]
    rw [e1, e2, this, show b + 1 + k = b + (k + 1) by omega]
def mergeH (W : List Nat) (H' : Heap) : Nat → Heap → Heap
  | _, [] => []
  | b, x :: H => (if W.contains b then look H' b else x) :: mergeH W H' (b + 1) H
theorem mergeH_length (W : List Nat) (H' : Heap) : ∀ (H : Heap) (b : Nat), (mergeH W H' b H).length = H.length
  | [], _ => rfl
  | _ :: H, b => by simp [mergeH, mergeH_length W H' H (b + 1)]
theorem mergeH_look (W : List Nat) (H' : Heap) : ∀ (H : Heap) (b k : Nat), k < H.length → look (mergeH W H' b H) k = if W.contains (b + k) then look H' (b + k) else look H k
  | [], b, k, h => by simp at h
  | x :: H, b, 0, _ => by simp [mergeH, look]
  | x :: H, b, k + 1, h => by
    have := mergeH_look W H' H (b + 1) k (by simpa using h)
    have e1 : look (mergeH W H' b (x :: H)) (k + 1) = look (mergeH W H' (b + 1) H) k := by simp [mergeH, look]
    have e2 : look (x :: H) (k + 1) = look H k := by simp [look]
    rw [e1, e2, this, show b + 1 + k = b + (k + 1) by omega]
def merge (W : List Nat) (H H' : Heap) : Heap := mergeH W H' 0 H ++ H'.drop H.length
def pad (H H' : Heap) : Heap := H ++ List.replicate (H'.length - H.length) none
theorem merge_length (W : List Nat) (H H' : Heap) : (merge W H H').length = H.length + (H'.length - H.length) := by simp [merge, mergeH_length]
theorem pad_length (H H' : Heap) : (pad H H').length = H.length + (H'.length - H.length) := by simp [pad]
theorem look_drop (H : Heap) (n k : Nat) : look (H.drop n) k = look H (n + k) := by simp [look, List.getElem?_drop]
theorem merge_look (W : List Nat) (H H' : Heap) (k : Nat) : look (merge W H H') k = if k < H.length then (if W.contains k then look H' k else look H k) else look H' k := by
  unfold merge
  rw [look_append, mergeH_length]
  split
  · rename_i h; rw [mergeH_look W H' H 0 k h, Nat.zero_add]
  · rw [look_drop]; congr 1; omega
theorem pad_look (H H' : Heap) (k : Nat) : look (pad H H') k = look H k := by
  unfold pad
  rw [look_append]
  split
  · rfl
  · rename_i h
    rw [look_ge (H := H) (by omega)]
    unfold look
    rw [List.getElem?_replicate]
    split <;> rfl
/-- Of the blocks of a list those that came in the region itself. -/
def newX (lo : Nat) : List Nat → List Nat
  | [] => []
  | b :: l => if lo ≤ b then b :: newX lo l else newX lo l
theorem newX_contains {lo b : Nat} (hb : lo ≤ b) : ∀ {l : List Nat}, l.contains b = true → (newX lo l).contains b = true
  | [], h => by simp at h
  | c :: l, h => by
    simp only [List.contains_cons, Bool.or_eq_true, beq_iff_eq] at h
    unfold newX
    split
    · simp only [List.contains_cons, Bool.or_eq_true, beq_iff_eq]
      rcases h with h | h
      · exact .inl h
      · exact .inr (newX_contains hb h)
    · rcases h with h | h
      · omega
      · exact newX_contains hb h
/-- Every block that is named is seen, and below 'n'. -/
def seenL (X : List Nat) (n : Nat) : DV → Prop
  | .ptr b _ _ _ => b < n ∧ X.contains b = false
  | .sl b _ _ _ _ => b < n ∧ X.contains b = false
  | .fn _ caps => ∀ b ∈ caps, b < n ∧ X.contains b = false
  | _ => True
def seenE (X : List Nat) (n : Nat) : DV → Prop
  | .agg l => ∀ x ∈ l, seenL X n x
  | x => seenL X n x
def seenV (X : List Nat) (n : Nat) : DV → Prop
  | .tup l => ∀ x ∈ l, seenE X n x
  | x => seenE X n x
def seenRow (X : List Nat) (n : Nat) (r : Row) : Prop :=
  match r with
  | .lst _ xs => ∀ es ∈ xs, ∀ x ∈ es, seenL X n x
  | .arr _ m f => ∀ i, i < m → ∀ x ∈ f i, seenL X n x
def seenEnt (X : List Nat) (n : Nat) (e : Ent) : Prop :=
  match e with
  | .one _ r => seenRow X n r
  | .fam _ m f => ∀ q, q < m → seenRow X n (f q)
theorem seenRow_at {X : List Nat} {n : Nat} {r : Row} (h : seenRow X n r) {i : Nat} (hi : i < r.n) : ∀ x ∈ r.at i, seenL X n x := by
  cases r with
  | lst z xs =>
    simp only [Row.n] at hi
    intro x hx
    simp only [Row.at, List.getD_eq_getElem?_getD, List.getElem?_eq_getElem hi, Option.getD_some] at hx
    exact h _ (List.getElem_mem hi) x hx
  | arr z m f => exact h i hi
theorem seenEnt_row {X : List Nat} {n : Nat} {e : Ent} (h : seenEnt X n e) {q : Nat} (hq : q < e.m) : seenRow X n (e.row q) := by
  cases e with
  | one w r => exact h
  | fam w m f => exact h q hq
end Go.Proofs.YtkpojkhedmeneaaE
