/- A part of the proof of a law of the given program: the logic of runs over laid-out memory. No condition of its own. -/
import Derived.Test.YtkpojkhedmeneaaEE14
namespace Go.Proofs.YtkpojkhedmeneaaE
open Go.RowKit
section
variable (P : Program) (R : Array Oper) (st : Nat → Stp) (r0 : List DV) (H0 : Heap)
def dstN (i : Nat) : Option Tmp := (R[i]?).bind (·.dst)
def usesN (i : Nat) : List Tmp := match R[i]? with | some o => o.looksAt R | none => []
def rN : Nat → List DV
  | 0 => r0
  | i + 1 => put (rN i) (dstN R i) (st i).v
def hN : Nat → Heap
  | 0 => H0
  | i + 1 => merge (st i).W (hN i) (st i).H
def rE (E : Nat → Bool) : Nat → List DV
  | 0 => r0
  | i + 1 => if E i then put (rE E i) (dstN R i) (st i).v else rE E i
def hE (E : Nat → Bool) : Nat → Heap
  | 0 => H0
  | i + 1 => if E i then merge (st i).W (hE E i) (st i).H else pad (hE E i) (st i).H
end
/-- What two operations in open order must not share. -/
structure Apart (R : Array Oper) (st : Nat → Stp) (H0 : Heap) (k j : Nat) : Prop where
  use : ∀ d, dstN R k = some d → d ∉ usesN R j
  dst : ∀ d, dstN R k = some d → dstN R j ≠ some d
  wr : ∀ b, b ∈ (st k).W → (st j).X.contains b = true
  new : ∀ b, (hN st H0 k).length ≤ b → b < (st k).H.length → (st j).X.contains b = true
section
variable {P : Program} {R : Array Oper} {st : Nat → Stp} {r0 : List DV} {H0 : Heap} {E : Nat → Bool}
theorem hE_length : ∀ k, (hE st H0 E k).length = (hN st H0 k).length
  | 0 => rfl
  | k + 1 => by
    have := hE_length k
    simp only [hE, hN]
    split
    · rw [merge_length, merge_length, this]
    · rw [pad_length, merge_length, this]
theorem hN_succ {k : Nat} (hl : (hN st H0 k).length ≤ (st k).H.length) : (hN st H0 (k + 1)).length = (st k).H.length := by
  simp only [hN, merge_length]; omega
theorem hN_mono {i j : Nat} (h : i ≤ j) : (hN st H0 i).length ≤ (hN st H0 j).length := by
  induction h with
  | refl => exact Nat.le_refl _
  | step h ih => simp only [hN, merge_length]; omega
/-- What is done, and what is not: an operation that may go now meets the blocks that it sees as it would in the text's order. -/
structure Going (R : Array Oper) (st : Nat → Stp) (H0 : Heap) (E : Nat → Bool) (j : Nat) : Prop where
  not : E j = false
  lo : ∀ k, k < j → E k = false → Apart R st H0 k j
  hi : ∀ k, j < k → E k = true → Apart R st H0 k j
theorem hE_seen1 {j : Nat} (hg : Going R st H0 E j) {b : Nat} (hb : (st j).X.contains b = false) : ∀ k, k ≤ j → look (hE st H0 E k) b = look (hN st H0 k) b
  | 0, _ => rfl
  | k + 1, hk => by
    have ih := hE_seen1 hg hb k (by omega)
    have hlen := hE_length (st := st) (H0 := H0) (E := E) k
    simp only [hE, hN]
    cases hE : E k with
    | true =>
      simp only [if_true, merge_look, hlen, ih]
    | false =>
      simp only [Bool.false_eq_true, if_false, pad_look, ih, merge_look]
      have ha := hg.lo k (by omega) hE
      have hw : (st k).W.contains b = false := by
        cases hc : (st k).W.contains b with
        | false => rfl
        | true => rw [ha.wr b (by simpa using hc)] at hb; cases hb
      rw [hw]
      split
      · rfl
      · rename_i hlt
        by_cases hx : b < (st k).H.length
        · rw [ha.new b (by omega) hx] at hb; cases hb
        · rw [look_ge (by omega), look_ge (by omega)]
theorem hE_seen2 {j : Nat} (hg : Going R st H0 E j) {b : Nat} (hb : (st j).X.contains b = false) (hlt : b < (hN st H0 j).length) : ∀ k, look (hE st H0 E (j + k)) b = look (hN st H0 j) b
  | 0 => hE_seen1 hg hb j (Nat.le_refl _)
  | k + 1 => by
    have ih := hE_seen2 hg hb hlt k
    have hlen := hE_length (st := st) (H0 := H0) (E := E) (j + k)
    have hm := hN_mono (st := st) (H0 := H0) (i := j) (j := j + k) (by omega)
    show look (hE st H0 E (j + k + 1)) b = _
    simp only [hE]
    cases hE : E (j + k) with
    | true =>
      have ha := hg.hi (j + k) (by rcases Nat.eq_zero_or_pos k with h | h; (subst h; rw [Nat.add_zero, hg.not] at hE; cases hE); omega) hE
      have hw : (st (j + k)).W.contains b = false := by
        cases hc : (st (j + k)).W.contains b with
        | false => rfl
        | true => rw [ha.wr b (by simpa using hc)] at hb; cases hb
      simp only [if_true, merge_look, hlen]
      rw [if_pos (by omega), hw]
      simpa using ih
    | false => simp only [Bool.false_eq_true, if_false, pad_look, ih]
theorem rget_put (r : List DV) (d : Option Tmp) (v : DV) (t : Nat) : (put r d v).getD t (.tup []) = if d = some t ∧ t < r.length then v else r.getD t (.tup []) := by
  cases d with
  | none => simp [put]
  | some d =>
    simp only [put, List.getD_eq_getElem?_getD, List.getElem?_set, Option.some.injEq]
    by_cases h : d = t
    · subst h
      by_cases h2 : d < r.length
      · simp [h2]
      · simp [h2]
    · simp [h]
theorem put_length (r : List DV) (d : Option Tmp) (v : DV) : (put r d v).length = r.length := by cases d <;> simp [put]
theorem rE_length : ∀ k, (rE R st r0 E k).length = r0.length
  | 0 => rfl
  | k + 1 => by simp only [rE]; split; (rw [put_length]; exact rE_length k); exact rE_length k
theorem rN_length : ∀ k, (rN R st r0 k).length = r0.length
  | 0 => rfl
  | k + 1 => by simp only [rN]; rw [put_length]; exact rN_length k
theorem rE_seen1 {j : Nat} (hg : Going R st H0 E j) {t : Nat} (ht : t ∈ usesN R j) : ∀ k, k ≤ j → (rE R st r0 E k).getD t (.tup []) = (rN R st r0 k).getD t (.tup [])
  | 0, _ => rfl
  | k + 1, hk => by
    have ih := rE_seen1 hg ht k (by omega)
    simp only [rE, rN]
    rw [rget_put, rN_length]
    cases hE : E k with
    | true => rw [if_pos rfl, rget_put, rE_length, ih]
    | false =>
      simp only [Bool.false_eq_true, if_false]
      have ha := hg.lo k (by omega) hE
      rw [if_neg (fun h => ha.use t h.1 ht), ih]
theorem rE_seen2 {j : Nat} (hg : Going R st H0 E j) {t : Nat} (ht : t ∈ usesN R j) : ∀ k, (rE R st r0 E (j + k)).getD t (.tup []) = (rN R st r0 j).getD t (.tup [])
  | 0 => rE_seen1 hg ht j (Nat.le_refl _)
  | k + 1 => by
    have ih := rE_seen2 hg ht k
    show (rE R st r0 E (j + k + 1)).getD t (.tup []) = _
    simp only [rE]
    cases hE : E (j + k) with
    | true =>
      have ha := hg.hi (j + k) (by rcases Nat.eq_zero_or_pos k with h | h; (subst h; rw [Nat.add_zero, hg.not] at hE; cases hE); omega) hE
      rw [if_pos rfl, rget_put, if_neg (fun h => ha.use t h.1 ht), ih]
    | false => simp only [Bool.false_eq_true, if_false, ih]
def addE (E : Nat → Bool) (j : Nat) : Nat → Bool := fun k => E k || k == j
theorem rE_lo {E E' : Nat → Bool} : ∀ k, (∀ i, i < k → E' i = E i) → rE R st r0 E' k = rE R st r0 E k
  | 0, _ => rfl
  | k + 1, h => by simp only [rE]; rw [h k (by omega), rE_lo k fun i hi => h i (by omega)]
theorem hE_lo {E E' : Nat → Bool} : ∀ k, (∀ i, i < k → E' i = E i) → hE st H0 E' k = hE st H0 E k
  | 0, _ => rfl
  | k + 1, h => by simp only [hE]; rw [h k (by omega), hE_lo k fun i hi => h i (by omega)]
/-- The registers behind one more operation. -/
theorem rE_add {j : Nat} (hg : Going R st H0 E j) : ∀ k, rE R st r0 (addE E j) (j + 1 + k) = put (rE R st r0 E (j + 1 + k)) (dstN R j) (st j).v
  | 0 => by
    have hlo := rE_lo (R := R) (st := st) (r0 := r0) (E := E) (E' := addE E j) j fun i hi => by simp [addE, Nat.ne_of_lt hi]
    simp only [rE, hg.not, hlo, Bool.false_eq_true, if_false]
    rw [if_pos (by simp [addE])]
  | k + 1 => by
    have ih := rE_add hg k
    show rE R st r0 (addE E j) (j + 1 + k + 1) = put (rE R st r0 E (j + 1 + k + 1)) _ _
    have he : addE E j (j + 1 + k) = E (j + 1 + k) := by simp [addE]; omega
    simp only [rE, he, ih]
    cases hE : E (j + 1 + k) with
    | false => rfl
    | true =>
      simp only [if_true]
      have ha := hg.hi (j + 1 + k) (by omega) hE
      cases hd : dstN R (j + 1 + k) with
      | none => rfl
      | some d =>
        cases hd2 : dstN R j with
        | none => rfl
        | some d2 =>
          have hne : d2 ≠ d := fun e => ha.dst d hd (by rw [hd2, e])
          simp only [put]
          rw [List.set_comm _ _ hne]
theorem hE_add {j : Nat} (hl : (hN st H0 j).length ≤ (st j).H.length) (hg : Going R st H0 E j) (hX : ∀ b, b ∈ (st j).W → (st j).X.contains b = false ∧ b < (hN st H0 j).length)
    (hA : ∀ k, j < k → E k = true → ∀ b, b ∈ (st k).W → (st j).X.contains b = true) (hA2 : ∀ k, j < k → E k = true → ∀ b, (hN st H0 j).length ≤ b → b < (st j).H.length → b ∉ (st k).W) :
    ∀ k b, look (hE st H0 (addE E j) (j + 1 + k)) b = if (st j).W.contains b = true ∨ ((hN st H0 j).length ≤ b ∧ b < (st j).H.length) then look (st j).H b else look (hE st H0 E (j + 1 + k)) b
  | 0, b => by
    have hlo := hE_lo (st := st) (H0 := H0) (E := E) (E' := addE E j) j fun i hi => by simp [addE, Nat.ne_of_lt hi]
    have hlen := hE_length (st := st) (H0 := H0) (E := E) j
    simp only [hE, hg.not, hlo, Bool.false_eq_true, if_false]
    rw [if_pos (by simp [addE]), merge_look, pad_look, hlen]
    by_cases hb : b < (hN st H0 j).length
    · rw [if_pos hb]
      by_cases hw : (st j).W.contains b = true
      · rw [if_pos hw, if_pos (.inl hw)]
      · rw [if_neg hw, if_neg (by rintro (h | h); (exact hw h); omega)]
    · rw [if_neg hb]
      have hw : ¬ (st j).W.contains b = true := fun h => hb (hX b (by simpa using h)).2
      by_cases hx : b < (st j).H.length
      · rw [if_pos (.inr ⟨by omega, hx⟩)]
      · rw [if_neg (by rintro (h | h); (exact hw h); omega), look_ge (by omega), look_ge (by omega)]
  | k + 1, b => by
    have ih := hE_add hl hg hX hA hA2 k b
    have hlen := hE_length (st := st) (H0 := H0) (E := E) (j + 1 + k)
    have hlen' := hE_length (st := st) (H0 := H0) (E := addE E j) (j + 1 + k)
    have hm := hN_mono (st := st) (H0 := H0) (i := j + 1) (j := j + 1 + k) (by omega)
    have hs := hN_succ hl
    show look (hE st H0 (addE E j) (j + 1 + k + 1)) b = if _ then _ else look (hE st H0 E (j + 1 + k + 1)) b
    have he : addE E j (j + 1 + k) = E (j + 1 + k) := by simp [addE]; omega
    simp only [hE, he]
    cases hE : E (j + 1 + k) with
    | false => simp only [Bool.false_eq_true, if_false, pad_look, ih]
    | true =>
      simp only [if_true, merge_look, hlen, hlen', ih]
      by_cases hb : b < (hN st H0 (j + 1 + k)).length
      · rw [if_pos hb, if_pos hb]
        by_cases hw : (st (j + 1 + k)).W.contains b = true
        · rw [if_pos hw, if_pos hw, if_neg]
          rintro (h | h)
          · have h1 := hA (j + 1 + k) (by omega) hE b (by simpa using hw)
            have h2 := (hX b (by simpa using h)).1
            rw [h1] at h2; cases h2
          · exact hA2 (j + 1 + k) (by omega) hE b h.1 h.2 (by simpa using hw)
        · rw [if_neg hw, if_neg hw]
      · rw [if_neg hb, if_neg hb, if_neg]
        rintro (h | h)
        · have := (hX b (by simpa using h)).2; omega
        · omega
end
end Go.Proofs.YtkpojkhedmeneaaE
