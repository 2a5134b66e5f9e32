/- A part of the proof of a law of the given program: contracts of functions. No condition of its own. -/
import Derived.Test.YtaklcaejeaiagaaEW10
import Derived.Test.YtaklcaejeaiagaaECU22
namespace Go.Proofs.YtaklcaejeaiagaaE
open Go.Proofs
set_option maxRecDepth 100000
theorem pg_mem {l : List (Int × Int)} {i : Nat} (h : i < l.length) : (pg l i, ph l i) ∈ l := by
  have : (pg l i, ph l i) = l[i] := by simp [pg, ph, List.getD_eq_getElem?_getD, h]
  rw [this]; exact List.getElem_mem h
theorem mem_pg {l : List (Int × Int)} {x : Int × Int} (h : x ∈ l) : ∃ i, i < l.length ∧ pg l i = x.1 ∧ ph l i = x.2 := by
  obtain ⟨i, h1, rfl⟩ := List.getElem_of_mem h
  exact ⟨i, h1, by simp [pg, List.getD_eq_getElem?_getD, h1], by simp [ph, List.getD_eq_getElem?_getD, h1]⟩
theorem pg_rise {l : List (Int × Int)} (h : l.Pairwise fun x y => x.1 < y.1) {i j : Nat} (hij : i < j) (hj : j < l.length) : pg l i < pg l j := by
  have := List.pairwise_iff_getElem.1 h i j (by omega) hj hij
  simpa [pg, List.getD_eq_getElem?_getD, hj, (by omega : i < l.length)] using this
theorem lastV_cases (m : Nat) (g' h' : Nat → Int) (k _acc : Int) : (∃ i, i < m ∧ g' i = k ∧ ∀ a, lastV m g' h' k a = h' i) ∨ ∀ a, lastV m g' h' k a = a := by
  induction m with
  | zero => exact .inr fun a => rfl
  | succ m ih =>
    simp only [lastV]
    by_cases h : g' m = k
    · exact .inl ⟨m, by omega, h, fun a => by rw [if_pos h]⟩
    · simp only [if_neg h]
      rcases ih with ⟨i, h1, h2, h3⟩ | h1
      · exact .inl ⟨i, by omega, h2, h3⟩
      · exact .inr h1
theorem lastV_idem (m : Nat) (g' h' : Nat → Int) (k acc : Int) : lastV m g' h' k (lastV m g' h' k acc) = lastV m g' h' k acc := by
  rcases lastV_cases m g' h' k acc with ⟨i, _, _, h⟩ | h
  · rw [h, h]
  · rw [h]
theorem putV_isV {n m : Nat} {g h g' h' : Nat → Int} (hk : okP n g h) (hk' : okP m g' h') (k : Int) : isV (putV n g h m g' h' k) := by
  unfold putV
  rcases lastV_cases m g' h' k (getV n g h k) with ⟨i, h1, _, h3⟩ | h3
  · rw [h3]; exact (hk'.2 i h1).1.2
  · rw [h3]
    rcases getV_cases n g h k with ⟨i, h1, _, h3⟩ | h3
    · rw [h3]; exact (hk.2 i h1).1.2
    · rw [h3]; simp only [isV]; omega
theorem putL_ok {n m : Nat} {g h g' h' : Nat → Int} (hk : okP n g h) (hk' : okP m g' h') : okP (putL n g h m g' h' 40).length (pg (putL n g h m g' h' 40)) (ph (putL n g h m g' h' 40)) := by
  refine ⟨putL_len .., fun i hi => ⟨?_, fun h0 => pg_rise (putL_rise ..) (by omega) hi⟩⟩
  obtain ⟨c, h1, h2, h3⟩ := (putL_mem n g h m g' h' _ 40).1 (pg_mem hi)
  have h4 := congrArg Prod.fst h3
  have h5 := congrArg Prod.snd h3
  simp only at h4 h5
  rw [h4, h5]
  exact ⟨by simp only [isK]; omega, putV_isV hk hk' _⟩
theorem putL_get (n m : Nat) (g h g' h' : Nat → Int) (c : Nat) (hc : c < 40) : getV (putL n g h m g' h' 40).length (pg (putL n g h m g' h' 40)) (ph (putL n g h m g' h' 40)) c = putV n g h m g' h' c := by
  have hr := putL_rise n g h m g' h' 40
  by_cases h0 : putV n g h m g' h' c = 0
  · rw [h0]
    refine getV_miss fun i hi he => ?_
    obtain ⟨c2, h1, h2, h3⟩ := (putL_mem n g h m g' h' _ 40).1 (pg_mem hi)
    have h4 := congrArg Prod.fst h3
    simp only at h4
    have h5 : c2 = c := by omega
    subst h5
    exact h2 h0
  · obtain ⟨i, h1, h2, h3⟩ := mem_pg ((putL_mem n g h m g' h' ((c : Int), putV n g h m g' h' c) 40).2 ⟨c, hc, h0, rfl⟩)
    simp only at h2 h3
    exact (getV_hit h1 h2 fun j hj he => by have := pg_rise hr hj h1; omega).trans h3
theorem putL_again (n m : Nat) (g h g' h' : Nat → Int) : ∀ k, k ≤ 40 → putL (putL n g h m g' h' 40).length (pg (putL n g h m g' h' 40)) (ph (putL n g h m g' h' 40)) m g' h' k = putL n g h m g' h' k
  | 0, _ => rfl
  | k + 1, hk => by
    have h1 : putV (putL n g h m g' h' 40).length (pg (putL n g h m g' h' 40)) (ph (putL n g h m g' h' 40)) m g' h' k = putV n g h m g' h' k := by
      show lastV m g' h' k (getV _ _ _ _) = _
      rw [putL_get n m g h g' h' k (by omega)]
      exact lastV_idem ..
    have h2 := putL_again n m g h g' h' k (by omega)
    show (if putV (putL n g h m g' h' 40).length (pg (putL n g h m g' h' 40)) (ph (putL n g h m g' h' 40)) m g' h' k = 0 then putL (putL n g h m g' h' 40).length (pg (putL n g h m g' h' 40)) (ph (putL n g h m g' h' 40)) m g' h' k else putL (putL n g h m g' h' 40).length (pg (putL n g h m g' h' 40)) (ph (putL n g h m g' h' 40)) m g' h' k ++ [((k : Int), putV (putL n g h m g' h' 40).length (pg (putL n g h m g' h' 40)) (ph (putL n g h m g' h' 40)) m g' h' k)]) = (if putV n g h m g' h' k = 0 then putL n g h m g' h' k else putL n g h m g' h' k ++ [((k : Int), putV n g h m g' h' k)])
    rw [h1, h2]
/-- What the second law asks of the answer. -/
theorem put_facts (bb : Bool) {n m : Nat} {g h g' h' : Nat → Int} (hbb : bb = true ↔ okP n g h ∧ okP m g' h') :
    (putR bb n g h m g' h').length ≤ 40 ∧ (∀ i, i < (putR bb n g h m g' h').length → (-1000000 ≤ pg (putR bb n g h m g' h') i ∧ pg (putR bb n g h m g' h') i ≤ 1000000) ∧ (-1000000 ≤ ph (putR bb n g h m g' h') i ∧ ph (putR bb n g h m g' h') i ≤ 1000000)) ∧
    ((putR bb n g h m g' h').length ≠ 0 → (∀ c : Nat, c < 40 → getV (putR bb n g h m g' h').length (pg (putR bb n g h m g' h')) (ph (putR bb n g h m g' h')) c = putV n g h m g' h' c) ∧
      (okP (putR bb n g h m g' h').length (pg (putR bb n g h m g' h')) (ph (putR bb n g h m g' h')) ∧ okP m g' h') ∧ putR true (putR bb n g h m g' h').length (pg (putR bb n g h m g' h')) (ph (putR bb n g h m g' h')) m g' h' = putR bb n g h m g' h') := by
  cases bb
  · refine ⟨by simp [putR], fun i hi => ?_, fun hh => ?_⟩
    · simp [putR] at hi
    · simp [putR] at hh
  · obtain ⟨hk, hk'⟩ := hbb.1 rfl
    have hok := putL_ok hk hk'
    simp only [putR, if_true]
    refine ⟨putL_len .., fun i hi => ?_, fun _ => ⟨fun c hc => putL_get n m g h g' h' c hc, ⟨hok, hk'⟩, putL_again n m g h g' h' 40 (Nat.le_refl _)⟩⟩
    have := (hok.2 i hi).1
    simp only [goodP, isK, isV] at this
    omega
end Go.Proofs.YtaklcaejeaiagaaE
