/- A part of the proof of a law of the given program: contracts of functions. No condition of its own. -/
import Derived.Test.YtaklcaejeaiagaaES6
import Derived.Test.YtaklcaejeaiagaaES7
namespace Go.Proofs.YtaklcaejeaiagaaE
open Go.Proofs Go.Shelf Go.Lib Go.RowKit
open Go.Sort (PermIn SortedIn)
theorem list_rise_eq {α : Type} {κ : α → Int} : ∀ {A B : List α}, A.Pairwise (fun x y => κ x < κ y) → B.Pairwise (fun x y => κ x < κ y) → (∀ x, x ∈ A ↔ x ∈ B) → A = B
  | [], [], _, _, _ => rfl
  | [], b :: B, _, _, h => by have := (h b).2 List.mem_cons_self; cases this
  | a :: A, [], _, _, h => by have := (h a).1 List.mem_cons_self; cases this
  | a :: A, b :: B, hA, hB, h => by
    obtain ⟨a1, a2⟩ := List.pairwise_cons.1 hA
    obtain ⟨b1, b2⟩ := List.pairwise_cons.1 hB
    have hab : a = b := by
      rcases List.mem_cons.1 ((h a).1 List.mem_cons_self) with h1 | h1
      · exact h1
      · rcases List.mem_cons.1 ((h b).2 List.mem_cons_self) with h2 | h2
        · exact h2.symm
        · have k1 := b1 a h1
          have k2 := a1 b h2
          omega
    subst hab
    congr 1
    refine list_rise_eq a2 b2 fun x => ⟨fun hx => ?_, fun hx => ?_⟩
    · rcases List.mem_cons.1 ((h x).1 (List.mem_cons_of_mem _ hx)) with h1 | h1
      · have := a1 x hx; rw [h1] at this; omega
      · exact h1
    · rcases List.mem_cons.1 ((h x).2 (List.mem_cons_of_mem _ hx)) with h1 | h1
      · have := b1 x hx; rw [h1] at this; omega
      · exact h1
def sortP (l : List (Int × Int)) : List (Int × Int) := l.mergeSort fun x y => decide (x.1 ≤ y.1)
def sortN (l : List Int) : List Int := l.mergeSort fun x y => decide (x ≤ y)
theorem sortP_perm (l : List (Int × Int)) : (sortP l).Perm l := List.mergeSort_perm l _
theorem sortN_perm (l : List Int) : (sortN l).Perm l := List.mergeSort_perm l _
theorem sortP_le (l : List (Int × Int)) : (sortP l).Pairwise fun x y => x.1 ≤ y.1 := by
  have := List.pairwise_mergeSort (le := fun x y : Int × Int => decide (x.1 ≤ y.1)) (fun a b c h1 h2 => by simp at *; omega) (fun a b => by simp; omega) l
  exact this.imp fun h => by simpa using h
theorem sortN_le (l : List Int) : (sortN l).Pairwise fun x y => x ≤ y := by
  have := List.pairwise_mergeSort (le := fun x y : Int => decide (x ≤ y)) (fun a b c h1 h2 => by simp at *; omega) (fun a b => by simp; omega) l
  exact this.imp fun h => by simpa using h
theorem sortP_rise {l : List (Int × Int)} (hd : l.Pairwise fun x y => x.1 ≠ y.1) : (sortP l).Pairwise fun x y => x.1 < y.1 := by
  have h1 := sortP_le l
  have h2 : (sortP l).Pairwise fun x y => x.1 ≠ y.1 := ((sortP_perm l).pairwise_iff (fun {x y} h => h.symm)).2 hd
  exact (h1.and h2).imp fun ⟨h3, h4⟩ => by omega
/-- slices.SortFunc at pairs whose keys are all another. -/
theorem Tri.sortP {P : Program} {ρ : Go.Shelf.Ren} (L : SlLaysF0.n6 P ρ) (aE : ∀ w, (isAgg (ρ.t 24)).run P w = .ok true w) (zE : ∀ w, (Go.sizeOf (ρ.t 24)).run P w = .ok 2 w) (gf : FuncId) (eg : ∀ args w, (callFunc gf args).run P w = .ok (.enter gf args) w)
    (hcl : ∀ (x y : KP) (W : World), Calls P gf #[.agg (encK x).toArray, .agg (encK y).toArray] W fun e w' => e = .returned (.int .i64 (cfK x y)) ∧ ∃ q os', w' = Go.Sort.grow (W.drewN q) os') {l : List (Int × Int)} {p : Nat} (hn : 0 < l.length) (hn2 : l.length < 4611686018427387904)
    (hk : ∀ x ∈ l, 0 ≤ x.1 ∧ x.1 ≤ 39) (hd : l.Pairwise fun x y => x.1 ≠ y.1) :
    Tri P (ρ.f 6) [.sl 0 0 0 l.length p, .fn gf []] [some (.one true (.arr 2 l.length fun i => [.i64 (l.getD i (0, 0)).1, .i64 (l.getD i (0, 0)).2]))] (.tup [])
      [some (.one true (.arr 2 (Go.Proofs.YtaklcaejeaiagaaE.sortP l).length fun i => [.i64 ((Go.Proofs.YtaklcaejeaiagaaE.sortP l).getD i (0, 0)).1, .i64 ((Go.Proofs.YtaklcaejeaiagaaE.sortP l).getD i (0, 0)).2]))] := by
  let g : Nat → KP := fun i => if h : i < l.length then ⟨l[i], hk _ (List.getElem_mem h)⟩ else default
  have hg : ∀ i, dvK (g i) = [.i64 (l.getD i (0, 0)).1, .i64 (l.getD i (0, 0)).2] := by
    intro i
    by_cases h : i < l.length
    · simp [g, h, dvK, List.getD_eq_getElem?_getD]
    · simp only [g, h, dvK, List.getD_eq_getElem?_getD]
      rw [List.getElem?_eq_none (by omega)]
      rfl
  have key := TriQ.sortF L aE zE gf eg hcl (p := p) hn hn2 g
  rw [show (fun i => dvK (g i)) = fun i => [DV.i64 (l.getD i (0, 0)).1, .i64 (l.getD i (0, 0)).2] from funext hg] at key
  refine TriQ.one (key.mono fun v H' ⟨h1, d', ⟨h2, h3⟩, h4⟩ => ⟨h1, ?_⟩)
  have hdl : (((Array.range l.length).map g).toList.map (·.1)) = l := by
    apply List.ext_getElem
    · simp
    · intro i h5 h6
      simp [g, h6]
  have hdd : ((Array.range l.length).map g).toList.Pairwise (fun x y => kp x ≠ kp y) := by
    have : ((((Array.range l.length).map g).toList).map (·.1)).Pairwise fun x y => x.1 ≠ y.1 := by rw [hdl]; exact hd
    rw [List.pairwise_map] at this
    exact this
  have hsz : ((Array.range l.length).map g).size = l.length := by simp
  obtain ⟨r1, r2⟩ := sortK_rise (d := (Array.range l.length).map g) (d' := d') (by rw [hsz]; exact h2) (by rw [hsz]; exact h3) hdd
  have heq : d'.toList.map (·.1) = Go.Proofs.YtaklcaejeaiagaaE.sortP l := by
    refine list_rise_eq (κ := fun x => x.1) ?_ (sortP_rise hd) fun x => ?_
    · rw [List.pairwise_map]; exact r1
    · rw [(sortP_perm l).mem_iff, ← hdl, List.mem_map, List.mem_map]
      exact ⟨fun ⟨a, h5, h6⟩ => ⟨a, (r2 a).1 h5, h6⟩, fun ⟨a, h5, h6⟩ => ⟨a, (r2 a).2 h5, h6⟩⟩
  have hlen : (Go.Proofs.YtaklcaejeaiagaaE.sortP l).length = l.length := (sortP_perm l).length_eq
  rw [h4, hlen]
  congr 4
  funext i
  have hds : d'.size = l.length := by rw [← hlen, ← heq]; simp
  by_cases h : i < l.length
  · have e1 : (Go.Proofs.YtaklcaejeaiagaaE.sortP l).getD i (0, 0) = d'[i]!.1 := by
      rw [← heq, List.getD_eq_getElem?_getD, List.getElem?_map, List.getElem?_eq_getElem (by simpa [hds] using h)]
      simp [hds, h]
    rw [e1]; rfl
  · have e1 : (Go.Proofs.YtaklcaejeaiagaaE.sortP l).getD i (0, 0) = (0, 0) := by rw [List.getD_eq_getElem?_getD, List.getElem?_eq_none (by omega)]; rfl
    have e2 : d'[i]! = default := by simp [hds, h]
    rw [e1, e2]; rfl
theorem Tri.sortN {P : Program} {ρ : Go.Shelf.Ren} (Ly : Lays.n189 P ρ) {l : List Int} {p : Nat} (hn : 0 < l.length) (hn2 : l.length < 4611686018427387904) :
    Tri P (ρ.f 189) [.sl 0 0 0 l.length p] [some (.one true (.arr 1 l.length fun i => [.i64 (l.getD i 0)]))] (.tup []) [some (.one true (.arr 1 (Go.Proofs.YtaklcaejeaiagaaE.sortN l).length fun i => [.i64 ((Go.Proofs.YtaklcaejeaiagaaE.sortN l).getD i 0)]))] := by
  have key := TriQ.sortI Ly (p := p) hn hn2 fun i => l.getD i 0
  refine TriQ.one (key.mono fun v H' ⟨h1, d', h2, h4⟩ => ⟨h1, ?_⟩)
  have hdl : ((Array.range l.length).map fun i => l.getD i 0).toList = l := by
    apply List.ext_getElem
    · simp
    · intro i h5 h6
      simp [List.getD_eq_getElem?_getD, h6]
  rw [hdl] at h2
  have hlen : (Go.Proofs.YtaklcaejeaiagaaE.sortN l).length = l.length := (sortN_perm l).length_eq
  have h2 : d' = (Go.Proofs.YtaklcaejeaiagaaE.sortN l).toArray := h2
  rw [h4, hlen, h2]
  congr 4
  funext i
  by_cases h : i < (Go.Proofs.YtaklcaejeaiagaaE.sortN l).length
  · simp [List.getD_eq_getElem?_getD, h]
  · rw [List.getD_eq_getElem?_getD, List.getElem?_eq_none (by omega)]
    simp [h]
end Go.Proofs.YtaklcaejeaiagaaE
