/- A part of the proof of a law of the given program: contracts of functions. No condition of its own. -/
import Derived.Test.YtaklcaejeaiagaaES3
import Derived.Shelf.Sort.Plain
namespace Go.Proofs.YtaklcaejeaiagaaE
open Go.Proofs Go.Shelf Go.Lib
open Go.Sort (HoldsK flatK putRowK putRow mapBlock onCells putCells size_flatK get_flatK Holds)
/-! ### slices.Sort at numbers -/
def encI (x : Int) : List Value := [.int .i64 x]
theorem flatK_one (d : Array Int) (j : Nat) (hj : j < d.size) : (flatK encI 1 d)[j]! = .int .i64 d[j]! := by
  rw [get_flatK _ _ _ _ (by simpa using hj)]
  simp [encI, Nat.mod_one]
theorem putRow_one (w : World) (blk off : Nat) (d : Array Int) : putRowK encI 1 w blk off d = putRow (Value.int .i64) w blk off d := by
  unfold putRowK putRow
  congr 1
  funext c
  unfold putCells
  apply Array.ext
  · simp
  · intro i h1 h2
    simp only [Array.getElem_mapIdx, size_flatK, Nat.mul_one]
    split
    · rename_i h
      rw [flatK_one d _ (by omega)]; rfl
    · rfl
theorem TriQ.sortI {P : Program} {ρ : Go.Shelf.Ren} (Ly : Lays.n189 P ρ) {n p : Nat} (hn : 0 < n) (hn2 : n < 4611686018427387904) (g : Nat → Int) :
    TriQ P (ρ.f 189) [.sl 0 0 0 n p] [some (.one true (.arr 1 n fun i => [.i64 (g i)]))] fun v H' => v = .tup [] ∧ ∃ d' : Array Int, d' = (((Array.range n).map g).toList.mergeSort fun x y => decide (x ≤ y)).toArray ∧ H' = [some (.one true (.arr 1 n fun i => [.i64 d'[i]!]))] := by
  refine TriQ.sortK (enc := encI) (dv := fun x => [.i64 x]) (by decide) (fun _ => rfl) (fun _ => rfl) (fun x n μ => ⟨rfl, trivial⟩) (fun x n μ vs h => ?_) (ex := []) (cex := []) (fun n μ vs h => ?_) (Post := fun d d' => d' = (d.toList.mergeSort fun x y => decide (x ≤ y)).toArray) (fun d d' h => ?_) hn hn2 g ?_
  · match vs, h with
    | [v], h => rw [show v = .int .i64 x from h.1]; rfl
  · match vs, h with
    | [], _ => rfl
  · rw [h]; simp
  · intro blk off cap d w hH hb hs _
    have hH' : Holds (Value.int .i64) w blk off d.toList.toArray := by
      intro j hj
      have hj' : j < d.size := by simpa using hj
      have := hH j (by simpa using hj')
      rw [flatK_one d j hj'] at this
      simpa using this
    have h := Any.slices_Sort_int Ly blk off cap d.toList w hH' hb (by simpa [hs] using hn2)
    simp only [Array.length_toList] at h
    have h' : Calls P (ρ.f 189) (#[.slice (some ⟨blk, off, none⟩) d.size cap] ++ ([] : List Value).toArray) w _ := h
    refine h'.mono fun e w' hw => ?_
    obtain ⟨he, m, os, hw⟩ := hw
    refine ⟨he, _, m, os, rfl, ?_⟩
    rw [hw]
    unfold sortWorldK
    rw [putRow_one]
end Go.Proofs.YtaklcaejeaiagaaE
