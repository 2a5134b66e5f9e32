/- A part of the proof of a law of the given program: contracts of functions. No condition of its own. -/
import Derived.Test.YtaklcaejeaiagaaES3
namespace Go.Proofs.YtaklcaejeaiagaaE
open Go.Proofs Go.Shelf Go.Lib
open Go.Sort (PermIn SortedIn SWO)
/-! ### pairs whose keys are keys -/
abbrev KP := {p : Int × Int // 0 ≤ p.1 ∧ p.1 ≤ 39}
instance : Inhabited KP := ⟨⟨(0, 0), by decide⟩⟩
def kp (x : KP) : Int := x.1.1
def cfK (x y : KP) : Int := kp x - kp y
theorem ltK (x y : KP) : ltOf cfK x y = decide (kp x < kp y) := by
  unfold ltOf cfK
  congr 1
  exact propext ⟨fun h => by omega, fun h => by omega⟩
theorem swoK : SWO (ltOf cfK) where
  irrefl x := by rw [ltK]; simp
  trans x y z h1 h2 := by rw [ltK] at *; simp at *; omega
  ntrans x y z h1 h2 := by rw [ltK] at *; simp at *; omega
def encK (x : KP) : List Value := [.int .i64 x.1.1, .int .i64 x.1.2]
def dvK (x : KP) : List DV := [.i64 x.1.1, .i64 x.1.2]
theorem sortK_rise {d d' : Array KP} (hp : PermIn 0 d.size d d') (hs : SortedIn (ltOf cfK) 0 d.size d') (hd : d.toList.Pairwise (fun x y => kp x ≠ kp y)) :
    d'.toList.Pairwise (fun x y => kp x < kp y) ∧ ∀ x, x ∈ d'.toList ↔ x ∈ d.toList := by
  obtain ⟨h1, h2, h3⟩ := hp
  have hperm : d'.toList.Perm d.toList := by
    have e1 : d'.extract 0 d.size = d' := by rw [← h1]; simp
    have e2 : d.extract 0 d.size = d := by simp
    rwa [e1, e2] at h3
  have hd' : d'.toList.Pairwise (fun x y => kp x ≠ kp y) := (hperm.pairwise_iff (fun {x y} h => h.symm)).2 hd
  refine ⟨?_, fun x => hperm.mem_iff⟩
  rw [List.pairwise_iff_getElem] at hd' ⊢
  intro i j hi hj hij
  have hne := hd' i j hi hj hij
  have hi' : i < d'.size := by simpa using hi
  have hj' : j < d'.size := by simpa using hj
  have := hs i j (Nat.zero_le _) hij (by omega)
  rw [ltK, decide_eq_false_iff_not, getElem!_pos d' i hi', getElem!_pos d' j hj'] at this
  simp only [Array.getElem_toList] at hne ⊢
  omega
end Go.Proofs.YtaklcaejeaiagaaE
