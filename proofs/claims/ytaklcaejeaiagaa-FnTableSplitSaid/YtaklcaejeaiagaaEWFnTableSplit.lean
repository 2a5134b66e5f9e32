/- A part of the proof of a law of the given program: contracts of functions. No condition of its own. -/
import Derived.Test.YtaklcaejeaiagaaEBI4
import Derived.Test.YtaklcaejeaiagaaEG4
namespace Go.Proofs.YtaklcaejeaiagaaE
open Go.Proofs
theorem u8_wf {a : Int} (h : (Lit.int .u8 a).wf = true) : 0 ≤ a ∧ a ≤ 255 := by
  simp [Lit.wf, IntKind.min, IntKind.max, IntKind.bits, IntKind.signed] at h
  omega
theorem lawFnTableSplit (n : Nat) (hn : n ≤ 9223372036854775807) (x : Nat → Int) (hx : ∀ i, i < n → (Lit.int .u8 (x i)).wf = true) :
    Tri Try.prog 4 [.sl 0 0 0 n 0] [some (.one false (.arr 1 n (rowB x)))] (.bool true) [some (.one false (.arr 1 n (rowB x)))] := t4 n x fun i hi => u8_wf (hx i hi)
end Go.Proofs.YtaklcaejeaiagaaE
