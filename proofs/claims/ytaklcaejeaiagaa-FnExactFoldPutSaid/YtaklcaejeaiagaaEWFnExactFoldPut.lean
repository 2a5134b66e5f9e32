/- A part of the proof of a law of the given program: contracts of functions. No condition of its own. -/
import Derived.Test.YtaklcaejeaiagaaEW10
import Derived.Test.YtaklcaejeaiagaaEG4
namespace Go.Proofs.YtaklcaejeaiagaaE
open Go.Proofs
theorem lawFnExactFoldPut (n1 : Nat) (hn1 : n1 ≤ 9223372036854775807) (a b : Nat → Int) (ha : ∀ i, i < n1 → (Lit.int .i64 (a i)).wf = true) (hb : ∀ i, i < n1 → (Lit.int .i64 (b i)).wf = true)
    (n2 : Nat) (hn2 : n2 ≤ 9223372036854775807) (c d : Nat → Int) (hc : ∀ i, i < n2 → (Lit.int .i64 (c i)).wf = true) (hd : ∀ i, i < n2 → (Lit.int .i64 (d i)).wf = true) :
    Tri Try.prog 7 [.sl 0 0 0 n1 0, .sl 1 0 0 n2 0] [some (.one false (.arr 2 n1 (row2 a b))), some (.one false (.arr 2 n2 (row2 c d)))] (.bool true) [some (.one false (.arr 2 n1 (row2 a b))), some (.one false (.arr 2 n2 (row2 c d)))] := t7 n1 n2 hn1 hn2 a b c d
end Go.Proofs.YtaklcaejeaiagaaE
