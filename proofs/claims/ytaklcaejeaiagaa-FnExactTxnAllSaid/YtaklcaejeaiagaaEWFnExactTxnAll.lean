/- A part of the proof of a law of the given program: contracts of functions. No condition of its own. -/
import Derived.Test.YtaklcaejeaiagaaEW5
import Derived.Test.YtaklcaejeaiagaaEG4
namespace Go.Proofs.YtaklcaejeaiagaaE
open Go.Proofs
theorem lawFnExactTxnAll (n1 : Nat) (hn1 : n1 ≤ 9223372036854775807) (a b c : Nat → Int) (ha : ∀ i, i < n1 → (Lit.int .i64 (a i)).wf = true) (hb : ∀ i, i < n1 → (Lit.int .i64 (b i)).wf = true) (hc : ∀ i, i < n1 → (Lit.int .i64 (c i)).wf = true)
    (n2 : Nat) (hn2 : n2 ≤ 9223372036854775807) (d e f : Nat → Int) (hd : ∀ i, i < n2 → (Lit.int .i64 (d i)).wf = true) (he : ∀ i, i < n2 → (Lit.int .i64 (e i)).wf = true) (hf : ∀ i, i < n2 → (Lit.int .i64 (f i)).wf = true)
    (n3 : Nat) (hn3 : n3 ≤ 9223372036854775807) (r : Nat → Int) (hr : ∀ i, i < n3 → (Lit.int .i64 (r i)).wf = true) :
    Tri Try.prog 5 [.agg [.sl 0 0 0 n1 0, .sl 1 0 0 n2 0, .sl 2 0 0 n3 0]] (hpT n1 n2 n3 a b c d e f r) (.bool true) (hpT n1 n2 n3 a b c d e f r) := t5 n1 n2 n3 hn1 hn2 hn3 a b c d e f r
end Go.Proofs.YtaklcaejeaiagaaE
