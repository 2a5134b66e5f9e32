/- A part of the proof of a law of the given program: contracts of functions. No condition of its own. -/
import Derived.Test.YtaklcaejeaiagaaEBI3
import Derived.Test.YtaklcaejeaiagaaEG4
namespace Go.Proofs.YtaklcaejeaiagaaE
open Go.Proofs
theorem lawFnExactTableSplit (e : Int) (he : (Lit.int .i64 e).wf = true) (m : Int) (hm : (Lit.int .i64 m).wf = true) (n : Nat) (hn : n ≤ 9223372036854775807) (a b c : Nat → Int)
    (ha : ∀ i, i < n → (Lit.int .i64 (a i)).wf = true) (hb : ∀ i, i < n → (Lit.int .i64 (b i)).wf = true) (hc : ∀ i, i < n → (Lit.int .i64 (c i)).wf = true) (key : Int) (hk : (Lit.int .i64 key).wf = true) :
    Tri Try.prog 3 [.agg [.i64 e, .i64 m, .sl 0 0 0 n 0], .i64 key] [some (.one false (.arr 3 n (row3 a b c)))] (.bool true) [some (.one false (.arr 3 n (row3 a b c)))] := t3 n hn e m a b c key
end Go.Proofs.YtaklcaejeaiagaaE
