/- A part of the proof that FnExactTableMove holds: contracts of functions. No condition of its own. -/
import Derived.Test.YtekhlpkodgjdeaaET15
import Derived.Test.YtekhlpkodgjdeaaEE21
namespace Go.Proofs.YtekhlpkodgjdeaaE
open Go.Proofs
theorem lawFnExactTableMove (e : Int) (he : (Lit.int .i64 e).wf = true) (m : Int) (hm : (Lit.int .i64 m).wf = true) (n : Nat) (hn : n ≤ 9223372036854775807) (a b c : Nat → Int) (ha : ∀ i, i < n → (Lit.int .i64 (a i)).wf = true) (hb : ∀ i, i < n → (Lit.int .i64 (b i)).wf = true) (hc : ∀ i, i < n → (Lit.int .i64 (c i)).wf = true) (key : Int) (hk : (Lit.int .i64 key).wf = true) (to : Int) (ht : (Lit.int .i64 to).wf = true) :
    Tri Try.prog 8 [.agg [.i64 e, .i64 m, .sl 0 0 0 n 0], .i64 key, .i64 to] [some (.one false (.arr 3 n (row3 a b c)))] (.bool true) [some (.one false (.arr 3 n (row3 a b c)))] := t8 n hn e m a b c key to
end Go.Proofs.YtekhlpkodgjdeaaE
