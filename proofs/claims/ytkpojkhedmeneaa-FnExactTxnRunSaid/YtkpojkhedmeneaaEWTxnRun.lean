/- A part of the proof of a law of the given program: contracts of functions. No condition of its own. -/
import Derived.Test.YtkpojkhedmeneaaEU13
import Derived.Test.YtkpojkhedmeneaaEE21
namespace Go.Proofs.YtkpojkhedmeneaaE
open Go.Proofs
theorem lawFnExactTxnRun (n1 : Nat) (hn1 : n1 ≤ 9223372036854775807) (a b c : Nat → Int) (_ha : ∀ i, i < n1 → (Lit.int .i64 (a i)).wf = true) (_hb : ∀ i, i < n1 → (Lit.int .i64 (b i)).wf = true) (_hc : ∀ i, i < n1 → (Lit.int .i64 (c i)).wf = true)
    (n2 : Nat) (hn2 : n2 ≤ 9223372036854775807) (d e f : Nat → Int) (_hd : ∀ i, i < n2 → (Lit.int .i64 (d i)).wf = true) (_he : ∀ i, i < n2 → (Lit.int .i64 (e i)).wf = true) (_hf : ∀ i, i < n2 → (Lit.int .i64 (f i)).wf = true)
    (n3 : Nat) (hn3 : n3 ≤ 9223372036854775807) (r : Nat → Int) (_hr : ∀ i, i < n3 → (Lit.int .i64 (r i)).wf = true)
    (n4 : Nat) (hn4 : n4 ≤ 9223372036854775807) (g h : Nat → Int) (_hg : ∀ i, i < n4 → (Lit.int .i64 (g i)).wf = true) (_hh : ∀ i, i < n4 → (Lit.int .i64 (h i)).wf = true) :
    Tri Try.prog 4 [.agg [.sl 0 0 0 n1 0, .sl 1 0 0 n2 0, .sl 2 0 0 n3 0], .sl 3 0 0 n4 0] (hpV n1 n2 n3 n4 a b c d e f r g h) (.bool true) (hpV n1 n2 n3 n4 a b c d e f r g h) := t4 n1 n2 n3 n4 hn1 hn2 hn3 hn4 a b c d e f r g h
end Go.Proofs.YtkpojkhedmeneaaE
