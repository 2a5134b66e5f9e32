/- A part of the proof of a law of the given program: contracts of functions. No condition of its own. -/
import Derived.Test.YtjdglheacigbnaaEN1
import Derived.Test.YtjdglheacigbnaaEG4
namespace Go.Proofs.YtjdglheacigbnaaE
open Go.Proofs
theorem lawFnExactNodeStart (i : Int) (_hi : (Lit.int .i64 i).wf = true) : Tri Try.prog 3 [.i64 i] [] (.bool true) [] := t3 i
end Go.Proofs.YtjdglheacigbnaaE
