/- The fold that the program starts with is the one that the reference starts with: no condition. -/
import Derived.Test.YtidhlpaoncneiaaPFnExactFoldStartx5
import Derived.Test.YtidhlpaoncneiaaHLoops
namespace Go.Proofs.Ytidhlpaoncneiaa.Pure
open Go.RowKit Go.Proofs.Ytidhlpaoncneiaa.PFnExactFoldStart Go.Proofs.YtidhlpaoncneiaaH Go.Proofs.YtidhlpaoncneiaaW.PrintWords Go.Proofs.YtidhlpaoncneiaaW.PrintLast Go.Proofs.YtidhlpaoncneiaaW.PrintMore
set_option linter.unusedVariables false
set_option linter.unusedSimpArgs false
theorem FnExactFoldStart : laws_FnExactFoldStart.Pure := ⟨20, by decide +kernel⟩

end Go.Proofs.Ytidhlpaoncneiaa.Pure
