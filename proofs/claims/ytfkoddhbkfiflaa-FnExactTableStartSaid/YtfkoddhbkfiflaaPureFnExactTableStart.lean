/- The table that the program starts with is the one that the reference starts with: no condition. -/
import Derived.Test.YtfkoddhbkfiflaaPFnExactTableStartx2
namespace Go.Proofs.Ytfkoddhbkfiflaa.Pure
open Go.RowKit Go.Proofs.Ytfkoddhbkfiflaa.PFnExactTableStart Go.Proofs.YtfkoddhbkfiflaaW.PrintWords Go.Proofs.YtfkoddhbkfiflaaW.PrintLast

theorem FnExactTableStart : laws_FnExactTableStart.Pure := ⟨9, by decide +kernel⟩

end Go.Proofs.Ytfkoddhbkfiflaa.Pure
