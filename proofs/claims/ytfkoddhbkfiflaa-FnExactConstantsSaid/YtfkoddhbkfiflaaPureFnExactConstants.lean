/- The constants of the program are those of the reference, for no argument: no condition. -/
import Derived.Test.YtfkoddhbkfiflaaPFnExactConstantsx1
namespace Go.Proofs.Ytfkoddhbkfiflaa.Pure
open Go.RowKit Go.Proofs.Ytfkoddhbkfiflaa.PFnExactConstants Go.Proofs.YtfkoddhbkfiflaaW.PrintWords Go.Proofs.YtfkoddhbkfiflaaW.PrintLast

theorem FnExactConstants : laws_FnExactConstants.Pure := by
  unfold laws_FnExactConstants.Pure laws_FnExactConstants.f; rfl

end Go.Proofs.Ytfkoddhbkfiflaa.Pure
