/- The program's constants are the document's: no condition. -/
import Derived.Test.YtbkongagogfpdaaPFnExactConstantsx
namespace Go.Proofs.Ytbkongagogfpdaa.Pure
open Go.RowKit Go.Proofs.Ytbkongagogfpdaa.PFnExactConstants Go.Proofs.YtbkongagogfpdaaW.PrintWords Go.Proofs.YtbkongagogfpdaaW.PrintLast Go.Proofs.YtbkongagogfpdaaW.PrintMore
set_option linter.unusedVariables false
set_option linter.unusedSimpArgs false


theorem FnExactConstants : laws_FnExactConstants.Pure := by
  unfold laws_FnExactConstants.Pure
  rfl

end Go.Proofs.Ytbkongagogfpdaa.Pure
