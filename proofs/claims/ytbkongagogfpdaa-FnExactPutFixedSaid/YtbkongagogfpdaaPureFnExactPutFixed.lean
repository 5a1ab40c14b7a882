/- The program's PutFixed returns what the reference's PutFixed returns, for every number of the kind uint32: no condition. -/
import Derived.Test.YtbkongagogfpdaaPFnExactPutFixedx
namespace Go.Proofs.Ytbkongagogfpdaa.Pure
open Go.RowKit Go.Proofs.Ytbkongagogfpdaa.PFnExactPutFixed Go.Proofs.YtbkongagogfpdaaW.PrintWords Go.Proofs.YtbkongagogfpdaaW.PrintLast Go.Proofs.YtbkongagogfpdaaW.PrintMore
set_option linter.unusedVariables false
set_option linter.unusedSimpArgs false


theorem FnExactPutFixed : laws_FnExactPutFixed.Pure := by
  intro a0 _
  unfold laws_FnExactPutFixed.f spec_PutFixed.f impl_PutFixed.f
  simp

end Go.Proofs.Ytbkongagogfpdaa.Pure
