-- This session's own text: the walk of the functions that the law reaches, begun from what the kit's printer wrote, and mended by hand.
import Derived.Test.YtbkongagogfpdaaQFnExactPutTextx0
import Derived.Test.YtbkongagogfpdaaQFnExactPutTextx1
namespace Go.Proofs.Ytbkongagogfpdaa.PFnExactPutText
open Go.RowKit Go.Proofs.YtbkongagogfpdaaW.PrintWords Go.Proofs.YtbkongagogfpdaaW.PrintLast Go.Proofs.YtbkongagogfpdaaW.PrintMore
attribute [local go_sem] max2_int min2_int max_two min_two max_three min_three max_four min_four   -- for this text's walks alone
set_option linter.unusedVariables false
set_option linter.unusedSimpArgs false

end Go.Proofs.Ytbkongagogfpdaa.PFnExactPutText
