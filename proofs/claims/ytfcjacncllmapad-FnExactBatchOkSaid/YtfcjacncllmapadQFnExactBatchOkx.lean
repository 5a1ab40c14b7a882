-- This session's own text: written by a program of this session, begun from the kit's printer.
import Derived.Test.YtfcjacncllmapadQFnExactBatchOkx0
import Derived.Test.YtfcjacncllmapadQFnExactBatchOkx1
import Derived.Test.YtfcjacncllmapadQFnExactBatchOkx2
import Derived.Test.YtfcjacncllmapadQFnExactBatchOkx3
import Derived.Test.YtfcjacncllmapadQFnExactBatchOkx4
namespace Go.Proofs.Ytfcjacncllmapad.QFnExactBatchOk
open Go.RowKit Go.Proofs.YtfcjacncllmapadW.PrintWords Go.Proofs.YtfcjacncllmapadW.PrintLast Go.Proofs.YtfcjacncllmapadW.PrintMore
attribute [local go_sem] max2_int min2_int max_two min_two max_three min_three max_four min_four   -- for this text's walks alone
set_option linter.unusedVariables false
set_option linter.unusedSimpArgs false

end Go.Proofs.Ytfcjacncllmapad.QFnExactBatchOk
