-- This session's own text: written by a program of this session, begun from the kit's printer.
import Derived.Test.YtfcjacncllmapaaDoorQFnExactHllOfx0
import Derived.Test.YtfcjacncllmapaaDoorQFnExactHllOfx1
import Derived.Test.YtfcjacncllmapaaDoorQFnExactHllOfx2
import Derived.Test.YtfcjacncllmapaaDoorQFnExactHllOfx3
namespace Go.Proofs.YtfcjacncllmapaaDoor.QFnExactHllOf
open Go.RowKit Go.Proofs.YtfcjacncllmapaaDoorW.PrintWords Go.Proofs.YtfcjacncllmapaaDoorW.PrintLast Go.Proofs.YtfcjacncllmapaaDoorW.PrintMore
attribute [local go_sem] max2_int min2_int max_two min_two max_three min_three max_four min_four   -- for this text's walks alone
set_option linter.unusedVariables false
set_option linter.unusedSimpArgs false

end Go.Proofs.YtfcjacncllmapaaDoor.QFnExactHllOf
