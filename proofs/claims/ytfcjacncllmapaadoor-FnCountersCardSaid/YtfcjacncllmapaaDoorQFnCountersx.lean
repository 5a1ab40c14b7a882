-- This session's own text: written by a program of this session, begun from the kit's printer.
import Derived.Test.YtfcjacncllmapaaDoorQFnCountersx0
import Derived.Test.YtfcjacncllmapaaDoorQFnCountersx1
import Derived.Test.YtfcjacncllmapaaDoorQFnCountersx2
import Derived.Test.YtfcjacncllmapaaDoorQFnCountersx3
import Derived.Test.YtfcjacncllmapaaDoorQFnCountersx4
namespace Go.Proofs.YtfcjacncllmapaaDoor.QFnCounters
open Go.RowKit Go.Proofs.YtfcjacncllmapaaDoorW.PrintWords Go.Proofs.YtfcjacncllmapaaDoorW.PrintLast Go.Proofs.YtfcjacncllmapaaDoorW.PrintMore
attribute [local go_sem] max2_int min2_int max_two min_two max_three min_three max_four min_four   -- for this text's walks alone
set_option linter.unusedVariables false
set_option linter.unusedSimpArgs false

end Go.Proofs.YtfcjacncllmapaaDoor.QFnCounters
