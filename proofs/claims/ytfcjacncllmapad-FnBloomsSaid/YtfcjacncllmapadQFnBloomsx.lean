-- This session's own text: written by a program of this session, begun from the kit's printer.
import Derived.Test.YtfcjacncllmapadQFnBloomsx0
import Derived.Test.YtfcjacncllmapadQFnBloomsx1
import Derived.Test.YtfcjacncllmapadQFnBloomsx2
import Derived.Test.YtfcjacncllmapadQFnBloomsx3
import Derived.Test.YtfcjacncllmapadQFnBloomsx4
import Derived.Test.YtfcjacncllmapadQFnBloomsx5
import Derived.Test.YtfcjacncllmapadQFnBloomsx6
import Derived.Test.YtfcjacncllmapadQFnBloomsx7
namespace Go.Proofs.Ytfcjacncllmapad.QFnBlooms
open Go.RowKit Go.Proofs.YtfcjacncllmapadW.PrintWords Go.Proofs.YtfcjacncllmapadW.PrintLast Go.Proofs.YtfcjacncllmapadW.PrintMore
attribute [local go_sem] max2_int min2_int max_two min_two max_three min_three max_four min_four   -- for this text's walks alone
set_option linter.unusedVariables false
set_option linter.unusedSimpArgs false

end Go.Proofs.Ytfcjacncllmapad.QFnBlooms
