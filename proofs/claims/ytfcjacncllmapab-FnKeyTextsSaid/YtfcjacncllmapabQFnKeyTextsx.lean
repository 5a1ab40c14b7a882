-- This session's own text: written by a program of this session, begun from the kit's printer.
import Derived.Test.YtfcjacncllmapabQFnKeyTextsx0
import Derived.Test.YtfcjacncllmapabQFnKeyTextsx1
import Derived.Test.YtfcjacncllmapabQFnKeyTextsx2
import Derived.Test.YtfcjacncllmapabQFnKeyTextsx3
import Derived.Test.YtfcjacncllmapabQFnKeyTextsx4
namespace Go.Proofs.Ytfcjacncllmapab.QFnKeyTexts
open Go.RowKit Go.Proofs.YtfcjacncllmapabW.PrintWords Go.Proofs.YtfcjacncllmapabW.PrintLast Go.Proofs.YtfcjacncllmapabW.PrintMore
attribute [local go_sem] max2_int min2_int max_two min_two max_three min_three max_four min_four   -- for this text's walks alone
set_option linter.unusedVariables false
set_option linter.unusedSimpArgs false

end Go.Proofs.Ytfcjacncllmapab.QFnKeyTexts
