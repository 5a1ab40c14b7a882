-- This session's own text: written by a program of this session, begun from the kit's printer.
import Derived.Test.YtfcjacncllmapafQFnRibbonsx0
import Derived.Test.YtfcjacncllmapafQFnRibbonsx1
import Derived.Test.YtfcjacncllmapafQFnRibbonsx2
import Derived.Test.YtfcjacncllmapafQFnRibbonsx3
import Derived.Test.YtfcjacncllmapafQFnRibbonsx4
import Derived.Test.YtfcjacncllmapafQFnRibbonsx5
import Derived.Test.YtfcjacncllmapafQFnRibbonsx6
import Derived.Test.YtfcjacncllmapafQFnRibbonsx7
import Derived.Test.YtfcjacncllmapafQFnRibbonsx8
namespace Go.Proofs.Ytfcjacncllmapaf.QFnRibbons
open Go.RowKit Go.Proofs.YtfcjacncllmapafW.PrintWords Go.Proofs.YtfcjacncllmapafW.PrintLast Go.Proofs.YtfcjacncllmapafW.PrintMore
attribute [local go_sem] max2_int min2_int max_two min_two max_three min_three max_four min_four   -- for this text's walks alone
set_option linter.unusedVariables false
set_option linter.unusedSimpArgs false

end Go.Proofs.Ytfcjacncllmapaf.QFnRibbons
