-- This session's own text: written by a program of this session, begun from the kit's printer.
import Derived.Test.YtfcjacncllmapafQFnExactRibbonOfx0
import Derived.Test.YtfcjacncllmapafQFnExactRibbonOfx1
import Derived.Test.YtfcjacncllmapafQFnExactRibbonOfx2
import Derived.Test.YtfcjacncllmapafQFnExactRibbonOfx3
import Derived.Test.YtfcjacncllmapafQFnExactRibbonOfx4
import Derived.Test.YtfcjacncllmapafQFnExactRibbonOfx5
namespace Go.Proofs.Ytfcjacncllmapaf.QFnExactRibbonOf
open Go.RowKit Go.Proofs.YtfcjacncllmapafW.PrintWords Go.Proofs.YtfcjacncllmapafW.PrintLast Go.Proofs.YtfcjacncllmapafW.PrintMore
attribute [local go_sem] max2_int min2_int max_two min_two max_three min_three max_four min_four   -- for this text's walks alone
set_option linter.unusedVariables false
set_option linter.unusedSimpArgs false

end Go.Proofs.Ytfcjacncllmapaf.QFnExactRibbonOf
