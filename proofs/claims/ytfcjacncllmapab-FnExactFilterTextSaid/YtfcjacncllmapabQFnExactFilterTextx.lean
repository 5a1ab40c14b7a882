-- This session's own text: written by a program of this session, begun from the kit's printer.
import Derived.Test.YtfcjacncllmapabQFnExactFilterTextx0
import Derived.Test.YtfcjacncllmapabQFnExactFilterTextx1
import Derived.Test.YtfcjacncllmapabQFnExactFilterTextx2
import Derived.Test.YtfcjacncllmapabQFnExactFilterTextx3
import Derived.Test.YtfcjacncllmapabQFnExactFilterTextx4
namespace Go.Proofs.Ytfcjacncllmapab.QFnExactFilterText
open Go.RowKit Go.Proofs.YtfcjacncllmapabW.PrintWords Go.Proofs.YtfcjacncllmapabW.PrintLast Go.Proofs.YtfcjacncllmapabW.PrintMore
attribute [local go_sem] max2_int min2_int max_two min_two max_three min_three max_four min_four   -- for this text's walks alone
set_option linter.unusedVariables false
set_option linter.unusedSimpArgs false

end Go.Proofs.Ytfcjacncllmapab.QFnExactFilterText
