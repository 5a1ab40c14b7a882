-- This session's own text: written by a program of this session, begun from the kit's printer.
import Derived.Test.YtfcjacncllmapafQFnExactFilterOfx0
import Derived.Test.YtfcjacncllmapafQFnExactFilterOfx1
import Derived.Test.YtfcjacncllmapafQFnExactFilterOfx2
import Derived.Test.YtfcjacncllmapafQFnExactFilterOfx3
import Derived.Test.YtfcjacncllmapafQFnExactFilterOfx4
import Derived.Test.YtfcjacncllmapafQFnExactFilterOfx5
import Derived.Test.YtfcjacncllmapafQFnExactFilterOfx6
import Derived.Test.YtfcjacncllmapafQFnExactFilterOfx7
namespace Go.Proofs.Ytfcjacncllmapaf.QFnExactFilterOf
open Go.RowKit Go.Proofs.YtfcjacncllmapafW.PrintWords Go.Proofs.YtfcjacncllmapafW.PrintLast Go.Proofs.YtfcjacncllmapafW.PrintMore
attribute [local go_sem] max2_int min2_int max_two min_two max_three min_three max_four min_four   -- for this text's walks alone
set_option linter.unusedVariables false
set_option linter.unusedSimpArgs false

end Go.Proofs.Ytfcjacncllmapaf.QFnExactFilterOf
