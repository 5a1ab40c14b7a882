-- This session's own text: written by a program of this session, begun from the kit's printer.
import Derived.Test.YtfcjacncllmapacQFnExactReadLogx0
import Derived.Test.YtfcjacncllmapacQFnExactReadLogx1
import Derived.Test.YtfcjacncllmapacQFnExactReadLogx2
import Derived.Test.YtfcjacncllmapacQFnExactReadLogx3
import Derived.Test.YtfcjacncllmapacQFnExactReadLogx4
import Derived.Test.YtfcjacncllmapacQFnExactReadLogx5
import Derived.Test.YtfcjacncllmapacQFnExactReadLogx6
namespace Go.Proofs.Ytfcjacncllmapac.QFnExactReadLog
open Go.RowKit Go.Proofs.YtfcjacncllmapacW.PrintWords Go.Proofs.YtfcjacncllmapacW.PrintLast Go.Proofs.YtfcjacncllmapacW.PrintMore
attribute [local go_sem] max2_int min2_int max_two min_two max_three min_three max_four min_four   -- for this text's walks alone
set_option linter.unusedVariables false
set_option linter.unusedSimpArgs false

end Go.Proofs.Ytfcjacncllmapac.QFnExactReadLog
