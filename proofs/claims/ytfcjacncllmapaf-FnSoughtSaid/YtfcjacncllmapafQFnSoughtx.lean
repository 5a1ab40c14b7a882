-- This session's own text: written by a program of this session, begun from the kit's printer.
import Derived.Test.YtfcjacncllmapafQFnSoughtx0
import Derived.Test.YtfcjacncllmapafQFnSoughtx1
import Derived.Test.YtfcjacncllmapafQFnSoughtx2
import Derived.Test.YtfcjacncllmapafQFnSoughtx3
import Derived.Test.YtfcjacncllmapafQFnSoughtx4
import Derived.Test.YtfcjacncllmapafQFnSoughtx5
import Derived.Test.YtfcjacncllmapafQFnSoughtx6
import Derived.Test.YtfcjacncllmapafQFnSoughtx7
import Derived.Test.YtfcjacncllmapafQFnSoughtx8
import Derived.Test.YtfcjacncllmapafQFnSoughtx9
import Derived.Test.YtfcjacncllmapafQFnSoughtx10
namespace Go.Proofs.Ytfcjacncllmapaf.QFnSought
open Go.RowKit Go.Proofs.YtfcjacncllmapafW.PrintWords Go.Proofs.YtfcjacncllmapafW.PrintLast Go.Proofs.YtfcjacncllmapafW.PrintMore
attribute [local go_sem] max2_int min2_int max_two min_two max_three min_three max_four min_four   -- for this text's walks alone
set_option linter.unusedVariables false
set_option linter.unusedSimpArgs false

end Go.Proofs.Ytfcjacncllmapaf.QFnSought
