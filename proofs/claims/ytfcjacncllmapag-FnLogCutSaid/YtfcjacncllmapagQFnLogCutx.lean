-- This session's own text: written by a program of this session, begun from the kit's printer.
import Derived.Test.YtfcjacncllmapagQFnLogCutx0
import Derived.Test.YtfcjacncllmapagQFnLogCutx1
import Derived.Test.YtfcjacncllmapagQFnLogCutx2
import Derived.Test.YtfcjacncllmapagQFnLogCutx3
import Derived.Test.YtfcjacncllmapagQFnLogCutx4
import Derived.Test.YtfcjacncllmapagQFnLogCutx5
import Derived.Test.YtfcjacncllmapagQFnLogCutx6
import Derived.Test.YtfcjacncllmapagQFnLogCutx7
import Derived.Test.YtfcjacncllmapagQFnLogCutx8
import Derived.Test.YtfcjacncllmapagQFnLogCutx9
import Derived.Test.YtfcjacncllmapagQFnLogCutx10
namespace Go.Proofs.Ytfcjacncllmapag.QFnLogCut
open Go.RowKit Go.Proofs.YtfcjacncllmapagW.PrintWords Go.Proofs.YtfcjacncllmapagW.PrintLast Go.Proofs.YtfcjacncllmapagW.PrintMore
attribute [local go_sem] max2_int min2_int max_two min_two max_three min_three max_four min_four   -- for this text's walks alone
set_option linter.unusedVariables false
set_option linter.unusedSimpArgs false

end Go.Proofs.Ytfcjacncllmapag.QFnLogCut
