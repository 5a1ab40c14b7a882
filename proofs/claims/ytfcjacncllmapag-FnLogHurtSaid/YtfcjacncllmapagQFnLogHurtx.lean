-- This session's own text: written by a program of this session, begun from the kit's printer.
import Derived.Test.YtfcjacncllmapagQFnLogHurtx0
import Derived.Test.YtfcjacncllmapagQFnLogHurtx1
import Derived.Test.YtfcjacncllmapagQFnLogHurtx2
import Derived.Test.YtfcjacncllmapagQFnLogHurtx3
import Derived.Test.YtfcjacncllmapagQFnLogHurtx4
import Derived.Test.YtfcjacncllmapagQFnLogHurtx5
import Derived.Test.YtfcjacncllmapagQFnLogHurtx6
import Derived.Test.YtfcjacncllmapagQFnLogHurtx7
import Derived.Test.YtfcjacncllmapagQFnLogHurtx8
import Derived.Test.YtfcjacncllmapagQFnLogHurtx9
namespace Go.Proofs.Ytfcjacncllmapag.QFnLogHurt
open Go.RowKit Go.Proofs.YtfcjacncllmapagW.PrintWords Go.Proofs.YtfcjacncllmapagW.PrintLast Go.Proofs.YtfcjacncllmapagW.PrintMore
attribute [local go_sem] max2_int min2_int max_two min_two max_three min_three max_four min_four   -- for this text's walks alone
set_option linter.unusedVariables false
set_option linter.unusedSimpArgs false

end Go.Proofs.Ytfcjacncllmapag.QFnLogHurt
