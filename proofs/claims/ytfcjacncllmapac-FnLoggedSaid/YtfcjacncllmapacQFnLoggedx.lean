-- This session's own text: written by a program of this session, begun from the kit's printer.
import Derived.Test.YtfcjacncllmapacQFnLoggedx0
import Derived.Test.YtfcjacncllmapacQFnLoggedx1
import Derived.Test.YtfcjacncllmapacQFnLoggedx2
import Derived.Test.YtfcjacncllmapacQFnLoggedx3
import Derived.Test.YtfcjacncllmapacQFnLoggedx4
import Derived.Test.YtfcjacncllmapacQFnLoggedx5
import Derived.Test.YtfcjacncllmapacQFnLoggedx6
import Derived.Test.YtfcjacncllmapacQFnLoggedx7
import Derived.Test.YtfcjacncllmapacQFnLoggedx8
import Derived.Test.YtfcjacncllmapacQFnLoggedx9
namespace Go.Proofs.Ytfcjacncllmapac.QFnLogged
open Go.RowKit Go.Proofs.YtfcjacncllmapacW.PrintWords Go.Proofs.YtfcjacncllmapacW.PrintLast Go.Proofs.YtfcjacncllmapacW.PrintMore
attribute [local go_sem] max2_int min2_int max_two min_two max_three min_three max_four min_four   -- for this text's walks alone
set_option linter.unusedVariables false
set_option linter.unusedSimpArgs false

end Go.Proofs.Ytfcjacncllmapac.QFnLogged
