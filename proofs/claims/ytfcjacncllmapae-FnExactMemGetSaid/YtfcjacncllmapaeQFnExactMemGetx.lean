-- This session's own text: written by a program of this session, begun from the kit's printer.
import Derived.Test.YtfcjacncllmapaeQFnExactMemGetx0
import Derived.Test.YtfcjacncllmapaeQFnExactMemGetx1
import Derived.Test.YtfcjacncllmapaeQFnExactMemGetx2
import Derived.Test.YtfcjacncllmapaeQFnExactMemGetx3
import Derived.Test.YtfcjacncllmapaeQFnExactMemGetx4
import Derived.Test.YtfcjacncllmapaeQFnExactMemGetx5
import Derived.Test.YtfcjacncllmapaeQFnExactMemGetx6
import Derived.Test.YtfcjacncllmapaeQFnExactMemGetx7
import Derived.Test.YtfcjacncllmapaeQFnExactMemGetx8
namespace Go.Proofs.Ytfcjacncllmapae.QFnExactMemGet
open Go.RowKit Go.Proofs.YtfcjacncllmapaeW.PrintWords Go.Proofs.YtfcjacncllmapaeW.PrintLast Go.Proofs.YtfcjacncllmapaeW.PrintMore
attribute [local go_sem] max2_int min2_int max_two min_two max_three min_three max_four min_four   -- for this text's walks alone
set_option linter.unusedVariables false
set_option linter.unusedSimpArgs false

end Go.Proofs.Ytfcjacncllmapae.QFnExactMemGet
