-- This session's own text: written by a program of this session, begun from the kit's printer.
import Derived.Test.YtfcjacncllmapaeQFnExactEntriesOkx0
import Derived.Test.YtfcjacncllmapaeQFnExactEntriesOkx1
import Derived.Test.YtfcjacncllmapaeQFnExactEntriesOkx2
import Derived.Test.YtfcjacncllmapaeQFnExactEntriesOkx3
import Derived.Test.YtfcjacncllmapaeQFnExactEntriesOkx4
import Derived.Test.YtfcjacncllmapaeQFnExactEntriesOkx5
import Derived.Test.YtfcjacncllmapaeQFnExactEntriesOkx6
import Derived.Test.YtfcjacncllmapaeQFnExactEntriesOkx7
namespace Go.Proofs.Ytfcjacncllmapae.QFnExactEntriesOk
open Go.RowKit Go.Proofs.YtfcjacncllmapaeW.PrintWords Go.Proofs.YtfcjacncllmapaeW.PrintLast Go.Proofs.YtfcjacncllmapaeW.PrintMore
attribute [local go_sem] max2_int min2_int max_two min_two max_three min_three max_four min_four   -- for this text's walks alone
set_option linter.unusedVariables false
set_option linter.unusedSimpArgs false

end Go.Proofs.Ytfcjacncllmapae.QFnExactEntriesOk
