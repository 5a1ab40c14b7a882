-- This session's own text: written by a program of this session, begun from the kit's printer.
import Derived.Test.YtfcjacncllmapaeQFnExactSeekEntryx0
import Derived.Test.YtfcjacncllmapaeQFnExactSeekEntryx1
import Derived.Test.YtfcjacncllmapaeQFnExactSeekEntryx2
import Derived.Test.YtfcjacncllmapaeQFnExactSeekEntryx3
import Derived.Test.YtfcjacncllmapaeQFnExactSeekEntryx4
import Derived.Test.YtfcjacncllmapaeQFnExactSeekEntryx5
import Derived.Test.YtfcjacncllmapaeQFnExactSeekEntryx6
import Derived.Test.YtfcjacncllmapaeQFnExactSeekEntryx7
import Derived.Test.YtfcjacncllmapaeQFnExactSeekEntryx8
import Derived.Test.YtfcjacncllmapaeQFnExactSeekEntryx9
namespace Go.Proofs.Ytfcjacncllmapae.QFnExactSeekEntry
open Go.RowKit Go.Proofs.YtfcjacncllmapaeW.PrintWords Go.Proofs.YtfcjacncllmapaeW.PrintLast Go.Proofs.YtfcjacncllmapaeW.PrintMore
attribute [local go_sem] max2_int min2_int max_two min_two max_three min_three max_four min_four   -- for this text's walks alone
set_option linter.unusedVariables false
set_option linter.unusedSimpArgs false

end Go.Proofs.Ytfcjacncllmapae.QFnExactSeekEntry
