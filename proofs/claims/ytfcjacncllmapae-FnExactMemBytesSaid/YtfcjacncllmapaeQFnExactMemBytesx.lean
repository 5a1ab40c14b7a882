-- This session's own text: written by a program of this session, begun from the kit's printer.
import Derived.Test.YtfcjacncllmapaeQFnExactMemBytesx0
import Derived.Test.YtfcjacncllmapaeQFnExactMemBytesx1
import Derived.Test.YtfcjacncllmapaeQFnExactMemBytesx2
import Derived.Test.YtfcjacncllmapaeQFnExactMemBytesx3
import Derived.Test.YtfcjacncllmapaeQFnExactMemBytesx4
import Derived.Test.YtfcjacncllmapaeQFnExactMemBytesx5
import Derived.Test.YtfcjacncllmapaeQFnExactMemBytesx6
import Derived.Test.YtfcjacncllmapaeQFnExactMemBytesx7
import Derived.Test.YtfcjacncllmapaeQFnExactMemBytesx8
namespace Go.Proofs.Ytfcjacncllmapae.QFnExactMemBytes
open Go.RowKit Go.Proofs.YtfcjacncllmapaeW.PrintWords Go.Proofs.YtfcjacncllmapaeW.PrintLast Go.Proofs.YtfcjacncllmapaeW.PrintMore
attribute [local go_sem] max2_int min2_int max_two min_two max_three min_three max_four min_four   -- for this text's walks alone
set_option linter.unusedVariables false
set_option linter.unusedSimpArgs false

end Go.Proofs.Ytfcjacncllmapae.QFnExactMemBytes
