-- This session's own text: written by a program of this session, begun from the kit's printer.
import Derived.Test.YtfcjacncllmapacQFnSumsx0
import Derived.Test.YtfcjacncllmapacQFnSumsx1
import Derived.Test.YtfcjacncllmapacQFnSumsx2
namespace Go.Proofs.Ytfcjacncllmapac.QFnSums
open Go.RowKit Go.Proofs.YtfcjacncllmapacW.PrintWords Go.Proofs.YtfcjacncllmapacW.PrintLast Go.Proofs.YtfcjacncllmapacW.PrintMore
attribute [local go_sem] max2_int min2_int max_two min_two max_three min_three max_four min_four   -- for this text's walks alone
set_option linter.unusedVariables false
set_option linter.unusedSimpArgs false

end Go.Proofs.Ytfcjacncllmapac.QFnSums
