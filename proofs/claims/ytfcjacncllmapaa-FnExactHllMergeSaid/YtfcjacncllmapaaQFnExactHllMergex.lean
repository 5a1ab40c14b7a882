-- This session's own text: written by a program of this session, begun from the kit's printer.
import Derived.Test.YtfcjacncllmapaaQFnExactHllMergex0
import Derived.Test.YtfcjacncllmapaaQFnExactHllMergex1
import Derived.Test.YtfcjacncllmapaaQFnExactHllMergex2
namespace Go.Proofs.Ytfcjacncllmapaa.QFnExactHllMerge
open Go.RowKit Go.Proofs.YtfcjacncllmapaaW.PrintWords Go.Proofs.YtfcjacncllmapaaW.PrintLast Go.Proofs.YtfcjacncllmapaaW.PrintMore
attribute [local go_sem] max2_int min2_int max_two min_two max_three min_three max_four min_four   -- for this text's walks alone
set_option linter.unusedVariables false
set_option linter.unusedSimpArgs false

end Go.Proofs.Ytfcjacncllmapaa.QFnExactHllMerge
