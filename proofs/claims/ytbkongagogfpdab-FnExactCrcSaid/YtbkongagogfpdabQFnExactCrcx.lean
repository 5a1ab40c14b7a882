-- This session's own text: written by a program of this session, begun from the kit's printer.
import Derived.Test.YtbkongagogfpdabQFnExactCrcx0
import Derived.Test.YtbkongagogfpdabQFnExactCrcx1
namespace Go.Proofs.Ytbkongagogfpdab.QFnExactCrc
open Go.RowKit Go.Proofs.YtbkongagogfpdabW.PrintWords Go.Proofs.YtbkongagogfpdabW.PrintLast Go.Proofs.YtbkongagogfpdabW.PrintMore
attribute [local go_sem] max2_int min2_int max_two min_two max_three min_three max_four min_four   -- for this text's walks alone
set_option linter.unusedVariables false
set_option linter.unusedSimpArgs false

end Go.Proofs.Ytbkongagogfpdab.QFnExactCrc
