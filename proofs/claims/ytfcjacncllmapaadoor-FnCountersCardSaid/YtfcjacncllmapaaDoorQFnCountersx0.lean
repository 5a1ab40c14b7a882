-- This session's own text: written by a program of this session, begun from the kit's printer.
import Derived.Test.YtfcjacncllmapaaDoorProg
import Derived.Below
import Derived.Deep.Draws
import Derived.Deep.AppendLies
import Derived.Maps.AppendAt
import Derived.OwnWalk
import Derived.Laws.BytesArg
import Derived.Laws.MakeOwn
import Derived.Laws.OwnMore
import Derived.Deep.OwnRows
import Derived.Tactics
import Derived.Lib.ConvBytes
import Derived.Laws.Slices
import Derived.WalkKit
import Derived.KernelRfl
import Derived.RowKit3
import Derived.Deep.LoopGhost
import Derived.Deep.QuietTactic
import Derived.BigQuiet
import Derived.WideLaws
import Derived.Deep.DeepCutAuto
import Derived.Deep.CutBlock
import Derived.Deep.RegionHeld3
import Derived.Laws.Rows
import Derived.Lib.AppendStr
import Derived.ArgAppend
import Derived.Laws.IdiomCopy
import Derived.OrdersHeld
import Derived.Laws.BitsLemmas
import Derived.RowKit
import Derived.WalkLawsBesides
import Derived.Test.YtfcjacncllmapaaDoorZrow
import Derived.Test.YtfcjacncllmapaaDoorGtz
import Derived.Test.YtfcjacncllmapaaDoorWWords
import Derived.Test.YtfcjacncllmapaaDoorWLast
import Derived.Test.YtfcjacncllmapaaDoorWTab
import Derived.Test.YtfcjacncllmapaaDoorWFour
import Derived.Test.YtfcjacncllmapaaDoorWQPut
import Derived.Test.YtfcjacncllmapaaDoorWApart
import Derived.Test.YtfcjacncllmapaaDoorWArr
import Derived.Test.YtfcjacncllmapaaDoorWZeros
import Derived.Test.YtfcjacncllmapaaDoorWFoot
import Derived.Test.YtfcjacncllmapaaDoorWKept
import Derived.Test.YtfcjacncllmapaaDoorWShare
import Derived.Test.YtfcjacncllmapaaDoorWN
import Derived.Test.YtfcjacncllmapaaDoorWFootNe
import Derived.Test.YtfcjacncllmapaaDoorWAt
import Derived.Test.YtfcjacncllmapaaDoorWEqStruct
import Derived.Test.YtfcjacncllmapaaDoorWRepsOne
import Derived.Test.YtfcjacncllmapaaDoorWInv
import Derived.Test.YtfcjacncllmapaaDoorWInvWords
import Derived.Test.YtfcjacncllmapaaDoorWGuard
import Derived.Test.YtfcjacncllmapaaDoorWNEv
import Derived.Test.YtfcjacncllmapaaDoorWMore
namespace Go.Proofs.YtfcjacncllmapaaDoor.QFnCounters
open Go.RowKit Go.Proofs.YtfcjacncllmapaaDoorW.PrintWords Go.Proofs.YtfcjacncllmapaaDoorW.PrintLast Go.Proofs.YtfcjacncllmapaaDoorW.PrintMore
attribute [local go_sem] max2_int min2_int max_two min_two max_three min_three max_four min_four   -- for this text's walks alone
set_option linter.unusedVariables false
set_option linter.unusedSimpArgs false



def errW : Option Int → Value
  | none => .nilIface
  | some c => .iface 0 (.int .i64 c)
theorem errW_none : errW none = .nilIface := rfl
theorem errW_some (c : Int) : errW (some c) = .iface 0 (.int .i64 c) := rfl

theorem info5 : (Tryd.prog.info? 5).map (fun i => (i.zero, i.size, i.bytes)) = some (some (.int .u8 0), 1, 1) := by kernel_rfl
theorem info9 : (Tryd.prog.info? 9).map (fun i => (i.zero, i.size, i.bytes)) = some (some (.string ⟨#[]⟩), 1, 16) := by kernel_rfl
-- the values' own types

end Go.Proofs.YtfcjacncllmapaaDoor.QFnCounters
