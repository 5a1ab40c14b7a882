-- This session's own text: written by a program of this session, begun from the kit's printer.
import Derived.Test.YtfcjacncllmapadProg
import Derived.Below
import Derived.Deep.Draws
import Derived.Deep.AppendLies
import Derived.Maps.AppendAt
import Derived.OwnWalk
import Derived.Laws.BytesArg
import Derived.Laws.MakeOwn
import Derived.Laws.OwnMore
import Derived.Deep.OwnRows
import Derived.Tactics
import Derived.Lib.ConvBytes
import Derived.Laws.Slices
import Derived.WalkKit
import Derived.KernelRfl
import Derived.RowKit3
import Derived.Deep.LoopGhost
import Derived.Deep.QuietTactic
import Derived.BigQuiet
import Derived.WideLaws
import Derived.Deep.DeepCutAuto
import Derived.Deep.CutBlock
import Derived.Deep.RegionHeld3
import Derived.Laws.Rows
import Derived.Lib.AppendStr
import Derived.ArgAppend
import Derived.Laws.IdiomCopy
import Derived.OrdersHeld
import Derived.Laws.BitsLemmas
import Derived.RowKit
import Derived.WalkLawsBesides
import Derived.Test.YtfcjacncllmapadZrow
import Derived.Test.YtfcjacncllmapadWWords
import Derived.Test.YtfcjacncllmapadWLast
import Derived.Test.YtfcjacncllmapadWTab
import Derived.Test.YtfcjacncllmapadWFour
import Derived.Test.YtfcjacncllmapadWQPut
import Derived.Test.YtfcjacncllmapadWApart
import Derived.Test.YtfcjacncllmapadWArr
import Derived.Test.YtfcjacncllmapadWZeros
import Derived.Test.YtfcjacncllmapadWFoot
import Derived.Test.YtfcjacncllmapadWKept
import Derived.Test.YtfcjacncllmapadWShare
import Derived.Test.YtfcjacncllmapadWN
import Derived.Test.YtfcjacncllmapadWFootNe
import Derived.Test.YtfcjacncllmapadWAt
import Derived.Test.YtfcjacncllmapadWEqStruct
import Derived.Test.YtfcjacncllmapadWRepsOne
import Derived.Test.YtfcjacncllmapadWInv
import Derived.Test.YtfcjacncllmapadWInvWords
import Derived.Test.YtfcjacncllmapadWGuard
import Derived.Test.YtfcjacncllmapadWNEv
import Derived.Test.YtfcjacncllmapadWMore
namespace Go.Proofs.Ytfcjacncllmapad.QFnBloomMore
open Go.RowKit Go.Proofs.YtfcjacncllmapadW.PrintWords Go.Proofs.YtfcjacncllmapadW.PrintLast Go.Proofs.YtfcjacncllmapadW.PrintMore
attribute [local go_sem] max2_int min2_int max_two min_two max_three min_three max_four min_four   -- for this text's walks alone
set_option linter.unusedVariables false
set_option linter.unusedSimpArgs false



def errW : Option Int → Value
  | none => .nilIface
  | some c => .iface 0 (.int .i64 c)
theorem errW_none : errW none = .nilIface := rfl
theorem errW_some (c : Int) : errW (some c) = .iface 0 (.int .i64 c) := rfl

theorem info2 : (Try.prog.info? 2).map (fun i => (i.zero, i.size, i.bytes)) = some (some (.int .i64 0), 1, 8) := by kernel_rfl
theorem info5 : (Try.prog.info? 5).map (fun i => (i.zero, i.size, i.bytes)) = some (some (.int .u8 0), 1, 1) := by kernel_rfl
theorem info9 : (Try.prog.info? 9).map (fun i => (i.zero, i.size, i.bytes)) = some (some (.string ⟨#[]⟩), 1, 16) := by kernel_rfl
theorem info60 : (Try.prog.info? 60).map (fun i => (i.zero, i.size, i.bytes)) = some (some (.int .u64 0), 1, 8) := by kernel_rfl
-- the values' own types

end Go.Proofs.Ytfcjacncllmapad.QFnBloomMore
