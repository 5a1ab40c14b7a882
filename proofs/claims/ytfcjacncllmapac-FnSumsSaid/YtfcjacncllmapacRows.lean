/-
  No cell of these rows narrows 'for every input' (looked for: loops, veiled, ifaces, maps, wideKeys, modest, calm, conditions, laid).
  DERIVED. THE GIVEN ROWS OF THIS SEAT. 6 by the template 'for every input the law returns true; each argument reads behind the call as it read before'; 0 by the template 'total and deterministic' (their statements: YtfcjacncllmapacTotals.lean).
  GIVEN WITH THE SEED: the statements are not yours to turn. If you find one false, say at which input.
  Laid BY PROGRAM, IN A SANDBOX (cutbox-rows.mjs): the forced cells as the released guide's own fill.sh prints them over the translation 3732fa8f9155264b… (all of the seat's roots in one cut). By AI agents, Wed Nov 11 2026. No macro, syntax, notation, axiom, sorry.
-/
import Derived.Test.YtfcjacncllmapacChecked
import GoSem.Claim
import GoSem.ClaimJoined
import GoSem.ClaimMapViews
import Derived.JoinedTies
import Derived.KernelRfl
namespace Go.Proofs.Ytfcjacncllmapac
/- THE CELL 'sum', in the pinned program and in every row, IS THE sha256 OF THE DUMP (.gsa) THAT YtfcjacncllmapacProg.lean LOADS. Nothing in Lean hashes anything: it is a label: what it is worth is what the hold of that sum in a sandbox is worth. -/
noncomputable def Try.pinned : Pinned := { name := "ytfcjacncllmapac", sum := "3732fa8f9155264b7d1c095beb54be43536f567be765ef7dd4b186857c87e9a8", checked := Try.checked }
namespace Rows
def none {H : Type} : Left H := { results := [], args := [] }

/-- 'laws.FnExactTakeText': WHATEVER THE INPUT: true; the input reads as it did. -/
def fnExactTakeTextSpec : ChangeSpec := { name := "fnExactTakeText", fn := fun _ => fun
  | [d] => { results := [.lit (.bool true)], args := [d] }
  | _ => none }
def fnExactTakeTextRow : OpenClaim := { program := "ytfcjacncllmapac", sum := "3732fa8f9155264b7d1c095beb54be43536f567be765ef7dd4b186857c87e9a8", func := "loop.example/g00214/laws.FnExactTakeText", spec := "fnExactTakeText", apart := false }
def FnExactTakeTextSaid : Prop := fnExactTakeTextRow.holds Try.pinned (OpenSpec.ofChange fnExactTakeTextSpec)

/-- ITS FALSE NEIGHBOUR: 'it returns false'. Refute it at one input. -/
def fnExactTakeTextWrong : ChangeSpec := { name := "fnExactTakeText", fn := fun _ => fun
  | [d] => { results := [.lit (.bool false)], args := [d] }
  | _ => none }
def FnExactTakeTextWrongFalsely : Prop := fnExactTakeTextRow.holds Try.pinned (OpenSpec.ofChange fnExactTakeTextWrong)

/-- 'laws.FnSums': WHATEVER THE INPUT: true; the input reads as it did. -/
def fnSumsSpec : ChangeSpec := { name := "fnSums", fn := fun _ => fun
  | [d] => { results := [.lit (.bool true)], args := [d] }
  | _ => none }
def fnSumsRow : OpenClaim := { program := "ytfcjacncllmapac", sum := "3732fa8f9155264b7d1c095beb54be43536f567be765ef7dd4b186857c87e9a8", func := "loop.example/g00214/laws.FnSums", spec := "fnSums", apart := false }
def FnSumsSaid : Prop := fnSumsRow.holds Try.pinned (OpenSpec.ofChange fnSumsSpec)

/-- ITS FALSE NEIGHBOUR: 'it returns false'. Refute it at one input. -/
def fnSumsWrong : ChangeSpec := { name := "fnSums", fn := fun _ => fun
  | [d] => { results := [.lit (.bool false)], args := [d] }
  | _ => none }
def FnSumsWrongFalsely : Prop := fnSumsRow.holds Try.pinned (OpenSpec.ofChange fnSumsWrong)

/-- 'laws.FnVars': WHATEVER THE INPUT: true; the input reads as it did. -/
def fnVarsSpec : ChangeSpec := { name := "fnVars", fn := fun _ => fun
  | [d] => { results := [.lit (.bool true)], args := [d] }
  | _ => none }
def fnVarsRow : OpenClaim := { program := "ytfcjacncllmapac", sum := "3732fa8f9155264b7d1c095beb54be43536f567be765ef7dd4b186857c87e9a8", func := "loop.example/g00214/laws.FnVars", spec := "fnVars", apart := false }
def FnVarsSaid : Prop := fnVarsRow.holds Try.pinned (OpenSpec.ofChange fnVarsSpec)

/-- ITS FALSE NEIGHBOUR: 'it returns false'. Refute it at one input. -/
def fnVarsWrong : ChangeSpec := { name := "fnVars", fn := fun _ => fun
  | [d] => { results := [.lit (.bool false)], args := [d] }
  | _ => none }
def FnVarsWrongFalsely : Prop := fnVarsRow.holds Try.pinned (OpenSpec.ofChange fnVarsWrong)

/-- 'laws.FnExactWriteLog': WHATEVER THE INPUT: true; the input reads as it did. -/
def fnExactWriteLogSpec : ChangeSpec := { name := "fnExactWriteLog", fn := fun _ => fun
  | [d1, d2] => { results := [.lit (.bool true)], args := [d1, d2] }
  | _ => none }
def fnExactWriteLogRow : OpenClaim := { program := "ytfcjacncllmapac", sum := "3732fa8f9155264b7d1c095beb54be43536f567be765ef7dd4b186857c87e9a8", func := "loop.example/g00214/laws.FnExactWriteLog", spec := "fnExactWriteLog", apart := false }
def FnExactWriteLogSaid : Prop := fnExactWriteLogRow.holds Try.pinned (OpenSpec.ofChange fnExactWriteLogSpec)

/-- ITS FALSE NEIGHBOUR: 'it returns false'. Refute it at one input. -/
def fnExactWriteLogWrong : ChangeSpec := { name := "fnExactWriteLog", fn := fun _ => fun
  | [d1, d2] => { results := [.lit (.bool false)], args := [d1, d2] }
  | _ => none }
def FnExactWriteLogWrongFalsely : Prop := fnExactWriteLogRow.holds Try.pinned (OpenSpec.ofChange fnExactWriteLogWrong)

/-- 'laws.FnExactReadLog': WHATEVER THE INPUT: true; the input reads as it did. -/
def fnExactReadLogSpec : ChangeSpec := { name := "fnExactReadLog", fn := fun _ => fun
  | [d] => { results := [.lit (.bool true)], args := [d] }
  | _ => none }
def fnExactReadLogRow : OpenClaim := { program := "ytfcjacncllmapac", sum := "3732fa8f9155264b7d1c095beb54be43536f567be765ef7dd4b186857c87e9a8", func := "loop.example/g00214/laws.FnExactReadLog", spec := "fnExactReadLog", apart := false }
def FnExactReadLogSaid : Prop := fnExactReadLogRow.holds Try.pinned (OpenSpec.ofChange fnExactReadLogSpec)

/-- ITS FALSE NEIGHBOUR: 'it returns false'. Refute it at one input. -/
def fnExactReadLogWrong : ChangeSpec := { name := "fnExactReadLog", fn := fun _ => fun
  | [d] => { results := [.lit (.bool false)], args := [d] }
  | _ => none }
def FnExactReadLogWrongFalsely : Prop := fnExactReadLogRow.holds Try.pinned (OpenSpec.ofChange fnExactReadLogWrong)

/-- 'laws.FnLogged': WHATEVER THE INPUT: true; the input reads as it did. -/
def fnLoggedSpec : ChangeSpec := { name := "fnLogged", fn := fun _ => fun
  | [d] => { results := [.lit (.bool true)], args := [d] }
  | _ => none }
def fnLoggedRow : OpenClaim := { program := "ytfcjacncllmapac", sum := "3732fa8f9155264b7d1c095beb54be43536f567be765ef7dd4b186857c87e9a8", func := "loop.example/g00214/laws.FnLogged", spec := "fnLogged", apart := false }
def FnLoggedSaid : Prop := fnLoggedRow.holds Try.pinned (OpenSpec.ofChange fnLoggedSpec)

/-- ITS FALSE NEIGHBOUR: 'it returns false'. Refute it at one input. -/
def fnLoggedWrong : ChangeSpec := { name := "fnLogged", fn := fun _ => fun
  | [d] => { results := [.lit (.bool false)], args := [d] }
  | _ => none }
def FnLoggedWrongFalsely : Prop := fnLoggedRow.holds Try.pinned (OpenSpec.ofChange fnLoggedWrong)

/- THE SECOND FORM. 'bulk': how many values and letters a reading holds, each counted each time it is reached (what is shared counts as often as it is met; a slice's spare places count too). A statement '..UptoSaid' is the law's where the arguments, and the package variables that the reading takes, are together of bulk at most 1048576: NARROWER than '..Said'. Prove '..Said' where nothing that the law and all that it calls make is longer than what came in: it says more and counts as full. Else prove '..UptoSaid'. A law counts once. -/
mutual
def uptoBulk {H : Type} : DataW H → Nat
  | .lit (.string bytes) => bytes.length + 1
  | .lit _ => 1
  | .nil => 1
  | .ptr d => uptoBulk d + 1
  | .slice elems spare => uptoBulkAll elems + uptoBulkAll spare + 1
  | .agg parts => uptoBulkAll parts + 1
  | .iface _ d => uptoBulk d + 1
  | .map entries => uptoBulkEntries entries + 1
  | .held _ => 1
def uptoBulkAll {H : Type} : List (DataW H) → Nat
  | [] => 0
  | d :: r => uptoBulk d + uptoBulkAll r
def uptoBulkEntries {H : Type} : List (Lit × DataW H) → Nat
  | [] => 0
  | x :: r => uptoBulkEntry x + uptoBulkEntries r
def uptoBulkEntry {H : Type} : Lit × DataW H → Nat
  | (.string bytes, d) => bytes.length + uptoBulk d + 1
  | (_, d) => uptoBulk d + 1
 end
def uptoSmall : (H : Type) → List (DataW H) → Bool := fun _ ds => decide (uptoBulkAll ds ≤ 1048576)
def OpenSpec.upto (s : _root_.Go.ChangeSpec) : _root_.Go.OpenSpec := { _root_.Go.OpenSpec.ofChange s with cond := some uptoSmall }

/-- 'laws.FnExactTakeText', WHERE WHAT IT READS IS OF BULK AT MOST 1048576: true; the input reads as it did. -/
def fnExactTakeTextUptoRow : OpenClaim := { program := "ytfcjacncllmapac", sum := "3732fa8f9155264b7d1c095beb54be43536f567be765ef7dd4b186857c87e9a8", func := "loop.example/g00214/laws.FnExactTakeText", spec := "fnExactTakeText", apart := false, narrowed := true }
def FnExactTakeTextUptoSaid : Prop := fnExactTakeTextUptoRow.holds Try.pinned (OpenSpec.upto fnExactTakeTextSpec)

/-- 'laws.FnSums', WHERE WHAT IT READS IS OF BULK AT MOST 1048576: true; the input reads as it did. -/
def fnSumsUptoRow : OpenClaim := { program := "ytfcjacncllmapac", sum := "3732fa8f9155264b7d1c095beb54be43536f567be765ef7dd4b186857c87e9a8", func := "loop.example/g00214/laws.FnSums", spec := "fnSums", apart := false, narrowed := true }
def FnSumsUptoSaid : Prop := fnSumsUptoRow.holds Try.pinned (OpenSpec.upto fnSumsSpec)

/-- 'laws.FnVars', WHERE WHAT IT READS IS OF BULK AT MOST 1048576: true; the input reads as it did. -/
def fnVarsUptoRow : OpenClaim := { program := "ytfcjacncllmapac", sum := "3732fa8f9155264b7d1c095beb54be43536f567be765ef7dd4b186857c87e9a8", func := "loop.example/g00214/laws.FnVars", spec := "fnVars", apart := false, narrowed := true }
def FnVarsUptoSaid : Prop := fnVarsUptoRow.holds Try.pinned (OpenSpec.upto fnVarsSpec)

/-- 'laws.FnExactWriteLog', WHERE WHAT IT READS IS OF BULK AT MOST 1048576: true; the input reads as it did. -/
def fnExactWriteLogUptoRow : OpenClaim := { program := "ytfcjacncllmapac", sum := "3732fa8f9155264b7d1c095beb54be43536f567be765ef7dd4b186857c87e9a8", func := "loop.example/g00214/laws.FnExactWriteLog", spec := "fnExactWriteLog", apart := false, narrowed := true }
def FnExactWriteLogUptoSaid : Prop := fnExactWriteLogUptoRow.holds Try.pinned (OpenSpec.upto fnExactWriteLogSpec)

/-- 'laws.FnExactReadLog', WHERE WHAT IT READS IS OF BULK AT MOST 1048576: true; the input reads as it did. -/
def fnExactReadLogUptoRow : OpenClaim := { program := "ytfcjacncllmapac", sum := "3732fa8f9155264b7d1c095beb54be43536f567be765ef7dd4b186857c87e9a8", func := "loop.example/g00214/laws.FnExactReadLog", spec := "fnExactReadLog", apart := false, narrowed := true }
def FnExactReadLogUptoSaid : Prop := fnExactReadLogUptoRow.holds Try.pinned (OpenSpec.upto fnExactReadLogSpec)

/-- 'laws.FnLogged', WHERE WHAT IT READS IS OF BULK AT MOST 1048576: true; the input reads as it did. -/
def fnLoggedUptoRow : OpenClaim := { program := "ytfcjacncllmapac", sum := "3732fa8f9155264b7d1c095beb54be43536f567be765ef7dd4b186857c87e9a8", func := "loop.example/g00214/laws.FnLogged", spec := "fnLogged", apart := false, narrowed := true }
def FnLoggedUptoSaid : Prop := fnLoggedUptoRow.holds Try.pinned (OpenSpec.upto fnLoggedSpec)

end Rows
end Go.Proofs.Ytfcjacncllmapac
