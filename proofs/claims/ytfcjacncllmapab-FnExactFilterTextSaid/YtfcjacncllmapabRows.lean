/-
  No cell of these rows narrows 'for every input' (looked for: loops, veiled, ifaces, maps, wideKeys, modest, calm, conditions, laid).
  DERIVED. THE GIVEN ROWS OF THIS SEAT. 6 by the template 'for every input the law returns true; each argument reads behind the call as it read before'; 0 by the template 'total and deterministic' (their statements: YtfcjacncllmapabTotals.lean).
  GIVEN WITH THE SEED: the statements are not yours to turn. If you find one false, say at which input.
  Laid BY PROGRAM, IN A SANDBOX (cutbox-rows.mjs): the forced cells as the released guide's own fill.sh prints them over the translation f8168f930141e183… (all of the seat's roots in one cut). By AI agents, Wed Nov 11 2026. No macro, syntax, notation, axiom, sorry.
-/
import Derived.Test.YtfcjacncllmapabChecked
import GoSem.Claim
import GoSem.ClaimJoined
import GoSem.ClaimMapViews
import Derived.JoinedTies
import Derived.KernelRfl
namespace Go.Proofs.Ytfcjacncllmapab
/- THE CELL 'sum', in the pinned program and in every row, IS THE sha256 OF THE DUMP (.gsa) THAT YtfcjacncllmapabProg.lean LOADS. Nothing in Lean hashes anything: it is a label: what it is worth is what the hold of that sum in a sandbox is worth. -/
noncomputable def Try.pinned : Pinned := { name := "ytfcjacncllmapab", sum := "f8168f930141e18311752bc3ef4ffd03b2793855971f771b0f82cc303d2b8f3b", checked := Try.checked }
namespace Rows
def none {H : Type} : Left H := { results := [], args := [] }

/-- 'laws.FnExactEntryOk': WHATEVER THE INPUT: true; the input reads as it did. -/
def fnExactEntryOkSpec : ChangeSpec := { name := "fnExactEntryOk", fn := fun _ => fun
  | [d] => { results := [.lit (.bool true)], args := [d] }
  | _ => none }
def fnExactEntryOkRow : OpenClaim := { program := "ytfcjacncllmapab", sum := "f8168f930141e18311752bc3ef4ffd03b2793855971f771b0f82cc303d2b8f3b", func := "loop.example/g00214/laws.FnExactEntryOk", spec := "fnExactEntryOk", apart := false }
def FnExactEntryOkSaid : Prop := fnExactEntryOkRow.holds Try.pinned (OpenSpec.ofChange fnExactEntryOkSpec)

/-- ITS FALSE NEIGHBOUR: 'it returns false'. Refute it at one input. -/
def fnExactEntryOkWrong : ChangeSpec := { name := "fnExactEntryOk", fn := fun _ => fun
  | [d] => { results := [.lit (.bool false)], args := [d] }
  | _ => none }
def FnExactEntryOkWrongFalsely : Prop := fnExactEntryOkRow.holds Try.pinned (OpenSpec.ofChange fnExactEntryOkWrong)

/-- 'laws.FnExactKeyText': WHATEVER THE INPUT: true; the input reads as it did. -/
def fnExactKeyTextSpec : ChangeSpec := { name := "fnExactKeyText", fn := fun _ => fun
  | [d] => { results := [.lit (.bool true)], args := [d] }
  | _ => none }
def fnExactKeyTextRow : OpenClaim := { program := "ytfcjacncllmapab", sum := "f8168f930141e18311752bc3ef4ffd03b2793855971f771b0f82cc303d2b8f3b", func := "loop.example/g00214/laws.FnExactKeyText", spec := "fnExactKeyText", apart := false }
def FnExactKeyTextSaid : Prop := fnExactKeyTextRow.holds Try.pinned (OpenSpec.ofChange fnExactKeyTextSpec)

/-- ITS FALSE NEIGHBOUR: 'it returns false'. Refute it at one input. -/
def fnExactKeyTextWrong : ChangeSpec := { name := "fnExactKeyText", fn := fun _ => fun
  | [d] => { results := [.lit (.bool false)], args := [d] }
  | _ => none }
def FnExactKeyTextWrongFalsely : Prop := fnExactKeyTextRow.holds Try.pinned (OpenSpec.ofChange fnExactKeyTextWrong)

/-- 'laws.FnExactReadKey': WHATEVER THE INPUT: true; the input reads as it did. -/
def fnExactReadKeySpec : ChangeSpec := { name := "fnExactReadKey", fn := fun _ => fun
  | [d] => { results := [.lit (.bool true)], args := [d] }
  | _ => none }
def fnExactReadKeyRow : OpenClaim := { program := "ytfcjacncllmapab", sum := "f8168f930141e18311752bc3ef4ffd03b2793855971f771b0f82cc303d2b8f3b", func := "loop.example/g00214/laws.FnExactReadKey", spec := "fnExactReadKey", apart := false }
def FnExactReadKeySaid : Prop := fnExactReadKeyRow.holds Try.pinned (OpenSpec.ofChange fnExactReadKeySpec)

/-- ITS FALSE NEIGHBOUR: 'it returns false'. Refute it at one input. -/
def fnExactReadKeyWrong : ChangeSpec := { name := "fnExactReadKey", fn := fun _ => fun
  | [d] => { results := [.lit (.bool false)], args := [d] }
  | _ => none }
def FnExactReadKeyWrongFalsely : Prop := fnExactReadKeyRow.holds Try.pinned (OpenSpec.ofChange fnExactReadKeyWrong)

/-- 'laws.FnKeyTexts': WHATEVER THE INPUT: true; the input reads as it did. -/
def fnKeyTextsSpec : ChangeSpec := { name := "fnKeyTexts", fn := fun _ => fun
  | [d] => { results := [.lit (.bool true)], args := [d] }
  | _ => none }
def fnKeyTextsRow : OpenClaim := { program := "ytfcjacncllmapab", sum := "f8168f930141e18311752bc3ef4ffd03b2793855971f771b0f82cc303d2b8f3b", func := "loop.example/g00214/laws.FnKeyTexts", spec := "fnKeyTexts", apart := false }
def FnKeyTextsSaid : Prop := fnKeyTextsRow.holds Try.pinned (OpenSpec.ofChange fnKeyTextsSpec)

/-- ITS FALSE NEIGHBOUR: 'it returns false'. Refute it at one input. -/
def fnKeyTextsWrong : ChangeSpec := { name := "fnKeyTexts", fn := fun _ => fun
  | [d] => { results := [.lit (.bool false)], args := [d] }
  | _ => none }
def FnKeyTextsWrongFalsely : Prop := fnKeyTextsRow.holds Try.pinned (OpenSpec.ofChange fnKeyTextsWrong)

/-- 'laws.FnExactFilterOk': WHATEVER THE INPUT: true; the input reads as it did. -/
def fnExactFilterOkSpec : ChangeSpec := { name := "fnExactFilterOk", fn := fun _ => fun
  | [d] => { results := [.lit (.bool true)], args := [d] }
  | _ => none }
def fnExactFilterOkRow : OpenClaim := { program := "ytfcjacncllmapab", sum := "f8168f930141e18311752bc3ef4ffd03b2793855971f771b0f82cc303d2b8f3b", func := "loop.example/g00214/laws.FnExactFilterOk", spec := "fnExactFilterOk", apart := false }
def FnExactFilterOkSaid : Prop := fnExactFilterOkRow.holds Try.pinned (OpenSpec.ofChange fnExactFilterOkSpec)

/-- ITS FALSE NEIGHBOUR: 'it returns false'. Refute it at one input. -/
def fnExactFilterOkWrong : ChangeSpec := { name := "fnExactFilterOk", fn := fun _ => fun
  | [d] => { results := [.lit (.bool false)], args := [d] }
  | _ => none }
def FnExactFilterOkWrongFalsely : Prop := fnExactFilterOkRow.holds Try.pinned (OpenSpec.ofChange fnExactFilterOkWrong)

/-- 'laws.FnExactFilterText': WHATEVER THE INPUT: true; the input reads as it did. -/
def fnExactFilterTextSpec : ChangeSpec := { name := "fnExactFilterText", fn := fun _ => fun
  | [d] => { results := [.lit (.bool true)], args := [d] }
  | _ => none }
def fnExactFilterTextRow : OpenClaim := { program := "ytfcjacncllmapab", sum := "f8168f930141e18311752bc3ef4ffd03b2793855971f771b0f82cc303d2b8f3b", func := "loop.example/g00214/laws.FnExactFilterText", spec := "fnExactFilterText", apart := false }
def FnExactFilterTextSaid : Prop := fnExactFilterTextRow.holds Try.pinned (OpenSpec.ofChange fnExactFilterTextSpec)

/-- ITS FALSE NEIGHBOUR: 'it returns false'. Refute it at one input. -/
def fnExactFilterTextWrong : ChangeSpec := { name := "fnExactFilterText", fn := fun _ => fun
  | [d] => { results := [.lit (.bool false)], args := [d] }
  | _ => none }
def FnExactFilterTextWrongFalsely : Prop := fnExactFilterTextRow.holds Try.pinned (OpenSpec.ofChange fnExactFilterTextWrong)

/- THE SECOND FORM. 'bulk': how many values and letters a reading holds, each counted each time it is reached (what is shared counts as often as it is met; a slice's spare places count too). A statement '..UptoSaid' is the law's where the arguments, and the package variables that the reading takes, are together of bulk at most 1048576: NARROWER than '..Said'. Prove '..Said' where nothing that the law and all that it calls make is longer than what came in: it says more and counts as full. Else prove '..UptoSaid'. A law counts once. -/
mutual
def uptoBulk {H : Type} : DataW H → Nat
  | .lit (.string bytes) => bytes.length + 1
  | .lit _ => 1
  | .nil => 1
  | .ptr d => uptoBulk d + 1
  | .slice elems spare => uptoBulkAll elems + uptoBulkAll spare + 1
  | .agg parts => uptoBulkAll parts + 1
  | .iface _ d => uptoBulk d + 1
  | .map entries => uptoBulkEntries entries + 1
  | .held _ => 1
def uptoBulkAll {H : Type} : List (DataW H) → Nat
  | [] => 0
  | d :: r => uptoBulk d + uptoBulkAll r
def uptoBulkEntries {H : Type} : List (Lit × DataW H) → Nat
  | [] => 0
  | x :: r => uptoBulkEntry x + uptoBulkEntries r
def uptoBulkEntry {H : Type} : Lit × DataW H → Nat
  | (.string bytes, d) => bytes.length + uptoBulk d + 1
  | (_, d) => uptoBulk d + 1
 end
def uptoSmall : (H : Type) → List (DataW H) → Bool := fun _ ds => decide (uptoBulkAll ds ≤ 1048576)
def OpenSpec.upto (s : _root_.Go.ChangeSpec) : _root_.Go.OpenSpec := { _root_.Go.OpenSpec.ofChange s with cond := some uptoSmall }

/-- 'laws.FnExactEntryOk', WHERE WHAT IT READS IS OF BULK AT MOST 1048576: true; the input reads as it did. -/
def fnExactEntryOkUptoRow : OpenClaim := { program := "ytfcjacncllmapab", sum := "f8168f930141e18311752bc3ef4ffd03b2793855971f771b0f82cc303d2b8f3b", func := "loop.example/g00214/laws.FnExactEntryOk", spec := "fnExactEntryOk", apart := false, narrowed := true }
def FnExactEntryOkUptoSaid : Prop := fnExactEntryOkUptoRow.holds Try.pinned (OpenSpec.upto fnExactEntryOkSpec)

/-- 'laws.FnExactKeyText', WHERE WHAT IT READS IS OF BULK AT MOST 1048576: true; the input reads as it did. -/
def fnExactKeyTextUptoRow : OpenClaim := { program := "ytfcjacncllmapab", sum := "f8168f930141e18311752bc3ef4ffd03b2793855971f771b0f82cc303d2b8f3b", func := "loop.example/g00214/laws.FnExactKeyText", spec := "fnExactKeyText", apart := false, narrowed := true }
def FnExactKeyTextUptoSaid : Prop := fnExactKeyTextUptoRow.holds Try.pinned (OpenSpec.upto fnExactKeyTextSpec)

/-- 'laws.FnExactReadKey', WHERE WHAT IT READS IS OF BULK AT MOST 1048576: true; the input reads as it did. -/
def fnExactReadKeyUptoRow : OpenClaim := { program := "ytfcjacncllmapab", sum := "f8168f930141e18311752bc3ef4ffd03b2793855971f771b0f82cc303d2b8f3b", func := "loop.example/g00214/laws.FnExactReadKey", spec := "fnExactReadKey", apart := false, narrowed := true }
def FnExactReadKeyUptoSaid : Prop := fnExactReadKeyUptoRow.holds Try.pinned (OpenSpec.upto fnExactReadKeySpec)

/-- 'laws.FnKeyTexts', WHERE WHAT IT READS IS OF BULK AT MOST 1048576: true; the input reads as it did. -/
def fnKeyTextsUptoRow : OpenClaim := { program := "ytfcjacncllmapab", sum := "f8168f930141e18311752bc3ef4ffd03b2793855971f771b0f82cc303d2b8f3b", func := "loop.example/g00214/laws.FnKeyTexts", spec := "fnKeyTexts", apart := false, narrowed := true }
def FnKeyTextsUptoSaid : Prop := fnKeyTextsUptoRow.holds Try.pinned (OpenSpec.upto fnKeyTextsSpec)

/-- 'laws.FnExactFilterOk', WHERE WHAT IT READS IS OF BULK AT MOST 1048576: true; the input reads as it did. -/
def fnExactFilterOkUptoRow : OpenClaim := { program := "ytfcjacncllmapab", sum := "f8168f930141e18311752bc3ef4ffd03b2793855971f771b0f82cc303d2b8f3b", func := "loop.example/g00214/laws.FnExactFilterOk", spec := "fnExactFilterOk", apart := false, narrowed := true }
def FnExactFilterOkUptoSaid : Prop := fnExactFilterOkUptoRow.holds Try.pinned (OpenSpec.upto fnExactFilterOkSpec)

/-- 'laws.FnExactFilterText', WHERE WHAT IT READS IS OF BULK AT MOST 1048576: true; the input reads as it did. -/
def fnExactFilterTextUptoRow : OpenClaim := { program := "ytfcjacncllmapab", sum := "f8168f930141e18311752bc3ef4ffd03b2793855971f771b0f82cc303d2b8f3b", func := "loop.example/g00214/laws.FnExactFilterText", spec := "fnExactFilterText", apart := false, narrowed := true }
def FnExactFilterTextUptoSaid : Prop := fnExactFilterTextUptoRow.holds Try.pinned (OpenSpec.upto fnExactFilterTextSpec)

end Rows
end Go.Proofs.Ytfcjacncllmapab
