/-
  No cell of these rows narrows 'for every input' (looked for: loops, veiled, ifaces, maps, wideKeys, modest, calm, conditions, laid).
  DERIVED. THE GIVEN ROWS OF THIS SEAT. 6 by the template 'for every input the law returns true; each argument reads behind the call as it read before'; 0 by the template 'total and deterministic' (their statements: YtfcjacncllmapaeTotals.lean).
  GIVEN WITH THE SEED: the statements are not yours to turn. If you find one false, say at which input.
  Laid BY PROGRAM, IN A SANDBOX (cutbox-rows.mjs): the forced cells as the released guide's own fill.sh prints them over the translation b1af5d101c79da36… (all of the seat's roots in one cut). By AI agents, Wed Nov 11 2026. No macro, syntax, notation, axiom, sorry.
-/
import Derived.Test.YtfcjacncllmapaeChecked
import GoSem.Claim
import GoSem.ClaimJoined
import GoSem.ClaimMapViews
import Derived.JoinedTies
import Derived.KernelRfl
namespace Go.Proofs.Ytfcjacncllmapae
/- THE CELL 'sum', in the pinned program and in every row, IS THE sha256 OF THE DUMP (.gsa) THAT YtfcjacncllmapaeProg.lean LOADS. Nothing in Lean hashes anything: it is a label: what it is worth is what the hold of that sum in a sandbox is worth. -/
noncomputable def Try.pinned : Pinned := { name := "ytfcjacncllmapae", sum := "b1af5d101c79da36bf5679922e32014f182fc180afe123d300209bc3719e659e", checked := Try.checked }
namespace Rows
def none {H : Type} : Left H := { results := [], args := [] }

/-- 'laws.FnExactKeyCmp': WHATEVER THE INPUT: true; the input reads as it did. -/
def fnExactKeyCmpSpec : ChangeSpec := { name := "fnExactKeyCmp", fn := fun _ => fun
  | [d1, d2] => { results := [.lit (.bool true)], args := [d1, d2] }
  | _ => none }
def fnExactKeyCmpRow : OpenClaim := { program := "ytfcjacncllmapae", sum := "b1af5d101c79da36bf5679922e32014f182fc180afe123d300209bc3719e659e", func := "loop.example/g00214/laws.FnExactKeyCmp", spec := "fnExactKeyCmp", apart := false }
def FnExactKeyCmpSaid : Prop := fnExactKeyCmpRow.holds Try.pinned (OpenSpec.ofChange fnExactKeyCmpSpec)

/-- ITS FALSE NEIGHBOUR: 'it returns false'. Refute it at one input. -/
def fnExactKeyCmpWrong : ChangeSpec := { name := "fnExactKeyCmp", fn := fun _ => fun
  | [d1, d2] => { results := [.lit (.bool false)], args := [d1, d2] }
  | _ => none }
def FnExactKeyCmpWrongFalsely : Prop := fnExactKeyCmpRow.holds Try.pinned (OpenSpec.ofChange fnExactKeyCmpWrong)

/-- 'laws.FnKeys': WHATEVER THE INPUT: true; the input reads as it did. -/
def fnKeysSpec : ChangeSpec := { name := "fnKeys", fn := fun _ => fun
  | [d] => { results := [.lit (.bool true)], args := [d] }
  | _ => none }
def fnKeysRow : OpenClaim := { program := "ytfcjacncllmapae", sum := "b1af5d101c79da36bf5679922e32014f182fc180afe123d300209bc3719e659e", func := "loop.example/g00214/laws.FnKeys", spec := "fnKeys", apart := false }
def FnKeysSaid : Prop := fnKeysRow.holds Try.pinned (OpenSpec.ofChange fnKeysSpec)

/-- ITS FALSE NEIGHBOUR: 'it returns false'. Refute it at one input. -/
def fnKeysWrong : ChangeSpec := { name := "fnKeys", fn := fun _ => fun
  | [d] => { results := [.lit (.bool false)], args := [d] }
  | _ => none }
def FnKeysWrongFalsely : Prop := fnKeysRow.holds Try.pinned (OpenSpec.ofChange fnKeysWrong)

/-- 'laws.FnExactEntriesOk': WHATEVER THE INPUT: true; the input reads as it did. -/
def fnExactEntriesOkSpec : ChangeSpec := { name := "fnExactEntriesOk", fn := fun _ => fun
  | [d] => { results := [.lit (.bool true)], args := [d] }
  | _ => none }
def fnExactEntriesOkRow : OpenClaim := { program := "ytfcjacncllmapae", sum := "b1af5d101c79da36bf5679922e32014f182fc180afe123d300209bc3719e659e", func := "loop.example/g00214/laws.FnExactEntriesOk", spec := "fnExactEntriesOk", apart := false }
def FnExactEntriesOkSaid : Prop := fnExactEntriesOkRow.holds Try.pinned (OpenSpec.ofChange fnExactEntriesOkSpec)

/-- ITS FALSE NEIGHBOUR: 'it returns false'. Refute it at one input. -/
def fnExactEntriesOkWrong : ChangeSpec := { name := "fnExactEntriesOk", fn := fun _ => fun
  | [d] => { results := [.lit (.bool false)], args := [d] }
  | _ => none }
def FnExactEntriesOkWrongFalsely : Prop := fnExactEntriesOkRow.holds Try.pinned (OpenSpec.ofChange fnExactEntriesOkWrong)

/-- 'laws.FnExactMemBytes': WHATEVER THE INPUT: true; the input reads as it did. -/
def fnExactMemBytesSpec : ChangeSpec := { name := "fnExactMemBytes", fn := fun _ => fun
  | [d] => { results := [.lit (.bool true)], args := [d] }
  | _ => none }
def fnExactMemBytesRow : OpenClaim := { program := "ytfcjacncllmapae", sum := "b1af5d101c79da36bf5679922e32014f182fc180afe123d300209bc3719e659e", func := "loop.example/g00214/laws.FnExactMemBytes", spec := "fnExactMemBytes", apart := false }
def FnExactMemBytesSaid : Prop := fnExactMemBytesRow.holds Try.pinned (OpenSpec.ofChange fnExactMemBytesSpec)

/-- ITS FALSE NEIGHBOUR: 'it returns false'. Refute it at one input. -/
def fnExactMemBytesWrong : ChangeSpec := { name := "fnExactMemBytes", fn := fun _ => fun
  | [d] => { results := [.lit (.bool false)], args := [d] }
  | _ => none }
def FnExactMemBytesWrongFalsely : Prop := fnExactMemBytesRow.holds Try.pinned (OpenSpec.ofChange fnExactMemBytesWrong)

/-- 'laws.FnExactSeekEntry': WHATEVER THE INPUT: true; the input reads as it did. -/
def fnExactSeekEntrySpec : ChangeSpec := { name := "fnExactSeekEntry", fn := fun _ => fun
  | [d1, d2] => { results := [.lit (.bool true)], args := [d1, d2] }
  | _ => none }
def fnExactSeekEntryRow : OpenClaim := { program := "ytfcjacncllmapae", sum := "b1af5d101c79da36bf5679922e32014f182fc180afe123d300209bc3719e659e", func := "loop.example/g00214/laws.FnExactSeekEntry", spec := "fnExactSeekEntry", unfollowed := true, recurses := true, apart := false }
def FnExactSeekEntrySaid : Prop := fnExactSeekEntryRow.holds Try.pinned (OpenSpec.ofChange fnExactSeekEntrySpec)

/-- ITS FALSE NEIGHBOUR: 'it returns false'. Refute it at one input. -/
def fnExactSeekEntryWrong : ChangeSpec := { name := "fnExactSeekEntry", fn := fun _ => fun
  | [d1, d2] => { results := [.lit (.bool false)], args := [d1, d2] }
  | _ => none }
def FnExactSeekEntryWrongFalsely : Prop := fnExactSeekEntryRow.holds Try.pinned (OpenSpec.ofChange fnExactSeekEntryWrong)

/-- 'laws.FnExactMemGet': WHATEVER THE INPUT: true; the input reads as it did. -/
def fnExactMemGetSpec : ChangeSpec := { name := "fnExactMemGet", fn := fun _ => fun
  | [d1, d2, d3] => { results := [.lit (.bool true)], args := [d1, d2, d3] }
  | _ => none }
def fnExactMemGetRow : OpenClaim := { program := "ytfcjacncllmapae", sum := "b1af5d101c79da36bf5679922e32014f182fc180afe123d300209bc3719e659e", func := "loop.example/g00214/laws.FnExactMemGet", spec := "fnExactMemGet", unfollowed := true, recurses := true, apart := false }
def FnExactMemGetSaid : Prop := fnExactMemGetRow.holds Try.pinned (OpenSpec.ofChange fnExactMemGetSpec)

/-- ITS FALSE NEIGHBOUR: 'it returns false'. Refute it at one input. -/
def fnExactMemGetWrong : ChangeSpec := { name := "fnExactMemGet", fn := fun _ => fun
  | [d1, d2, d3] => { results := [.lit (.bool false)], args := [d1, d2, d3] }
  | _ => none }
def FnExactMemGetWrongFalsely : Prop := fnExactMemGetRow.holds Try.pinned (OpenSpec.ofChange fnExactMemGetWrong)

/- THE SECOND FORM. 'bulk': how many values and letters a reading holds, each counted each time it is reached (what is shared counts as often as it is met; a slice's spare places count too). A statement '..UptoSaid' is the law's where the arguments, and the package variables that the reading takes, are together of bulk at most 1048576: NARROWER than '..Said'. Prove '..Said' where nothing that the law and all that it calls make is longer than what came in: it says more and counts as full. Else prove '..UptoSaid'. A law counts once. -/
mutual
def uptoBulk {H : Type} : DataW H → Nat
  | .lit (.string bytes) => bytes.length + 1
  | .lit _ => 1
  | .nil => 1
  | .ptr d => uptoBulk d + 1
  | .slice elems spare => uptoBulkAll elems + uptoBulkAll spare + 1
  | .agg parts => uptoBulkAll parts + 1
  | .iface _ d => uptoBulk d + 1
  | .map entries => uptoBulkEntries entries + 1
  | .held _ => 1
def uptoBulkAll {H : Type} : List (DataW H) → Nat
  | [] => 0
  | d :: r => uptoBulk d + uptoBulkAll r
def uptoBulkEntries {H : Type} : List (Lit × DataW H) → Nat
  | [] => 0
  | x :: r => uptoBulkEntry x + uptoBulkEntries r
def uptoBulkEntry {H : Type} : Lit × DataW H → Nat
  | (.string bytes, d) => bytes.length + uptoBulk d + 1
  | (_, d) => uptoBulk d + 1
 end
def uptoSmall : (H : Type) → List (DataW H) → Bool := fun _ ds => decide (uptoBulkAll ds ≤ 1048576)
def OpenSpec.upto (s : _root_.Go.ChangeSpec) : _root_.Go.OpenSpec := { _root_.Go.OpenSpec.ofChange s with cond := some uptoSmall }

/-- 'laws.FnExactKeyCmp', WHERE WHAT IT READS IS OF BULK AT MOST 1048576: true; the input reads as it did. -/
def fnExactKeyCmpUptoRow : OpenClaim := { program := "ytfcjacncllmapae", sum := "b1af5d101c79da36bf5679922e32014f182fc180afe123d300209bc3719e659e", func := "loop.example/g00214/laws.FnExactKeyCmp", spec := "fnExactKeyCmp", apart := false, narrowed := true }
def FnExactKeyCmpUptoSaid : Prop := fnExactKeyCmpUptoRow.holds Try.pinned (OpenSpec.upto fnExactKeyCmpSpec)

/-- 'laws.FnKeys', WHERE WHAT IT READS IS OF BULK AT MOST 1048576: true; the input reads as it did. -/
def fnKeysUptoRow : OpenClaim := { program := "ytfcjacncllmapae", sum := "b1af5d101c79da36bf5679922e32014f182fc180afe123d300209bc3719e659e", func := "loop.example/g00214/laws.FnKeys", spec := "fnKeys", apart := false, narrowed := true }
def FnKeysUptoSaid : Prop := fnKeysUptoRow.holds Try.pinned (OpenSpec.upto fnKeysSpec)

/-- 'laws.FnExactEntriesOk', WHERE WHAT IT READS IS OF BULK AT MOST 1048576: true; the input reads as it did. -/
def fnExactEntriesOkUptoRow : OpenClaim := { program := "ytfcjacncllmapae", sum := "b1af5d101c79da36bf5679922e32014f182fc180afe123d300209bc3719e659e", func := "loop.example/g00214/laws.FnExactEntriesOk", spec := "fnExactEntriesOk", apart := false, narrowed := true }
def FnExactEntriesOkUptoSaid : Prop := fnExactEntriesOkUptoRow.holds Try.pinned (OpenSpec.upto fnExactEntriesOkSpec)

/-- 'laws.FnExactMemBytes', WHERE WHAT IT READS IS OF BULK AT MOST 1048576: true; the input reads as it did. -/
def fnExactMemBytesUptoRow : OpenClaim := { program := "ytfcjacncllmapae", sum := "b1af5d101c79da36bf5679922e32014f182fc180afe123d300209bc3719e659e", func := "loop.example/g00214/laws.FnExactMemBytes", spec := "fnExactMemBytes", apart := false, narrowed := true }
def FnExactMemBytesUptoSaid : Prop := fnExactMemBytesUptoRow.holds Try.pinned (OpenSpec.upto fnExactMemBytesSpec)

/-- 'laws.FnExactSeekEntry', WHERE WHAT IT READS IS OF BULK AT MOST 1048576: true; the input reads as it did. -/
def fnExactSeekEntryUptoRow : OpenClaim := { program := "ytfcjacncllmapae", sum := "b1af5d101c79da36bf5679922e32014f182fc180afe123d300209bc3719e659e", func := "loop.example/g00214/laws.FnExactSeekEntry", spec := "fnExactSeekEntry", unfollowed := true, recurses := true, apart := false, narrowed := true }
def FnExactSeekEntryUptoSaid : Prop := fnExactSeekEntryUptoRow.holds Try.pinned (OpenSpec.upto fnExactSeekEntrySpec)

/-- 'laws.FnExactMemGet', WHERE WHAT IT READS IS OF BULK AT MOST 1048576: true; the input reads as it did. -/
def fnExactMemGetUptoRow : OpenClaim := { program := "ytfcjacncllmapae", sum := "b1af5d101c79da36bf5679922e32014f182fc180afe123d300209bc3719e659e", func := "loop.example/g00214/laws.FnExactMemGet", spec := "fnExactMemGet", unfollowed := true, recurses := true, apart := false, narrowed := true }
def FnExactMemGetUptoSaid : Prop := fnExactMemGetUptoRow.holds Try.pinned (OpenSpec.upto fnExactMemGetSpec)

end Rows
end Go.Proofs.Ytfcjacncllmapae
