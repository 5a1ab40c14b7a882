/-
  No cell of these rows narrows 'for every input' (looked for: loops, veiled, ifaces, maps, wideKeys, modest, calm, conditions, laid).
  DERIVED. THE GIVEN ROWS OF THIS SEAT. 3 by the template 'for every input the law returns true; each argument reads behind the call as it read before'; 0 by the template 'total and deterministic' (their statements: YtfcjacncllmapaaTotals.lean).
  GIVEN WITH THE SEED: the statements are not yours to turn. If you find one false, say at which input.
  Laid BY PROGRAM, IN A SANDBOX (cutbox-rows.mjs): the forced cells as the released guide's own fill.sh prints them over the translation 30a5ef2022babe0b… (all of the seat's roots in one cut). By AI agents, Wed Nov 11 2026. No macro, syntax, notation, axiom, sorry.
-/
import Derived.Test.YtfcjacncllmapaaChecked
import GoSem.Claim
import GoSem.ClaimJoined
import GoSem.ClaimMapViews
import Derived.JoinedTies
import Derived.KernelRfl
namespace Go.Proofs.Ytfcjacncllmapaa
/- THE CELL 'sum', in the pinned program and in every row, IS THE sha256 OF THE DUMP (.gsa) THAT YtfcjacncllmapaaProg.lean LOADS. Nothing in Lean hashes anything: it is a label: what it is worth is what the hold of that sum in a sandbox is worth. -/
noncomputable def Try.pinned : Pinned := { name := "ytfcjacncllmapaa", sum := "30a5ef2022babe0bc209be073c2b6144d8162b53286f40b5cbf7bad084c67442", checked := Try.checked }
namespace Rows
def none {H : Type} : Left H := { results := [], args := [] }

/-- 'laws.FnExactHllMerge': WHATEVER THE INPUT: true; the input reads as it did. -/
def fnExactHllMergeSpec : ChangeSpec := { name := "fnExactHllMerge", fn := fun _ => fun
  | [d1, d2] => { results := [.lit (.bool true)], args := [d1, d2] }
  | _ => none }
def fnExactHllMergeRow : OpenClaim := { program := "ytfcjacncllmapaa", sum := "30a5ef2022babe0bc209be073c2b6144d8162b53286f40b5cbf7bad084c67442", func := "loop.example/g00214/laws.FnExactHllMerge", spec := "fnExactHllMerge", apart := false }
def FnExactHllMergeSaid : Prop := fnExactHllMergeRow.holds Try.pinned (OpenSpec.ofChange fnExactHllMergeSpec)

/-- ITS FALSE NEIGHBOUR: 'it returns false'. Refute it at one input. -/
def fnExactHllMergeWrong : ChangeSpec := { name := "fnExactHllMerge", fn := fun _ => fun
  | [d1, d2] => { results := [.lit (.bool false)], args := [d1, d2] }
  | _ => none }
def FnExactHllMergeWrongFalsely : Prop := fnExactHllMergeRow.holds Try.pinned (OpenSpec.ofChange fnExactHllMergeWrong)

/-- 'laws.FnExactHllCount': WHATEVER THE INPUT: true; the input reads as it did. -/
def fnExactHllCountSpec : ChangeSpec := { name := "fnExactHllCount", fn := fun _ => fun
  | [d] => { results := [.lit (.bool true)], args := [d] }
  | _ => none }
def fnExactHllCountRow : OpenClaim := { program := "ytfcjacncllmapaa", sum := "30a5ef2022babe0bc209be073c2b6144d8162b53286f40b5cbf7bad084c67442", func := "loop.example/g00214/laws.FnExactHllCount", spec := "fnExactHllCount", apart := false }
def FnExactHllCountSaid : Prop := fnExactHllCountRow.holds Try.pinned (OpenSpec.ofChange fnExactHllCountSpec)

/-- ITS FALSE NEIGHBOUR: 'it returns false'. Refute it at one input. -/
def fnExactHllCountWrong : ChangeSpec := { name := "fnExactHllCount", fn := fun _ => fun
  | [d] => { results := [.lit (.bool false)], args := [d] }
  | _ => none }
def FnExactHllCountWrongFalsely : Prop := fnExactHllCountRow.holds Try.pinned (OpenSpec.ofChange fnExactHllCountWrong)

/-- 'laws.FnExactUsersOk': WHATEVER THE INPUT: true; the input reads as it did. -/
def fnExactUsersOkSpec : ChangeSpec := { name := "fnExactUsersOk", fn := fun _ => fun
  | [d] => { results := [.lit (.bool true)], args := [d] }
  | _ => none }
def fnExactUsersOkRow : OpenClaim := { program := "ytfcjacncllmapaa", sum := "30a5ef2022babe0bc209be073c2b6144d8162b53286f40b5cbf7bad084c67442", func := "loop.example/g00214/laws.FnExactUsersOk", spec := "fnExactUsersOk", apart := false }
def FnExactUsersOkSaid : Prop := fnExactUsersOkRow.holds Try.pinned (OpenSpec.ofChange fnExactUsersOkSpec)

/-- ITS FALSE NEIGHBOUR: 'it returns false'. Refute it at one input. -/
def fnExactUsersOkWrong : ChangeSpec := { name := "fnExactUsersOk", fn := fun _ => fun
  | [d] => { results := [.lit (.bool false)], args := [d] }
  | _ => none }
def FnExactUsersOkWrongFalsely : Prop := fnExactUsersOkRow.holds Try.pinned (OpenSpec.ofChange fnExactUsersOkWrong)

/- THE SECOND FORM. 'bulk': how many values and letters a reading holds, each counted each time it is reached (what is shared counts as often as it is met; a slice's spare places count too). A statement '..UptoSaid' is the law's where the arguments, and the package variables that the reading takes, are together of bulk at most 1048576: NARROWER than '..Said'. Prove '..Said' where nothing that the law and all that it calls make is longer than what came in: it says more and counts as full. Else prove '..UptoSaid'. A law counts once. -/
mutual
def uptoBulk {H : Type} : DataW H → Nat
  | .lit (.string bytes) => bytes.length + 1
  | .lit _ => 1
  | .nil => 1
  | .ptr d => uptoBulk d + 1
  | .slice elems spare => uptoBulkAll elems + uptoBulkAll spare + 1
  | .agg parts => uptoBulkAll parts + 1
  | .iface _ d => uptoBulk d + 1
  | .map entries => uptoBulkEntries entries + 1
  | .held _ => 1
def uptoBulkAll {H : Type} : List (DataW H) → Nat
  | [] => 0
  | d :: r => uptoBulk d + uptoBulkAll r
def uptoBulkEntries {H : Type} : List (Lit × DataW H) → Nat
  | [] => 0
  | x :: r => uptoBulkEntry x + uptoBulkEntries r
def uptoBulkEntry {H : Type} : Lit × DataW H → Nat
  | (.string bytes, d) => bytes.length + uptoBulk d + 1
  | (_, d) => uptoBulk d + 1
 end
def uptoSmall : (H : Type) → List (DataW H) → Bool := fun _ ds => decide (uptoBulkAll ds ≤ 1048576)
def OpenSpec.upto (s : _root_.Go.ChangeSpec) : _root_.Go.OpenSpec := { _root_.Go.OpenSpec.ofChange s with cond := some uptoSmall }

/-- 'laws.FnExactHllMerge', WHERE WHAT IT READS IS OF BULK AT MOST 1048576: true; the input reads as it did. -/
def fnExactHllMergeUptoRow : OpenClaim := { program := "ytfcjacncllmapaa", sum := "30a5ef2022babe0bc209be073c2b6144d8162b53286f40b5cbf7bad084c67442", func := "loop.example/g00214/laws.FnExactHllMerge", spec := "fnExactHllMerge", apart := false, narrowed := true }
def FnExactHllMergeUptoSaid : Prop := fnExactHllMergeUptoRow.holds Try.pinned (OpenSpec.upto fnExactHllMergeSpec)

/-- 'laws.FnExactHllCount', WHERE WHAT IT READS IS OF BULK AT MOST 1048576: true; the input reads as it did. -/
def fnExactHllCountUptoRow : OpenClaim := { program := "ytfcjacncllmapaa", sum := "30a5ef2022babe0bc209be073c2b6144d8162b53286f40b5cbf7bad084c67442", func := "loop.example/g00214/laws.FnExactHllCount", spec := "fnExactHllCount", apart := false, narrowed := true }
def FnExactHllCountUptoSaid : Prop := fnExactHllCountUptoRow.holds Try.pinned (OpenSpec.upto fnExactHllCountSpec)

/-- 'laws.FnExactUsersOk', WHERE WHAT IT READS IS OF BULK AT MOST 1048576: true; the input reads as it did. -/
def fnExactUsersOkUptoRow : OpenClaim := { program := "ytfcjacncllmapaa", sum := "30a5ef2022babe0bc209be073c2b6144d8162b53286f40b5cbf7bad084c67442", func := "loop.example/g00214/laws.FnExactUsersOk", spec := "fnExactUsersOk", apart := false, narrowed := true }
def FnExactUsersOkUptoSaid : Prop := fnExactUsersOkUptoRow.holds Try.pinned (OpenSpec.upto fnExactUsersOkSpec)

end Rows
end Go.Proofs.Ytfcjacncllmapaa
