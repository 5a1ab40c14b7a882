/-
  No cell of these rows narrows 'for every input' (looked for: loops, veiled, ifaces, maps, wideKeys, modest, calm, conditions, laid).
  DERIVED. THE GIVEN ROWS OF THIS SEAT. 6 by the template 'for every input the law returns true; each argument reads behind the call as it read before'; 0 by the template 'total and deterministic' (their statements: YtfcjacncllmapafTotals.lean).
  GIVEN WITH THE SEED: the statements are not yours to turn. If you find one false, say at which input.
  Laid BY PROGRAM, IN A SANDBOX (cutbox-rows.mjs): the forced cells as the released guide's own fill.sh prints them over the translation 067a8a4f5fc8260f… (all of the seat's roots in one cut). By AI agents, Wed Nov 11 2026. No macro, syntax, notation, axiom, sorry.
-/
import Derived.Test.YtfcjacncllmapafChecked
import GoSem.Claim
import GoSem.ClaimJoined
import GoSem.ClaimMapViews
import Derived.JoinedTies
import Derived.KernelRfl
namespace Go.Proofs.Ytfcjacncllmapaf
/- THE CELL 'sum', in the pinned program and in every row, IS THE sha256 OF THE DUMP (.gsa) THAT YtfcjacncllmapafProg.lean LOADS. Nothing in Lean hashes anything: it is a label: what it is worth is what the hold of that sum in a sandbox is worth. -/
noncomputable def Try.pinned : Pinned := { name := "ytfcjacncllmapaf", sum := "067a8a4f5fc8260f598a04fe77d3a11aa1c22773df4c9a9ec35357c273b50aa8", checked := Try.checked }
namespace Rows
def none {H : Type} : Left H := { results := [], args := [] }

/-- 'laws.FnExactRibbonMay': WHATEVER THE INPUT: true; the input reads as it did. -/
def fnExactRibbonMaySpec : ChangeSpec := { name := "fnExactRibbonMay", fn := fun _ => fun
  | [d1, d2] => { results := [.lit (.bool true)], args := [d1, d2] }
  | _ => none }
def fnExactRibbonMayRow : OpenClaim := { program := "ytfcjacncllmapaf", sum := "067a8a4f5fc8260f598a04fe77d3a11aa1c22773df4c9a9ec35357c273b50aa8", func := "loop.example/g00214/laws.FnExactRibbonMay", spec := "fnExactRibbonMay", apart := false }
def FnExactRibbonMaySaid : Prop := fnExactRibbonMayRow.holds Try.pinned (OpenSpec.ofChange fnExactRibbonMaySpec)

/-- ITS FALSE NEIGHBOUR: 'it returns false'. Refute it at one input. -/
def fnExactRibbonMayWrong : ChangeSpec := { name := "fnExactRibbonMay", fn := fun _ => fun
  | [d1, d2] => { results := [.lit (.bool false)], args := [d1, d2] }
  | _ => none }
def FnExactRibbonMayWrongFalsely : Prop := fnExactRibbonMayRow.holds Try.pinned (OpenSpec.ofChange fnExactRibbonMayWrong)

/-- 'laws.FnExactRibbonOf': WHATEVER THE INPUT: true; the input reads as it did. -/
def fnExactRibbonOfSpec : ChangeSpec := { name := "fnExactRibbonOf", fn := fun _ => fun
  | [d1, d2] => { results := [.lit (.bool true)], args := [d1, d2] }
  | _ => none }
def fnExactRibbonOfRow : OpenClaim := { program := "ytfcjacncllmapaf", sum := "067a8a4f5fc8260f598a04fe77d3a11aa1c22773df4c9a9ec35357c273b50aa8", func := "loop.example/g00214/laws.FnExactRibbonOf", spec := "fnExactRibbonOf", apart := false }
def FnExactRibbonOfSaid : Prop := fnExactRibbonOfRow.holds Try.pinned (OpenSpec.ofChange fnExactRibbonOfSpec)

/-- ITS FALSE NEIGHBOUR: 'it returns false'. Refute it at one input. -/
def fnExactRibbonOfWrong : ChangeSpec := { name := "fnExactRibbonOf", fn := fun _ => fun
  | [d1, d2] => { results := [.lit (.bool false)], args := [d1, d2] }
  | _ => none }
def FnExactRibbonOfWrongFalsely : Prop := fnExactRibbonOfRow.holds Try.pinned (OpenSpec.ofChange fnExactRibbonOfWrong)

/-- 'laws.FnRibbons': WHATEVER THE INPUT: true; the input reads as it did. -/
def fnRibbonsSpec : ChangeSpec := { name := "fnRibbons", fn := fun _ => fun
  | [d] => { results := [.lit (.bool true)], args := [d] }
  | _ => none }
def fnRibbonsRow : OpenClaim := { program := "ytfcjacncllmapaf", sum := "067a8a4f5fc8260f598a04fe77d3a11aa1c22773df4c9a9ec35357c273b50aa8", func := "loop.example/g00214/laws.FnRibbons", spec := "fnRibbons", apart := false }
def FnRibbonsSaid : Prop := fnRibbonsRow.holds Try.pinned (OpenSpec.ofChange fnRibbonsSpec)

/-- ITS FALSE NEIGHBOUR: 'it returns false'. Refute it at one input. -/
def fnRibbonsWrong : ChangeSpec := { name := "fnRibbons", fn := fun _ => fun
  | [d] => { results := [.lit (.bool false)], args := [d] }
  | _ => none }
def FnRibbonsWrongFalsely : Prop := fnRibbonsRow.holds Try.pinned (OpenSpec.ofChange fnRibbonsWrong)

/-- 'laws.FnExactFilterMay': WHATEVER THE INPUT: true; the input reads as it did. -/
def fnExactFilterMaySpec : ChangeSpec := { name := "fnExactFilterMay", fn := fun _ => fun
  | [d1, d2] => { results := [.lit (.bool true)], args := [d1, d2] }
  | _ => none }
def fnExactFilterMayRow : OpenClaim := { program := "ytfcjacncllmapaf", sum := "067a8a4f5fc8260f598a04fe77d3a11aa1c22773df4c9a9ec35357c273b50aa8", func := "loop.example/g00214/laws.FnExactFilterMay", spec := "fnExactFilterMay", apart := false }
def FnExactFilterMaySaid : Prop := fnExactFilterMayRow.holds Try.pinned (OpenSpec.ofChange fnExactFilterMaySpec)

/-- ITS FALSE NEIGHBOUR: 'it returns false'. Refute it at one input. -/
def fnExactFilterMayWrong : ChangeSpec := { name := "fnExactFilterMay", fn := fun _ => fun
  | [d1, d2] => { results := [.lit (.bool false)], args := [d1, d2] }
  | _ => none }
def FnExactFilterMayWrongFalsely : Prop := fnExactFilterMayRow.holds Try.pinned (OpenSpec.ofChange fnExactFilterMayWrong)

/-- 'laws.FnExactFilterOf': WHATEVER THE INPUT: true; the input reads as it did. -/
def fnExactFilterOfSpec : ChangeSpec := { name := "fnExactFilterOf", fn := fun _ => fun
  | [d1, d2] => { results := [.lit (.bool true)], args := [d1, d2] }
  | _ => none }
def fnExactFilterOfRow : OpenClaim := { program := "ytfcjacncllmapaf", sum := "067a8a4f5fc8260f598a04fe77d3a11aa1c22773df4c9a9ec35357c273b50aa8", func := "loop.example/g00214/laws.FnExactFilterOf", spec := "fnExactFilterOf", apart := false }
def FnExactFilterOfSaid : Prop := fnExactFilterOfRow.holds Try.pinned (OpenSpec.ofChange fnExactFilterOfSpec)

/-- ITS FALSE NEIGHBOUR: 'it returns false'. Refute it at one input. -/
def fnExactFilterOfWrong : ChangeSpec := { name := "fnExactFilterOf", fn := fun _ => fun
  | [d1, d2] => { results := [.lit (.bool false)], args := [d1, d2] }
  | _ => none }
def FnExactFilterOfWrongFalsely : Prop := fnExactFilterOfRow.holds Try.pinned (OpenSpec.ofChange fnExactFilterOfWrong)

/-- 'laws.FnSought': WHATEVER THE INPUT: true; the input reads as it did. -/
def fnSoughtSpec : ChangeSpec := { name := "fnSought", fn := fun _ => fun
  | [d] => { results := [.lit (.bool true)], args := [d] }
  | _ => none }
def fnSoughtRow : OpenClaim := { program := "ytfcjacncllmapaf", sum := "067a8a4f5fc8260f598a04fe77d3a11aa1c22773df4c9a9ec35357c273b50aa8", func := "loop.example/g00214/laws.FnSought", spec := "fnSought", unfollowed := true, recurses := true, apart := false }
def FnSoughtSaid : Prop := fnSoughtRow.holds Try.pinned (OpenSpec.ofChange fnSoughtSpec)

/-- ITS FALSE NEIGHBOUR: 'it returns false'. Refute it at one input. -/
def fnSoughtWrong : ChangeSpec := { name := "fnSought", fn := fun _ => fun
  | [d] => { results := [.lit (.bool false)], args := [d] }
  | _ => none }
def FnSoughtWrongFalsely : Prop := fnSoughtRow.holds Try.pinned (OpenSpec.ofChange fnSoughtWrong)

/- THE SECOND FORM. 'bulk': how many values and letters a reading holds, each counted each time it is reached (what is shared counts as often as it is met; a slice's spare places count too). A statement '..UptoSaid' is the law's where the arguments, and the package variables that the reading takes, are together of bulk at most 1048576: NARROWER than '..Said'. Prove '..Said' where nothing that the law and all that it calls make is longer than what came in: it says more and counts as full. Else prove '..UptoSaid'. A law counts once. -/
mutual
def uptoBulk {H : Type} : DataW H → Nat
  | .lit (.string bytes) => bytes.length + 1
  | .lit _ => 1
  | .nil => 1
  | .ptr d => uptoBulk d + 1
  | .slice elems spare => uptoBulkAll elems + uptoBulkAll spare + 1
  | .agg parts => uptoBulkAll parts + 1
  | .iface _ d => uptoBulk d + 1
  | .map entries => uptoBulkEntries entries + 1
  | .held _ => 1
def uptoBulkAll {H : Type} : List (DataW H) → Nat
  | [] => 0
  | d :: r => uptoBulk d + uptoBulkAll r
def uptoBulkEntries {H : Type} : List (Lit × DataW H) → Nat
  | [] => 0
  | x :: r => uptoBulkEntry x + uptoBulkEntries r
def uptoBulkEntry {H : Type} : Lit × DataW H → Nat
  | (.string bytes, d) => bytes.length + uptoBulk d + 1
  | (_, d) => uptoBulk d + 1
 end
def uptoSmall : (H : Type) → List (DataW H) → Bool := fun _ ds => decide (uptoBulkAll ds ≤ 1048576)
def OpenSpec.upto (s : _root_.Go.ChangeSpec) : _root_.Go.OpenSpec := { _root_.Go.OpenSpec.ofChange s with cond := some uptoSmall }

/-- 'laws.FnExactRibbonMay', WHERE WHAT IT READS IS OF BULK AT MOST 1048576: true; the input reads as it did. -/
def fnExactRibbonMayUptoRow : OpenClaim := { program := "ytfcjacncllmapaf", sum := "067a8a4f5fc8260f598a04fe77d3a11aa1c22773df4c9a9ec35357c273b50aa8", func := "loop.example/g00214/laws.FnExactRibbonMay", spec := "fnExactRibbonMay", apart := false, narrowed := true }
def FnExactRibbonMayUptoSaid : Prop := fnExactRibbonMayUptoRow.holds Try.pinned (OpenSpec.upto fnExactRibbonMaySpec)

/-- 'laws.FnExactRibbonOf', WHERE WHAT IT READS IS OF BULK AT MOST 1048576: true; the input reads as it did. -/
def fnExactRibbonOfUptoRow : OpenClaim := { program := "ytfcjacncllmapaf", sum := "067a8a4f5fc8260f598a04fe77d3a11aa1c22773df4c9a9ec35357c273b50aa8", func := "loop.example/g00214/laws.FnExactRibbonOf", spec := "fnExactRibbonOf", apart := false, narrowed := true }
def FnExactRibbonOfUptoSaid : Prop := fnExactRibbonOfUptoRow.holds Try.pinned (OpenSpec.upto fnExactRibbonOfSpec)

/-- 'laws.FnRibbons', WHERE WHAT IT READS IS OF BULK AT MOST 1048576: true; the input reads as it did. -/
def fnRibbonsUptoRow : OpenClaim := { program := "ytfcjacncllmapaf", sum := "067a8a4f5fc8260f598a04fe77d3a11aa1c22773df4c9a9ec35357c273b50aa8", func := "loop.example/g00214/laws.FnRibbons", spec := "fnRibbons", apart := false, narrowed := true }
def FnRibbonsUptoSaid : Prop := fnRibbonsUptoRow.holds Try.pinned (OpenSpec.upto fnRibbonsSpec)

/-- 'laws.FnExactFilterMay', WHERE WHAT IT READS IS OF BULK AT MOST 1048576: true; the input reads as it did. -/
def fnExactFilterMayUptoRow : OpenClaim := { program := "ytfcjacncllmapaf", sum := "067a8a4f5fc8260f598a04fe77d3a11aa1c22773df4c9a9ec35357c273b50aa8", func := "loop.example/g00214/laws.FnExactFilterMay", spec := "fnExactFilterMay", apart := false, narrowed := true }
def FnExactFilterMayUptoSaid : Prop := fnExactFilterMayUptoRow.holds Try.pinned (OpenSpec.upto fnExactFilterMaySpec)

/-- 'laws.FnExactFilterOf', WHERE WHAT IT READS IS OF BULK AT MOST 1048576: true; the input reads as it did. -/
def fnExactFilterOfUptoRow : OpenClaim := { program := "ytfcjacncllmapaf", sum := "067a8a4f5fc8260f598a04fe77d3a11aa1c22773df4c9a9ec35357c273b50aa8", func := "loop.example/g00214/laws.FnExactFilterOf", spec := "fnExactFilterOf", apart := false, narrowed := true }
def FnExactFilterOfUptoSaid : Prop := fnExactFilterOfUptoRow.holds Try.pinned (OpenSpec.upto fnExactFilterOfSpec)

/-- 'laws.FnSought', WHERE WHAT IT READS IS OF BULK AT MOST 1048576: true; the input reads as it did. -/
def fnSoughtUptoRow : OpenClaim := { program := "ytfcjacncllmapaf", sum := "067a8a4f5fc8260f598a04fe77d3a11aa1c22773df4c9a9ec35357c273b50aa8", func := "loop.example/g00214/laws.FnSought", spec := "fnSought", unfollowed := true, recurses := true, apart := false, narrowed := true }
def FnSoughtUptoSaid : Prop := fnSoughtUptoRow.holds Try.pinned (OpenSpec.upto fnSoughtSpec)

end Rows
end Go.Proofs.Ytfcjacncllmapaf
