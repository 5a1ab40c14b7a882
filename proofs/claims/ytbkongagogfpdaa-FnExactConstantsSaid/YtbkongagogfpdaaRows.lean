/-
  No cell of these rows narrows 'for every input' (looked for: loops, veiled, ifaces, maps, wideKeys, modest, calm, conditions, laid).
  DERIVED. THE GIVEN ROWS OF THIS SEAT. 6 by the template 'for every input the law returns true; each argument reads behind the call as it read before'; 0 by the template 'total and deterministic' (their statements: YtbkongagogfpdaaTotals.lean).
  GIVEN WITH THE SEED: the statements are not yours to turn. If you find one false, say at which input.
  Laid BY PROGRAM, IN A SANDBOX (cutbox-rows.mjs): the forced cells as the released guide's own fill.sh prints them over the translation b023dfc897664b03… (all of the seat's roots in one cut). By AI agents, Wed Nov 11 2026. No macro, syntax, notation, axiom, sorry.
-/
import Derived.Test.YtbkongagogfpdaaChecked
import GoSem.Claim
import GoSem.ClaimJoined
import GoSem.ClaimMapViews
import Derived.JoinedTies
import Derived.KernelRfl
namespace Go.Proofs.Ytbkongagogfpdaa
/- THE CELL 'sum', in the pinned program and in every row, IS THE sha256 OF THE DUMP (.gsa) THAT YtbkongagogfpdaaProg.lean LOADS. Nothing in Lean hashes anything: it is a label: what it is worth is what the hold of that sum in a sandbox is worth. -/
noncomputable def Try.pinned : Pinned := { name := "ytbkongagogfpdaa", sum := "b023dfc897664b03bd117636a7615c5c194bca80bf39988a2f902c158bd7c00b", checked := Try.checked }
namespace Rows
def none {H : Type} : Left H := { results := [], args := [] }

/-- 'laws.FnExactConstants': WHATEVER THE INPUT: true; the input reads as it did. -/
def fnExactConstantsSpec : ChangeSpec := { name := "fnExactConstants", fn := fun _ => fun
  | [] => { results := [.lit (.bool true)], args := [] }
  | _ => none }
def fnExactConstantsRow : OpenClaim := { program := "ytbkongagogfpdaa", sum := "b023dfc897664b03bd117636a7615c5c194bca80bf39988a2f902c158bd7c00b", func := "loop.example/g00214/laws.FnExactConstants", spec := "fnExactConstants", apart := false }
def FnExactConstantsSaid : Prop := fnExactConstantsRow.holds Try.pinned (OpenSpec.ofChange fnExactConstantsSpec)

/-- ITS FALSE NEIGHBOUR: 'it returns false'. Refute it at one input. -/
def fnExactConstantsWrong : ChangeSpec := { name := "fnExactConstants", fn := fun _ => fun
  | [] => { results := [.lit (.bool false)], args := [] }
  | _ => none }
def FnExactConstantsWrongFalsely : Prop := fnExactConstantsRow.holds Try.pinned (OpenSpec.ofChange fnExactConstantsWrong)

/-- 'laws.FnExactPutFixed': WHATEVER THE INPUT: true; the input reads as it did. -/
def fnExactPutFixedSpec : ChangeSpec := { name := "fnExactPutFixed", fn := fun _ => fun
  | [d] => { results := [.lit (.bool true)], args := [d] }
  | _ => none }
def fnExactPutFixedRow : OpenClaim := { program := "ytbkongagogfpdaa", sum := "b023dfc897664b03bd117636a7615c5c194bca80bf39988a2f902c158bd7c00b", func := "loop.example/g00214/laws.FnExactPutFixed", spec := "fnExactPutFixed", apart := false }
def FnExactPutFixedSaid : Prop := fnExactPutFixedRow.holds Try.pinned (OpenSpec.ofChange fnExactPutFixedSpec)

/-- ITS FALSE NEIGHBOUR: 'it returns false'. Refute it at one input. -/
def fnExactPutFixedWrong : ChangeSpec := { name := "fnExactPutFixed", fn := fun _ => fun
  | [d] => { results := [.lit (.bool false)], args := [d] }
  | _ => none }
def FnExactPutFixedWrongFalsely : Prop := fnExactPutFixedRow.holds Try.pinned (OpenSpec.ofChange fnExactPutFixedWrong)

/-- 'laws.FnExactTakeFixed': WHATEVER THE INPUT: true; the input reads as it did. -/
def fnExactTakeFixedSpec : ChangeSpec := { name := "fnExactTakeFixed", fn := fun _ => fun
  | [d] => { results := [.lit (.bool true)], args := [d] }
  | _ => none }
def fnExactTakeFixedRow : OpenClaim := { program := "ytbkongagogfpdaa", sum := "b023dfc897664b03bd117636a7615c5c194bca80bf39988a2f902c158bd7c00b", func := "loop.example/g00214/laws.FnExactTakeFixed", spec := "fnExactTakeFixed", apart := false }
def FnExactTakeFixedSaid : Prop := fnExactTakeFixedRow.holds Try.pinned (OpenSpec.ofChange fnExactTakeFixedSpec)

/-- ITS FALSE NEIGHBOUR: 'it returns false'. Refute it at one input. -/
def fnExactTakeFixedWrong : ChangeSpec := { name := "fnExactTakeFixed", fn := fun _ => fun
  | [d] => { results := [.lit (.bool false)], args := [d] }
  | _ => none }
def FnExactTakeFixedWrongFalsely : Prop := fnExactTakeFixedRow.holds Try.pinned (OpenSpec.ofChange fnExactTakeFixedWrong)

/-- 'laws.FnExactPutVar': WHATEVER THE INPUT: true; the input reads as it did. -/
def fnExactPutVarSpec : ChangeSpec := { name := "fnExactPutVar", fn := fun _ => fun
  | [d] => { results := [.lit (.bool true)], args := [d] }
  | _ => none }
def fnExactPutVarRow : OpenClaim := { program := "ytbkongagogfpdaa", sum := "b023dfc897664b03bd117636a7615c5c194bca80bf39988a2f902c158bd7c00b", func := "loop.example/g00214/laws.FnExactPutVar", spec := "fnExactPutVar", apart := false }
def FnExactPutVarSaid : Prop := fnExactPutVarRow.holds Try.pinned (OpenSpec.ofChange fnExactPutVarSpec)

/-- ITS FALSE NEIGHBOUR: 'it returns false'. Refute it at one input. -/
def fnExactPutVarWrong : ChangeSpec := { name := "fnExactPutVar", fn := fun _ => fun
  | [d] => { results := [.lit (.bool false)], args := [d] }
  | _ => none }
def FnExactPutVarWrongFalsely : Prop := fnExactPutVarRow.holds Try.pinned (OpenSpec.ofChange fnExactPutVarWrong)

/-- 'laws.FnExactPutText': WHATEVER THE INPUT: true; the input reads as it did. -/
def fnExactPutTextSpec : ChangeSpec := { name := "fnExactPutText", fn := fun _ => fun
  | [d] => { results := [.lit (.bool true)], args := [d] }
  | _ => none }
def fnExactPutTextRow : OpenClaim := { program := "ytbkongagogfpdaa", sum := "b023dfc897664b03bd117636a7615c5c194bca80bf39988a2f902c158bd7c00b", func := "loop.example/g00214/laws.FnExactPutText", spec := "fnExactPutText", apart := false }
def FnExactPutTextSaid : Prop := fnExactPutTextRow.holds Try.pinned (OpenSpec.ofChange fnExactPutTextSpec)

/-- ITS FALSE NEIGHBOUR: 'it returns false'. Refute it at one input. -/
def fnExactPutTextWrong : ChangeSpec := { name := "fnExactPutText", fn := fun _ => fun
  | [d] => { results := [.lit (.bool false)], args := [d] }
  | _ => none }
def FnExactPutTextWrongFalsely : Prop := fnExactPutTextRow.holds Try.pinned (OpenSpec.ofChange fnExactPutTextWrong)

/-- 'laws.FnRibbons': WHATEVER THE INPUT: true; the input reads as it did. -/
def fnRibbonsSpec : ChangeSpec := { name := "fnRibbons", fn := fun _ => fun
  | [d] => { results := [.lit (.bool true)], args := [d] }
  | _ => none }
def fnRibbonsRow : OpenClaim := { program := "ytbkongagogfpdaa", sum := "b023dfc897664b03bd117636a7615c5c194bca80bf39988a2f902c158bd7c00b", func := "loop.example/g00214/laws.FnRibbons", spec := "fnRibbons", apart := false }
def FnRibbonsSaid : Prop := fnRibbonsRow.holds Try.pinned (OpenSpec.ofChange fnRibbonsSpec)

/-- ITS FALSE NEIGHBOUR: 'it returns false'. Refute it at one input. -/
def fnRibbonsWrong : ChangeSpec := { name := "fnRibbons", fn := fun _ => fun
  | [d] => { results := [.lit (.bool false)], args := [d] }
  | _ => none }
def FnRibbonsWrongFalsely : Prop := fnRibbonsRow.holds Try.pinned (OpenSpec.ofChange fnRibbonsWrong)

/- THE SECOND FORM. 'bulk': how many values and letters a reading holds, each counted each time it is reached (what is shared counts as often as it is met; a slice's spare places count too). A statement '..UptoSaid' is the law's where the arguments, and the package variables that the reading takes, are together of bulk at most 1048576: NARROWER than '..Said'. Prove '..Said' where nothing that the law and all that it calls make is longer than what came in: it says more and counts as full. Else prove '..UptoSaid'. A law counts once. -/
mutual
def uptoBulk {H : Type} : DataW H → Nat
  | .lit (.string bytes) => bytes.length + 1
  | .lit _ => 1
  | .nil => 1
  | .ptr d => uptoBulk d + 1
  | .slice elems spare => uptoBulkAll elems + uptoBulkAll spare + 1
  | .agg parts => uptoBulkAll parts + 1
  | .iface _ d => uptoBulk d + 1
  | .map entries => uptoBulkEntries entries + 1
  | .held _ => 1
def uptoBulkAll {H : Type} : List (DataW H) → Nat
  | [] => 0
  | d :: r => uptoBulk d + uptoBulkAll r
def uptoBulkEntries {H : Type} : List (Lit × DataW H) → Nat
  | [] => 0
  | x :: r => uptoBulkEntry x + uptoBulkEntries r
def uptoBulkEntry {H : Type} : Lit × DataW H → Nat
  | (.string bytes, d) => bytes.length + uptoBulk d + 1
  | (_, d) => uptoBulk d + 1
 end
def uptoSmall : (H : Type) → List (DataW H) → Bool := fun _ ds => decide (uptoBulkAll ds ≤ 1048576)
def OpenSpec.upto (s : _root_.Go.ChangeSpec) : _root_.Go.OpenSpec := { _root_.Go.OpenSpec.ofChange s with cond := some uptoSmall }

/-- 'laws.FnExactConstants', WHERE WHAT IT READS IS OF BULK AT MOST 1048576: true; the input reads as it did. -/
def fnExactConstantsUptoRow : OpenClaim := { program := "ytbkongagogfpdaa", sum := "b023dfc897664b03bd117636a7615c5c194bca80bf39988a2f902c158bd7c00b", func := "loop.example/g00214/laws.FnExactConstants", spec := "fnExactConstants", apart := false, narrowed := true }
def FnExactConstantsUptoSaid : Prop := fnExactConstantsUptoRow.holds Try.pinned (OpenSpec.upto fnExactConstantsSpec)

/-- 'laws.FnExactPutFixed', WHERE WHAT IT READS IS OF BULK AT MOST 1048576: true; the input reads as it did. -/
def fnExactPutFixedUptoRow : OpenClaim := { program := "ytbkongagogfpdaa", sum := "b023dfc897664b03bd117636a7615c5c194bca80bf39988a2f902c158bd7c00b", func := "loop.example/g00214/laws.FnExactPutFixed", spec := "fnExactPutFixed", apart := false, narrowed := true }
def FnExactPutFixedUptoSaid : Prop := fnExactPutFixedUptoRow.holds Try.pinned (OpenSpec.upto fnExactPutFixedSpec)

/-- 'laws.FnExactTakeFixed', WHERE WHAT IT READS IS OF BULK AT MOST 1048576: true; the input reads as it did. -/
def fnExactTakeFixedUptoRow : OpenClaim := { program := "ytbkongagogfpdaa", sum := "b023dfc897664b03bd117636a7615c5c194bca80bf39988a2f902c158bd7c00b", func := "loop.example/g00214/laws.FnExactTakeFixed", spec := "fnExactTakeFixed", apart := false, narrowed := true }
def FnExactTakeFixedUptoSaid : Prop := fnExactTakeFixedUptoRow.holds Try.pinned (OpenSpec.upto fnExactTakeFixedSpec)

/-- 'laws.FnExactPutVar', WHERE WHAT IT READS IS OF BULK AT MOST 1048576: true; the input reads as it did. -/
def fnExactPutVarUptoRow : OpenClaim := { program := "ytbkongagogfpdaa", sum := "b023dfc897664b03bd117636a7615c5c194bca80bf39988a2f902c158bd7c00b", func := "loop.example/g00214/laws.FnExactPutVar", spec := "fnExactPutVar", apart := false, narrowed := true }
def FnExactPutVarUptoSaid : Prop := fnExactPutVarUptoRow.holds Try.pinned (OpenSpec.upto fnExactPutVarSpec)

/-- 'laws.FnExactPutText', WHERE WHAT IT READS IS OF BULK AT MOST 1048576: true; the input reads as it did. -/
def fnExactPutTextUptoRow : OpenClaim := { program := "ytbkongagogfpdaa", sum := "b023dfc897664b03bd117636a7615c5c194bca80bf39988a2f902c158bd7c00b", func := "loop.example/g00214/laws.FnExactPutText", spec := "fnExactPutText", apart := false, narrowed := true }
def FnExactPutTextUptoSaid : Prop := fnExactPutTextUptoRow.holds Try.pinned (OpenSpec.upto fnExactPutTextSpec)

/-- 'laws.FnRibbons', WHERE WHAT IT READS IS OF BULK AT MOST 1048576: true; the input reads as it did. -/
def fnRibbonsUptoRow : OpenClaim := { program := "ytbkongagogfpdaa", sum := "b023dfc897664b03bd117636a7615c5c194bca80bf39988a2f902c158bd7c00b", func := "loop.example/g00214/laws.FnRibbons", spec := "fnRibbons", apart := false, narrowed := true }
def FnRibbonsUptoSaid : Prop := fnRibbonsUptoRow.holds Try.pinned (OpenSpec.upto fnRibbonsSpec)

end Rows
end Go.Proofs.Ytbkongagogfpdaa
