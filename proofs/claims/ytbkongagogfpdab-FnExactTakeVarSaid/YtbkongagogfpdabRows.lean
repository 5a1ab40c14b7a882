/-
  No cell of these rows narrows 'for every input' (looked for: loops, veiled, ifaces, maps, wideKeys, modest, calm, conditions, laid).
  DERIVED. THE GIVEN ROWS OF THIS SEAT. 6 by the template 'for every input the law returns true; each argument reads behind the call as it read before'; 0 by the template 'total and deterministic' (their statements: YtbkongagogfpdabTotals.lean).
  GIVEN WITH THE SEED: the statements are not yours to turn. If you find one false, say at which input.
  Laid BY PROGRAM, IN A SANDBOX (cutbox-rows.mjs): the forced cells as the released guide's own fill.sh prints them over the translation 418809fbcca2b2e9… (all of the seat's roots in one cut). By AI agents, Wed Nov 11 2026. No macro, syntax, notation, axiom, sorry.
-/
import Derived.Test.YtbkongagogfpdabChecked
import GoSem.Claim
import GoSem.ClaimJoined
import GoSem.ClaimMapViews
import Derived.JoinedTies
import Derived.KernelRfl
namespace Go.Proofs.Ytbkongagogfpdab
/- THE CELL 'sum', in the pinned program and in every row, IS THE sha256 OF THE DUMP (.gsa) THAT YtbkongagogfpdabProg.lean LOADS. Nothing in Lean hashes anything: it is a label: what it is worth is what the hold of that sum in a sandbox is worth. -/
noncomputable def Try.pinned : Pinned := { name := "ytbkongagogfpdab", sum := "418809fbcca2b2e9c9c91c0449ee523ac0010596b8ceff76e12feaa7ac00be83", checked := Try.checked }
namespace Rows
def none {H : Type} : Left H := { results := [], args := [] }

/-- 'laws.FnExactHllOk': WHATEVER THE INPUT: true; the input reads as it did. -/
def fnExactHllOkSpec : ChangeSpec := { name := "fnExactHllOk", fn := fun _ => fun
  | [d] => { results := [.lit (.bool true)], args := [d] }
  | _ => none }
def fnExactHllOkRow : OpenClaim := { program := "ytbkongagogfpdab", sum := "418809fbcca2b2e9c9c91c0449ee523ac0010596b8ceff76e12feaa7ac00be83", func := "loop.example/g00214/laws.FnExactHllOk", spec := "fnExactHllOk", apart := false }
def FnExactHllOkSaid : Prop := fnExactHllOkRow.holds Try.pinned (OpenSpec.ofChange fnExactHllOkSpec)

/-- ITS FALSE NEIGHBOUR: 'it returns false'. Refute it at one input. -/
def fnExactHllOkWrong : ChangeSpec := { name := "fnExactHllOk", fn := fun _ => fun
  | [d] => { results := [.lit (.bool false)], args := [d] }
  | _ => none }
def FnExactHllOkWrongFalsely : Prop := fnExactHllOkRow.holds Try.pinned (OpenSpec.ofChange fnExactHllOkWrong)

/-- 'laws.FnExactHash': WHATEVER THE INPUT: true; the input reads as it did. -/
def fnExactHashSpec : ChangeSpec := { name := "fnExactHash", fn := fun _ => fun
  | [d1, d2] => { results := [.lit (.bool true)], args := [d1, d2] }
  | _ => none }
def fnExactHashRow : OpenClaim := { program := "ytbkongagogfpdab", sum := "418809fbcca2b2e9c9c91c0449ee523ac0010596b8ceff76e12feaa7ac00be83", func := "loop.example/g00214/laws.FnExactHash", spec := "fnExactHash", apart := false }
def FnExactHashSaid : Prop := fnExactHashRow.holds Try.pinned (OpenSpec.ofChange fnExactHashSpec)

/-- ITS FALSE NEIGHBOUR: 'it returns false'. Refute it at one input. -/
def fnExactHashWrong : ChangeSpec := { name := "fnExactHash", fn := fun _ => fun
  | [d1, d2] => { results := [.lit (.bool false)], args := [d1, d2] }
  | _ => none }
def FnExactHashWrongFalsely : Prop := fnExactHashRow.holds Try.pinned (OpenSpec.ofChange fnExactHashWrong)

/-- 'laws.FnExactKeyOk': WHATEVER THE INPUT: true; the input reads as it did. -/
def fnExactKeyOkSpec : ChangeSpec := { name := "fnExactKeyOk", fn := fun _ => fun
  | [d] => { results := [.lit (.bool true)], args := [d] }
  | _ => none }
def fnExactKeyOkRow : OpenClaim := { program := "ytbkongagogfpdab", sum := "418809fbcca2b2e9c9c91c0449ee523ac0010596b8ceff76e12feaa7ac00be83", func := "loop.example/g00214/laws.FnExactKeyOk", spec := "fnExactKeyOk", apart := false }
def FnExactKeyOkSaid : Prop := fnExactKeyOkRow.holds Try.pinned (OpenSpec.ofChange fnExactKeyOkSpec)

/-- ITS FALSE NEIGHBOUR: 'it returns false'. Refute it at one input. -/
def fnExactKeyOkWrong : ChangeSpec := { name := "fnExactKeyOk", fn := fun _ => fun
  | [d] => { results := [.lit (.bool false)], args := [d] }
  | _ => none }
def FnExactKeyOkWrongFalsely : Prop := fnExactKeyOkRow.holds Try.pinned (OpenSpec.ofChange fnExactKeyOkWrong)

/-- 'laws.FnExactCrc': WHATEVER THE INPUT: true; the input reads as it did. -/
def fnExactCrcSpec : ChangeSpec := { name := "fnExactCrc", fn := fun _ => fun
  | [d] => { results := [.lit (.bool true)], args := [d] }
  | _ => none }
def fnExactCrcRow : OpenClaim := { program := "ytbkongagogfpdab", sum := "418809fbcca2b2e9c9c91c0449ee523ac0010596b8ceff76e12feaa7ac00be83", func := "loop.example/g00214/laws.FnExactCrc", spec := "fnExactCrc", apart := false }
def FnExactCrcSaid : Prop := fnExactCrcRow.holds Try.pinned (OpenSpec.ofChange fnExactCrcSpec)

/-- ITS FALSE NEIGHBOUR: 'it returns false'. Refute it at one input. -/
def fnExactCrcWrong : ChangeSpec := { name := "fnExactCrc", fn := fun _ => fun
  | [d] => { results := [.lit (.bool false)], args := [d] }
  | _ => none }
def FnExactCrcWrongFalsely : Prop := fnExactCrcRow.holds Try.pinned (OpenSpec.ofChange fnExactCrcWrong)

/-- 'laws.FnExactTakeVar': WHATEVER THE INPUT: true; the input reads as it did. -/
def fnExactTakeVarSpec : ChangeSpec := { name := "fnExactTakeVar", fn := fun _ => fun
  | [d] => { results := [.lit (.bool true)], args := [d] }
  | _ => none }
def fnExactTakeVarRow : OpenClaim := { program := "ytbkongagogfpdab", sum := "418809fbcca2b2e9c9c91c0449ee523ac0010596b8ceff76e12feaa7ac00be83", func := "loop.example/g00214/laws.FnExactTakeVar", spec := "fnExactTakeVar", apart := false }
def FnExactTakeVarSaid : Prop := fnExactTakeVarRow.holds Try.pinned (OpenSpec.ofChange fnExactTakeVarSpec)

/-- ITS FALSE NEIGHBOUR: 'it returns false'. Refute it at one input. -/
def fnExactTakeVarWrong : ChangeSpec := { name := "fnExactTakeVar", fn := fun _ => fun
  | [d] => { results := [.lit (.bool false)], args := [d] }
  | _ => none }
def FnExactTakeVarWrongFalsely : Prop := fnExactTakeVarRow.holds Try.pinned (OpenSpec.ofChange fnExactTakeVarWrong)

/-- 'laws.FnLogHurt': WHATEVER THE INPUT: true; the input reads as it did. -/
def fnLogHurtSpec : ChangeSpec := { name := "fnLogHurt", fn := fun _ => fun
  | [d] => { results := [.lit (.bool true)], args := [d] }
  | _ => none }
def fnLogHurtRow : OpenClaim := { program := "ytbkongagogfpdab", sum := "418809fbcca2b2e9c9c91c0449ee523ac0010596b8ceff76e12feaa7ac00be83", func := "loop.example/g00214/laws.FnLogHurt", spec := "fnLogHurt", apart := false }
def FnLogHurtSaid : Prop := fnLogHurtRow.holds Try.pinned (OpenSpec.ofChange fnLogHurtSpec)

/-- ITS FALSE NEIGHBOUR: 'it returns false'. Refute it at one input. -/
def fnLogHurtWrong : ChangeSpec := { name := "fnLogHurt", fn := fun _ => fun
  | [d] => { results := [.lit (.bool false)], args := [d] }
  | _ => none }
def FnLogHurtWrongFalsely : Prop := fnLogHurtRow.holds Try.pinned (OpenSpec.ofChange fnLogHurtWrong)

/- THE SECOND FORM. 'bulk': how many values and letters a reading holds, each counted each time it is reached (what is shared counts as often as it is met; a slice's spare places count too). A statement '..UptoSaid' is the law's where the arguments, and the package variables that the reading takes, are together of bulk at most 1048576: NARROWER than '..Said'. Prove '..Said' where nothing that the law and all that it calls make is longer than what came in: it says more and counts as full. Else prove '..UptoSaid'. A law counts once. -/
mutual
def uptoBulk {H : Type} : DataW H → Nat
  | .lit (.string bytes) => bytes.length + 1
  | .lit _ => 1
  | .nil => 1
  | .ptr d => uptoBulk d + 1
  | .slice elems spare => uptoBulkAll elems + uptoBulkAll spare + 1
  | .agg parts => uptoBulkAll parts + 1
  | .iface _ d => uptoBulk d + 1
  | .map entries => uptoBulkEntries entries + 1
  | .held _ => 1
def uptoBulkAll {H : Type} : List (DataW H) → Nat
  | [] => 0
  | d :: r => uptoBulk d + uptoBulkAll r
def uptoBulkEntries {H : Type} : List (Lit × DataW H) → Nat
  | [] => 0
  | x :: r => uptoBulkEntry x + uptoBulkEntries r
def uptoBulkEntry {H : Type} : Lit × DataW H → Nat
  | (.string bytes, d) => bytes.length + uptoBulk d + 1
  | (_, d) => uptoBulk d + 1
 end
def uptoSmall : (H : Type) → List (DataW H) → Bool := fun _ ds => decide (uptoBulkAll ds ≤ 1048576)
def OpenSpec.upto (s : _root_.Go.ChangeSpec) : _root_.Go.OpenSpec := { _root_.Go.OpenSpec.ofChange s with cond := some uptoSmall }

/-- 'laws.FnExactHllOk', WHERE WHAT IT READS IS OF BULK AT MOST 1048576: true; the input reads as it did. -/
def fnExactHllOkUptoRow : OpenClaim := { program := "ytbkongagogfpdab", sum := "418809fbcca2b2e9c9c91c0449ee523ac0010596b8ceff76e12feaa7ac00be83", func := "loop.example/g00214/laws.FnExactHllOk", spec := "fnExactHllOk", apart := false, narrowed := true }
def FnExactHllOkUptoSaid : Prop := fnExactHllOkUptoRow.holds Try.pinned (OpenSpec.upto fnExactHllOkSpec)

/-- 'laws.FnExactHash', WHERE WHAT IT READS IS OF BULK AT MOST 1048576: true; the input reads as it did. -/
def fnExactHashUptoRow : OpenClaim := { program := "ytbkongagogfpdab", sum := "418809fbcca2b2e9c9c91c0449ee523ac0010596b8ceff76e12feaa7ac00be83", func := "loop.example/g00214/laws.FnExactHash", spec := "fnExactHash", apart := false, narrowed := true }
def FnExactHashUptoSaid : Prop := fnExactHashUptoRow.holds Try.pinned (OpenSpec.upto fnExactHashSpec)

/-- 'laws.FnExactKeyOk', WHERE WHAT IT READS IS OF BULK AT MOST 1048576: true; the input reads as it did. -/
def fnExactKeyOkUptoRow : OpenClaim := { program := "ytbkongagogfpdab", sum := "418809fbcca2b2e9c9c91c0449ee523ac0010596b8ceff76e12feaa7ac00be83", func := "loop.example/g00214/laws.FnExactKeyOk", spec := "fnExactKeyOk", apart := false, narrowed := true }
def FnExactKeyOkUptoSaid : Prop := fnExactKeyOkUptoRow.holds Try.pinned (OpenSpec.upto fnExactKeyOkSpec)

/-- 'laws.FnExactCrc', WHERE WHAT IT READS IS OF BULK AT MOST 1048576: true; the input reads as it did. -/
def fnExactCrcUptoRow : OpenClaim := { program := "ytbkongagogfpdab", sum := "418809fbcca2b2e9c9c91c0449ee523ac0010596b8ceff76e12feaa7ac00be83", func := "loop.example/g00214/laws.FnExactCrc", spec := "fnExactCrc", apart := false, narrowed := true }
def FnExactCrcUptoSaid : Prop := fnExactCrcUptoRow.holds Try.pinned (OpenSpec.upto fnExactCrcSpec)

/-- 'laws.FnExactTakeVar', WHERE WHAT IT READS IS OF BULK AT MOST 1048576: true; the input reads as it did. -/
def fnExactTakeVarUptoRow : OpenClaim := { program := "ytbkongagogfpdab", sum := "418809fbcca2b2e9c9c91c0449ee523ac0010596b8ceff76e12feaa7ac00be83", func := "loop.example/g00214/laws.FnExactTakeVar", spec := "fnExactTakeVar", apart := false, narrowed := true }
def FnExactTakeVarUptoSaid : Prop := fnExactTakeVarUptoRow.holds Try.pinned (OpenSpec.upto fnExactTakeVarSpec)

/-- 'laws.FnLogHurt', WHERE WHAT IT READS IS OF BULK AT MOST 1048576: true; the input reads as it did. -/
def fnLogHurtUptoRow : OpenClaim := { program := "ytbkongagogfpdab", sum := "418809fbcca2b2e9c9c91c0449ee523ac0010596b8ceff76e12feaa7ac00be83", func := "loop.example/g00214/laws.FnLogHurt", spec := "fnLogHurt", apart := false, narrowed := true }
def FnLogHurtUptoSaid : Prop := fnLogHurtUptoRow.holds Try.pinned (OpenSpec.upto fnLogHurtSpec)

end Rows
end Go.Proofs.Ytbkongagogfpdab
