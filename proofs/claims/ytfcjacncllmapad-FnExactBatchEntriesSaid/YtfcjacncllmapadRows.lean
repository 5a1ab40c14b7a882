/-
  No cell of these rows narrows 'for every input' (looked for: loops, veiled, ifaces, maps, wideKeys, modest, calm, conditions, laid).
  DERIVED. THE GIVEN ROWS OF THIS SEAT. 6 by the template 'for every input the law returns true; each argument reads behind the call as it read before'; 0 by the template 'total and deterministic' (their statements: YtfcjacncllmapadTotals.lean).
  GIVEN WITH THE SEED: the statements are not yours to turn. If you find one false, say at which input.
  Laid BY PROGRAM, IN A SANDBOX (cutbox-rows.mjs): the forced cells as the released guide's own fill.sh prints them over the translation a487d1ea0bc01414… (all of the seat's roots in one cut). By AI agents, Wed Nov 11 2026. No macro, syntax, notation, axiom, sorry.
-/
import Derived.Test.YtfcjacncllmapadChecked
import GoSem.Claim
import GoSem.ClaimJoined
import GoSem.ClaimMapViews
import Derived.JoinedTies
import Derived.KernelRfl
namespace Go.Proofs.Ytfcjacncllmapad
/- THE CELL 'sum', in the pinned program and in every row, IS THE sha256 OF THE DUMP (.gsa) THAT YtfcjacncllmapadProg.lean LOADS. Nothing in Lean hashes anything: it is a label: what it is worth is what the hold of that sum in a sandbox is worth. -/
noncomputable def Try.pinned : Pinned := { name := "ytfcjacncllmapad", sum := "a487d1ea0bc014144d29af6bda27b61c111b12f9ad56dc5ab1eeb225134dd8e9", checked := Try.checked }
namespace Rows
def none {H : Type} : Left H := { results := [], args := [] }

/-- 'laws.FnExactBloomMay': WHATEVER THE INPUT: true; the input reads as it did. -/
def fnExactBloomMaySpec : ChangeSpec := { name := "fnExactBloomMay", fn := fun _ => fun
  | [d1, d2] => { results := [.lit (.bool true)], args := [d1, d2] }
  | _ => none }
def fnExactBloomMayRow : OpenClaim := { program := "ytfcjacncllmapad", sum := "a487d1ea0bc014144d29af6bda27b61c111b12f9ad56dc5ab1eeb225134dd8e9", func := "loop.example/g00214/laws.FnExactBloomMay", spec := "fnExactBloomMay", apart := false }
def FnExactBloomMaySaid : Prop := fnExactBloomMayRow.holds Try.pinned (OpenSpec.ofChange fnExactBloomMaySpec)

/-- ITS FALSE NEIGHBOUR: 'it returns false'. Refute it at one input. -/
def fnExactBloomMayWrong : ChangeSpec := { name := "fnExactBloomMay", fn := fun _ => fun
  | [d1, d2] => { results := [.lit (.bool false)], args := [d1, d2] }
  | _ => none }
def FnExactBloomMayWrongFalsely : Prop := fnExactBloomMayRow.holds Try.pinned (OpenSpec.ofChange fnExactBloomMayWrong)

/-- 'laws.FnExactBloomOf': WHATEVER THE INPUT: true; the input reads as it did. -/
def fnExactBloomOfSpec : ChangeSpec := { name := "fnExactBloomOf", fn := fun _ => fun
  | [d1, d2] => { results := [.lit (.bool true)], args := [d1, d2] }
  | _ => none }
def fnExactBloomOfRow : OpenClaim := { program := "ytfcjacncllmapad", sum := "a487d1ea0bc014144d29af6bda27b61c111b12f9ad56dc5ab1eeb225134dd8e9", func := "loop.example/g00214/laws.FnExactBloomOf", spec := "fnExactBloomOf", apart := false }
def FnExactBloomOfSaid : Prop := fnExactBloomOfRow.holds Try.pinned (OpenSpec.ofChange fnExactBloomOfSpec)

/-- ITS FALSE NEIGHBOUR: 'it returns false'. Refute it at one input. -/
def fnExactBloomOfWrong : ChangeSpec := { name := "fnExactBloomOf", fn := fun _ => fun
  | [d1, d2] => { results := [.lit (.bool false)], args := [d1, d2] }
  | _ => none }
def FnExactBloomOfWrongFalsely : Prop := fnExactBloomOfRow.holds Try.pinned (OpenSpec.ofChange fnExactBloomOfWrong)

/-- 'laws.FnBlooms': WHATEVER THE INPUT: true; the input reads as it did. -/
def fnBloomsSpec : ChangeSpec := { name := "fnBlooms", fn := fun _ => fun
  | [d] => { results := [.lit (.bool true)], args := [d] }
  | _ => none }
def fnBloomsRow : OpenClaim := { program := "ytfcjacncllmapad", sum := "a487d1ea0bc014144d29af6bda27b61c111b12f9ad56dc5ab1eeb225134dd8e9", func := "loop.example/g00214/laws.FnBlooms", spec := "fnBlooms", apart := false }
def FnBloomsSaid : Prop := fnBloomsRow.holds Try.pinned (OpenSpec.ofChange fnBloomsSpec)

/-- ITS FALSE NEIGHBOUR: 'it returns false'. Refute it at one input. -/
def fnBloomsWrong : ChangeSpec := { name := "fnBlooms", fn := fun _ => fun
  | [d] => { results := [.lit (.bool false)], args := [d] }
  | _ => none }
def FnBloomsWrongFalsely : Prop := fnBloomsRow.holds Try.pinned (OpenSpec.ofChange fnBloomsWrong)

/-- 'laws.FnBloomMore': WHATEVER THE INPUT: true; the input reads as it did. -/
def fnBloomMoreSpec : ChangeSpec := { name := "fnBloomMore", fn := fun _ => fun
  | [d] => { results := [.lit (.bool true)], args := [d] }
  | _ => none }
def fnBloomMoreRow : OpenClaim := { program := "ytfcjacncllmapad", sum := "a487d1ea0bc014144d29af6bda27b61c111b12f9ad56dc5ab1eeb225134dd8e9", func := "loop.example/g00214/laws.FnBloomMore", spec := "fnBloomMore", apart := false }
def FnBloomMoreSaid : Prop := fnBloomMoreRow.holds Try.pinned (OpenSpec.ofChange fnBloomMoreSpec)

/-- ITS FALSE NEIGHBOUR: 'it returns false'. Refute it at one input. -/
def fnBloomMoreWrong : ChangeSpec := { name := "fnBloomMore", fn := fun _ => fun
  | [d] => { results := [.lit (.bool false)], args := [d] }
  | _ => none }
def FnBloomMoreWrongFalsely : Prop := fnBloomMoreRow.holds Try.pinned (OpenSpec.ofChange fnBloomMoreWrong)

/-- 'laws.FnExactBatchOk': WHATEVER THE INPUT: true; the input reads as it did. -/
def fnExactBatchOkSpec : ChangeSpec := { name := "fnExactBatchOk", fn := fun _ => fun
  | [d] => { results := [.lit (.bool true)], args := [d] }
  | _ => none }
def fnExactBatchOkRow : OpenClaim := { program := "ytfcjacncllmapad", sum := "a487d1ea0bc014144d29af6bda27b61c111b12f9ad56dc5ab1eeb225134dd8e9", func := "loop.example/g00214/laws.FnExactBatchOk", spec := "fnExactBatchOk", unfollowed := true, recurses := true, apart := false }
def FnExactBatchOkSaid : Prop := fnExactBatchOkRow.holds Try.pinned (OpenSpec.ofChange fnExactBatchOkSpec)

/-- ITS FALSE NEIGHBOUR: 'it returns false'. Refute it at one input. -/
def fnExactBatchOkWrong : ChangeSpec := { name := "fnExactBatchOk", fn := fun _ => fun
  | [d] => { results := [.lit (.bool false)], args := [d] }
  | _ => none }
def FnExactBatchOkWrongFalsely : Prop := fnExactBatchOkRow.holds Try.pinned (OpenSpec.ofChange fnExactBatchOkWrong)

/-- 'laws.FnExactBatchEntries': WHATEVER THE INPUT: true; the input reads as it did. -/
def fnExactBatchEntriesSpec : ChangeSpec := { name := "fnExactBatchEntries", fn := fun _ => fun
  | [d] => { results := [.lit (.bool true)], args := [d] }
  | _ => none }
def fnExactBatchEntriesRow : OpenClaim := { program := "ytfcjacncllmapad", sum := "a487d1ea0bc014144d29af6bda27b61c111b12f9ad56dc5ab1eeb225134dd8e9", func := "loop.example/g00214/laws.FnExactBatchEntries", spec := "fnExactBatchEntries", unfollowed := true, recurses := true, apart := false }
def FnExactBatchEntriesSaid : Prop := fnExactBatchEntriesRow.holds Try.pinned (OpenSpec.ofChange fnExactBatchEntriesSpec)

/-- ITS FALSE NEIGHBOUR: 'it returns false'. Refute it at one input. -/
def fnExactBatchEntriesWrong : ChangeSpec := { name := "fnExactBatchEntries", fn := fun _ => fun
  | [d] => { results := [.lit (.bool false)], args := [d] }
  | _ => none }
def FnExactBatchEntriesWrongFalsely : Prop := fnExactBatchEntriesRow.holds Try.pinned (OpenSpec.ofChange fnExactBatchEntriesWrong)

/- THE SECOND FORM. 'bulk': how many values and letters a reading holds, each counted each time it is reached (what is shared counts as often as it is met; a slice's spare places count too). A statement '..UptoSaid' is the law's where the arguments, and the package variables that the reading takes, are together of bulk at most 1048576: NARROWER than '..Said'. Prove '..Said' where nothing that the law and all that it calls make is longer than what came in: it says more and counts as full. Else prove '..UptoSaid'. A law counts once. -/
mutual
def uptoBulk {H : Type} : DataW H → Nat
  | .lit (.string bytes) => bytes.length + 1
  | .lit _ => 1
  | .nil => 1
  | .ptr d => uptoBulk d + 1
  | .slice elems spare => uptoBulkAll elems + uptoBulkAll spare + 1
  | .agg parts => uptoBulkAll parts + 1
  | .iface _ d => uptoBulk d + 1
  | .map entries => uptoBulkEntries entries + 1
  | .held _ => 1
def uptoBulkAll {H : Type} : List (DataW H) → Nat
  | [] => 0
  | d :: r => uptoBulk d + uptoBulkAll r
def uptoBulkEntries {H : Type} : List (Lit × DataW H) → Nat
  | [] => 0
  | x :: r => uptoBulkEntry x + uptoBulkEntries r
def uptoBulkEntry {H : Type} : Lit × DataW H → Nat
  | (.string bytes, d) => bytes.length + uptoBulk d + 1
  | (_, d) => uptoBulk d + 1
 end
def uptoSmall : (H : Type) → List (DataW H) → Bool := fun _ ds => decide (uptoBulkAll ds ≤ 1048576)
def OpenSpec.upto (s : _root_.Go.ChangeSpec) : _root_.Go.OpenSpec := { _root_.Go.OpenSpec.ofChange s with cond := some uptoSmall }

/-- 'laws.FnExactBloomMay', WHERE WHAT IT READS IS OF BULK AT MOST 1048576: true; the input reads as it did. -/
def fnExactBloomMayUptoRow : OpenClaim := { program := "ytfcjacncllmapad", sum := "a487d1ea0bc014144d29af6bda27b61c111b12f9ad56dc5ab1eeb225134dd8e9", func := "loop.example/g00214/laws.FnExactBloomMay", spec := "fnExactBloomMay", apart := false, narrowed := true }
def FnExactBloomMayUptoSaid : Prop := fnExactBloomMayUptoRow.holds Try.pinned (OpenSpec.upto fnExactBloomMaySpec)

/-- 'laws.FnExactBloomOf', WHERE WHAT IT READS IS OF BULK AT MOST 1048576: true; the input reads as it did. -/
def fnExactBloomOfUptoRow : OpenClaim := { program := "ytfcjacncllmapad", sum := "a487d1ea0bc014144d29af6bda27b61c111b12f9ad56dc5ab1eeb225134dd8e9", func := "loop.example/g00214/laws.FnExactBloomOf", spec := "fnExactBloomOf", apart := false, narrowed := true }
def FnExactBloomOfUptoSaid : Prop := fnExactBloomOfUptoRow.holds Try.pinned (OpenSpec.upto fnExactBloomOfSpec)

/-- 'laws.FnBlooms', WHERE WHAT IT READS IS OF BULK AT MOST 1048576: true; the input reads as it did. -/
def fnBloomsUptoRow : OpenClaim := { program := "ytfcjacncllmapad", sum := "a487d1ea0bc014144d29af6bda27b61c111b12f9ad56dc5ab1eeb225134dd8e9", func := "loop.example/g00214/laws.FnBlooms", spec := "fnBlooms", apart := false, narrowed := true }
def FnBloomsUptoSaid : Prop := fnBloomsUptoRow.holds Try.pinned (OpenSpec.upto fnBloomsSpec)

/-- 'laws.FnBloomMore', WHERE WHAT IT READS IS OF BULK AT MOST 1048576: true; the input reads as it did. -/
def fnBloomMoreUptoRow : OpenClaim := { program := "ytfcjacncllmapad", sum := "a487d1ea0bc014144d29af6bda27b61c111b12f9ad56dc5ab1eeb225134dd8e9", func := "loop.example/g00214/laws.FnBloomMore", spec := "fnBloomMore", apart := false, narrowed := true }
def FnBloomMoreUptoSaid : Prop := fnBloomMoreUptoRow.holds Try.pinned (OpenSpec.upto fnBloomMoreSpec)

/-- 'laws.FnExactBatchOk', WHERE WHAT IT READS IS OF BULK AT MOST 1048576: true; the input reads as it did. -/
def fnExactBatchOkUptoRow : OpenClaim := { program := "ytfcjacncllmapad", sum := "a487d1ea0bc014144d29af6bda27b61c111b12f9ad56dc5ab1eeb225134dd8e9", func := "loop.example/g00214/laws.FnExactBatchOk", spec := "fnExactBatchOk", unfollowed := true, recurses := true, apart := false, narrowed := true }
def FnExactBatchOkUptoSaid : Prop := fnExactBatchOkUptoRow.holds Try.pinned (OpenSpec.upto fnExactBatchOkSpec)

/-- 'laws.FnExactBatchEntries', WHERE WHAT IT READS IS OF BULK AT MOST 1048576: true; the input reads as it did. -/
def fnExactBatchEntriesUptoRow : OpenClaim := { program := "ytfcjacncllmapad", sum := "a487d1ea0bc014144d29af6bda27b61c111b12f9ad56dc5ab1eeb225134dd8e9", func := "loop.example/g00214/laws.FnExactBatchEntries", spec := "fnExactBatchEntries", unfollowed := true, recurses := true, apart := false, narrowed := true }
def FnExactBatchEntriesUptoSaid : Prop := fnExactBatchEntriesUptoRow.holds Try.pinned (OpenSpec.upto fnExactBatchEntriesSpec)

end Rows
end Go.Proofs.Ytfcjacncllmapad
