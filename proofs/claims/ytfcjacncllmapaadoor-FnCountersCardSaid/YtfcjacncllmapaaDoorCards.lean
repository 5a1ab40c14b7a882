/-
  DERIVED. GIVEN WITH THE SEED: THE CARDS: each row of YtfcjacncllmapaaDoorRows.lean that lists a variable, with what it lists TIED to the program's text (the seventh form; the later family's looks); each row that meets fmt, with fmt's text TOLD by the authors' own Lean function (tested against real Go, not proved from fmt's source: count such statements apart). THE CARD IS WHAT COUNTS. Prove the row's statement (the work); the ties are given (YtfcjacncllmapaaDoorTie.lean); close each card by the builder's one call (the guide's Derived/Test/ToyasCard.lean, 'card_holds'). Laid BY PROGRAM, IN A SANDBOX (cutbox-door.mjs). By AI agents, Wed Nov 11 2026. No macro, syntax, notation, axiom, sorry.
-/
import Derived.Test.YtfcjacncllmapaaDoorRows
import GoSem.ClaimSeven
namespace Go.Proofs.YtfcjacncllmapaaDoor
namespace Rows

/-- THE TIED CARD OF 'laws.FnExactHllAdd'. -/
def fnExactHllAddCard : Claim7 := { stood := { row := fnExactHllAddRow, standIns := [], harness := (true, "fa80a2ef0eeee2722ce5e10081ea436d0c3ac77b18f203d19ce3d523c15b65a0"), looks := false }, kinds := [], alts := [], laidByText := true, laidKinds := [.data], laidTests := true, laidLooks := .later }
def FnExactHllAddCardSaid : Prop := Claim7.holds Tryd.pinned (.plain (OpenSpec.ofChange fnExactHllAddSpec)) fnExactHllAddCard

/-- THE TIED CARD OF 'laws.FnExactHllOf'. -/
def fnExactHllOfCard : Claim7 := { stood := { row := fnExactHllOfRow, standIns := [], harness := (true, "fa80a2ef0eeee2722ce5e10081ea436d0c3ac77b18f203d19ce3d523c15b65a0"), looks := false }, kinds := [], alts := [], laidByText := true, laidKinds := [.data], laidTests := true, laidLooks := .later }
def FnExactHllOfCardSaid : Prop := Claim7.holds Tryd.pinned (.plain (OpenSpec.ofChange fnExactHllOfSpec)) fnExactHllOfCard

/-- THE TIED CARD OF 'laws.FnCounters'. -/
def fnCountersCard : Claim7 := { stood := { row := fnCountersRow, standIns := [], harness := (true, "fa80a2ef0eeee2722ce5e10081ea436d0c3ac77b18f203d19ce3d523c15b65a0"), looks := false }, kinds := [], alts := [], laidByText := true, laidKinds := [.data], laidTests := true, laidLooks := .later }
def FnCountersCardSaid : Prop := Claim7.holds Tryd.pinned (.plain (OpenSpec.ofChange fnCountersSpec)) fnCountersCard

/-- THE SECOND FORM's CARD OF 'laws.FnExactHllAdd'. -/
def fnExactHllAddUptoCard : Claim7 := { stood := { row := fnExactHllAddUptoRow, standIns := [], harness := (true, "fa80a2ef0eeee2722ce5e10081ea436d0c3ac77b18f203d19ce3d523c15b65a0"), looks := false }, kinds := [], alts := [], laidByText := true, laidKinds := [.data], laidTests := true, laidLooks := .later }
def FnExactHllAddUptoCardSaid : Prop := Claim7.holds Tryd.pinned (.plain (OpenSpec.upto fnExactHllAddSpec)) fnExactHllAddUptoCard

/-- THE SECOND FORM's CARD OF 'laws.FnExactHllOf'. -/
def fnExactHllOfUptoCard : Claim7 := { stood := { row := fnExactHllOfUptoRow, standIns := [], harness := (true, "fa80a2ef0eeee2722ce5e10081ea436d0c3ac77b18f203d19ce3d523c15b65a0"), looks := false }, kinds := [], alts := [], laidByText := true, laidKinds := [.data], laidTests := true, laidLooks := .later }
def FnExactHllOfUptoCardSaid : Prop := Claim7.holds Tryd.pinned (.plain (OpenSpec.upto fnExactHllOfSpec)) fnExactHllOfUptoCard

/-- THE SECOND FORM's CARD OF 'laws.FnCounters'. -/
def fnCountersUptoCard : Claim7 := { stood := { row := fnCountersUptoRow, standIns := [], harness := (true, "fa80a2ef0eeee2722ce5e10081ea436d0c3ac77b18f203d19ce3d523c15b65a0"), looks := false }, kinds := [], alts := [], laidByText := true, laidKinds := [.data], laidTests := true, laidLooks := .later }
def FnCountersUptoCardSaid : Prop := Claim7.holds Tryd.pinned (.plain (OpenSpec.upto fnCountersSpec)) fnCountersUptoCard
end Rows
end Go.Proofs.YtfcjacncllmapaaDoor
