/- Go's TrailingZeros64: what it comes to where its table holds what the program's text lays. This session's own text. -/
import Derived.Test.YtfcjacncllmapaaDoorProg
import Derived.Test.YtfcjacncllmapaaDoorWLast
import Derived.Test.YtfcjacncllmapaaDoorWWords
import Derived.Test.YtfcjacncllmapaaDoorWMore
import Derived.WalkKit
import Derived.Below
import Derived.IntWalk
namespace Go.Proofs.YtfcjacncllmapaaDoorW.PrintLast
open Go.RowKit Go.Proofs.YtfcjacncllmapaaDoorW.PrintWords
set_option linter.unusedVariables false
set_option linter.unusedSimpArgs false
/-- the table, as the program's text lays it -/
def tabG : List Int := [0, 1, 56, 2, 57, 49, 28, 3, 61, 58, 42, 50, 38, 29, 17, 4, 62, 47, 59, 36, 45, 43, 51, 22, 53, 39, 33, 30, 24, 18, 12, 5, 63, 55, 48, 27, 60, 41, 37, 16, 46, 35, 44, 21, 52, 32, 23, 11, 54, 26, 40, 15, 34, 20, 31, 10, 25, 14, 19, 9, 13, 8, 7, 6]
/-- its index -/
def tzI (a : Int) : Int := (IntKind.u64.wrap ((Go.bits .and .u64 a (IntKind.u64.wrap (-a))) * 285870213051353865)) / 288230376151711744
theorem tzI_in (a : Int) : 0 ≤ tzI a ∧ tzI a < 64 := by
  unfold tzI
  generalize (Go.bits .and .u64 a (IntKind.u64.wrap (-a))) * 285870213051353865 = x
  have e : IntKind.u64.wrap x = x % 18446744073709551616 := by simp [IntKind.wrap, IntKind.bits, IntKind.signed]
  rw [e]
  omega
theorem tab_in (i : Int) : 0 ≤ rd tabG i ∧ rd tabG i < 64 := by
  unfold rd
  rw [List.getD_eq_getElem?_getD]
  cases h : tabG[i.toNat]? with
  | none => simp
  | some x => exact (show ∀ x ∈ tabG, 0 ≤ x ∧ x < 64 by decide) x (List.mem_of_getElem? h)
def bits_TrailingZeros64.f (a0 : Int) : Option (Int) := if a0 = 0 then some 64 else some (rd tabG (tzI a0))
set_option maxRecDepth 100000 in
set_option maxHeartbeats 2000000 in
theorem bits_TrailingZeros64.calls (a0 : Int) (r : Int) (w : World) (hrG : Kd.C (Kd.int .u8) w (some ⟨0, 0, none⟩) tabG.length tabG) (h : bits_TrailingZeros64.f a0 = some r) :
    Calls Tryd.prog 23 #[.int .u64 a0] w fun e w' => e = .returned (.int .i64 r) ∧ Below w.heap.size w w' := by
  unfold bits_TrailingZeros64.f at h
  by_cases c : a0 = 0
  · rw [if_pos c] at h
    cases h
    subst c
    go_enter Tryd.func23, Tryd.ntmps23
    go_wp2
    go_ret
    exact ⟨rfl, Below.refl _ _⟩
  · rw [if_neg c] at h
    cases h
    have c1 : (a0 == 0) = false := beq_eq_false_iff_ne.mpr c
    obtain ⟨p, q⟩ := tzI_in a0
    have ql : tzI a0 < (tabG.length : Int) := q
    obtain ⟨ad, e, hx⟩ := Kd.at_int hrG (tzI a0) p ql
    have ead : ad = ⟨0, 0, none⟩ := by injection e with e; exact e.symm
    subst ead
    clear e
    have hb := tab_in (tzI a0)
    have hx2 : w.cell? ⟨0, (tzI a0).toNat, none⟩ = some (Value.int IntKind.u8 (rd tabG (tzI a0))) := by
      have h_ := hx
      rw [add_plain] at h_
      exact h_
    clear hx
    generalize rd tabG (tzI a0) = y at hx2 hb ⊢
    obtain ⟨hb0, hb1⟩ := hb
    replace p := eq_true p
    replace q := eq_true q
    unfold tzI at p q hx2
    clear hrG ql
    go_enter Tryd.func23, Tryd.ntmps23
    go_wp2
    go_ret
    exact ⟨rfl, Below.refl _ _⟩
end Go.Proofs.YtfcjacncllmapaaDoorW.PrintLast
