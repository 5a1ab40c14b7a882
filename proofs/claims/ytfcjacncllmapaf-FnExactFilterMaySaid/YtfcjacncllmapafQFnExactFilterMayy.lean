-- This session's own text: the pure statement of a law whose arguments are structs, texts or slices of them, and the walk that follows from it.
import Derived.Test.YtfcjacncllmapafQFnExactFilterMayx
import Derived.Deep.Slices
import Derived.ChangeSame
namespace Go.Proofs.Ytfcjacncllmapaf.QFnExactFilterMay
open Go.RowKit Go.ChangeShapes Go.WideShapes Go.Proofs.YtfcjacncllmapafW.PrintWords Go.Proofs.YtfcjacncllmapafW.PrintLast Go.Proofs.YtfcjacncllmapafW.PrintMore
set_option linter.unusedVariables false
set_option linter.unusedSimpArgs false
set_option maxRecDepth 100000 in
theorem op2 {H : Type} {enc : TypeId × Value → H} {w : World} {base : Nat} {sp : Nat → Bool} {hd : Bool} {fuel : Nat} {cs : List Value} {x : DataW H × List MemPlace} (h : DataW.trod enc Try.prog w base sp hd fuel 2 cs = some x) : ∃ a : Int, cs = [.int .i64 a] ∧ (Lit.int .i64 a).wf = true := by
  obtain ⟨s, e, _, hs⟩ := DataW.trod_int Try.underlying2 h
  exact ⟨s, e, hs⟩
set_option maxRecDepth 100000 in
theorem op9 {H : Type} {enc : TypeId × Value → H} {w : World} {base : Nat} {sp : Nat → Bool} {hd : Bool} {fuel : Nat} {cs : List Value} {x : DataW H × List MemPlace} (h : DataW.trod enc Try.prog w base sp hd fuel 9 cs = some x) : ∃ a : ByteArray, cs = [.string a] ∧ a.size ≤ 9223372036854775807 := by
  obtain ⟨s, e, _, hs⟩ := DataW.trod_string Try.underlying9 h
  exact ⟨s, e, hs⟩
set_option maxRecDepth 100000 in
theorem op23 {H : Type} {enc : TypeId × Value → H} {w : World} {base : Nat} {sp : Nat → Bool} {hd : Bool} {fuel : Nat} {cs : List Value} {x : DataW H × List MemPlace} (h : DataW.trod enc Try.prog w base sp hd fuel 23 cs = some x) : ∃ (a0 : Int) (a1 : Int) (a2 : Int) (a3 : ByteArray), cs = [.int .i64 a0, .int .i64 a1, .int .i64 a2, .string a3] ∧ (Lit.int .i64 a0).wf = true ∧ (Lit.int .i64 a1).wf = true ∧ (Lit.int .i64 a2).wf = true ∧ a3.size ≤ 9223372036854775807 := by
  obtain ⟨ys, n, _, _, hcl, hlen, hg⟩ := DataW.trod_struct Try.underlying23 h
  rw [show Try.prog.cellsOf 23 = 4 from by kernel_rfl] at hcl
  match ys, hlen with
  | [y0, y1, y2, y3], _ =>
  match cs, hcl with
  | [v0, v1, v2, v3], _ =>
  have g0 : DataW.trod enc Try.prog w base sp hd n 2 (([v0, v1, v2, v3].drop 0).take (Try.prog.cellsOf 2)) = some y0 := hg 0 _ rfl
  rw [show Try.prog.cellsOf 2 = 1 from by kernel_rfl] at g0
  obtain ⟨a0, e0, f0⟩ := op2 (x := y0) (cs := [v0]) g0
  have g1 : DataW.trod enc Try.prog w base sp hd n 2 (([v0, v1, v2, v3].drop 1).take (Try.prog.cellsOf 2)) = some y1 := hg 1 _ rfl
  rw [show Try.prog.cellsOf 2 = 1 from by kernel_rfl] at g1
  obtain ⟨a1, e1, f1⟩ := op2 (x := y1) (cs := [v1]) g1
  have g2 : DataW.trod enc Try.prog w base sp hd n 2 (([v0, v1, v2, v3].drop 2).take (Try.prog.cellsOf 2)) = some y2 := hg 2 _ rfl
  rw [show Try.prog.cellsOf 2 = 1 from by kernel_rfl] at g2
  obtain ⟨a2, e2, f2⟩ := op2 (x := y2) (cs := [v2]) g2
  have g3 : DataW.trod enc Try.prog w base sp hd n 9 (([v0, v1, v2, v3].drop 3).take (Try.prog.cellsOf 9)) = some y3 := hg 3 _ rfl
  rw [show Try.prog.cellsOf 9 = 1 from by kernel_rfl] at g3
  obtain ⟨a3, e3, f3⟩ := op9 (x := y3) (cs := [v3]) g3
  simp at e0
  obtain rfl := e0
  simp at e1
  obtain rfl := e1
  simp at e2
  obtain rfl := e2
  simp at e3
  obtain rfl := e3
  exact ⟨a0, a1, a2, a3, rfl, f0, f1, f2, f3⟩
def laws_FnExactFilterMay.Pure : Prop := ∀ (a0_0 : Int) (a0_1 : Int) (a0_2 : Int) (a0_3 : ByteArray) (a1 : ByteArray), ((Lit.int .i64 a0_0).wf = true) → ((Lit.int .i64 a0_1).wf = true) → ((Lit.int .i64 a0_2).wf = true) → (a0_3.size ≤ 9223372036854775807) → (a1.size ≤ 9223372036854775807) → ∃ k, laws_FnExactFilterMay.f k a0_0 a0_1 a0_2 a0_3 a1 = some true
theorem laws_FnExactFilterMay.walk (P : laws_FnExactFilterMay.Pure) (a0_0 : Int) (a0_1 : Int) (a0_2 : Int) (a0_3 : ByteArray) (a1 : ByteArray) (w : World) (w0 : (Lit.int .i64 a0_0).wf = true) (w1 : (Lit.int .i64 a0_1).wf = true) (w2 : (Lit.int .i64 a0_2).wf = true) (w3 : a0_3.size ≤ 9223372036854775807) (w4 : a1.size ≤ 9223372036854775807) :
    Calls Try.prog 6 #[.agg #[.int .i64 a0_0, .int .i64 a0_1, .int .i64 a0_2, .string a0_3], .string a1] w fun e w' => e = .returned (.bool true) ∧ Below w.heap.size w w' := by
  obtain ⟨k, h⟩ := P a0_0 a0_1 a0_2 a0_3 a1 w0 w1 w2 w3 w4
  refine (laws_FnExactFilterMay.calls k a0_0 a0_1 a0_2 a0_3 a1 true w h).mono ?_
  rintro e w' ⟨rfl, hd⟩
  exact ⟨rfl, hd⟩

end Go.Proofs.Ytfcjacncllmapaf.QFnExactFilterMay
