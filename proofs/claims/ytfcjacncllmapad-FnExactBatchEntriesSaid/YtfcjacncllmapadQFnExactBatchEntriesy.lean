-- This session's own text: the pure statement of a law whose arguments are structs, texts or slices of them, and the walk that follows from it.
import Derived.Test.YtfcjacncllmapadQFnExactBatchEntriesx
import Derived.Deep.Slices
import Derived.ChangeSame
namespace Go.Proofs.Ytfcjacncllmapad.QFnExactBatchEntries
open Go.RowKit Go.ChangeShapes Go.WideShapes Go.Proofs.YtfcjacncllmapadW.PrintWords Go.Proofs.YtfcjacncllmapadW.PrintLast Go.Proofs.YtfcjacncllmapadW.PrintMore
set_option linter.unusedVariables false
set_option linter.unusedSimpArgs false
theorem open_kd {H : Type} {enc : TypeId × Value → H} {w : World} {base : Nat} {sp : Nat → Bool} {hd : Bool} {α : Type} (d : Kd α) (D : α → Prop) {t e : TypeId} {fuel : Nat} {cs : List Value} {x : DataW H × List MemPlace}
    (ht : Try.prog.underlying t = some (.slice e)) (hsz : Try.prog.cellsOf e = d.sz) (hel : ∀ (n : Nat) (cs : List Value) (y : DataW H × List MemPlace), DataW.trod enc Try.prog w base sp hd n e cs = some y → ∃ z, d.K w z cs ∧ D z)
    (h : DataW.trod enc Try.prog w base sp hd fuel t cs = some x) : ∃ (A : Option Addr) (l : List α) (cap : Nat), cs = [.slice A l.length cap] ∧ Kd.C d w A l.length l ∧ l.length ≤ cap ∧ l.length ≤ 9223372036854775807 ∧ ∀ z ∈ l, D z := by
  rcases Go.Deep.open_slice ht h with ⟨rfl, _⟩ | ⟨a, len, cap, m, n, D', Pl, hcs, hb, hl, hm, hmm, hx, hi⟩
  · exact ⟨none, [], 0, rfl, Kd.C_nil d w, Nat.zero_le _, Nat.zero_le _, by simp⟩
  · have hlm : len ≤ m := by rw [hmm]; split <;> omega
    have key : ∀ q : Nat, q ≤ len → ∃ l : List α, l.length = q ∧ (∀ z ∈ l, D z) ∧ ∀ j p, l[j]? = some p → ∃ c, c.length = d.sz ∧ d.K w p c ∧ ∀ i u, c[i]? = some u → w.cell? (a.add (j * d.sz + i)) = some u := by
      intro q
      induction q with
      | zero => exact fun _ => ⟨[], rfl, by simp, by simp⟩
      | succ q ih =>
        intro hq
        obtain ⟨l, h1, h2, h3⟩ := ih (by omega)
        obtain ⟨cs', hc, ht'⟩ := hi q (by omega)
        rw [hsz] at hc
        obtain ⟨_, hcl, hat⟩ := World.cells?_some hc
        obtain ⟨z, hz, hD⟩ := hel n cs' _ ht'
        refine ⟨l ++ [z], by simp [h1], ?_, ?_⟩
        · intro y hy
          rcases List.mem_append.1 hy with hy | hy
          · exact h2 y hy
          · simp at hy; subst hy; exact hD
        · intro j p hj
          rcases Nat.lt_or_ge j l.length with hjl | hjl
          · rw [List.getElem?_append_left hjl] at hj
            exact h3 j p hj
          · rw [List.getElem?_append_right hjl] at hj
            have hj0 : j - l.length = 0 := by
              rcases Nat.eq_zero_or_pos (j - l.length) with h0 | h0
              · exact h0
              · rw [List.getElem?_eq_none (by simp; omega)] at hj; cases hj
            rw [hj0] at hj
            simp at hj
            subst hj
            have hjq : j = q := by omega
            subst hjq
            refine ⟨cs', hcl, hz, fun i u hu => ?_⟩
            have hil : i < d.sz := by rw [← hcl]; exact (List.getElem?_eq_some_iff.1 hu).1
            rw [← Go.Deep.add_add, hat i hil, hu]
    obtain ⟨l, h1, h2, h3⟩ := key len (Nat.le_refl _)
    have hmax : len ≤ 9223372036854775807 := Nat.le_trans hl hm
    exact ⟨some a, l, cap, by rw [h1]; exact hcs, ⟨rfl, by rw [h1]; exact hmax, fun _ => ⟨a, rfl, h3⟩⟩, by omega, by omega, h2⟩
set_option maxRecDepth 100000 in
theorem op2 {H : Type} {enc : TypeId × Value → H} {w : World} {base : Nat} {sp : Nat → Bool} {hd : Bool} {fuel : Nat} {cs : List Value} {x : DataW H × List MemPlace} (h : DataW.trod enc Try.prog w base sp hd fuel 2 cs = some x) : ∃ a : Int, cs = [.int .i64 a] ∧ (Lit.int .i64 a).wf = true := by
  obtain ⟨s, e, _, hs⟩ := DataW.trod_int Try.underlying2 h
  exact ⟨s, e, hs⟩
set_option maxRecDepth 100000 in
theorem op9 {H : Type} {enc : TypeId × Value → H} {w : World} {base : Nat} {sp : Nat → Bool} {hd : Bool} {fuel : Nat} {cs : List Value} {x : DataW H × List MemPlace} (h : DataW.trod enc Try.prog w base sp hd fuel 9 cs = some x) : ∃ a : ByteArray, cs = [.string a] ∧ a.size ≤ 9223372036854775807 := by
  obtain ⟨s, e, _, hs⟩ := DataW.trod_string Try.underlying9 h
  exact ⟨s, e, hs⟩
set_option maxRecDepth 100000 in
theorem op99 {H : Type} {enc : TypeId × Value → H} {w : World} {base : Nat} {sp : Nat → Bool} {hd : Bool} {fuel : Nat} {cs : List Value} {x : DataW H × List MemPlace} (h : DataW.trod enc Try.prog w base sp hd fuel 99 cs = some x) : ∃ (a0 : Int) (a1 : ByteArray) (a2 : ByteArray), cs = [.int .i64 a0, .string a1, .string a2] ∧ (Lit.int .i64 a0).wf = true ∧ a1.size ≤ 9223372036854775807 ∧ a2.size ≤ 9223372036854775807 := by
  obtain ⟨ys, n, _, _, hcl, hlen, hg⟩ := DataW.trod_struct Try.underlying99 h
  rw [show Try.prog.cellsOf 99 = 3 from by kernel_rfl] at hcl
  match ys, hlen with
  | [y0, y1, y2], _ =>
  match cs, hcl with
  | [v0, v1, v2], _ =>
  have g0 : DataW.trod enc Try.prog w base sp hd n 2 (([v0, v1, v2].drop 0).take (Try.prog.cellsOf 2)) = some y0 := hg 0 _ rfl
  rw [show Try.prog.cellsOf 2 = 1 from by kernel_rfl] at g0
  obtain ⟨a0, e0, f0⟩ := op2 (x := y0) (cs := [v0]) g0
  have g1 : DataW.trod enc Try.prog w base sp hd n 9 (([v0, v1, v2].drop 1).take (Try.prog.cellsOf 9)) = some y1 := hg 1 _ rfl
  rw [show Try.prog.cellsOf 9 = 1 from by kernel_rfl] at g1
  obtain ⟨a1, e1, f1⟩ := op9 (x := y1) (cs := [v1]) g1
  have g2 : DataW.trod enc Try.prog w base sp hd n 9 (([v0, v1, v2].drop 2).take (Try.prog.cellsOf 9)) = some y2 := hg 2 _ rfl
  rw [show Try.prog.cellsOf 9 = 1 from by kernel_rfl] at g2
  obtain ⟨a2, e2, f2⟩ := op9 (x := y2) (cs := [v2]) g2
  simp at e0
  obtain rfl := e0
  simp at e1
  obtain rfl := e1
  simp at e2
  obtain rfl := e2
  exact ⟨a0, a1, a2, rfl, f0, f1, f2⟩
set_option maxRecDepth 100000 in
theorem op44 {H : Type} {enc : TypeId × Value → H} {w : World} {base : Nat} {sp : Nat → Bool} {hd : Bool} {fuel : Nat} {cs : List Value} {x : DataW H × List MemPlace} (h : DataW.trod enc Try.prog w base sp hd fuel 44 cs = some x) : ∃ (A : Option Addr) (l : List S99) (cap : Nat), cs = [.slice A l.length cap] ∧ Kd.C k99 w A l.length l ∧ l.length ≤ cap ∧ l.length ≤ 9223372036854775807 ∧ ∀ z ∈ l, (Lit.int .i64 z.f0).wf = true ∧ z.f1.size ≤ 9223372036854775807 ∧ z.f2.size ≤ 9223372036854775807 :=
  open_kd k99 (fun z => (Lit.int .i64 z.f0).wf = true ∧ z.f1.size ≤ 9223372036854775807 ∧ z.f2.size ≤ 9223372036854775807) Try.underlying44 (by kernel_rfl) (fun n cs y hy => by
    obtain ⟨b0, b1, b2, rfl, h0, h1, h2⟩ := op99 hy
    exact ⟨⟨b0, b1, b2⟩, k99_mk w _, ⟨h0, h1, h2⟩⟩) h
set_option maxRecDepth 100000 in
theorem op46 {H : Type} {enc : TypeId × Value → H} {w : World} {base : Nat} {sp : Nat → Bool} {hd : Bool} {fuel : Nat} {cs : List Value} {x : DataW H × List MemPlace} (h : DataW.trod enc Try.prog w base sp hd fuel 46 cs = some x) : ∃ (a0 : Int) (A1 : Option Addr) (l1 : List S99) (c1 : Nat), cs = [.int .i64 a0, .slice A1 l1.length c1] ∧ (Lit.int .i64 a0).wf = true ∧ (Kd.C k99 w A1 l1.length l1 ∧ l1.length ≤ c1 ∧ l1.length ≤ 9223372036854775807 ∧ ∀ z ∈ l1, (Lit.int .i64 z.f0).wf = true ∧ z.f1.size ≤ 9223372036854775807 ∧ z.f2.size ≤ 9223372036854775807) := by
  obtain ⟨ys, n, _, _, hcl, hlen, hg⟩ := DataW.trod_struct Try.underlying46 h
  rw [show Try.prog.cellsOf 46 = 2 from by kernel_rfl] at hcl
  match ys, hlen with
  | [y0, y1], _ =>
  match cs, hcl with
  | [v0, v1], _ =>
  have g0 : DataW.trod enc Try.prog w base sp hd n 2 (([v0, v1].drop 0).take (Try.prog.cellsOf 2)) = some y0 := hg 0 _ rfl
  rw [show Try.prog.cellsOf 2 = 1 from by kernel_rfl] at g0
  obtain ⟨a0, e0, f0⟩ := op2 (x := y0) (cs := [v0]) g0
  have g1 : DataW.trod enc Try.prog w base sp hd n 44 (([v0, v1].drop 1).take (Try.prog.cellsOf 44)) = some y1 := hg 1 _ rfl
  rw [show Try.prog.cellsOf 44 = 1 from by kernel_rfl] at g1
  obtain ⟨A1, l1, c1, e1, f1⟩ := op44 (x := y1) (cs := [v1]) g1
  simp at e0
  obtain rfl := e0
  simp at e1
  obtain rfl := e1
  exact ⟨a0, A1, l1, c1, rfl, f0, f1⟩
def laws_FnExactBatchEntries.Pure : Prop := ∀ (a0_0 : Int) (l0_1 : List (S99)), ((Lit.int .i64 a0_0).wf = true) → (l0_1.length ≤ 9223372036854775807 ∧ ∀ z ∈ l0_1, (Lit.int .i64 z.f0).wf = true ∧ z.f1.size ≤ 9223372036854775807 ∧ z.f2.size ≤ 9223372036854775807) → ∃ k, laws_FnExactBatchEntries.f k a0_0 l0_1 = some true
theorem laws_FnExactBatchEntries.walk (P : laws_FnExactBatchEntries.Pure) (a0_0 : Int) (A0_1 : Option Addr) (c0_1 : Nat) (l0_1 : List (S99)) (w : World) (hr0_1 : Kd.C k99 w A0_1 l0_1.length l0_1) (hc0_1 : l0_1.length ≤ c0_1) (w0 : (Lit.int .i64 a0_0).wf = true) (w1 : l0_1.length ≤ 9223372036854775807 ∧ ∀ z ∈ l0_1, (Lit.int .i64 z.f0).wf = true ∧ z.f1.size ≤ 9223372036854775807 ∧ z.f2.size ≤ 9223372036854775807) :
    Calls Try.prog 8 #[.agg #[.int .i64 a0_0, .slice A0_1 l0_1.length c0_1]] w fun e w' => e = .returned (.bool true) ∧ Below w.heap.size w w' := by
  obtain ⟨k, h⟩ := P a0_0 l0_1 w0 w1
  refine (laws_FnExactBatchEntries.calls k a0_0 A0_1 c0_1 l0_1 true w hr0_1 hc0_1 h).mono ?_
  rintro e w' ⟨rfl, hd⟩
  exact ⟨rfl, hd⟩

end Go.Proofs.Ytfcjacncllmapad.QFnExactBatchEntries
