-- This session's own text: the pure statement of a law whose arguments are structs, texts or slices of them, and the walk that follows from it.
import Derived.Test.YtfcjacncllmapaaDoorQFnExactHllOfx
import Derived.Deep.Slices
import Derived.ChangeSame
namespace Go.Proofs.YtfcjacncllmapaaDoor.QFnExactHllOf
open Go.RowKit Go.ChangeShapes Go.WideShapes Go.Proofs.YtfcjacncllmapaaDoorW.PrintWords Go.Proofs.YtfcjacncllmapaaDoorW.PrintLast Go.Proofs.YtfcjacncllmapaaDoorW.PrintMore
set_option linter.unusedVariables false
set_option linter.unusedSimpArgs false
theorem open_kd {H : Type} {enc : TypeId × Value → H} {w : World} {base : Nat} {sp : Nat → Bool} {hd : Bool} {α : Type} (d : Kd α) (D : α → Prop) {t e : TypeId} {fuel : Nat} {cs : List Value} {x : DataW H × List MemPlace}
    (ht : Tryd.prog.underlying t = some (.slice e)) (hsz : Tryd.prog.cellsOf e = d.sz) (hel : ∀ (n : Nat) (cs : List Value) (y : DataW H × List MemPlace), DataW.trod enc Tryd.prog w base sp hd n e cs = some y → ∃ z, d.K w z cs ∧ D z)
    (h : DataW.trod enc Tryd.prog w base sp hd fuel t cs = some x) : ∃ (A : Option Addr) (l : List α) (cap : Nat), cs = [.slice A l.length cap] ∧ Kd.C d w A l.length l ∧ l.length ≤ cap ∧ l.length ≤ 9223372036854775807 ∧ ∀ z ∈ l, D z := by
  rcases Go.Deep.open_slice ht h with ⟨rfl, _⟩ | ⟨a, len, cap, m, n, D', Pl, hcs, hb, hl, hm, hmm, hx, hi⟩
  · exact ⟨none, [], 0, rfl, Kd.C_nil d w, Nat.zero_le _, Nat.zero_le _, by simp⟩
  · have hlm : len ≤ m := by rw [hmm]; split <;> omega
    have key : ∀ q : Nat, q ≤ len → ∃ l : List α, l.length = q ∧ (∀ z ∈ l, D z) ∧ ∀ j p, l[j]? = some p → ∃ c, c.length = d.sz ∧ d.K w p c ∧ ∀ i u, c[i]? = some u → w.cell? (a.add (j * d.sz + i)) = some u := by
      intro q
      induction q with
      | zero => exact fun _ => ⟨[], rfl, by simp, by simp⟩
      | succ q ih =>
        intro hq
        obtain ⟨l, h1, h2, h3⟩ := ih (by omega)
        obtain ⟨cs', hc, ht'⟩ := hi q (by omega)
        rw [hsz] at hc
        obtain ⟨_, hcl, hat⟩ := World.cells?_some hc
        obtain ⟨z, hz, hD⟩ := hel n cs' _ ht'
        refine ⟨l ++ [z], by simp [h1], ?_, ?_⟩
        · intro y hy
          rcases List.mem_append.1 hy with hy | hy
          · exact h2 y hy
          · simp at hy; subst hy; exact hD
        · intro j p hj
          rcases Nat.lt_or_ge j l.length with hjl | hjl
          · rw [List.getElem?_append_left hjl] at hj
            exact h3 j p hj
          · rw [List.getElem?_append_right hjl] at hj
            have hj0 : j - l.length = 0 := by
              rcases Nat.eq_zero_or_pos (j - l.length) with h0 | h0
              · exact h0
              · rw [List.getElem?_eq_none (by simp; omega)] at hj; cases hj
            rw [hj0] at hj
            simp at hj
            subst hj
            have hjq : j = q := by omega
            subst hjq
            refine ⟨cs', hcl, hz, fun i u hu => ?_⟩
            have hil : i < d.sz := by rw [← hcl]; exact (List.getElem?_eq_some_iff.1 hu).1
            rw [← Go.Deep.add_add, hat i hil, hu]
    obtain ⟨l, h1, h2, h3⟩ := key len (Nat.le_refl _)
    have hmax : len ≤ 9223372036854775807 := Nat.le_trans hl hm
    exact ⟨some a, l, cap, by rw [h1]; exact hcs, ⟨rfl, by rw [h1]; exact hmax, fun _ => ⟨a, rfl, h3⟩⟩, by omega, by omega, h2⟩
set_option maxRecDepth 100000 in
theorem op9 {H : Type} {enc : TypeId × Value → H} {w : World} {base : Nat} {sp : Nat → Bool} {hd : Bool} {fuel : Nat} {cs : List Value} {x : DataW H × List MemPlace} (h : DataW.trod enc Tryd.prog w base sp hd fuel 9 cs = some x) : ∃ a : ByteArray, cs = [.string a] ∧ a.size ≤ 9223372036854775807 := by
  obtain ⟨s, e, _, hs⟩ := DataW.trod_string Tryd.underlying9 h
  exact ⟨s, e, hs⟩
set_option maxRecDepth 100000 in
theorem op24 {H : Type} {enc : TypeId × Value → H} {w : World} {base : Nat} {sp : Nat → Bool} {hd : Bool} {fuel : Nat} {cs : List Value} {x : DataW H × List MemPlace} (h : DataW.trod enc Tryd.prog w base sp hd fuel 24 cs = some x) : ∃ (A : Option Addr) (l : List ByteArray) (cap : Nat), cs = [.slice A l.length cap] ∧ Kd.C Kd.string w A l.length l ∧ l.length ≤ cap ∧ l.length ≤ 9223372036854775807 ∧ ∀ z ∈ l, z.size ≤ 9223372036854775807 :=
  open_kd Kd.string (fun z => z.size ≤ 9223372036854775807) Tryd.underlying24 (by kernel_rfl) (fun n cs y hy => by
    obtain ⟨b0, rfl, h0⟩ := op9 hy
    exact ⟨b0, rfl, h0⟩) h
def laws_FnExactHllOf.Pure : Prop := ∀ (l0 : List ByteArray), (l0.length ≤ 9223372036854775807 ∧ ∀ z ∈ l0, z.size ≤ 9223372036854775807) → ∃ k, laws_FnExactHllOf.f k l0 = some true
theorem laws_FnExactHllOf.walk (P : laws_FnExactHllOf.Pure) (A0 : Option Addr) (c0 : Nat) (l0 : List ByteArray) (w : World) (hr0 : Kd.C Kd.string w A0 l0.length l0) (hc0 : l0.length ≤ c0) (hrG : Kd.C (Kd.int .u8) w (some ⟨0, 0, none⟩) tabG.length tabG) (w0 : l0.length ≤ 9223372036854775807 ∧ ∀ z ∈ l0, z.size ≤ 9223372036854775807) :
    Calls Tryd.prog 4 #[.slice A0 l0.length c0] w fun e w' => e = .returned (.bool true) ∧ Below w.heap.size w w' := by
  obtain ⟨k, h⟩ := P l0 w0
  refine (laws_FnExactHllOf.calls k A0 c0 l0 true w hr0 hc0 hrG h).mono ?_
  rintro e w' ⟨rfl, hd⟩
  exact ⟨rfl, hd⟩

end Go.Proofs.YtfcjacncllmapaaDoor.QFnExactHllOf
