/- The program's KeyOk returns what the reference's KeyOk returns, for every key: no condition. -/
import Derived.Test.YtbkongagogfpdabQFnExactKeyOky
namespace Go.Proofs.Ytbkongagogfpdab.Pure
open Go.RowKit Go.Proofs.Ytbkongagogfpdab.PFnExactKeyOk Go.Proofs.YtbkongagogfpdabW.PrintWords Go.Proofs.YtbkongagogfpdabW.PrintLast Go.Proofs.YtbkongagogfpdabW.PrintMore
set_option linter.unusedVariables false
set_option linter.unusedSimpArgs false

/-! ## section keyok -/
theorem szkey_some (u : ByteArray) (q d left : Int) : ∃ r, laws_szKey.f u q d left = some r := by
  unfold laws_szKey.f; split <;> exact ⟨_, rfl⟩
def userB (s : ByteArray) : Bool := decide (1 ≤ s.size ∧ s.size ≤ 40)
def inB (n lo hi : Int) : Bool := decide (lo ≤ n ∧ n ≤ hi)
theorem iuser (s : ByteArray) : impl_isUser.f s = some (userB s) := by
  unfold impl_isUser.f userB
  split
  · congr 1; rw [decide_eq_decide]; omega
  · congr 1; symm; rw [decide_eq_false_iff_not]; omega
theorem suser (s : ByteArray) : spec_l2User.f s = some (userB s) := by
  unfold spec_l2User.f userB
  split
  · congr 1; rw [decide_eq_decide]; omega
  · congr 1; symm; rw [decide_eq_false_iff_not]; omega
theorem iwithin (n lo hi : Int) : impl_within.f n lo hi = some (inB n lo hi) := by
  unfold impl_within.f inB
  split
  · congr 1; rw [decide_eq_decide]; omega
  · congr 1; symm; rw [decide_eq_false_iff_not]; omega
theorem swithin (n lo hi : Int) : spec_l1In.f n lo hi = some (inB n lo hi) := by
  unfold spec_l1In.f inB
  split
  · congr 1; rw [decide_eq_decide]; omega
  · congr 1; symm; rw [decide_eq_false_iff_not]; omega
def keyB (u : ByteArray) (q d : Int) : Bool := userB u && inB q 0 1000000000000 && inB d 0 1
theorem ikeyok (u : ByteArray) (q d : Int) : impl_KeyOk.f u q d = some (keyB u q d) := by
  unfold impl_KeyOk.f keyB
  rw [iuser, iwithin, iwithin]
  simp only [Option.bind_some]
  cases userB u <;> cases inB q 0 1000000000000 <;> cases inB d 0 1 <;> rfl
theorem skeyok (u : ByteArray) (q d : Int) : spec_KeyOk.f u q d = some (keyB u q d) := by
  unfold spec_KeyOk.f keyB
  rw [suser, swithin, swithin]
  simp only [Option.bind_some]
  cases userB u <;> cases inB q 0 1000000000000 <;> cases inB d 0 1 <;> rfl

theorem FnExactKeyOk : laws_FnExactKeyOk.Pure := by
  intro u q d hu hq hd
  unfold laws_FnExactKeyOk.f
  obtain ⟨r, hr⟩ := szkey_some u q d 1048576
  rw [hr]
  simp only [Option.bind_some]
  by_cases h : r < 0
  · rw [if_pos h]
  · rw [if_neg h]
    simp only [laws_toKey.f, Option.bind_some, skeyok, ikeyok]
    simp

end Go.Proofs.Ytbkongagogfpdab.Pure
