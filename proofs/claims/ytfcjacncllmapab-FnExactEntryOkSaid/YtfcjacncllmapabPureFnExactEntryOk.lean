/- The program's EntryOk returns what the reference's EntryOk returns, for every entry: no condition. -/
import Derived.Test.YtfcjacncllmapabQFnExactEntryOky
namespace Go.Proofs.Ytfcjacncllmapab.Pure
open Go.RowKit Go.Proofs.Ytfcjacncllmapab.PFnExactEntryOk Go.Proofs.YtfcjacncllmapabW.PrintWords Go.Proofs.YtfcjacncllmapabW.PrintLast Go.Proofs.YtfcjacncllmapabW.PrintMore
set_option linter.unusedVariables false
set_option linter.unusedSimpArgs false

/-! ## section szkey -/
theorem szkey_some (u : ByteArray) (q d left : Int) : ∃ r, laws_szKey.f u q d left = some r := by
  unfold laws_szKey.f; split <;> exact ⟨_, rfl⟩

/-! ## section szentry -/
theorem szentry_some (u : ByteArray) (q d : Int) (v : ByteArray) (left : Int) : ∃ r, laws_szEntry.f u q d v left = some r := by
  unfold laws_szEntry.f
  obtain ⟨r, hr⟩ := szkey_some u q d left
  rw [hr]
  simp only [Option.bind_some]
  split
  · exact ⟨_, rfl⟩
  · split <;> exact ⟨_, rfl⟩

/-! ## section keyok -/
def userB (s : ByteArray) : Bool := decide (1 ≤ s.size ∧ s.size ≤ 40)
def inB (n lo hi : Int) : Bool := decide (lo ≤ n ∧ n ≤ hi)
theorem iuser (s : ByteArray) : impl_isUser.f s = some (userB s) := by
  unfold impl_isUser.f userB
  split
  · congr 1; rw [decide_eq_decide]; omega
  · congr 1; symm; rw [decide_eq_false_iff_not]; omega
theorem suser (s : ByteArray) : spec_l2User.f s = some (userB s) := by
  unfold spec_l2User.f userB
  split
  · congr 1; rw [decide_eq_decide]; omega
  · congr 1; symm; rw [decide_eq_false_iff_not]; omega
theorem iwithin (n lo hi : Int) : impl_within.f n lo hi = some (inB n lo hi) := by
  unfold impl_within.f inB
  split
  · congr 1; rw [decide_eq_decide]; omega
  · congr 1; symm; rw [decide_eq_false_iff_not]; omega
theorem swithin (n lo hi : Int) : spec_l1In.f n lo hi = some (inB n lo hi) := by
  unfold spec_l1In.f inB
  split
  · congr 1; rw [decide_eq_decide]; omega
  · congr 1; symm; rw [decide_eq_false_iff_not]; omega
def keyB (u : ByteArray) (q d : Int) : Bool := userB u && inB q 0 1000000000000 && inB d 0 1
theorem ikeyok (u : ByteArray) (q d : Int) : impl_KeyOk.f u q d = some (keyB u q d) := by
  unfold impl_KeyOk.f keyB
  rw [iuser, iwithin, iwithin]
  simp only [Option.bind_some]
  cases userB u <;> cases inB q 0 1000000000000 <;> cases inB d 0 1 <;> rfl
theorem skeyok (u : ByteArray) (q d : Int) : spec_KeyOk.f u q d = some (keyB u q d) := by
  unfold spec_KeyOk.f keyB
  rw [suser, swithin, swithin]
  simp only [Option.bind_some]
  cases userB u <;> cases inB q 0 1000000000000 <;> cases inB d 0 1 <;> rfl

/-! ## section entryok -/
def entB (u : ByteArray) (q d : Int) (v : ByteArray) : Bool := keyB u q d && (decide (v.size ≤ 200) && (decide (d = 1) || (v.toList == ([] : List UInt8))))
theorem ient (u : ByteArray) (q d : Int) (v : ByteArray) : impl_EntryOk.f u q d v = some (entB u q d v) := by
  unfold impl_EntryOk.f entB
  rw [ikeyok]
  simp only [Option.bind_some]
  cases keyB u q d
  · rfl
  · rw [if_pos rfl]
    by_cases h : v.size ≤ 200
    · rw [if_pos (by omega)]
      by_cases h1 : d = 1 <;> simp [h, h1]
    · rw [if_neg (by omega)]; simp [h]
theorem sent (u : ByteArray) (q d : Int) (v : ByteArray) : spec_EntryOk.f u q d v = some (entB u q d v) := by
  unfold spec_EntryOk.f entB
  rw [skeyok]
  simp only [Option.bind_some]
  cases keyB u q d
  · rfl
  · rw [if_pos rfl]
    by_cases h : v.size ≤ 200
    · rw [if_pos (by omega)]
      by_cases h1 : d = 1 <;> simp [h, h1]
    · rw [if_neg (by omega)]; simp [h]

theorem FnExactEntryOk : laws_FnExactEntryOk.Pure := by
  intro u q d v _ _ _ _
  unfold laws_FnExactEntryOk.f
  obtain ⟨r, hr⟩ := szentry_some u q d v 1048576
  rw [hr]
  simp only [Option.bind_some]
  by_cases h : r < 0
  · rw [if_pos h]
  · rw [if_neg h]
    simp only [laws_toEntry.f, laws_toKey.f, Option.bind_some, sent, ient]
    simp

end Go.Proofs.Ytfcjacncllmapab.Pure
