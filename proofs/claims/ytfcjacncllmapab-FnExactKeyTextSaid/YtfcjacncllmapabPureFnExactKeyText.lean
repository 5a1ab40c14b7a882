/- The program's KeyText returns what the reference's KeyText returns, for every key: no condition. -/
import Derived.Test.YtfcjacncllmapabQFnExactKeyTexty
namespace Go.Proofs.Ytfcjacncllmapab.Pure
open Go.RowKit Go.Proofs.Ytfcjacncllmapab.QFnExactKeyText Go.Proofs.YtfcjacncllmapabW.PrintWords Go.Proofs.YtfcjacncllmapabW.PrintLast Go.Proofs.YtfcjacncllmapabW.PrintMore
set_option linter.unusedVariables false
set_option linter.unusedSimpArgs false

/-! ## section szkey -/
theorem szkey_some (u : ByteArray) (q d left : Int) : ∃ r, laws_szKey.f u q d left = some r := by
  unfold laws_szKey.f; split <;> exact ⟨_, rfl⟩

/-! ## section keyok -/
def userB (s : ByteArray) : Bool := decide (1 ≤ s.size ∧ s.size ≤ 40)
def inB (n lo hi : Int) : Bool := decide (lo ≤ n ∧ n ≤ hi)
theorem iuser (s : ByteArray) : impl_isUser.f s = some (userB s) := by
  unfold impl_isUser.f userB
  split
  · congr 1; rw [decide_eq_decide]; omega
  · congr 1; symm; rw [decide_eq_false_iff_not]; omega
theorem suser (s : ByteArray) : spec_l2User.f s = some (userB s) := by
  unfold spec_l2User.f userB
  split
  · congr 1; rw [decide_eq_decide]; omega
  · congr 1; symm; rw [decide_eq_false_iff_not]; omega
theorem iwithin (n lo hi : Int) : impl_within.f n lo hi = some (inB n lo hi) := by
  unfold impl_within.f inB
  split
  · congr 1; rw [decide_eq_decide]; omega
  · congr 1; symm; rw [decide_eq_false_iff_not]; omega
theorem swithin (n lo hi : Int) : spec_l1In.f n lo hi = some (inB n lo hi) := by
  unfold spec_l1In.f inB
  split
  · congr 1; rw [decide_eq_decide]; omega
  · congr 1; symm; rw [decide_eq_false_iff_not]; omega
def keyB (u : ByteArray) (q d : Int) : Bool := userB u && inB q 0 1000000000000 && inB d 0 1
theorem ikeyok (u : ByteArray) (q d : Int) : impl_KeyOk.f u q d = some (keyB u q d) := by
  unfold impl_KeyOk.f keyB
  rw [iuser, iwithin, iwithin]
  simp only [Option.bind_some]
  cases userB u <;> cases inB q 0 1000000000000 <;> cases inB d 0 1 <;> rfl
theorem skeyok (u : ByteArray) (q d : Int) : spec_KeyOk.f u q d = some (keyB u q d) := by
  unfold spec_KeyOk.f keyB
  rw [suser, swithin, swithin]
  simp only [Option.bind_some]
  cases userB u <;> cases inB q 0 1000000000000 <;> cases inB d 0 1 <;> rfl

/-! ## section keytext -/
/-- the four bytes of a number -/
def fxd (x : Int) : ByteArray := strOfNums ([x % 256, (x / 256) % 256, (x / 65536) % 256, (x / 16777216) % 256] : List Int)
theorem ipf (x : Int) : impl_PutFixed.f x = some (fxd x) := rfl
theorem spf (x : Int) : spec_PutFixed.f x = some (fxd x) := rfl
theorem fxd_size (x : Int) : (fxd x).size = 4 := by simp [fxd, strOfNums, ByteArray.size]
/-- what a right key is as text -/
def ktB (u : ByteArray) (q d : Int) : ByteArray := (u ++ fxd ((2 * q + d) % 4294967296)) ++ fxd (((2 * q + d) / 4294967296) % 4294967296)
theorem kt_num {u : ByteArray} {q d : Int} (h : keyB u q d = true) : IntKind.u64.wrap (wrap64 ((wrap64 (2 * q)) + d)) = 2 * q + d ∧ u.size ≤ 40 := by
  simp only [keyB, userB, inB, Bool.and_eq_true, decide_eq_true_eq] at h
  refine ⟨?_, by omega⟩
  have e1 : wrap64 (2 * q) = 2 * q := by unfold wrap64; omega
  have e2 : wrap64 (2 * q + d) = 2 * q + d := by unfold wrap64; omega
  rw [e1, e2]
  simp [IntKind.wrap, IntKind.bits, IntKind.signed]; omega
theorem ikt0 {u : ByteArray} {q d : Int} (h : keyB u q d = true) : impl_keyText.f u q d = some (ktB u q d) := by
  obtain ⟨e, hu⟩ := kt_num h
  unfold impl_keyText.f
  rw [e]
  simp only [ipf, Option.bind_some]
  rw [if_pos (by rw [fxd_size]; omega), if_pos (by rw [ByteArray.size_append, fxd_size, fxd_size]; omega)]
  rfl
theorem ikt (u : ByteArray) (q d : Int) : impl_KeyText.f u q d = some (if keyB u q d = true then ktB u q d else (⟨#[]⟩ : ByteArray)) := by
  unfold impl_KeyText.f
  rw [ikeyok]
  simp only [Option.bind_some]
  by_cases h : keyB u q d = true
  · rw [if_pos h, if_pos h, ikt0 h]; rfl
  · rw [if_neg h, if_neg h]
theorem skt (u : ByteArray) (q d : Int) : spec_KeyText.f u q d = some (if keyB u q d = true then ktB u q d else (⟨#[]⟩ : ByteArray)) := by
  unfold spec_KeyText.f
  rw [skeyok]
  simp only [Option.bind_some]
  by_cases h : keyB u q d = true
  · obtain ⟨e, hu⟩ := kt_num h
    rw [if_pos h, if_pos h, e]
    simp only [spf, Option.bind_some]
    rw [if_pos (by rw [fxd_size]; omega), if_pos (by rw [ByteArray.size_append, fxd_size, fxd_size]; omega)]
    rfl
  · rw [if_neg h, if_neg h]

theorem FnExactKeyText : laws_FnExactKeyText.Pure := by
  intro u q d _ _ _
  unfold laws_FnExactKeyText.f
  obtain ⟨r, hr⟩ := szkey_some u q d 1048576
  rw [hr]
  simp only [Option.bind_some]
  by_cases h : r < 0
  · rw [if_pos h]
  · rw [if_neg h]
    simp only [laws_toKey.f, Option.bind_some, skt, ikt]
    simp

end Go.Proofs.Ytfcjacncllmapab.Pure
