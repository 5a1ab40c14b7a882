/- The program's PutText returns what the reference's PutText returns, for every text: no condition. -/
import Derived.Test.YtbkongagogfpdaaQFnExactPutTextx
namespace Go.Proofs.Ytbkongagogfpdaa.Pure
open Go.RowKit Go.Proofs.Ytbkongagogfpdaa.PFnExactPutText Go.Proofs.YtbkongagogfpdaaW.PrintWords Go.Proofs.YtbkongagogfpdaaW.PrintLast Go.Proofs.YtbkongagogfpdaaW.PrintMore
set_option linter.unusedVariables false
set_option linter.unusedSimpArgs false

/-! ## section base -/
/-- an unsigned kind's number that fits is not wrapped -/
theorem wrapU (k : IntKind) (hs : k.signed = false) (n : Nat) (h : n < 2 ^ k.bits) : k.wrap (n : Int) = n := by
  unfold IntKind.wrap
  rw [Int.emod_eq_of_lt (by omega) (by exact_mod_cast h)]
  simp [hs]
/-- bits of unsigned numbers are those of natural numbers -/
theorem b_or (k : IntKind) (hs : k.signed = false) (a b : Nat) (ha : a < 2 ^ k.bits) (hb : b < 2 ^ k.bits) : Go.bits .or k a b = ((a ||| b : Nat) : Int) := by
  simp only [Go.bits, BitVec.ofInt_natCast, BitVec.toNat_or, BitVec.toNat_ofNat, Nat.mod_eq_of_lt ha, Nat.mod_eq_of_lt hb]
  exact wrapU k hs _ (Nat.or_lt_two_pow ha hb)
theorem b_xor (k : IntKind) (hs : k.signed = false) (a b : Nat) (ha : a < 2 ^ k.bits) (hb : b < 2 ^ k.bits) : Go.bits .xor k a b = ((a ^^^ b : Nat) : Int) := by
  simp only [Go.bits, BitVec.ofInt_natCast, BitVec.toNat_xor, BitVec.toNat_ofNat, Nat.mod_eq_of_lt ha, Nat.mod_eq_of_lt hb]
  exact wrapU k hs _ (Nat.xor_lt_two_pow ha hb)
theorem b_and (k : IntKind) (hs : k.signed = false) (a b : Nat) (ha : a < 2 ^ k.bits) (hb : b < 2 ^ k.bits) : Go.bits .and k a b = ((a &&& b : Nat) : Int) := by
  simp only [Go.bits, BitVec.ofInt_natCast, BitVec.toNat_and, BitVec.toNat_ofNat, Nat.mod_eq_of_lt ha, Nat.mod_eq_of_lt hb]
  exact wrapU k hs _ (Nat.and_lt_two_pow _ hb)
theorem b_or8 (a b : Nat) (ha : a < 256) (hb : b < 256) : Go.bits .or .u8 a b = ((a ||| b : Nat) : Int) := b_or .u8 rfl a b ha hb
theorem u64w (x : Int) : IntKind.u64.wrap x = x % 18446744073709551616 := by simp [IntKind.wrap, IntKind.bits, IntKind.signed]

/-! ## section putvar -/
theorem or128 : ∀ a : Nat, a < 256 → a ||| 128 = a % 128 + 128 := by decide +kernel
def vb (n : Nat) : List Int := if n < 128 then [(n : Int)] else ((n % 128 + 128 : Nat) : Int) :: vb (n / 128)
termination_by n
decreasing_by omega
theorem vb_small {n : Nat} (h : n < 128) : vb n = [(n : Int)] := by rw [vb, if_pos h]
theorem vb_big {n : Nat} (h : ¬ n < 128) : vb n = ((n % 128 + 128 : Nat) : Int) :: vb (n / 128) := by rw [vb, if_neg h]
theorem ipv_l0 : ∀ (k n : Nat) (acc : List Int), n < 128 ^ (k + 1) → acc.length + k < 140737488355328 → impl_PutVar.l0 (k + 1) n acc = some (strOfNums (acc ++ vb n)) := by
  intro k
  induction k with
  | zero =>
    intro n acc hn hl
    have h : n < 128 := by simpa using hn
    rw [impl_PutVar.l0, if_neg (by omega), if_pos (by omega), vb_small h]
    rw [show ((n : Int) % 256) = n by omega]
  | succ k ih =>
    intro n acc hn hl
    by_cases h : n < 128
    · rw [impl_PutVar.l0, if_neg (by omega), if_pos (by omega), vb_small h]
      rw [show ((n : Int) % 256) = n by omega]
    · rw [impl_PutVar.l0, if_pos (by omega), if_pos (by omega), vb_big h]
      have e1 : ((n : Int) / 128) = ((n / 128 : Nat) : Int) := by omega
      have e2 : ((n : Int) % 256) = ((n % 256 : Nat) : Int) := by omega
      have hm : n % 256 % 128 = n % 128 := by omega
      rw [e1, e2, show (128 : Int) = ((128 : Nat) : Int) from rfl, b_or8 _ _ (by omega) (by omega), or128 _ (by omega), hm]
      rw [ih (n / 128) _ (by rw [Nat.pow_succ] at hn; omega) (by simp; omega)]
      simp
theorem spv_l0 : ∀ (k n : Nat) (acc : List Int), n < 18446744073709551616 → spec_PutVar.l0 k n acc = impl_PutVar.l0 k n acc := by
  intro k
  induction k with
  | zero => intros; rfl
  | succ k ih =>
    intro n acc hn
    rw [impl_PutVar.l0, spec_PutVar.l0]
    by_cases h : n < 128
    · rw [if_neg (by omega : ¬ ((n : Int) ≥ 128)), if_neg (by omega : ¬ ((n : Int) ≥ 128))]
    · rw [if_pos (by omega : (n : Int) ≥ 128), if_pos (by omega : (n : Int) ≥ 128)]
      have e1 : ((n : Int) / 128) = ((n / 128 : Nat) : Int) := by omega
      have e2 : ((n : Int) % 256) = ((n % 256 : Nat) : Int) := by omega
      have hm : n % 256 % 128 = n % 128 := by omega
      have e5 : Go.bits .or .u8 ((n % 256 : Nat) : Int) 128 = ((n % 128 + 128 : Nat) : Int) := by
        rw [show (128 : Int) = ((128 : Nat) : Int) from rfl, b_or8 _ _ (by omega) (by omega), or128 _ (by omega), hm]
      have e3 : IntKind.u64.wrap (Int.tdiv (n : Int) 128) = ((n / 128 : Nat) : Int) := by rw [u64w, Int.tdiv_eq_ediv_of_nonneg (by omega)]; omega
      have e4 : (IntKind.u64.wrap ((Int.tmod (n : Int) 128) + 128)) % 256 = ((n % 128 + 128 : Nat) : Int) := by rw [u64w, Int.tmod_eq_emod_of_nonneg (by omega)]; omega
      rw [e1, e2, e3, e4, e5, ih _ _ (by omega)]
theorem ipv (k : Nat) (hk : 10 ≤ k) (n : Nat) (hn : n < 18446744073709551616) : impl_PutVar.f k n = some (strOfNums (vb n)) := by
  unfold impl_PutVar.f
  exact at_rounds (fun j => impl_PutVar.mono_l j _ _) hk (ipv_l0 9 n [] (by simp; omega) (by simp))
theorem spv (k : Nat) (hk : 10 ≤ k) (n : Nat) (hn : n < 18446744073709551616) : spec_PutVar.f k n = some (strOfNums (vb n)) := by
  have h := ipv k hk n hn
  unfold impl_PutVar.f at h
  unfold spec_PutVar.f
  rw [spv_l0 k n [] hn, h]
theorem strOfNums_size (l : List Int) : (strOfNums l).size = l.length := by simp [strOfNums, ByteArray.size]
theorem vb_len_k : ∀ (k n : Nat), n < 128 ^ (k + 1) → (vb n).length ≤ k + 1 := by
  intro k
  induction k with
  | zero => intro n hn; rw [vb_small (by simpa using hn)]; simp
  | succ k ih =>
    intro n hn
    by_cases h : n < 128
    · rw [vb_small h]; simp
    · rw [vb_big h]
      have := ih (n / 128) (by rw [Nat.pow_succ] at hn; omega)
      simp; omega
theorem vb_len (n : Nat) (hn : n < 18446744073709551616) : (vb n).length ≤ 10 := vb_len_k 9 n (by simp; omega)
theorem vbs_size (n : Nat) : (strOfNums (vb n)).size = (vb n).length := strOfNums_size _

theorem FnExactPutText : laws_FnExactPutText.Pure := by
  intro s hs
  refine ⟨10, ?_⟩
  unfold laws_FnExactPutText.f
  by_cases h : (s.size : Int) > 1048576
  · rw [if_pos h]
  · rw [if_neg h]
    unfold spec_PutText.f impl_PutText.f
    have e : IntKind.u64.wrap (s.size : Int) = ((s.size : Nat) : Int) := by rw [u64w]; omega
    rw [e, spv 10 (by omega) s.size (by omega), ipv 10 (by omega) s.size (by omega)]
    simp only [Option.bind_some]
    rw [if_pos (by rw [vbs_size]; have := vb_len s.size (by omega); omega)]
    simp

end Go.Proofs.Ytbkongagogfpdaa.Pure
