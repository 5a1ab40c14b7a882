/- The program's HllOk returns what the reference's HllOk returns, for every text: no condition. -/
import Derived.Test.YtbkongagogfpdabPFnExactHllOkx
namespace Go.Proofs.Ytbkongagogfpdab.Pure
open Go.RowKit Go.Proofs.Ytbkongagogfpdab.PFnExactHllOk Go.Proofs.YtbkongagogfpdabW.PrintWords Go.Proofs.YtbkongagogfpdabW.PrintLast Go.Proofs.YtbkongagogfpdabW.PrintMore
set_option linter.unusedVariables false
set_option linter.unusedSimpArgs false

/-! ## section base -/
/-- an unsigned kind's number that fits is not wrapped -/
theorem wrapU (k : IntKind) (hs : k.signed = false) (n : Nat) (h : n < 2 ^ k.bits) : k.wrap (n : Int) = n := by
  unfold IntKind.wrap
  rw [Int.emod_eq_of_lt (by omega) (by exact_mod_cast h)]
  simp [hs]
/-- bits of unsigned numbers are those of natural numbers -/
theorem b_or (k : IntKind) (hs : k.signed = false) (a b : Nat) (ha : a < 2 ^ k.bits) (hb : b < 2 ^ k.bits) : Go.bits .or k a b = ((a ||| b : Nat) : Int) := by
  simp only [Go.bits, BitVec.ofInt_natCast, BitVec.toNat_or, BitVec.toNat_ofNat, Nat.mod_eq_of_lt ha, Nat.mod_eq_of_lt hb]
  exact wrapU k hs _ (Nat.or_lt_two_pow ha hb)
theorem b_xor (k : IntKind) (hs : k.signed = false) (a b : Nat) (ha : a < 2 ^ k.bits) (hb : b < 2 ^ k.bits) : Go.bits .xor k a b = ((a ^^^ b : Nat) : Int) := by
  simp only [Go.bits, BitVec.ofInt_natCast, BitVec.toNat_xor, BitVec.toNat_ofNat, Nat.mod_eq_of_lt ha, Nat.mod_eq_of_lt hb]
  exact wrapU k hs _ (Nat.xor_lt_two_pow ha hb)
theorem b_and (k : IntKind) (hs : k.signed = false) (a b : Nat) (ha : a < 2 ^ k.bits) (hb : b < 2 ^ k.bits) : Go.bits .and k a b = ((a &&& b : Nat) : Int) := by
  simp only [Go.bits, BitVec.ofInt_natCast, BitVec.toNat_and, BitVec.toNat_ofNat, Nat.mod_eq_of_lt ha, Nat.mod_eq_of_lt hb]
  exact wrapU k hs _ (Nat.and_lt_two_pow _ hb)
theorem b_or8 (a b : Nat) (ha : a < 256) (hb : b < 256) : Go.bits .or .u8 a b = ((a ||| b : Nat) : Int) := b_or .u8 rfl a b ha hb
theorem u64w (x : Int) : IntKind.u64.wrap x = x % 18446744073709551616 := by simp [IntKind.wrap, IntKind.bits, IntKind.signed]

/-! ## section bytes -/
/-- the bytes of a text, as natural numbers -/
def nb (s : ByteArray) : List Nat := s.data.toList.map UInt8.toNat
theorem nb_length (s : ByteArray) : (nb s).length = s.size := by rw [nb, List.length_map, Array.length_toList]; rfl
theorem nb_lt (s : ByteArray) : ∀ b ∈ nb s, b < 256 := by
  intro b hb
  simp only [nb, List.mem_map] at hb
  obtain ⟨u, _, rfl⟩ := hb
  exact u.toNat_lt
theorem bt_nb (s : ByteArray) (i : Nat) (h : i < s.size) : bt s i = (((nb s)[i]'(by rw [nb_length]; exact h) : Nat) : Int) := by
  simp only [bt, Int.toNat_natCast, h, nb]
  simp
  rfl
theorem nb_drop (s : ByteArray) (i : Nat) (h : i < s.size) : ∃ b, (nb s).drop i = b :: (nb s).drop (i + 1) ∧ bt s i = (b : Int) ∧ b < 256 := by
  have hl : i < (nb s).length := by rw [nb_length]; exact h
  exact ⟨(nb s)[i], List.drop_eq_getElem_cons hl, bt_nb s i h, nb_lt s _ (List.getElem_mem hl)⟩
theorem nb_end (s : ByteArray) (i : Nat) (h : s.size ≤ i) : (nb s).drop i = [] := List.drop_eq_nil_of_le (by rw [nb_length]; exact h)
theorem w64 {x : Int} (h0 : -9223372036854775808 ≤ x) (h1 : x < 9223372036854775808) : wrap64 x = x := by unfold wrap64; omega
theorem w64s {i n : Nat} (h : i < n) (hn : n ≤ 140737488351232) : wrap64 ((i : Int) + 1) = ((i + 1 : Nat) : Int) := by rw [w64] <;> omega
theorem bits_range (k : IntKind) (hs : k.signed = false) (op : BinOp) (x y : Int) : 0 ≤ Go.bits op k x y ∧ Go.bits op k x y < 2 ^ k.bits := by
  have hp : (0 : Int) < 2 ^ k.bits := by exact_mod_cast Nat.two_pow_pos k.bits
  unfold Go.bits IntKind.wrap
  simp only [hs, Bool.false_and]
  exact ⟨Int.emod_nonneg _ (by omega), Int.emod_lt_of_pos _ hp⟩

/-! ## section hllok -/
def hokB (s : ByteArray) : Bool := decide (s.size = 64) && (nb s).all (fun b => decide (b ≤ 58))
theorem iho_l0 (s : ByteArray) (hs : s.size ≤ 140737488351232) : ∀ (d k i : Nat), i ≤ s.size → s.size - i = d → d < k → impl_HllOk.l0 k s s.size i = some (((nb s).drop i).all (fun b => decide (b ≤ 58)) && decide (s.size = 64)) := by
  intro d
  induction d with
  | zero =>
    intro k i h1 h2 hk
    obtain ⟨k, rfl⟩ : ∃ m, k = m + 1 := ⟨k - 1, by omega⟩
    rw [impl_HllOk.l0, if_neg (by omega), nb_end s i (by omega)]
    have e : ((s.size : Int) == 64) = decide (s.size = 64) := by rw [Bool.eq_iff_iff]; simp; omega
    rw [e]; simp
  | succ d ih =>
    intro k i h1 h2 hk
    obtain ⟨k, rfl⟩ : ∃ m, k = m + 1 := ⟨k - 1, by omega⟩
    obtain ⟨b, hd, hb, hl⟩ := nb_drop s i (by omega)
    rw [impl_HllOk.l0, if_pos (by omega), if_pos (by omega), if_pos (by omega), hb, hd, w64s (n := s.size) (by omega) hs]
    by_cases c : b ≤ 58
    · rw [if_neg (by omega), ih k (i + 1) (by omega) (by omega) (by omega)]
      simp [c]
    · rw [if_pos (by omega)]
      simp [c]
theorem iho (s : ByteArray) (hs : s.size ≤ 140737488351232) (k : Nat) (hk : s.size < k) : impl_HllOk.f k s = some (hokB s) := by
  unfold impl_HllOk.f
  rw [show (0 : Int) = ((0 : Nat) : Int) from rfl, iho_l0 s hs s.size k 0 (by omega) (by omega) hk]
  simp [hokB, Bool.and_comm]
theorem sho_l0 (s : ByteArray) (hs : s.size ≤ 140737488351232) : ∀ (d k i : Nat), i ≤ s.size → s.size - i = d → d < k → spec_HllOk.l0 k s i = some (((nb s).drop i).all (fun b => decide (b ≤ 58))) := by
  intro d
  induction d with
  | zero =>
    intro k i h1 h2 hk
    obtain ⟨k, rfl⟩ : ∃ m, k = m + 1 := ⟨k - 1, by omega⟩
    rw [spec_HllOk.l0, if_neg (by omega), nb_end s i (by omega)]
    simp
  | succ d ih =>
    intro k i h1 h2 hk
    obtain ⟨k, rfl⟩ : ∃ m, k = m + 1 := ⟨k - 1, by omega⟩
    obtain ⟨b, hd, hb, hl⟩ := nb_drop s i (by omega)
    rw [spec_HllOk.l0, if_pos (by omega), if_pos (by omega), hb, hd, w64s (n := s.size) (by omega) hs]
    by_cases c : b ≤ 58
    · rw [if_neg (by omega), ih k (i + 1) (by omega) (by omega) (by omega)]
      simp [c]
    · rw [if_pos (by omega)]
      simp [c]
theorem sho (s : ByteArray) (hs : s.size ≤ 140737488351232) (k : Nat) (hk : s.size < k) : spec_HllOk.f k s = some (hokB s) := by
  unfold spec_HllOk.f
  by_cases c : s.size = 64
  · rw [if_pos (by omega), show (0 : Int) = ((0 : Nat) : Int) from rfl, sho_l0 s hs s.size k 0 (by omega) (by omega) hk]
    simp [hokB, c]
  · rw [if_neg (by omega)]
    simp [hokB, c]

theorem FnExactHllOk : laws_FnExactHllOk.Pure := by
  intro s hs
  refine ⟨s.size + 1, ?_⟩
  unfold laws_FnExactHllOk.f
  by_cases h : (s.size : Int) > 1048576
  · rw [if_pos h]
  · rw [if_neg h, sho s hs _ (by omega), iho s hs _ (by omega)]
    simp

end Go.Proofs.Ytbkongagogfpdab.Pure
