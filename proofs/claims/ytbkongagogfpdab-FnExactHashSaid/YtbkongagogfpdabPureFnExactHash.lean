/- The program's Hash returns what the reference's Hash returns, for every seed and text: no condition. -/
import Derived.Test.YtbkongagogfpdabPFnExactHashx
namespace Go.Proofs.Ytbkongagogfpdab.Pure
open Go.RowKit Go.Proofs.Ytbkongagogfpdab.PFnExactHash Go.Proofs.YtbkongagogfpdabW.PrintWords Go.Proofs.YtbkongagogfpdabW.PrintLast Go.Proofs.YtbkongagogfpdabW.PrintMore
set_option linter.unusedVariables false
set_option linter.unusedSimpArgs false

/-! ## section base -/
/-- an unsigned kind's number that fits is not wrapped -/
theorem wrapU (k : IntKind) (hs : k.signed = false) (n : Nat) (h : n < 2 ^ k.bits) : k.wrap (n : Int) = n := by
  unfold IntKind.wrap
  rw [Int.emod_eq_of_lt (by omega) (by exact_mod_cast h)]
  simp [hs]
/-- bits of unsigned numbers are those of natural numbers -/
theorem b_or (k : IntKind) (hs : k.signed = false) (a b : Nat) (ha : a < 2 ^ k.bits) (hb : b < 2 ^ k.bits) : Go.bits .or k a b = ((a ||| b : Nat) : Int) := by
  simp only [Go.bits, BitVec.ofInt_natCast, BitVec.toNat_or, BitVec.toNat_ofNat, Nat.mod_eq_of_lt ha, Nat.mod_eq_of_lt hb]
  exact wrapU k hs _ (Nat.or_lt_two_pow ha hb)
theorem b_xor (k : IntKind) (hs : k.signed = false) (a b : Nat) (ha : a < 2 ^ k.bits) (hb : b < 2 ^ k.bits) : Go.bits .xor k a b = ((a ^^^ b : Nat) : Int) := by
  simp only [Go.bits, BitVec.ofInt_natCast, BitVec.toNat_xor, BitVec.toNat_ofNat, Nat.mod_eq_of_lt ha, Nat.mod_eq_of_lt hb]
  exact wrapU k hs _ (Nat.xor_lt_two_pow ha hb)
theorem b_and (k : IntKind) (hs : k.signed = false) (a b : Nat) (ha : a < 2 ^ k.bits) (hb : b < 2 ^ k.bits) : Go.bits .and k a b = ((a &&& b : Nat) : Int) := by
  simp only [Go.bits, BitVec.ofInt_natCast, BitVec.toNat_and, BitVec.toNat_ofNat, Nat.mod_eq_of_lt ha, Nat.mod_eq_of_lt hb]
  exact wrapU k hs _ (Nat.and_lt_two_pow _ hb)
theorem b_or8 (a b : Nat) (ha : a < 256) (hb : b < 256) : Go.bits .or .u8 a b = ((a ||| b : Nat) : Int) := b_or .u8 rfl a b ha hb
theorem u64w (x : Int) : IntKind.u64.wrap x = x % 18446744073709551616 := by simp [IntKind.wrap, IntKind.bits, IntKind.signed]

/-! ## section bytes -/
/-- the bytes of a text, as natural numbers -/
def nb (s : ByteArray) : List Nat := s.data.toList.map UInt8.toNat
theorem nb_length (s : ByteArray) : (nb s).length = s.size := by rw [nb, List.length_map, Array.length_toList]; rfl
theorem nb_lt (s : ByteArray) : ∀ b ∈ nb s, b < 256 := by
  intro b hb
  simp only [nb, List.mem_map] at hb
  obtain ⟨u, _, rfl⟩ := hb
  exact u.toNat_lt
theorem bt_nb (s : ByteArray) (i : Nat) (h : i < s.size) : bt s i = (((nb s)[i]'(by rw [nb_length]; exact h) : Nat) : Int) := by
  simp only [bt, Int.toNat_natCast, h, nb]
  simp
  rfl
theorem nb_drop (s : ByteArray) (i : Nat) (h : i < s.size) : ∃ b, (nb s).drop i = b :: (nb s).drop (i + 1) ∧ bt s i = (b : Int) ∧ b < 256 := by
  have hl : i < (nb s).length := by rw [nb_length]; exact h
  exact ⟨(nb s)[i], List.drop_eq_getElem_cons hl, bt_nb s i h, nb_lt s _ (List.getElem_mem hl)⟩
theorem nb_end (s : ByteArray) (i : Nat) (h : s.size ≤ i) : (nb s).drop i = [] := List.drop_eq_nil_of_le (by rw [nb_length]; exact h)
theorem w64 {x : Int} (h0 : -9223372036854775808 ≤ x) (h1 : x < 9223372036854775808) : wrap64 x = x := by unfold wrap64; omega
theorem w64s {i n : Nat} (h : i < n) (hn : n ≤ 140737488351232) : wrap64 ((i : Int) + 1) = ((i + 1 : Nat) : Int) := by rw [w64] <;> omega
theorem bits_range (k : IntKind) (hs : k.signed = false) (op : BinOp) (x y : Int) : 0 ≤ Go.bits op k x y ∧ Go.bits op k x y < 2 ^ k.bits := by
  have hp : (0 : Int) < 2 ^ k.bits := by exact_mod_cast Nat.two_pow_pos k.bits
  unfold Go.bits IntKind.wrap
  simp only [hs, Bool.false_and]
  exact ⟨Int.emod_nonneg _ (by omega), Int.emod_lt_of_pos _ hp⟩

/-! ## section hash -/
theorem ish_l0 (s : ByteArray) : ∀ (k : Nat) (h : Int) (i : Int), 0 ≤ i → impl_Hash.l0 k s h s.size i = spec_Hash.l0 k s h i := by
  intro k
  induction k with
  | zero => intros; rfl
  | succ k ih =>
    intro h i h0
    rw [impl_Hash.l0, spec_Hash.l0]
    by_cases c : i < (s.size : Int)
    · rw [if_pos c, if_pos c, if_pos h0, if_pos h0, if_pos c]
      by_cases c2 : 0 ≤ wrap64 (i + 1)
      · rw [ih _ _ c2]
      · cases k with
        | zero => rfl
        | succ k =>
          rw [impl_Hash.l0, spec_Hash.l0, if_neg c2, if_neg c2]
    · rw [if_neg c, if_neg c]
theorem sh_l0 (s : ByteArray) (hs : s.size ≤ 140737488351232) : ∀ (d k i : Nat) (h : Int), i ≤ s.size → s.size - i = d → d < k → ∃ r, spec_Hash.l0 k s h i = some r ∧ 0 ≤ r ∧ r < 18446744073709551616 := by
  intro d
  induction d with
  | zero =>
    intro k i h h1 h2 hk
    obtain ⟨k, rfl⟩ : ∃ m, k = m + 1 := ⟨k - 1, by omega⟩
    rw [spec_Hash.l0, if_neg (by omega)]
    refine ⟨_, rfl, ?_⟩
    exact bits_range .u64 rfl .xor _ _
  | succ d ih =>
    intro k i h h1 h2 hk
    obtain ⟨k, rfl⟩ : ∃ m, k = m + 1 := ⟨k - 1, by omega⟩
    rw [spec_Hash.l0, if_pos (by omega), if_pos (by omega), w64s (n := s.size) (by omega) hs]
    exact ih k (i + 1) _ (by omega) (by omega) (by omega)
/-- the hash of a text, as a natural number -/
def hsh (seed : Int) (s : ByteArray) : Nat := ((spec_Hash.f (s.size + 1) seed s).getD 0).toNat
theorem shash (seed : Int) (s : ByteArray) (hs : s.size ≤ 140737488351232) (k : Nat) (hk : s.size < k) : spec_Hash.f k seed s = some (hsh seed s : Int) := by
  obtain ⟨r, hr, h0, h1⟩ := sh_l0 s hs s.size (s.size + 1) 0 (Go.bits .xor .u64 14695981039346656037 (IntKind.u64.wrap ((IntKind.u64.wrap (seed)) * 11400714819323198485))) (by omega) (by omega) (by omega)
  have e : spec_Hash.f (s.size + 1) seed s = some r := hr
  rw [hsh, e]
  simp only [Option.getD_some]
  rw [Int.toNat_of_nonneg h0]
  exact at_rounds (fun j => spec_Hash.mono seed s j) hk e
theorem hsh_lt (seed : Int) (s : ByteArray) (hs : s.size ≤ 140737488351232) : hsh seed s < 18446744073709551616 := by
  obtain ⟨r, hr, h0, h1⟩ := sh_l0 s hs s.size (s.size + 1) 0 (Go.bits .xor .u64 14695981039346656037 (IntKind.u64.wrap ((IntKind.u64.wrap (seed)) * 11400714819323198485))) (by omega) (by omega) (by omega)
  have e : spec_Hash.f (s.size + 1) seed s = some r := hr
  rw [hsh, e]
  simp only [Option.getD_some]
  omega
theorem ihash (seed : Int) (s : ByteArray) (hs : s.size ≤ 140737488351232) (k : Nat) (hk : s.size < k) : impl_Hash.f k seed s = some (hsh seed s : Int) := by
  rw [← shash seed s hs k hk]
  exact ish_l0 s k _ 0 (by omega)

theorem FnExactHash : laws_FnExactHash.Pure := by
  intro seed s _ hs
  refine ⟨s.size + 1, ?_⟩
  unfold laws_FnExactHash.f
  by_cases h : (s.size : Int) > 1048576
  · rw [if_pos h]
  · rw [if_neg h, shash seed s hs _ (by omega), ihash seed s hs _ (by omega)]
    simp

end Go.Proofs.Ytbkongagogfpdab.Pure
