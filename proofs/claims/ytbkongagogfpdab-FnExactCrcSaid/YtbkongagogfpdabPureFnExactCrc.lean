/- The program's Crc returns what the reference's Crc returns, for every text: no condition. -/
import Derived.Test.YtbkongagogfpdabQFnExactCrcx
namespace Go.Proofs.Ytbkongagogfpdab.Pure
open Go.RowKit Go.Proofs.Ytbkongagogfpdab.QFnExactCrc Go.Proofs.YtbkongagogfpdabW.PrintWords Go.Proofs.YtbkongagogfpdabW.PrintLast Go.Proofs.YtbkongagogfpdabW.PrintMore
set_option linter.unusedVariables false
set_option linter.unusedSimpArgs false

/-! ## section base -/
/-- an unsigned kind's number that fits is not wrapped -/
theorem wrapU (k : IntKind) (hs : k.signed = false) (n : Nat) (h : n < 2 ^ k.bits) : k.wrap (n : Int) = n := by
  unfold IntKind.wrap
  rw [Int.emod_eq_of_lt (by omega) (by exact_mod_cast h)]
  simp [hs]
/-- bits of unsigned numbers are those of natural numbers -/
theorem b_or (k : IntKind) (hs : k.signed = false) (a b : Nat) (ha : a < 2 ^ k.bits) (hb : b < 2 ^ k.bits) : Go.bits .or k a b = ((a ||| b : Nat) : Int) := by
  simp only [Go.bits, BitVec.ofInt_natCast, BitVec.toNat_or, BitVec.toNat_ofNat, Nat.mod_eq_of_lt ha, Nat.mod_eq_of_lt hb]
  exact wrapU k hs _ (Nat.or_lt_two_pow ha hb)
theorem b_xor (k : IntKind) (hs : k.signed = false) (a b : Nat) (ha : a < 2 ^ k.bits) (hb : b < 2 ^ k.bits) : Go.bits .xor k a b = ((a ^^^ b : Nat) : Int) := by
  simp only [Go.bits, BitVec.ofInt_natCast, BitVec.toNat_xor, BitVec.toNat_ofNat, Nat.mod_eq_of_lt ha, Nat.mod_eq_of_lt hb]
  exact wrapU k hs _ (Nat.xor_lt_two_pow ha hb)
theorem b_and (k : IntKind) (hs : k.signed = false) (a b : Nat) (ha : a < 2 ^ k.bits) (hb : b < 2 ^ k.bits) : Go.bits .and k a b = ((a &&& b : Nat) : Int) := by
  simp only [Go.bits, BitVec.ofInt_natCast, BitVec.toNat_and, BitVec.toNat_ofNat, Nat.mod_eq_of_lt ha, Nat.mod_eq_of_lt hb]
  exact wrapU k hs _ (Nat.and_lt_two_pow _ hb)
theorem b_or8 (a b : Nat) (ha : a < 256) (hb : b < 256) : Go.bits .or .u8 a b = ((a ||| b : Nat) : Int) := b_or .u8 rfl a b ha hb
theorem u64w (x : Int) : IntKind.u64.wrap x = x % 18446744073709551616 := by simp [IntKind.wrap, IntKind.bits, IntKind.signed]

/-! ## section bytes -/
/-- the bytes of a text, as natural numbers -/
def nb (s : ByteArray) : List Nat := s.data.toList.map UInt8.toNat
theorem nb_length (s : ByteArray) : (nb s).length = s.size := by rw [nb, List.length_map, Array.length_toList]; rfl
theorem nb_lt (s : ByteArray) : ∀ b ∈ nb s, b < 256 := by
  intro b hb
  simp only [nb, List.mem_map] at hb
  obtain ⟨u, _, rfl⟩ := hb
  exact u.toNat_lt
theorem bt_nb (s : ByteArray) (i : Nat) (h : i < s.size) : bt s i = (((nb s)[i]'(by rw [nb_length]; exact h) : Nat) : Int) := by
  simp only [bt, Int.toNat_natCast, h, nb]
  simp
  rfl
theorem nb_drop (s : ByteArray) (i : Nat) (h : i < s.size) : ∃ b, (nb s).drop i = b :: (nb s).drop (i + 1) ∧ bt s i = (b : Int) ∧ b < 256 := by
  have hl : i < (nb s).length := by rw [nb_length]; exact h
  exact ⟨(nb s)[i], List.drop_eq_getElem_cons hl, bt_nb s i h, nb_lt s _ (List.getElem_mem hl)⟩
theorem nb_end (s : ByteArray) (i : Nat) (h : s.size ≤ i) : (nb s).drop i = [] := List.drop_eq_nil_of_le (by rw [nb_length]; exact h)
theorem w64 {x : Int} (h0 : -9223372036854775808 ≤ x) (h1 : x < 9223372036854775808) : wrap64 x = x := by unfold wrap64; omega
theorem w64s {i n : Nat} (h : i < n) (hn : n ≤ 140737488351232) : wrap64 ((i : Int) + 1) = ((i + 1 : Nat) : Int) := by rw [w64] <;> omega
theorem bits_range (k : IntKind) (hs : k.signed = false) (op : BinOp) (x y : Int) : 0 ≤ Go.bits op k x y ∧ Go.bits op k x y < 2 ^ k.bits := by
  have hp : (0 : Int) < 2 ^ k.bits := by exact_mod_cast Nat.two_pow_pos k.bits
  unfold Go.bits IntKind.wrap
  simp only [hs, Bool.false_and]
  exact ⟨Int.emod_nonneg _ (by omega), Int.emod_lt_of_pos _ hp⟩

/-! ## section crc -/
def cbit (x : Nat) : Nat := if x % 2 = 1 then (x / 2) ^^^ 2197175160 else x / 2
def cbits : Nat → Nat → Nat
  | 0, x => x
  | n + 1, x => cbits n (cbit x)
def cbyte (x b : Nat) : Nat := cbits 8 (x ^^^ b)
def crcL : List Nat → Nat → Nat
  | [], x => x
  | b :: l, x => crcL l (cbyte x b)
/-- the sum of a list of bytes -/
def crcN (l : List Nat) : Nat := crcL l 4294967295 ^^^ 4294967295
theorem cbit_lt {x : Nat} (h : x < 4294967296) : cbit x < 4294967296 := by
  unfold cbit; split
  · exact Nat.xor_lt_two_pow (n := 32) (by omega) (by omega)
  · omega
theorem cbits_lt : ∀ (n : Nat) {x : Nat}, x < 4294967296 → cbits n x < 4294967296
  | 0, _, h => h
  | n + 1, _, h => cbits_lt n (cbit_lt h)
theorem xor_byte {x b : Nat} (h : x < 4294967296) (hb : b < 256) : x ^^^ b < 4294967296 := Nat.xor_lt_two_pow (n := 32) h (by omega)
theorem cbyte_lt {x b : Nat} (h : x < 4294967296) (hb : b < 256) : cbyte x b < 4294967296 := cbits_lt 8 (xor_byte h hb)
theorem crcL_lt : ∀ (l : List Nat) {x : Nat}, (∀ b ∈ l, b < 256) → x < 4294967296 → crcL l x < 4294967296
  | [], _, _, h => h
  | b :: l, _, hl, h => crcL_lt l (fun c hc => hl c (List.mem_cons_of_mem _ hc)) (cbyte_lt h (hl b List.mem_cons_self))
theorem crcN_lt (l : List Nat) (hl : ∀ b ∈ l, b < 256) : crcN l < 4294967296 := Nat.xor_lt_two_pow (n := 32) (crcL_lt l hl (by omega)) (by omega)
theorem cbit_odd {x : Nat} (h : x < 4294967296) (ho : x % 2 = 1) : Go.bits .xor .u32 ((x : Int) / 2) 2197175160 = (cbit x : Int) := by
  rw [show ((x : Int) / 2) = ((x / 2 : Nat) : Int) by omega, show (2197175160 : Int) = ((2197175160 : Nat) : Int) from rfl, b_xor .u32 rfl _ _ (by show _ < 4294967296; omega) (by decide), cbit, if_pos ho]
theorem cbit_even {x : Nat} (ho : ¬ x % 2 = 1) : ((x : Int) / 2) = (cbit x : Int) := by rw [cbit, if_neg ho]; omega
theorem icrc_l1 (s : ByteArray) : ∀ (d j k i x : Nat), j ≤ 8 → 8 - j = d → x < 4294967296 → impl_Crc.l1 (k + d + 1) s x s.size i j = impl_Crc.l0 k s (cbits d x : Nat) s.size (wrap64 ((i : Int) + 1)) := by
  intro d
  induction d with
  | zero =>
    intro j k i x h1 h2 hx
    rw [impl_Crc.l1, if_neg (by omega)]; rfl
  | succ d ih =>
    intro j k i x h1 h2 hx
    have e : wrap64 ((j : Int) + 1) = ((j + 1 : Nat) : Int) := by rw [w64] <;> omega
    have a : Go.bits .and .u32 (x : Int) 1 = ((x % 2 : Nat) : Int) := by
      rw [show (1 : Int) = ((1 : Nat) : Int) from rfl, b_and .u32 rfl _ _ hx (by decide), Nat.and_one_is_mod]
    rw [show k + (d + 1) + 1 = (k + d + 1) + 1 by omega, impl_Crc.l1, if_pos (by omega), a, e]
    by_cases o : x % 2 = 1
    · rw [if_pos (by omega), cbit_odd hx o, ih (j + 1) k i _ (by omega) (by omega) (cbit_lt hx)]; rfl
    · rw [if_neg (by omega), cbit_even o, ih (j + 1) k i _ (by omega) (by omega) (cbit_lt hx)]; rfl
theorem icrc_l0 (s : ByteArray) (hs : s.size ≤ 140737488351232) : ∀ (d k i x : Nat), i ≤ s.size → s.size - i = d → 10 * d < k → x < 4294967296 → impl_Crc.l0 k s x s.size i = some ((crcL ((nb s).drop i) x ^^^ 4294967295 : Nat) : Int) := by
  intro d
  induction d with
  | zero =>
    intro k i x h1 h2 hk hx
    obtain ⟨k, rfl⟩ : ∃ m, k = m + 1 := ⟨k - 1, by omega⟩
    rw [impl_Crc.l0, if_neg (by omega), nb_end s i (by omega)]
    rw [show (4294967295 : Int) = ((4294967295 : Nat) : Int) from rfl, b_xor .u32 rfl _ _ (by decide) hx, Nat.xor_comm]; rfl
  | succ d ih =>
    intro k i x h1 h2 hk hx
    obtain ⟨k, rfl⟩ : ∃ m, k = m + 8 + 1 + 1 := ⟨k - 10, by omega⟩
    obtain ⟨b, hd, hb, hl⟩ := nb_drop s i (by omega)
    rw [impl_Crc.l0, if_pos (by omega), if_pos (by omega), if_pos (by omega), hb, hd, show ((b : Int) % 4294967296) = b by omega, b_xor .u32 rfl _ _ hx (by show _ < 4294967296; omega)]
    rw [show (0 : Int) = ((0 : Nat) : Int) from rfl, icrc_l1 s 8 0 k i _ (by omega) (by omega) (xor_byte hx hl), w64s (n := s.size) (by omega) hs]
    rw [ih k (i + 1) _ (by omega) (by omega) (by omega) (cbits_lt 8 (xor_byte hx hl))]; rfl
theorem icrc (s : ByteArray) (hs : s.size ≤ 140737488351232) (k : Nat) (hk : 10 * s.size < k) : impl_Crc.f k s = some (crcN (nb s) : Int) := by
  unfold impl_Crc.f
  have h := icrc_l0 s hs s.size k 0 4294967295 (by omega) (by omega) hk (by omega)
  simpa [crcN] using h

/-! ## section crcspec -/
theorem scrc_l1 (s : ByteArray) : ∀ (d j k i x : Nat), j ≤ 8 → 8 - j = d → x < 4294967296 → spec_Crc.l1 (k + d + 1) s x i j = spec_Crc.l0 k s (cbits d x : Nat) (wrap64 ((i : Int) + 1)) := by
  intro d
  induction d with
  | zero =>
    intro j k i x h1 h2 hx
    rw [spec_Crc.l1, if_neg (by omega)]; rfl
  | succ d ih =>
    intro j k i x h1 h2 hx
    have e : wrap64 ((j : Int) + 1) = ((j + 1 : Nat) : Int) := by rw [w64] <;> omega
    have a : Int.tmod (x : Int) 2 = ((x % 2 : Nat) : Int) := by rw [Int.tmod_eq_emod_of_nonneg (by omega)]; omega
    rw [show k + (d + 1) + 1 = (k + d + 1) + 1 by omega, spec_Crc.l1, if_pos (by omega), a, e]
    by_cases o : x % 2 = 1
    · rw [if_pos (by omega), cbit_odd hx o, ih (j + 1) k i _ (by omega) (by omega) (cbit_lt hx)]; rfl
    · rw [if_neg (by omega), cbit_even o, ih (j + 1) k i _ (by omega) (by omega) (cbit_lt hx)]; rfl
theorem scrc_l0 (s : ByteArray) (hs : s.size ≤ 140737488351232) : ∀ (d k i x : Nat), i ≤ s.size → s.size - i = d → 10 * d < k → x < 4294967296 → spec_Crc.l0 k s x i = some ((crcL ((nb s).drop i) x ^^^ 4294967295 : Nat) : Int) := by
  intro d
  induction d with
  | zero =>
    intro k i x h1 h2 hk hx
    obtain ⟨k, rfl⟩ : ∃ m, k = m + 1 := ⟨k - 1, by omega⟩
    rw [spec_Crc.l0, if_neg (by omega), nb_end s i (by omega)]
    rw [show (4294967295 : Int) = ((4294967295 : Nat) : Int) from rfl, b_xor .u32 rfl _ _ hx (by decide)]; rfl
  | succ d ih =>
    intro k i x h1 h2 hk hx
    obtain ⟨k, rfl⟩ : ∃ m, k = m + 8 + 1 + 1 := ⟨k - 10, by omega⟩
    obtain ⟨b, hd, hb, hl⟩ := nb_drop s i (by omega)
    rw [spec_Crc.l0, if_pos (by omega), if_pos (by omega), hb, hd, show ((b : Int) % 4294967296) = b by omega, b_xor .u32 rfl _ _ hx (by show _ < 4294967296; omega)]
    rw [show (0 : Int) = ((0 : Nat) : Int) from rfl, scrc_l1 s 8 0 k i _ (by omega) (by omega) (xor_byte hx hl), w64s (n := s.size) (by omega) hs]
    rw [ih k (i + 1) _ (by omega) (by omega) (by omega) (cbits_lt 8 (xor_byte hx hl))]; rfl
theorem scrc (s : ByteArray) (hs : s.size ≤ 140737488351232) (k : Nat) (hk : 10 * s.size < k) : spec_Crc.f k s = some (crcN (nb s) : Int) := by
  unfold spec_Crc.f
  have h := scrc_l0 s hs s.size k 0 4294967295 (by omega) (by omega) hk (by omega)
  simpa [crcN] using h

theorem FnExactCrc : laws_FnExactCrc.Pure := by
  intro s hs
  refine ⟨10 * s.size + 1, ?_⟩
  unfold laws_FnExactCrc.f
  by_cases h : (s.size : Int) > 1048576
  · rw [if_pos h]
  · rw [if_neg h, scrc s hs _ (by omega), icrc s hs _ (by omega)]
    simp

end Go.Proofs.Ytbkongagogfpdab.Pure
