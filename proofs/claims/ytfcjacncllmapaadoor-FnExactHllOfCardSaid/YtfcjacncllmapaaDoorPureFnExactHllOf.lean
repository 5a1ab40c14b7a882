/- The program's HllOf returns what the reference's HllOf returns, for every list of texts. Condition: the table of math/bits holds what the program's text lays (the card ties it). -/
import Derived.Test.YtfcjacncllmapaaDoorQFnExactHllOfy
namespace Go.Proofs.YtfcjacncllmapaaDoor.Pure
open Go.RowKit Go.Proofs.YtfcjacncllmapaaDoor.QFnExactHllOf Go.Proofs.YtfcjacncllmapaaDoorW.PrintWords Go.Proofs.YtfcjacncllmapaaDoorW.PrintLast Go.Proofs.YtfcjacncllmapaaDoorW.PrintMore
set_option linter.unusedVariables false
set_option linter.unusedSimpArgs false

/-! ## section base -/
/-- an unsigned kind's number that fits is not wrapped -/
theorem wrapU (k : IntKind) (hs : k.signed = false) (n : Nat) (h : n < 2 ^ k.bits) : k.wrap (n : Int) = n := by
  unfold IntKind.wrap
  rw [Int.emod_eq_of_lt (by omega) (by exact_mod_cast h)]
  simp [hs]
/-- bits of unsigned numbers are those of natural numbers -/
theorem b_or (k : IntKind) (hs : k.signed = false) (a b : Nat) (ha : a < 2 ^ k.bits) (hb : b < 2 ^ k.bits) : Go.bits .or k a b = ((a ||| b : Nat) : Int) := by
  simp only [Go.bits, BitVec.ofInt_natCast, BitVec.toNat_or, BitVec.toNat_ofNat, Nat.mod_eq_of_lt ha, Nat.mod_eq_of_lt hb]
  exact wrapU k hs _ (Nat.or_lt_two_pow ha hb)
theorem b_xor (k : IntKind) (hs : k.signed = false) (a b : Nat) (ha : a < 2 ^ k.bits) (hb : b < 2 ^ k.bits) : Go.bits .xor k a b = ((a ^^^ b : Nat) : Int) := by
  simp only [Go.bits, BitVec.ofInt_natCast, BitVec.toNat_xor, BitVec.toNat_ofNat, Nat.mod_eq_of_lt ha, Nat.mod_eq_of_lt hb]
  exact wrapU k hs _ (Nat.xor_lt_two_pow ha hb)
theorem b_and (k : IntKind) (hs : k.signed = false) (a b : Nat) (ha : a < 2 ^ k.bits) (hb : b < 2 ^ k.bits) : Go.bits .and k a b = ((a &&& b : Nat) : Int) := by
  simp only [Go.bits, BitVec.ofInt_natCast, BitVec.toNat_and, BitVec.toNat_ofNat, Nat.mod_eq_of_lt ha, Nat.mod_eq_of_lt hb]
  exact wrapU k hs _ (Nat.and_lt_two_pow _ hb)
theorem b_or8 (a b : Nat) (ha : a < 256) (hb : b < 256) : Go.bits .or .u8 a b = ((a ||| b : Nat) : Int) := b_or .u8 rfl a b ha hb
theorem u64w (x : Int) : IntKind.u64.wrap x = x % 18446744073709551616 := by simp [IntKind.wrap, IntKind.bits, IntKind.signed]

/-! ## section bytes -/
/-- the bytes of a text, as natural numbers -/
def nb (s : ByteArray) : List Nat := s.data.toList.map UInt8.toNat
theorem nb_length (s : ByteArray) : (nb s).length = s.size := by rw [nb, List.length_map, Array.length_toList]; rfl
theorem nb_lt (s : ByteArray) : ∀ b ∈ nb s, b < 256 := by
  intro b hb
  simp only [nb, List.mem_map] at hb
  obtain ⟨u, _, rfl⟩ := hb
  exact u.toNat_lt
theorem bt_nb (s : ByteArray) (i : Nat) (h : i < s.size) : bt s i = (((nb s)[i]'(by rw [nb_length]; exact h) : Nat) : Int) := by
  simp only [bt, Int.toNat_natCast, h, nb]
  simp
  rfl
theorem nb_drop (s : ByteArray) (i : Nat) (h : i < s.size) : ∃ b, (nb s).drop i = b :: (nb s).drop (i + 1) ∧ bt s i = (b : Int) ∧ b < 256 := by
  have hl : i < (nb s).length := by rw [nb_length]; exact h
  exact ⟨(nb s)[i], List.drop_eq_getElem_cons hl, bt_nb s i h, nb_lt s _ (List.getElem_mem hl)⟩
theorem nb_end (s : ByteArray) (i : Nat) (h : s.size ≤ i) : (nb s).drop i = [] := List.drop_eq_nil_of_le (by rw [nb_length]; exact h)
theorem w64 {x : Int} (h0 : -9223372036854775808 ≤ x) (h1 : x < 9223372036854775808) : wrap64 x = x := by unfold wrap64; omega
theorem w64s {i n : Nat} (h : i < n) (hn : n ≤ 140737488351232) : wrap64 ((i : Int) + 1) = ((i + 1 : Nat) : Int) := by rw [w64] <;> omega
theorem bits_range (k : IntKind) (hs : k.signed = false) (op : BinOp) (x y : Int) : 0 ≤ Go.bits op k x y ∧ Go.bits op k x y < 2 ^ k.bits := by
  have hp : (0 : Int) < 2 ^ k.bits := by exact_mod_cast Nat.two_pow_pos k.bits
  unfold Go.bits IntKind.wrap
  simp only [hs, Bool.false_and]
  exact ⟨Int.emod_nonneg _ (by omega), Int.emod_lt_of_pos _ hp⟩

/-! ## section tz -/
/-- how many zeros stand at the end; f: at the most -/
def tzN : Nat → Nat → Nat
  | 0, _ => 0
  | f + 1, x => if x % 2 = 0 then 1 + tzN f (x / 2) else 0
theorem and_double (a b : Nat) : 2 * a &&& 2 * b = 2 * (a &&& b) := by
  apply Nat.eq_of_testBit_eq
  intro i
  cases i with
  | zero => simp [Nat.testBit_zero]
  | succ i =>
    rw [Nat.testBit_and, Nat.testBit_succ, Nat.testBit_succ, Nat.testBit_succ, show 2 * a / 2 = a by omega, show 2 * b / 2 = b by omega, show 2 * (a &&& b) / 2 = a &&& b by omega, Nat.testBit_and]
theorem and_compl (m K : Nat) (h : m < 2 ^ K) : m &&& (2 ^ K - (m + 1)) = 0 := by
  apply Nat.eq_of_testBit_eq
  intro i
  rw [Nat.testBit_and, Nat.testBit_two_pow_sub_succ h, Nat.zero_testBit]
  cases m.testBit i <;> simp
theorem and_neg : ∀ (t N m : Nat), 2 ^ t * (2 * m + 1) < 2 ^ N → (2 ^ t * (2 * m + 1)) &&& (2 ^ N - 2 ^ t * (2 * m + 1)) = 2 ^ t
  | 0, N, m, h => by
    rw [Nat.pow_zero, Nat.one_mul] at *
    obtain ⟨K, rfl⟩ : ∃ K, N = K + 1 := ⟨N - 1, by cases N with | zero => simp at h | succ n => rfl⟩
    rw [Nat.pow_succ] at *
    have hm : m < 2 ^ K := by omega
    have e := and_compl m K hm
    apply Nat.eq_of_testBit_eq
    intro i
    cases i with
    | zero =>
      rw [Nat.testBit_and, Nat.testBit_zero, Nat.testBit_zero, Nat.testBit_zero]
      have h1 : (2 * m + 1) % 2 = 1 := by omega
      have h2 : (2 ^ K * 2 - (2 * m + 1)) % 2 = 1 := by omega
      rw [h1, h2]; rfl
    | succ i =>
      rw [Nat.testBit_and, Nat.testBit_succ, Nat.testBit_succ, Nat.testBit_succ, show (2 * m + 1) / 2 = m by omega, show (2 ^ K * 2 - (2 * m + 1)) / 2 = 2 ^ K - (m + 1) by omega, ← Nat.testBit_and, e]
  | t + 1, N, m, h => by
    obtain ⟨K, rfl⟩ : ∃ K, N = K + 1 := ⟨N - 1, by
      cases N with
      | zero => have := Nat.two_pow_pos (t + 1); have : 1 ≤ 2 ^ (t + 1) * (2 * m + 1) := Nat.mul_pos this (by omega); exfalso; rw [Nat.pow_zero] at h; omega
      | succ n => rfl⟩
    have e1 : 2 ^ (t + 1) * (2 * m + 1) = 2 * (2 ^ t * (2 * m + 1)) := by rw [Nat.pow_succ, Nat.mul_comm (2 ^ t) 2, Nat.mul_assoc]
    rw [e1] at h ⊢
    rw [Nat.pow_succ] at h ⊢
    have ih := and_neg t K m (by omega)
    generalize 2 ^ t * (2 * m + 1) = y at *
    rw [show 2 ^ K * 2 - 2 * y = 2 * (2 ^ K - y) by omega, and_double, ih, Nat.pow_succ, Nat.mul_comm]
theorem tz_form : ∀ (f x : Nat), x ≠ 0 → x < 2 ^ f → ∃ m, x = 2 ^ tzN f x * (2 * m + 1) ∧ tzN f x < f
  | 0, x, h0, h => by simp at h; exact absurd h h0
  | f + 1, x, h0, h => by
    rw [tzN]
    by_cases c : x % 2 = 0
    · rw [if_pos c]
      rw [Nat.pow_succ] at h
      obtain ⟨m, hm, ht⟩ := tz_form f (x / 2) (by omega) (by omega)
      refine ⟨m, ?_, by omega⟩
      rw [Nat.pow_add, Nat.pow_one, Nat.mul_assoc, ← hm]
      omega
    · rw [if_neg c]
      exact ⟨x / 2, by rw [Nat.pow_zero]; omega, by omega⟩
theorem tz_tab : ∀ t : Fin 64, rd tabG (((2 ^ t.val * 285870213051353865 % 18446744073709551616 / 288230376151711744 : Nat) : Int)) = (t.val : Int) := by decide
theorem itz (X : Nat) (h : X < 18446744073709551616) : bits_TrailingZeros64.f (X : Int) = some ((tzN 64 X : Nat) : Int) := by
  unfold bits_TrailingZeros64.f
  by_cases c : X = 0
  · subst c
    rw [if_pos (show ((0 : Nat) : Int) = 0 from rfl)]
    rfl
  · rw [if_neg (by omega)]
    obtain ⟨m, hm, ht⟩ := tz_form 64 X c h
    have e1 : IntKind.u64.wrap (-(X : Int)) = ((18446744073709551616 - X : Nat) : Int) := by rw [u64w]; omega
    have e2 : Go.bits .and .u64 (X : Int) ((18446744073709551616 - X : Nat) : Int) = ((2 ^ tzN 64 X : Nat) : Int) := by
      rw [b_and .u64 rfl X (18446744073709551616 - X) h (by show 18446744073709551616 - X < 18446744073709551616; omega)]
      congr 1
      have := and_neg (tzN 64 X) 64 m (by rw [← hm]; exact h)
      rw [← hm] at this
      exact this
    have e3 : tzI (X : Int) = ((2 ^ tzN 64 X * 285870213051353865 % 18446744073709551616 / 288230376151711744 : Nat) : Int) := by
      unfold tzI
      rw [e1, e2, u64w, show ((2 ^ tzN 64 X : Nat) : Int) * 285870213051353865 = ((2 ^ tzN 64 X * 285870213051353865 : Nat) : Int) from (Int.natCast_mul _ _).symm]
      generalize 2 ^ tzN 64 X * 285870213051353865 = y
      omega
    rw [e3]
    have := tz_tab ⟨tzN 64 X, ht⟩
    simp only at this
    rw [this]
theorem tzN_le : ∀ (f x : Nat), tzN f x ≤ f
  | 0, _ => Nat.le_refl _
  | f + 1, x => by
    rw [tzN]
    split
    · have := tzN_le f (x / 2); omega
    · omega

/-! ## section hash -/
theorem ish_l0 (s : ByteArray) : ∀ (k : Nat) (h : Int) (i : Int), 0 ≤ i → impl_Hash.l0 k s h s.size i = spec_Hash.l0 k s h i := by
  intro k
  induction k with
  | zero => intros; rfl
  | succ k ih =>
    intro h i h0
    rw [impl_Hash.l0, spec_Hash.l0]
    by_cases c : i < (s.size : Int)
    · rw [if_pos c, if_pos c, if_pos h0, if_pos h0, if_pos c]
      by_cases c2 : 0 ≤ wrap64 (i + 1)
      · rw [ih _ _ c2]
      · cases k with
        | zero => rfl
        | succ k =>
          rw [impl_Hash.l0, spec_Hash.l0, if_neg c2, if_neg c2]
    · rw [if_neg c, if_neg c]
theorem sh_l0 (s : ByteArray) (hs : s.size ≤ 140737488351232) : ∀ (d k i : Nat) (h : Int), i ≤ s.size → s.size - i = d → d < k → ∃ r, spec_Hash.l0 k s h i = some r ∧ 0 ≤ r ∧ r < 18446744073709551616 := by
  intro d
  induction d with
  | zero =>
    intro k i h h1 h2 hk
    obtain ⟨k, rfl⟩ : ∃ m, k = m + 1 := ⟨k - 1, by omega⟩
    rw [spec_Hash.l0, if_neg (by omega)]
    refine ⟨_, rfl, ?_⟩
    exact bits_range .u64 rfl .xor _ _
  | succ d ih =>
    intro k i h h1 h2 hk
    obtain ⟨k, rfl⟩ : ∃ m, k = m + 1 := ⟨k - 1, by omega⟩
    rw [spec_Hash.l0, if_pos (by omega), if_pos (by omega), w64s (n := s.size) (by omega) hs]
    exact ih k (i + 1) _ (by omega) (by omega) (by omega)
/-- the hash of a text, as a natural number -/
def hsh (seed : Int) (s : ByteArray) : Nat := ((spec_Hash.f (s.size + 1) seed s).getD 0).toNat
theorem shash (seed : Int) (s : ByteArray) (hs : s.size ≤ 140737488351232) (k : Nat) (hk : s.size < k) : spec_Hash.f k seed s = some (hsh seed s : Int) := by
  obtain ⟨r, hr, h0, h1⟩ := sh_l0 s hs s.size (s.size + 1) 0 (Go.bits .xor .u64 14695981039346656037 (IntKind.u64.wrap ((IntKind.u64.wrap (seed)) * 11400714819323198485))) (by omega) (by omega) (by omega)
  have e : spec_Hash.f (s.size + 1) seed s = some r := hr
  rw [hsh, e]
  simp only [Option.getD_some]
  rw [Int.toNat_of_nonneg h0]
  exact at_rounds (fun j => spec_Hash.mono seed s j) hk e
theorem hsh_lt (seed : Int) (s : ByteArray) (hs : s.size ≤ 140737488351232) : hsh seed s < 18446744073709551616 := by
  obtain ⟨r, hr, h0, h1⟩ := sh_l0 s hs s.size (s.size + 1) 0 (Go.bits .xor .u64 14695981039346656037 (IntKind.u64.wrap ((IntKind.u64.wrap (seed)) * 11400714819323198485))) (by omega) (by omega) (by omega)
  have e : spec_Hash.f (s.size + 1) seed s = some r := hr
  rw [hsh, e]
  simp only [Option.getD_some]
  omega
theorem ihash (seed : Int) (s : ByteArray) (hs : s.size ≤ 140737488351232) (k : Nat) (hk : s.size < k) : impl_Hash.f k seed s = some (hsh seed s : Int) := by
  rw [← shash seed s hs k hk]
  exact ish_l0 s k _ 0 (by omega)

/-! ## section hllok -/
def hokB (s : ByteArray) : Bool := decide (s.size = 64) && (nb s).all (fun b => decide (b ≤ 58))
theorem iho_l0 (s : ByteArray) (hs : s.size ≤ 140737488351232) : ∀ (d k i : Nat), i ≤ s.size → s.size - i = d → d < k → impl_HllOk.l0 k s s.size i = some (((nb s).drop i).all (fun b => decide (b ≤ 58)) && decide (s.size = 64)) := by
  intro d
  induction d with
  | zero =>
    intro k i h1 h2 hk
    obtain ⟨k, rfl⟩ : ∃ m, k = m + 1 := ⟨k - 1, by omega⟩
    rw [impl_HllOk.l0, if_neg (by omega), nb_end s i (by omega)]
    have e : ((s.size : Int) == 64) = decide (s.size = 64) := by rw [Bool.eq_iff_iff]; simp; omega
    rw [e]; simp
  | succ d ih =>
    intro k i h1 h2 hk
    obtain ⟨k, rfl⟩ : ∃ m, k = m + 1 := ⟨k - 1, by omega⟩
    obtain ⟨b, hd, hb, hl⟩ := nb_drop s i (by omega)
    rw [impl_HllOk.l0, if_pos (by omega), if_pos (by omega), if_pos (by omega), hb, hd, w64s (n := s.size) (by omega) hs]
    by_cases c : b ≤ 58
    · rw [if_neg (by omega), ih k (i + 1) (by omega) (by omega) (by omega)]
      simp [c]
    · rw [if_pos (by omega)]
      simp [c]
theorem iho (s : ByteArray) (hs : s.size ≤ 140737488351232) (k : Nat) (hk : s.size < k) : impl_HllOk.f k s = some (hokB s) := by
  unfold impl_HllOk.f
  rw [show (0 : Int) = ((0 : Nat) : Int) from rfl, iho_l0 s hs s.size k 0 (by omega) (by omega) hk]
  simp [hokB, Bool.and_comm]
theorem sho_l0 (s : ByteArray) (hs : s.size ≤ 140737488351232) : ∀ (d k i : Nat), i ≤ s.size → s.size - i = d → d < k → spec_HllOk.l0 k s i = some (((nb s).drop i).all (fun b => decide (b ≤ 58))) := by
  intro d
  induction d with
  | zero =>
    intro k i h1 h2 hk
    obtain ⟨k, rfl⟩ : ∃ m, k = m + 1 := ⟨k - 1, by omega⟩
    rw [spec_HllOk.l0, if_neg (by omega), nb_end s i (by omega)]
    simp
  | succ d ih =>
    intro k i h1 h2 hk
    obtain ⟨k, rfl⟩ : ∃ m, k = m + 1 := ⟨k - 1, by omega⟩
    obtain ⟨b, hd, hb, hl⟩ := nb_drop s i (by omega)
    rw [spec_HllOk.l0, if_pos (by omega), if_pos (by omega), hb, hd, w64s (n := s.size) (by omega) hs]
    by_cases c : b ≤ 58
    · rw [if_neg (by omega), ih k (i + 1) (by omega) (by omega) (by omega)]
      simp [c]
    · rw [if_pos (by omega)]
      simp [c]
theorem sho (s : ByteArray) (hs : s.size ≤ 140737488351232) (k : Nat) (hk : s.size < k) : spec_HllOk.f k s = some (hokB s) := by
  unfold spec_HllOk.f
  by_cases c : s.size = 64
  · rw [if_pos (by omega), show (0 : Int) = ((0 : Nat) : Int) from rfl, sho_l0 s hs s.size k 0 (by omega) (by omega) hk]
    simp [hokB, c]
  · rw [if_neg (by omega)]
    simp [hokB, c]

/-! ## section isuser -/
def userB (s : ByteArray) : Bool := decide (1 ≤ s.size ∧ s.size ≤ 40)
theorem iuser (s : ByteArray) : impl_isUser.f s = some (userB s) := by
  unfold impl_isUser.f userB
  split
  · congr 1; rw [decide_eq_decide]; omega
  · congr 1; symm; rw [decide_eq_false_iff_not]; omega
theorem suser (s : ByteArray) : spec_l2User.f s = some (userB s) := by
  unfold spec_l2User.f userB
  split
  · congr 1; rw [decide_eq_decide]; omega
  · congr 1; symm; rw [decide_eq_false_iff_not]; omega

/-! ## section hlladd -/
theorem set_own (l : List Int) (i : Nat) : l.set i (rd l (i : Int)) = l := by
  unfold rd
  rw [Int.toNat_natCast]
  apply List.ext_getElem?
  intro j
  by_cases h : i = j
  · subst h
    by_cases c : i < l.length
    · rw [List.getElem?_set_self c, List.getD_eq_getElem?_getD, List.getElem?_eq_getElem c]; rfl
    · rw [List.getElem?_eq_none (by rw [List.length_set]; omega), List.getElem?_eq_none (by omega)]
  · rw [List.getElem?_set_ne h]
theorem hok64 {s : ByteArray} (h : hokB s = true) : s.size = 64 := by
  simp only [hokB, Bool.and_eq_true, decide_eq_true_eq] at h
  exact h.1
/-- the place and the rank of a user -/
def hP (u : ByteArray) : Nat := hsh 7 u % 64
def hR (u : ByteArray) : Nat := min (1 + tzN 64 (hsh 7 u / 64)) 58
theorem hP_lt (u : ByteArray) : hP u < 64 := Nat.mod_lt _ (by decide)
/-- registers with a user more, as bytes -/
def hAddL (l : List Int) (p r : Nat) : List Int := if rd l (p : Int) < (r : Int) then l.set p (r : Int) else l
def hAdd (h u : ByteArray) : ByteArray := if hokB h = true ∧ userB u = true then strOfNums (hAddL (bytesOf h) (hP u) (hR u)) else ⟨#[]⟩
theorem sha_l0 (s : ByteArray) (hs : s.size = 64) (p : Nat) (hp : p < 64) : ∀ (d f k r X : Nat), r + d = 58 → d ≤ f → d < k → X < 18446744073709551616 → spec_HllAdd.l0 k s X p r = some (strOfNums (hAddL (bytesOf s) p (min (r + tzN f X) 58))) := by
  have hl : (bytesOf s).length = 64 := by rw [bytesOf_length, hs]
  have ew : wrap64 (rd (bytesOf s) (p : Int)) = rd (bytesOf s) (p : Int) := by
    rw [rd_bytesOf]
    have := bt_range s (p : Int)
    generalize bt s (p : Int) = x at this
    exact w64 (by omega) (by omega)
  have stop : ∀ r : Nat, r ≤ 58 → (if s.size ≤ 140737488355328 then ((some (bytesOf s : List Int)).bind fun y104 => (if 0 ≤ (p : Int) then (if (p : Int) < (y104.length : Int) then (if (wrap64 (rd y104 (p : Int))) < (r : Int) then (some (strOfNums (y104.set ((p : Int) : Int).toNat (((r : Int)) % 256)))) else (some (strOfNums y104))) else (none)) else (none))) else (none)) = some (strOfNums (hAddL (bytesOf s) p r)) := by
    intro r hr
    rw [if_pos (by omega), Option.bind_some, if_pos (by omega), hl, if_pos (by omega), ew, Int.toNat_natCast, show ((r : Int)) % 256 = (r : Int) by omega]
    unfold hAddL
    split <;> rfl
  intro d
  induction d with
  | zero =>
    intro f k r X h1 hf hk hX
    obtain ⟨k, rfl⟩ : ∃ j, k = j + 1 := ⟨k - 1, by omega⟩
    rw [spec_HllAdd.l0, if_neg (by omega), stop r (by omega), show min (r + tzN f X) 58 = r by omega]
  | succ d ih =>
    intro f k r X h1 hf hk hX
    obtain ⟨k, rfl⟩ : ∃ j, k = j + 1 := ⟨k - 1, by omega⟩
    obtain ⟨f, rfl⟩ : ∃ j, f = j + 1 := ⟨f - 1, by omega⟩
    have e2 : Int.tmod (X : Int) 2 = ((X % 2 : Nat) : Int) := by rw [Int.tmod_eq_emod_of_nonneg (by omega)]; omega
    have e3 : IntKind.u64.wrap (Int.tdiv (X : Int) 2) = ((X / 2 : Nat) : Int) := by rw [Int.tdiv_eq_ediv_of_nonneg (by omega), u64w]; omega
    rw [spec_HllAdd.l0, if_pos (show (r : Int) < 58 by clear e2 e3 ew stop; omega), e2, e3, tzN]
    clear e2 e3
    by_cases c : X % 2 = 0
    · rw [if_pos (show ((X % 2 : Nat) : Int) = 0 by rw [c]; rfl), if_pos c, w64s (n := 100) (by omega) (by omega), ih f k (r + 1) (X / 2) (by omega) (by omega) (by omega) (by omega), show r + (1 + tzN f (X / 2)) = r + 1 + tzN f (X / 2) by omega]
    · rw [if_neg (show ¬ ((X % 2 : Nat) : Int) = 0 by clear stop ew; omega), if_neg c, stop r (by clear stop ew; omega), Nat.add_zero, show min r 58 = r by clear stop ew; omega]
theorem shadd (h u : ByteArray) (hh : h.size ≤ 140737488351232) (hu : u.size ≤ 140737488351232) (k : Nat) (hk : h.size + u.size + 100 < k) : spec_HllAdd.f k h u = some (hAdd h u) := by
  obtain ⟨k, rfl⟩ : ∃ j, k = j + 1 := ⟨k - 1, by omega⟩
  have jt : spec_HllAdd.j0 (k + 1) h u true = some ⟨#[]⟩ := by rw [spec_HllAdd.j0, if_pos rfl]
  unfold spec_HllAdd.f hAdd
  rw [sho h hh _ (by omega), Option.bind_some]
  by_cases g : hokB h = true
  · rw [if_pos g, suser, Option.bind_some]
    by_cases q : userB u = true
    · rw [if_pos ⟨g, q⟩, q, Bool.not_true, spec_HllAdd.j0, if_neg (by decide), shash 7 u hu k (by omega), Option.bind_some]
      have hlt := hsh_lt 7 u hu
      unfold hP hR
      generalize hsh 7 u = t at hlt
      have e1 : IntKind.u64.wrap (Int.tdiv (t : Int) 64) = ((t / 64 : Nat) : Int) := by rw [Int.tdiv_eq_ediv_of_nonneg (by omega), u64w]; omega
      have e2 : Int.tmod (t : Int) 64 = ((t % 64 : Nat) : Int) := by rw [Int.tmod_eq_emod_of_nonneg (by omega)]; omega
      rw [e1, e2]
      clear e1 e2
      exact sha_l0 h (hok64 g) (t % 64) (by omega) 57 64 k 1 (t / 64) (by omega) (by omega) (by omega) (by omega)
    · have q' : userB u = false := by simpa using q
      rw [if_neg (fun z => q z.2), q', Bool.not_false, jt]
  · rw [if_neg g, if_neg (fun z => g z.1), jt]
theorem ihadd (h u : ByteArray) (hh : h.size ≤ 140737488351232) (hu : u.size ≤ 140737488351232) (k : Nat) (hk : h.size + u.size + 100 < k) : impl_HllAdd.f k h u = some (hAdd h u) := by
  obtain ⟨k, rfl⟩ : ∃ j, k = j + 1 := ⟨k - 1, by omega⟩
  have jt : impl_HllAdd.j0 (k + 1) h u true = some ⟨#[]⟩ := by rw [impl_HllAdd.j0, if_pos rfl]
  unfold impl_HllAdd.f hAdd
  rw [iho h hh _ (by omega), Option.bind_some]
  by_cases g : hokB h = true
  · rw [if_pos g, iuser, Option.bind_some]
    by_cases q : userB u = true
    · have h64 := hok64 g
      rw [if_pos ⟨g, q⟩, q, Bool.not_true, impl_HllAdd.j0, if_neg (by decide), ihash 7 u hu k (by omega), Option.bind_some]
      have hlt := hsh_lt 7 u hu
      unfold hP hR
      generalize hsh 7 u = t at hlt
      have e1 : IntKind.u64.wrap (Int.tdiv (t : Int) 64) = ((t / 64 : Nat) : Int) := by rw [Int.tdiv_eq_ediv_of_nonneg (by omega), u64w]; omega
      have e2 : Int.tmod (t : Int) 64 = ((t % 64 : Nat) : Int) := by rw [Int.tmod_eq_emod_of_nonneg (by omega)]; omega
      rw [e1, e2]
      clear e1 e2
      have hl : (bytesOf h).length = 64 := by rw [bytesOf_length, h64]
      rw [if_pos (by omega), Option.bind_some, if_pos (by omega), hl, if_pos (by omega), itz _ (by omega), Option.bind_some, Int.toNat_natCast]
      have ht : tzN 64 (t / 64) ≤ 64 := tzN_le 64 _
      generalize tzN 64 (t / 64) = z at ht
      have e3 : (mn (wrap64 (1 + (z : Int))) 58) % 256 = ((min (1 + z) 58 : Nat) : Int) := by
        rw [w64 (by omega) (by omega)]
        unfold mn
        split <;> omega
      rw [e3]
      clear e3
      generalize min (1 + z) 58 = r
      congr 2
      unfold hAddL mx
      split
      · rfl
      · rw [set_own]
    · have q' : userB u = false := by simpa using q
      rw [if_neg (fun z => q z.2), q', Bool.not_false, jt]
  · rw [if_neg g, if_neg (fun z => g z.1), jt]

/-! ## section ba -/
theorem nb_append (a b : ByteArray) : nb (a ++ b) = nb a ++ nb b := by
  simp [nb, ByteArray.data_append]
theorem nb_extract (s : ByteArray) (i j : Nat) : nb (s.extract i j) = ((nb s).take j).drop i := by
  rw [List.drop_take]
  simp [nb, ByteArray.data_extract]
theorem nb_inj {a b : ByteArray} (h : nb a = nb b) : a = b := by
  have h1 : a.data.toList = b.data.toList := by
    have h2 : ∀ (l m : List UInt8), l.map UInt8.toNat = m.map UInt8.toNat → l = m := by
      intro l
      induction l with
      | nil => intro m h; cases m with
        | nil => rfl
        | cons y m => simp at h
      | cons x l ih => intro m h; cases m with
        | nil => simp at h
        | cons y m =>
          simp only [List.map_cons, List.cons.injEq] at h
          rw [UInt8.toNat_inj.1 h.1, ih m h.2]
    exact h2 _ _ h
  cases a; cases b; simp_all
theorem nb_nums (l : List Int) (h : ∀ x ∈ l, 0 ≤ x ∧ x < 256) : nb (strOfNums l) = l.map Int.toNat := by
  simp only [nb, strOfNums, List.map_map]
  apply List.map_congr_left
  intro x hx
  have := h x hx
  simp only [Function.comp]
  rw [UInt8.toNat_ofNat']
  exact Nat.mod_eq_of_lt (by omega)
theorem nb_empty : nb (⟨#[]⟩ : ByteArray) = [] := rfl
theorem bsize_append (a b : ByteArray) : (a ++ b).size = a.size + b.size := ByteArray.size_append

/-! ## section strs -/
theorem rds_drop (l : List ByteArray) (i : Nat) (h : i < l.length) : ∃ u, l.drop i = u :: l.drop (i + 1) ∧ rdOf ByteArray.empty l (i : Int) = u ∧ u ∈ l := by
  refine ⟨l[i], List.drop_eq_getElem_cons h, ?_, List.getElem_mem h⟩
  unfold rdOf
  rw [Int.toNat_natCast, List.getD_eq_getElem?_getD, List.getElem?_eq_getElem h]; rfl

/-! ## section usersok -/
/-- users are right: at most 400, each of 1 to 40 bytes -/
def usersB (l : List ByteArray) : Bool := decide (l.length ≤ 400) && l.all userB
theorem iuo_l0 (l : List ByteArray) (hl : l.length ≤ 1048576) : ∀ (d k i : Nat), i ≤ l.length → l.length - i = d → d < k → impl_UsersOk.l0 k l l.length i = some ((l.drop i).all userB) := by
  intro d
  induction d with
  | zero =>
    intro k i h1 h2 hk
    obtain ⟨k, rfl⟩ : ∃ m, k = m + 1 := ⟨k - 1, by omega⟩
    rw [impl_UsersOk.l0, if_neg (by omega), List.drop_eq_nil_of_le (by omega)]; rfl
  | succ d ih =>
    intro k i h1 h2 hk
    obtain ⟨k, rfl⟩ : ∃ m, k = m + 1 := ⟨k - 1, by omega⟩
    obtain ⟨u, hd, hu, hm⟩ := rds_drop l i (by omega)
    rw [impl_UsersOk.l0, if_pos (by omega), if_pos (by omega), if_pos (by omega), hu, iuser, hd]
    simp only [Option.bind_some, List.all_cons]
    cases userB u
    · rfl
    · rw [if_pos rfl, w64s (n := l.length) (by omega) (by omega), ih k (i + 1) (by omega) (by omega) (by omega)]; rfl
theorem iuo (l : List ByteArray) (hl : l.length ≤ 1048576) (k : Nat) (hk : l.length < k) : impl_UsersOk.f k l = some (usersB l) := by
  unfold impl_UsersOk.f usersB
  by_cases c : l.length ≤ 400
  · rw [if_neg (by omega)]
    have h := iuo_l0 l hl l.length k 0 (by omega) (by omega) hk
    simpa [c] using h
  · rw [if_pos (by omega)]; simp [c]
theorem suo_l0 (l : List ByteArray) (hl : l.length ≤ 1048576) : ∀ (d k i : Nat), i ≤ l.length → l.length - i = d → d < k → spec_UsersOk.l0 k l i = some ((l.drop i).all userB) := by
  intro d
  induction d with
  | zero =>
    intro k i h1 h2 hk
    obtain ⟨k, rfl⟩ : ∃ m, k = m + 1 := ⟨k - 1, by omega⟩
    rw [spec_UsersOk.l0, if_neg (by omega), List.drop_eq_nil_of_le (by omega)]; rfl
  | succ d ih =>
    intro k i h1 h2 hk
    obtain ⟨k, rfl⟩ : ∃ m, k = m + 1 := ⟨k - 1, by omega⟩
    obtain ⟨u, hd, hu, hm⟩ := rds_drop l i (by omega)
    rw [spec_UsersOk.l0, if_pos (by omega), if_pos (by omega), hu, suser, hd]
    simp only [Option.bind_some, List.all_cons]
    cases userB u
    · rfl
    · rw [if_pos rfl, w64s (n := l.length) (by omega) (by omega), ih k (i + 1) (by omega) (by omega) (by omega)]; rfl
theorem suo (l : List ByteArray) (hl : l.length ≤ 1048576) (k : Nat) (hk : l.length < k) : spec_UsersOk.f k l = some (usersB l) := by
  unfold spec_UsersOk.f usersB
  by_cases c : l.length ≤ 400
  · rw [if_neg (by omega)]
    have h := suo_l0 l hl l.length k 0 (by omega) (by omega) hk
    simpa [c] using h
  · rw [if_pos (by omega)]; simp [c]

/-! ## section hllof -/
/-- registers as a row of bytes -/
def Tg (g : Nat → Nat) : List Int := (List.range 64).map (fun q => ((g q : Nat) : Int))
theorem Tg_len (g : Nat → Nat) : (Tg g).length = 64 := by simp [Tg]
theorem Tg_get (g : Nat → Nat) (q : Nat) (hq : q < 64) : (Tg g)[q]? = some ((g q : Nat) : Int) := by
  simp [Tg, List.getElem?_range hq]
theorem Tg_rd (g : Nat → Nat) (q : Nat) (hq : q < 64) : rd (Tg g) (q : Int) = ((g q : Nat) : Int) := by
  unfold rd
  rw [Int.toNat_natCast, List.getD_eq_getElem?_getD, Tg_get g q hq]; rfl
theorem Tg_ext {g g' : Nat → Nat} (h : ∀ q, q < 64 → g q = g' q) : Tg g = Tg g' := by
  unfold Tg
  apply List.map_congr_left
  intro q hq
  rw [h q (List.mem_range.1 hq)]
theorem Tg_set (g : Nat → Nat) (p v : Nat) (hp : p < 64) : (Tg g).set p (v : Int) = Tg (fun q => if q = p then v else g q) := by
  apply List.ext_getElem?
  intro j
  rcases Nat.lt_or_ge j 64 with hj | hj
  · rw [Tg_get _ j hj, List.getElem?_set]
    by_cases c : p = j
    · subst c
      rw [if_pos rfl, if_pos (by rw [Tg_len]; exact hp), if_pos rfl]
    · rw [if_neg c, if_neg (fun e => c e.symm), Tg_get g j hj]
  · rw [List.getElem?_eq_none (by rw [List.length_set, Tg_len]; exact hj), List.getElem?_eq_none (by rw [Tg_len]; exact hj)]
theorem Tg_ok {g : Nat → Nat} (h : ∀ q, g q ≤ 58) : ∀ x ∈ Tg g, 0 ≤ x ∧ x < 256 := by
  intro x hx
  simp only [Tg, List.mem_map] at hx
  obtain ⟨q, _, rfl⟩ := hx
  have := h q
  omega
theorem bytes_nums {l : List Int} (h : ∀ x ∈ l, 0 ≤ x ∧ x < 256) : bytesOf (strOfNums l) = l := by
  unfold bytesOf strOfNums
  simp only [List.map_map]
  conv => rhs; rw [← List.map_id l]
  apply List.map_congr_left
  intro x hx
  have := h x hx
  simp
  omega
theorem Tg_size (g : Nat → Nat) : (strOfNums (Tg g)).size = 64 := by
  have : (strOfNums (Tg g)).size = (Tg g).length := by simp [strOfNums, ByteArray.size]
  rw [this, Tg_len]
theorem Tg_hok {g : Nat → Nat} (h : ∀ q, g q ≤ 58) : hokB (strOfNums (Tg g)) = true := by
  unfold hokB
  rw [Tg_size, nb_nums _ (Tg_ok h)]
  simp only [Bool.and_eq_true, decide_eq_true_eq, List.all_eq_true, List.mem_map]
  refine ⟨trivial, ?_⟩
  rintro b ⟨x, hx, rfl⟩
  simp only [Tg, List.mem_map] at hx
  obtain ⟨q, _, rfl⟩ := hx
  rw [Int.toNat_natCast]
  exact h q
/-- a user more -/
def hU (u : ByteArray) (g : Nat → Nat) : Nat → Nat := fun q => if q = hP u then max (g q) (hR u) else g q
theorem hR_le (u : ByteArray) : hR u ≤ 58 := Nat.min_le_right _ _
theorem hU_le {g : Nat → Nat} (h : ∀ q, g q ≤ 58) (u : ByteArray) : ∀ q, hU u g q ≤ 58 := by
  intro q
  unfold hU
  have := hR_le u
  have := h q
  split <;> omega
theorem hAdd_Tg {g : Nat → Nat} (h : ∀ q, g q ≤ 58) (u : ByteArray) (hu : userB u = true) : hAdd (strOfNums (Tg g)) u = strOfNums (Tg (hU u g)) := by
  unfold hAdd
  rw [if_pos ⟨Tg_hok h, hu⟩, bytes_nums (Tg_ok h)]
  congr 1
  unfold hAddL
  rw [Tg_rd g _ (hP_lt u)]
  by_cases c : g (hP u) < hR u
  · rw [if_pos (by omega), Tg_set g _ _ (hP_lt u)]
    apply Tg_ext
    intro q _
    unfold hU
    by_cases e : q = hP u
    · rw [if_pos e, if_pos e, e]; omega
    · rw [if_neg e, if_neg e]
  · rw [if_neg (by omega)]
    apply Tg_ext
    intro q _
    unfold hU
    by_cases e : q = hP u
    · rw [if_pos e, e]; omega
    · rw [if_neg e]
def gOf : List ByteArray → (Nat → Nat) → Nat → Nat
  | [], g => g
  | u :: us, g => gOf us (hU u g)
theorem iof_l0 (us : List ByteArray) (hl : us.length ≤ 400) (hu : ∀ u ∈ us, userB u = true) : ∀ (d k i : Nat) (g : Nat → Nat), (∀ q, g q ≤ 58) → i ≤ us.length → us.length - i = d → d + 300 < k → impl_HllOf.l0 k (strOfNums (Tg g)) us us.length i = some (strOfNums (Tg (gOf (us.drop i) g))) := by
  intro d
  induction d with
  | zero =>
    intro k i g hg h1 h2 hk
    obtain ⟨k, rfl⟩ : ∃ j, k = j + 1 := ⟨k - 1, by omega⟩
    rw [impl_HllOf.l0, if_neg (by omega), List.drop_eq_nil_of_le (by omega)]; rfl
  | succ d ih =>
    intro k i g hg h1 h2 hk
    obtain ⟨k, rfl⟩ : ∃ j, k = j + 1 := ⟨k - 1, by omega⟩
    obtain ⟨u, hd, hu', hmem⟩ := rds_drop us i (by omega)
    have hub := hu u hmem
    have hus : u.size ≤ 40 := by simp only [userB, decide_eq_true_eq] at hub; exact hub.2
    rw [impl_HllOf.l0, if_pos (by omega), if_pos (by omega), if_pos (by omega), hu', ihadd _ u (by rw [Tg_size]; omega) (by omega) k (by rw [Tg_size]; omega), Option.bind_some, hAdd_Tg hg u hub, w64s (n := us.length) (by omega) (by omega), hd, gOf]
    exact ih k (i + 1) _ (hU_le hg u) (by omega) (by omega) (by omega)
theorem sof_l0 (us : List ByteArray) (hl : us.length ≤ 400) (hu : ∀ u ∈ us, userB u = true) : ∀ (d k i : Nat) (g : Nat → Nat), (∀ q, g q ≤ 58) → i ≤ us.length → us.length - i = d → d + 300 < k → spec_HllOf.l0 k us (strOfNums (Tg g)) i = some (strOfNums (Tg (gOf (us.drop i) g))) := by
  intro d
  induction d with
  | zero =>
    intro k i g hg h1 h2 hk
    obtain ⟨k, rfl⟩ : ∃ j, k = j + 1 := ⟨k - 1, by omega⟩
    rw [spec_HllOf.l0, if_neg (by omega), List.drop_eq_nil_of_le (by omega)]; rfl
  | succ d ih =>
    intro k i g hg h1 h2 hk
    obtain ⟨k, rfl⟩ : ∃ j, k = j + 1 := ⟨k - 1, by omega⟩
    obtain ⟨u, hd, hu', hmem⟩ := rds_drop us i (by omega)
    have hub := hu u hmem
    have hus : u.size ≤ 40 := by simp only [userB, decide_eq_true_eq] at hub; exact hub.2
    rw [spec_HllOf.l0, if_pos (by omega), if_pos (by omega), hu', shadd _ u (by rw [Tg_size]; omega) (by omega) k (by rw [Tg_size]; omega), Option.bind_some, hAdd_Tg hg u hub, w64s (n := us.length) (by omega) (by omega), hd, gOf]
    exact ih k (i + 1) _ (hU_le hg u) (by omega) (by omega) (by omega)
/-- the registers of users -/
def hOf (us : List ByteArray) : ByteArray := if usersB us = true then strOfNums (Tg (gOf us (fun _ => 0))) else ⟨#[]⟩
theorem Tg_zero : List.replicate 64 (0 : Int) = Tg (fun _ => 0) := rfl
theorem usersB_of {us : List ByteArray} (h : usersB us = true) : us.length ≤ 400 ∧ ∀ u ∈ us, userB u = true := by
  simp only [usersB, Bool.and_eq_true, decide_eq_true_eq, List.all_eq_true] at h
  exact h
theorem ihof (us : List ByteArray) (hl : us.length ≤ 1048576) (k : Nat) (hk : us.length + 400 < k) : impl_HllOf.f k us = some (hOf us) := by
  unfold impl_HllOf.f hOf
  rw [iuo us hl k (by omega), Option.bind_some]
  by_cases g : usersB us = true
  · obtain ⟨h1, h2⟩ := usersB_of g
    rw [if_pos g, if_pos g, if_pos (by decide), Tg_zero]
    have h := iof_l0 us h1 h2 us.length k 0 (fun _ => 0) (fun _ => by omega) (by omega) (by omega) (by omega)
    exact h
  · rw [if_neg g, if_neg g]
theorem shof (us : List ByteArray) (hl : us.length ≤ 1048576) (k : Nat) (hk : us.length + 400 < k) : spec_HllOf.f k us = some (hOf us) := by
  unfold spec_HllOf.f hOf
  rw [suo us hl k (by omega), Option.bind_some]
  by_cases g : usersB us = true
  · obtain ⟨h1, h2⟩ := usersB_of g
    rw [if_pos g, if_pos g, if_pos (by decide), Tg_zero]
    have h := sof_l0 us h1 h2 us.length k 0 (fun _ => 0) (fun _ => by omega) (by omega) (by omega) (by omega)
    exact h
  · rw [if_neg g, if_neg g]

/-! ## section szstrs -/
/-- what is left of a purse behind a list of texts: -1 when it does not do -/
theorem szstrs_l0 (l : List ByteArray) (hs : ∀ u ∈ l, u.size ≤ 9223372036854775807) : ∀ (d k i : Nat) (left : Int), i ≤ l.length → l.length - i = d → l.length ≤ 1048576 → d < k → 0 ≤ left → left ≤ 1048576 → ∃ r, laws_szStringS.l0 k l left i = some r ∧ (0 ≤ r → ∀ u ∈ l.drop i, u.size ≤ 1048576) := by
  intro d
  induction d with
  | zero =>
    intro k i left h1 h2 hl hk h0 hle
    obtain ⟨k, rfl⟩ : ∃ m, k = m + 1 := ⟨k - 1, by omega⟩
    rw [laws_szStringS.l0, if_neg (by omega)]
    refine ⟨_, rfl, fun _ => ?_⟩
    rw [List.drop_eq_nil_of_le (by omega)]; simp
  | succ d ih =>
    intro k i left h1 h2 hl hk h0 hle
    obtain ⟨k, rfl⟩ : ∃ m, k = m + 1 := ⟨k - 1, by omega⟩
    obtain ⟨u, hd, hu, hm⟩ := rds_drop l i (by omega)
    have hsz := hs u hm
    have e : wrap64 (left - (u.size : Int)) = left - u.size := by unfold wrap64; omega
    rw [laws_szStringS.l0, if_pos (by omega), if_pos (by omega), hu, e]
    by_cases c : left - (u.size : Int) < 0
    · rw [if_pos c]; exact ⟨_, rfl, fun h => by omega⟩
    · rw [if_neg c, w64s (n := l.length) (by omega) (by omega)]
      obtain ⟨r, hr, hb⟩ := ih k (i + 1) (left - u.size) (by omega) (by omega) hl (by omega) (by omega) (by omega)
      refine ⟨r, hr, fun h x hx => ?_⟩
      rw [hd] at hx
      rcases List.mem_cons.1 hx with rfl | hx
      · omega
      · exact hb h x hx
theorem szstrs (l : List ByteArray) (hl : l.length ≤ 9223372036854775807) (hs : ∀ u ∈ l, u.size ≤ 9223372036854775807) (k : Nat) (hk : 1048577 ≤ k) : ∃ r, laws_szStringS.f k l 1048576 = some r ∧ (¬ r < 0 → l.length ≤ 1048576 ∧ ∀ u ∈ l, u.size ≤ 1048576) := by
  unfold laws_szStringS.f
  have e : wrap64 (1048576 - (l.length : Int)) = 1048576 - l.length := by unfold wrap64; omega
  rw [e]
  by_cases c : 1048576 - (l.length : Int) < 0
  · rw [if_pos c]; exact ⟨_, rfl, fun h => absurd (by decide) h⟩
  · rw [if_neg c]
    obtain ⟨r, hr, hb⟩ := szstrs_l0 l hs l.length k 0 (1048576 - l.length) (by omega) (by omega) (by omega) (by omega) (by omega) (by omega)
    refine ⟨r, hr, fun h => ⟨by omega, fun u hu => ?_⟩⟩
    exact hb (by omega) u (by simpa using hu)
theorem tostrs_l0 (l : List ByteArray) (hl : l.length ≤ 1048576) : ∀ (d k i : Nat) (acc : List ByteArray), i ≤ l.length → l.length - i = d → d < k → acc.length = l.length → acc.take i = l.take i → laws_toStringS.l0 k l acc i = some l := by
  intro d
  induction d with
  | zero =>
    intro k i acc h1 h2 hk ha ht
    obtain ⟨k, rfl⟩ : ∃ m, k = m + 1 := ⟨k - 1, by omega⟩
    rw [laws_toStringS.l0, if_neg (by omega)]
    rw [List.take_of_length_le (by omega), List.take_of_length_le (by omega)] at ht
    rw [ht]
  | succ d ih =>
    intro k i acc h1 h2 hk ha ht
    obtain ⟨k, rfl⟩ : ∃ m, k = m + 1 := ⟨k - 1, by omega⟩
    obtain ⟨u, hd, hu, hm⟩ := rds_drop l i (by omega)
    rw [laws_toStringS.l0, if_pos (by omega), if_pos (by omega), if_pos (by omega), hu, Int.toNat_natCast, w64s (n := l.length) (by omega) (by omega)]
    refine ih k (i + 1) _ (by omega) (by omega) (by omega) (by simpa using ha) ?_
    have hlt : i < acc.length := by omega
    have hlt2 : i < l.length := by omega
    have eu : l[i] = u := by
      have := List.drop_eq_getElem_cons hlt2
      rw [hd] at this
      exact (List.cons.inj this).1.symm
    rw [List.take_succ_eq_append_getElem (by simpa using hlt), List.take_succ_eq_append_getElem hlt2, List.take_set_of_le (by omega), ht, List.getElem_set_self, eu]
theorem tostrs (l : List ByteArray) (hl : l.length ≤ 1048576) (k : Nat) (hk : l.length < k) : laws_toStringS.f k l = some l := by
  unfold laws_toStringS.f
  rw [if_pos (by omega), if_pos (by omega)]
  exact tostrs_l0 l hl l.length k 0 _ (by omega) (by omega) hk (by simp) (by simp)
theorem eqstrs_l0 (l : List ByteArray) (hl : l.length ≤ 1048576) : ∀ (d k i : Nat), i ≤ l.length → l.length - i = d → d < k → laws_eqStringS.l0 k l l i = some true := by
  intro d
  induction d with
  | zero =>
    intro k i h1 h2 hk
    obtain ⟨k, rfl⟩ : ∃ m, k = m + 1 := ⟨k - 1, by omega⟩
    rw [laws_eqStringS.l0, if_neg (by omega)]
  | succ d ih =>
    intro k i h1 h2 hk
    obtain ⟨k, rfl⟩ : ∃ m, k = m + 1 := ⟨k - 1, by omega⟩
    rw [laws_eqStringS.l0, if_pos (by omega), if_pos (by omega), if_pos (by omega), if_pos rfl, w64s (n := l.length) (by omega) (by omega)]
    exact ih k (i + 1) (by omega) (by omega) (by omega)
theorem eqstrs (l : List ByteArray) (hl : l.length ≤ 1048576) (k : Nat) (hk : l.length < k) : laws_eqStringS.f k l l = some true := by
  unfold laws_eqStringS.f
  rw [if_pos rfl]
  exact eqstrs_l0 l hl l.length k 0 (by omega) (by omega) hk

theorem FnExactHllOf : laws_FnExactHllOf.Pure := by
  intro l ⟨hl, hs⟩
  refine ⟨1049700, ?_⟩
  unfold laws_FnExactHllOf.f
  obtain ⟨r, hr, hb⟩ := szstrs l hl hs 1049700 (by omega)
  rw [hr]
  simp only [Option.bind_some]
  by_cases c : r < 0
  · rw [if_pos c]
  · obtain ⟨h1, h2⟩ := hb c
    rw [if_neg c, tostrs l h1 _ (by omega)]
    simp only [Option.bind_some]
    rw [shof l h1 _ (by omega), ihof l h1 _ (by omega)]
    simp only [Option.bind_some]
    rw [if_pos trivial, eqstrs l h1 _ (by omega)]
    rfl

end Go.Proofs.YtfcjacncllmapaaDoor.Pure
