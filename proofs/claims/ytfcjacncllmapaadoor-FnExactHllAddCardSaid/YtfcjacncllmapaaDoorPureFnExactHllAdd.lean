/- The program's HllAdd returns what the reference's HllAdd returns, for every two texts. Condition: the table of math/bits holds what the program's text lays (the card ties it). -/
import Derived.Test.YtfcjacncllmapaaDoorQFnExactHllAddx
namespace Go.Proofs.YtfcjacncllmapaaDoor.Pure
open Go.RowKit Go.Proofs.YtfcjacncllmapaaDoor.QFnExactHllAdd Go.Proofs.YtfcjacncllmapaaDoorW.PrintWords Go.Proofs.YtfcjacncllmapaaDoorW.PrintLast Go.Proofs.YtfcjacncllmapaaDoorW.PrintMore
set_option linter.unusedVariables false
set_option linter.unusedSimpArgs false

/-! ## section base -/
/-- an unsigned kind's number that fits is not wrapped -/
theorem wrapU (k : IntKind) (hs : k.signed = false) (n : Nat) (h : n < 2 ^ k.bits) : k.wrap (n : Int) = n := by
  unfold IntKind.wrap
  rw [Int.emod_eq_of_lt (by omega) (by exact_mod_cast h)]
  simp [hs]
/-- bits of unsigned numbers are those of natural numbers -/
theorem b_or (k : IntKind) (hs : k.signed = false) (a b : Nat) (ha : a < 2 ^ k.bits) (hb : b < 2 ^ k.bits) : Go.bits .or k a b = ((a ||| b : Nat) : Int) := by
  simp only [Go.bits, BitVec.ofInt_natCast, BitVec.toNat_or, BitVec.toNat_ofNat, Nat.mod_eq_of_lt ha, Nat.mod_eq_of_lt hb]
  exact wrapU k hs _ (Nat.or_lt_two_pow ha hb)
theorem b_xor (k : IntKind) (hs : k.signed = false) (a b : Nat) (ha : a < 2 ^ k.bits) (hb : b < 2 ^ k.bits) : Go.bits .xor k a b = ((a ^^^ b : Nat) : Int) := by
  simp only [Go.bits, BitVec.ofInt_natCast, BitVec.toNat_xor, BitVec.toNat_ofNat, Nat.mod_eq_of_lt ha, Nat.mod_eq_of_lt hb]
  exact wrapU k hs _ (Nat.xor_lt_two_pow ha hb)
theorem b_and (k : IntKind) (hs : k.signed = false) (a b : Nat) (ha : a < 2 ^ k.bits) (hb : b < 2 ^ k.bits) : Go.bits .and k a b = ((a &&& b : Nat) : Int) := by
  simp only [Go.bits, BitVec.ofInt_natCast, BitVec.toNat_and, BitVec.toNat_ofNat, Nat.mod_eq_of_lt ha, Nat.mod_eq_of_lt hb]
  exact wrapU k hs _ (Nat.and_lt_two_pow _ hb)
theorem b_or8 (a b : Nat) (ha : a < 256) (hb : b < 256) : Go.bits .or .u8 a b = ((a ||| b : Nat) : Int) := b_or .u8 rfl a b ha hb
theorem u64w (x : Int) : IntKind.u64.wrap x = x % 18446744073709551616 := by simp [IntKind.wrap, IntKind.bits, IntKind.signed]

/-! ## section bytes -/
/-- the bytes of a text, as natural numbers -/
def nb (s : ByteArray) : List Nat := s.data.toList.map UInt8.toNat
theorem nb_length (s : ByteArray) : (nb s).length = s.size := by rw [nb, List.length_map, Array.length_toList]; rfl
theorem nb_lt (s : ByteArray) : ∀ b ∈ nb s, b < 256 := by
  intro b hb
  simp only [nb, List.mem_map] at hb
  obtain ⟨u, _, rfl⟩ := hb
  exact u.toNat_lt
theorem bt_nb (s : ByteArray) (i : Nat) (h : i < s.size) : bt s i = (((nb s)[i]'(by rw [nb_length]; exact h) : Nat) : Int) := by
  simp only [bt, Int.toNat_natCast, h, nb]
  simp
  rfl
theorem nb_drop (s : ByteArray) (i : Nat) (h : i < s.size) : ∃ b, (nb s).drop i = b :: (nb s).drop (i + 1) ∧ bt s i = (b : Int) ∧ b < 256 := by
  have hl : i < (nb s).length := by rw [nb_length]; exact h
  exact ⟨(nb s)[i], List.drop_eq_getElem_cons hl, bt_nb s i h, nb_lt s _ (List.getElem_mem hl)⟩
theorem nb_end (s : ByteArray) (i : Nat) (h : s.size ≤ i) : (nb s).drop i = [] := List.drop_eq_nil_of_le (by rw [nb_length]; exact h)
theorem w64 {x : Int} (h0 : -9223372036854775808 ≤ x) (h1 : x < 9223372036854775808) : wrap64 x = x := by unfold wrap64; omega
theorem w64s {i n : Nat} (h : i < n) (hn : n ≤ 140737488351232) : wrap64 ((i : Int) + 1) = ((i + 1 : Nat) : Int) := by rw [w64] <;> omega
theorem bits_range (k : IntKind) (hs : k.signed = false) (op : BinOp) (x y : Int) : 0 ≤ Go.bits op k x y ∧ Go.bits op k x y < 2 ^ k.bits := by
  have hp : (0 : Int) < 2 ^ k.bits := by exact_mod_cast Nat.two_pow_pos k.bits
  unfold Go.bits IntKind.wrap
  simp only [hs, Bool.false_and]
  exact ⟨Int.emod_nonneg _ (by omega), Int.emod_lt_of_pos _ hp⟩

/-! ## section tz -/
/-- how many zeros stand at the end; f: at the most -/
def tzN : Nat → Nat → Nat
  | 0, _ => 0
  | f + 1, x => if x % 2 = 0 then 1 + tzN f (x / 2) else 0
theorem and_double (a b : Nat) : 2 * a &&& 2 * b = 2 * (a &&& b) := by
  apply Nat.eq_of_testBit_eq
  intro i
  cases i with
  | zero => simp [Nat.testBit_zero]
  | succ i =>
    rw [Nat.testBit_and, Nat.testBit_succ, Nat.testBit_succ, Nat.testBit_succ, show 2 * a / 2 = a by omega, show 2 * b / 2 = b by omega, show 2 * (a &&& b) / 2 = a &&& b by omega, Nat.testBit_and]
theorem and_compl (m K : Nat) (h : m < 2 ^ K) : m &&& (2 ^ K - (m + 1)) = 0 := by
  apply Nat.eq_of_testBit_eq
  intro i
  rw [Nat.testBit_and, Nat.testBit_two_pow_sub_succ h, Nat.zero_testBit]
  cases m.testBit i <;> simp
theorem and_neg : ∀ (t N m : Nat), 2 ^ t * (2 * m + 1) < 2 ^ N → (2 ^ t * (2 * m + 1)) &&& (2 ^ N - 2 ^ t * (2 * m + 1)) = 2 ^ t
  | 0, N, m, h => by
    rw [Nat.pow_zero, Nat.one_mul] at *
    obtain ⟨K, rfl⟩ : ∃ K, N = K + 1 := ⟨N - 1, by cases N with | zero => simp at h | succ n => rfl⟩
    rw [Nat.pow_succ] at *
    have hm : m < 2 ^ K := by omega
    have e := and_compl m K hm
    apply Nat.eq_of_testBit_eq
    intro i
    cases i with
    | zero =>
      rw [Nat.testBit_and, Nat.testBit_zero, Nat.testBit_zero, Nat.testBit_zero]
      have h1 : (2 * m + 1) % 2 = 1 := by omega
      have h2 : (2 ^ K * 2 - (2 * m + 1)) % 2 = 1 := by omega
      rw [h1, h2]; rfl
    | succ i =>
      rw [Nat.testBit_and, Nat.testBit_succ, Nat.testBit_succ, Nat.testBit_succ, show (2 * m + 1) / 2 = m by omega, show (2 ^ K * 2 - (2 * m + 1)) / 2 = 2 ^ K - (m + 1) by omega, ← Nat.testBit_and, e]
  | t + 1, N, m, h => by
    obtain ⟨K, rfl⟩ : ∃ K, N = K + 1 := ⟨N - 1, by
      cases N with
      | zero => have := Nat.two_pow_pos (t + 1); have : 1 ≤ 2 ^ (t + 1) * (2 * m + 1) := Nat.mul_pos this (by omega); exfalso; rw [Nat.pow_zero] at h; omega
      | succ n => rfl⟩
    have e1 : 2 ^ (t + 1) * (2 * m + 1) = 2 * (2 ^ t * (2 * m + 1)) := by rw [Nat.pow_succ, Nat.mul_comm (2 ^ t) 2, Nat.mul_assoc]
    rw [e1] at h ⊢
    rw [Nat.pow_succ] at h ⊢
    have ih := and_neg t K m (by omega)
    generalize 2 ^ t * (2 * m + 1) = y at *
    rw [show 2 ^ K * 2 - 2 * y = 2 * (2 ^ K - y) by omega, and_double, ih, Nat.pow_succ, Nat.mul_comm]
theorem tz_form : ∀ (f x : Nat), x ≠ 0 → x < 2 ^ f → ∃ m, x = 2 ^ tzN f x * (2 * m + 1) ∧ tzN f x < f
  | 0, x, h0, h => by simp at h; exact absurd h h0
  | f + 1, x, h0, h => by
    rw [tzN]
    by_cases c : x % 2 = 0
    · rw [if_pos c]
      rw [Nat.pow_succ] at h
      obtain ⟨m, hm, ht⟩ := tz_form f (x / 2) (by omega) (by omega)
      refine ⟨m, ?_, by omega⟩
      rw [Nat.pow_add, Nat.pow_one, Nat.mul_assoc, ← hm]
      omega
    · rw [if_neg c]
      exact ⟨x / 2, by rw [Nat.pow_zero]; omega, by omega⟩
theorem tz_tab : ∀ t : Fin 64, rd tabG (((2 ^ t.val * 285870213051353865 % 18446744073709551616 / 288230376151711744 : Nat) : Int)) = (t.val : Int) := by decide
theorem itz (X : Nat) (h : X < 18446744073709551616) : bits_TrailingZeros64.f (X : Int) = some ((tzN 64 X : Nat) : Int) := by
  unfold bits_TrailingZeros64.f
  by_cases c : X = 0
  · subst c
    rw [if_pos (show ((0 : Nat) : Int) = 0 from rfl)]
    rfl
  · rw [if_neg (by omega)]
    obtain ⟨m, hm, ht⟩ := tz_form 64 X c h
    have e1 : IntKind.u64.wrap (-(X : Int)) = ((18446744073709551616 - X : Nat) : Int) := by rw [u64w]; omega
    have e2 : Go.bits .and .u64 (X : Int) ((18446744073709551616 - X : Nat) : Int) = ((2 ^ tzN 64 X : Nat) : Int) := by
      rw [b_and .u64 rfl X (18446744073709551616 - X) h (by show 18446744073709551616 - X < 18446744073709551616; omega)]
      congr 1
      have := and_neg (tzN 64 X) 64 m (by rw [← hm]; exact h)
      rw [← hm] at this
      exact this
    have e3 : tzI (X : Int) = ((2 ^ tzN 64 X * 285870213051353865 % 18446744073709551616 / 288230376151711744 : Nat) : Int) := by
      unfold tzI
      rw [e1, e2, u64w, show ((2 ^ tzN 64 X : Nat) : Int) * 285870213051353865 = ((2 ^ tzN 64 X * 285870213051353865 : Nat) : Int) from (Int.natCast_mul _ _).symm]
      generalize 2 ^ tzN 64 X * 285870213051353865 = y
      omega
    rw [e3]
    have := tz_tab ⟨tzN 64 X, ht⟩
    simp only at this
    rw [this]
theorem tzN_le : ∀ (f x : Nat), tzN f x ≤ f
  | 0, _ => Nat.le_refl _
  | f + 1, x => by
    rw [tzN]
    split
    · have := tzN_le f (x / 2); omega
    · omega

/-! ## section hash -/
theorem ish_l0 (s : ByteArray) : ∀ (k : Nat) (h : Int) (i : Int), 0 ≤ i → impl_Hash.l0 k s h s.size i = spec_Hash.l0 k s h i := by
  intro k
  induction k with
  | zero => intros; rfl
  | succ k ih =>
    intro h i h0
    rw [impl_Hash.l0, spec_Hash.l0]
    by_cases c : i < (s.size : Int)
    · rw [if_pos c, if_pos c, if_pos h0, if_pos h0, if_pos c]
      by_cases c2 : 0 ≤ wrap64 (i + 1)
      · rw [ih _ _ c2]
      · cases k with
        | zero => rfl
        | succ k =>
          rw [impl_Hash.l0, spec_Hash.l0, if_neg c2, if_neg c2]
    · rw [if_neg c, if_neg c]
theorem sh_l0 (s : ByteArray) (hs : s.size ≤ 140737488351232) : ∀ (d k i : Nat) (h : Int), i ≤ s.size → s.size - i = d → d < k → ∃ r, spec_Hash.l0 k s h i = some r ∧ 0 ≤ r ∧ r < 18446744073709551616 := by
  intro d
  induction d with
  | zero =>
    intro k i h h1 h2 hk
    obtain ⟨k, rfl⟩ : ∃ m, k = m + 1 := ⟨k - 1, by omega⟩
    rw [spec_Hash.l0, if_neg (by omega)]
    refine ⟨_, rfl, ?_⟩
    exact bits_range .u64 rfl .xor _ _
  | succ d ih =>
    intro k i h h1 h2 hk
    obtain ⟨k, rfl⟩ : ∃ m, k = m + 1 := ⟨k - 1, by omega⟩
    rw [spec_Hash.l0, if_pos (by omega), if_pos (by omega), w64s (n := s.size) (by omega) hs]
    exact ih k (i + 1) _ (by omega) (by omega) (by omega)
/-- the hash of a text, as a natural number -/
def hsh (seed : Int) (s : ByteArray) : Nat := ((spec_Hash.f (s.size + 1) seed s).getD 0).toNat
theorem shash (seed : Int) (s : ByteArray) (hs : s.size ≤ 140737488351232) (k : Nat) (hk : s.size < k) : spec_Hash.f k seed s = some (hsh seed s : Int) := by
  obtain ⟨r, hr, h0, h1⟩ := sh_l0 s hs s.size (s.size + 1) 0 (Go.bits .xor .u64 14695981039346656037 (IntKind.u64.wrap ((IntKind.u64.wrap (seed)) * 11400714819323198485))) (by omega) (by omega) (by omega)
  have e : spec_Hash.f (s.size + 1) seed s = some r := hr
  rw [hsh, e]
  simp only [Option.getD_some]
  rw [Int.toNat_of_nonneg h0]
  exact at_rounds (fun j => spec_Hash.mono seed s j) hk e
theorem hsh_lt (seed : Int) (s : ByteArray) (hs : s.size ≤ 140737488351232) : hsh seed s < 18446744073709551616 := by
  obtain ⟨r, hr, h0, h1⟩ := sh_l0 s hs s.size (s.size + 1) 0 (Go.bits .xor .u64 14695981039346656037 (IntKind.u64.wrap ((IntKind.u64.wrap (seed)) * 11400714819323198485))) (by omega) (by omega) (by omega)
  have e : spec_Hash.f (s.size + 1) seed s = some r := hr
  rw [hsh, e]
  simp only [Option.getD_some]
  omega
theorem ihash (seed : Int) (s : ByteArray) (hs : s.size ≤ 140737488351232) (k : Nat) (hk : s.size < k) : impl_Hash.f k seed s = some (hsh seed s : Int) := by
  rw [← shash seed s hs k hk]
  exact ish_l0 s k _ 0 (by omega)

/-! ## section hllok -/
def hokB (s : ByteArray) : Bool := decide (s.size = 64) && (nb s).all (fun b => decide (b ≤ 58))
theorem iho_l0 (s : ByteArray) (hs : s.size ≤ 140737488351232) : ∀ (d k i : Nat), i ≤ s.size → s.size - i = d → d < k → impl_HllOk.l0 k s s.size i = some (((nb s).drop i).all (fun b => decide (b ≤ 58)) && decide (s.size = 64)) := by
  intro d
  induction d with
  | zero =>
    intro k i h1 h2 hk
    obtain ⟨k, rfl⟩ : ∃ m, k = m + 1 := ⟨k - 1, by omega⟩
    rw [impl_HllOk.l0, if_neg (by omega), nb_end s i (by omega)]
    have e : ((s.size : Int) == 64) = decide (s.size = 64) := by rw [Bool.eq_iff_iff]; simp; omega
    rw [e]; simp
  | succ d ih =>
    intro k i h1 h2 hk
    obtain ⟨k, rfl⟩ : ∃ m, k = m + 1 := ⟨k - 1, by omega⟩
    obtain ⟨b, hd, hb, hl⟩ := nb_drop s i (by omega)
    rw [impl_HllOk.l0, if_pos (by omega), if_pos (by omega), if_pos (by omega), hb, hd, w64s (n := s.size) (by omega) hs]
    by_cases c : b ≤ 58
    · rw [if_neg (by omega), ih k (i + 1) (by omega) (by omega) (by omega)]
      simp [c]
    · rw [if_pos (by omega)]
      simp [c]
theorem iho (s : ByteArray) (hs : s.size ≤ 140737488351232) (k : Nat) (hk : s.size < k) : impl_HllOk.f k s = some (hokB s) := by
  unfold impl_HllOk.f
  rw [show (0 : Int) = ((0 : Nat) : Int) from rfl, iho_l0 s hs s.size k 0 (by omega) (by omega) hk]
  simp [hokB, Bool.and_comm]
theorem sho_l0 (s : ByteArray) (hs : s.size ≤ 140737488351232) : ∀ (d k i : Nat), i ≤ s.size → s.size - i = d → d < k → spec_HllOk.l0 k s i = some (((nb s).drop i).all (fun b => decide (b ≤ 58))) := by
  intro d
  induction d with
  | zero =>
    intro k i h1 h2 hk
    obtain ⟨k, rfl⟩ : ∃ m, k = m + 1 := ⟨k - 1, by omega⟩
    rw [spec_HllOk.l0, if_neg (by omega), nb_end s i (by omega)]
    simp
  | succ d ih =>
    intro k i h1 h2 hk
    obtain ⟨k, rfl⟩ : ∃ m, k = m + 1 := ⟨k - 1, by omega⟩
    obtain ⟨b, hd, hb, hl⟩ := nb_drop s i (by omega)
    rw [spec_HllOk.l0, if_pos (by omega), if_pos (by omega), hb, hd, w64s (n := s.size) (by omega) hs]
    by_cases c : b ≤ 58
    · rw [if_neg (by omega), ih k (i + 1) (by omega) (by omega) (by omega)]
      simp [c]
    · rw [if_pos (by omega)]
      simp [c]
theorem sho (s : ByteArray) (hs : s.size ≤ 140737488351232) (k : Nat) (hk : s.size < k) : spec_HllOk.f k s = some (hokB s) := by
  unfold spec_HllOk.f
  by_cases c : s.size = 64
  · rw [if_pos (by omega), show (0 : Int) = ((0 : Nat) : Int) from rfl, sho_l0 s hs s.size k 0 (by omega) (by omega) hk]
    simp [hokB, c]
  · rw [if_neg (by omega)]
    simp [hokB, c]

/-! ## section isuser -/
def userB (s : ByteArray) : Bool := decide (1 ≤ s.size ∧ s.size ≤ 40)
theorem iuser (s : ByteArray) : impl_isUser.f s = some (userB s) := by
  unfold impl_isUser.f userB
  split
  · congr 1; rw [decide_eq_decide]; omega
  · congr 1; symm; rw [decide_eq_false_iff_not]; omega
theorem suser (s : ByteArray) : spec_l2User.f s = some (userB s) := by
  unfold spec_l2User.f userB
  split
  · congr 1; rw [decide_eq_decide]; omega
  · congr 1; symm; rw [decide_eq_false_iff_not]; omega

/-! ## section hlladd -/
theorem set_own (l : List Int) (i : Nat) : l.set i (rd l (i : Int)) = l := by
  unfold rd
  rw [Int.toNat_natCast]
  apply List.ext_getElem?
  intro j
  by_cases h : i = j
  · subst h
    by_cases c : i < l.length
    · rw [List.getElem?_set_self c, List.getD_eq_getElem?_getD, List.getElem?_eq_getElem c]; rfl
    · rw [List.getElem?_eq_none (by rw [List.length_set]; omega), List.getElem?_eq_none (by omega)]
  · rw [List.getElem?_set_ne h]
theorem hok64 {s : ByteArray} (h : hokB s = true) : s.size = 64 := by
  simp only [hokB, Bool.and_eq_true, decide_eq_true_eq] at h
  exact h.1
/-- the place and the rank of a user -/
def hP (u : ByteArray) : Nat := hsh 7 u % 64
def hR (u : ByteArray) : Nat := min (1 + tzN 64 (hsh 7 u / 64)) 58
theorem hP_lt (u : ByteArray) : hP u < 64 := Nat.mod_lt _ (by decide)
/-- registers with a user more, as bytes -/
def hAddL (l : List Int) (p r : Nat) : List Int := if rd l (p : Int) < (r : Int) then l.set p (r : Int) else l
def hAdd (h u : ByteArray) : ByteArray := if hokB h = true ∧ userB u = true then strOfNums (hAddL (bytesOf h) (hP u) (hR u)) else ⟨#[]⟩
theorem sha_l0 (s : ByteArray) (hs : s.size = 64) (p : Nat) (hp : p < 64) : ∀ (d f k r X : Nat), r + d = 58 → d ≤ f → d < k → X < 18446744073709551616 → spec_HllAdd.l0 k s X p r = some (strOfNums (hAddL (bytesOf s) p (min (r + tzN f X) 58))) := by
  have hl : (bytesOf s).length = 64 := by rw [bytesOf_length, hs]
  have ew : wrap64 (rd (bytesOf s) (p : Int)) = rd (bytesOf s) (p : Int) := by
    rw [rd_bytesOf]
    have := bt_range s (p : Int)
    generalize bt s (p : Int) = x at this
    exact w64 (by omega) (by omega)
  have stop : ∀ r : Nat, r ≤ 58 → (if s.size ≤ 140737488355328 then ((some (bytesOf s : List Int)).bind fun y104 => (if 0 ≤ (p : Int) then (if (p : Int) < (y104.length : Int) then (if (wrap64 (rd y104 (p : Int))) < (r : Int) then (some (strOfNums (y104.set ((p : Int) : Int).toNat (((r : Int)) % 256)))) else (some (strOfNums y104))) else (none)) else (none))) else (none)) = some (strOfNums (hAddL (bytesOf s) p r)) := by
    intro r hr
    rw [if_pos (by omega), Option.bind_some, if_pos (by omega), hl, if_pos (by omega), ew, Int.toNat_natCast, show ((r : Int)) % 256 = (r : Int) by omega]
    unfold hAddL
    split <;> rfl
  intro d
  induction d with
  | zero =>
    intro f k r X h1 hf hk hX
    obtain ⟨k, rfl⟩ : ∃ j, k = j + 1 := ⟨k - 1, by omega⟩
    rw [spec_HllAdd.l0, if_neg (by omega), stop r (by omega), show min (r + tzN f X) 58 = r by omega]
  | succ d ih =>
    intro f k r X h1 hf hk hX
    obtain ⟨k, rfl⟩ : ∃ j, k = j + 1 := ⟨k - 1, by omega⟩
    obtain ⟨f, rfl⟩ : ∃ j, f = j + 1 := ⟨f - 1, by omega⟩
    have e2 : Int.tmod (X : Int) 2 = ((X % 2 : Nat) : Int) := by rw [Int.tmod_eq_emod_of_nonneg (by omega)]; omega
    have e3 : IntKind.u64.wrap (Int.tdiv (X : Int) 2) = ((X / 2 : Nat) : Int) := by rw [Int.tdiv_eq_ediv_of_nonneg (by omega), u64w]; omega
    rw [spec_HllAdd.l0, if_pos (show (r : Int) < 58 by clear e2 e3 ew stop; omega), e2, e3, tzN]
    clear e2 e3
    by_cases c : X % 2 = 0
    · rw [if_pos (show ((X % 2 : Nat) : Int) = 0 by rw [c]; rfl), if_pos c, w64s (n := 100) (by omega) (by omega), ih f k (r + 1) (X / 2) (by omega) (by omega) (by omega) (by omega), show r + (1 + tzN f (X / 2)) = r + 1 + tzN f (X / 2) by omega]
    · rw [if_neg (show ¬ ((X % 2 : Nat) : Int) = 0 by clear stop ew; omega), if_neg c, stop r (by clear stop ew; omega), Nat.add_zero, show min r 58 = r by clear stop ew; omega]
theorem shadd (h u : ByteArray) (hh : h.size ≤ 140737488351232) (hu : u.size ≤ 140737488351232) (k : Nat) (hk : h.size + u.size + 100 < k) : spec_HllAdd.f k h u = some (hAdd h u) := by
  obtain ⟨k, rfl⟩ : ∃ j, k = j + 1 := ⟨k - 1, by omega⟩
  have jt : spec_HllAdd.j0 (k + 1) h u true = some ⟨#[]⟩ := by rw [spec_HllAdd.j0, if_pos rfl]
  unfold spec_HllAdd.f hAdd
  rw [sho h hh _ (by omega), Option.bind_some]
  by_cases g : hokB h = true
  · rw [if_pos g, suser, Option.bind_some]
    by_cases q : userB u = true
    · rw [if_pos ⟨g, q⟩, q, Bool.not_true, spec_HllAdd.j0, if_neg (by decide), shash 7 u hu k (by omega), Option.bind_some]
      have hlt := hsh_lt 7 u hu
      unfold hP hR
      generalize hsh 7 u = t at hlt
      have e1 : IntKind.u64.wrap (Int.tdiv (t : Int) 64) = ((t / 64 : Nat) : Int) := by rw [Int.tdiv_eq_ediv_of_nonneg (by omega), u64w]; omega
      have e2 : Int.tmod (t : Int) 64 = ((t % 64 : Nat) : Int) := by rw [Int.tmod_eq_emod_of_nonneg (by omega)]; omega
      rw [e1, e2]
      clear e1 e2
      exact sha_l0 h (hok64 g) (t % 64) (by omega) 57 64 k 1 (t / 64) (by omega) (by omega) (by omega) (by omega)
    · have q' : userB u = false := by simpa using q
      rw [if_neg (fun z => q z.2), q', Bool.not_false, jt]
  · rw [if_neg g, if_neg (fun z => g z.1), jt]
theorem ihadd (h u : ByteArray) (hh : h.size ≤ 140737488351232) (hu : u.size ≤ 140737488351232) (k : Nat) (hk : h.size + u.size + 100 < k) : impl_HllAdd.f k h u = some (hAdd h u) := by
  obtain ⟨k, rfl⟩ : ∃ j, k = j + 1 := ⟨k - 1, by omega⟩
  have jt : impl_HllAdd.j0 (k + 1) h u true = some ⟨#[]⟩ := by rw [impl_HllAdd.j0, if_pos rfl]
  unfold impl_HllAdd.f hAdd
  rw [iho h hh _ (by omega), Option.bind_some]
  by_cases g : hokB h = true
  · rw [if_pos g, iuser, Option.bind_some]
    by_cases q : userB u = true
    · have h64 := hok64 g
      rw [if_pos ⟨g, q⟩, q, Bool.not_true, impl_HllAdd.j0, if_neg (by decide), ihash 7 u hu k (by omega), Option.bind_some]
      have hlt := hsh_lt 7 u hu
      unfold hP hR
      generalize hsh 7 u = t at hlt
      have e1 : IntKind.u64.wrap (Int.tdiv (t : Int) 64) = ((t / 64 : Nat) : Int) := by rw [Int.tdiv_eq_ediv_of_nonneg (by omega), u64w]; omega
      have e2 : Int.tmod (t : Int) 64 = ((t % 64 : Nat) : Int) := by rw [Int.tmod_eq_emod_of_nonneg (by omega)]; omega
      rw [e1, e2]
      clear e1 e2
      have hl : (bytesOf h).length = 64 := by rw [bytesOf_length, h64]
      rw [if_pos (by omega), Option.bind_some, if_pos (by omega), hl, if_pos (by omega), itz _ (by omega), Option.bind_some, Int.toNat_natCast]
      have ht : tzN 64 (t / 64) ≤ 64 := tzN_le 64 _
      generalize tzN 64 (t / 64) = z at ht
      have e3 : (mn (wrap64 (1 + (z : Int))) 58) % 256 = ((min (1 + z) 58 : Nat) : Int) := by
        rw [w64 (by omega) (by omega)]
        unfold mn
        split <;> omega
      rw [e3]
      clear e3
      generalize min (1 + z) 58 = r
      congr 2
      unfold hAddL mx
      split
      · rfl
      · rw [set_own]
    · have q' : userB u = false := by simpa using q
      rw [if_neg (fun z => q z.2), q', Bool.not_false, jt]
  · rw [if_neg g, if_neg (fun z => g z.1), jt]

theorem FnExactHllAdd : laws_FnExactHllAdd.Pure := by
  intro a b ha hb
  refine ⟨a.size + b.size + 200, ?_⟩
  unfold laws_FnExactHllAdd.f
  by_cases h1 : (a.size : Int) > 1048576
  · rw [if_pos h1]
  · rw [if_neg h1]
    by_cases h2 : (b.size : Int) > 1048576
    · rw [if_pos h2]
    · rw [if_neg h2, shadd a b ha hb _ (by omega), ihadd a b ha hb _ (by omega)]
      simp only [Option.bind_some]
      rw [if_pos trivial]

end Go.Proofs.YtfcjacncllmapaaDoor.Pure
