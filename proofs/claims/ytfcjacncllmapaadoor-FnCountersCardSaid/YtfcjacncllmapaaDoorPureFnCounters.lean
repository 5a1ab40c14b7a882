/- Registers of two lists put together are those of both lists, in either order; those of a list twice are those of the list: at every code. Condition: the table of math/bits holds what the program's text lays (the card ties it). -/
import Derived.Test.YtfcjacncllmapaaDoorQFnCountersx
namespace Go.Proofs.YtfcjacncllmapaaDoor.Pure
open Go.RowKit Go.Proofs.YtfcjacncllmapaaDoor.QFnCounters Go.Proofs.YtfcjacncllmapaaDoorW.PrintWords Go.Proofs.YtfcjacncllmapaaDoorW.PrintLast Go.Proofs.YtfcjacncllmapaaDoorW.PrintMore
set_option linter.unusedVariables false
set_option linter.unusedSimpArgs false

/-! ## section base -/
/-- an unsigned kind's number that fits is not wrapped -/
theorem wrapU (k : IntKind) (hs : k.signed = false) (n : Nat) (h : n < 2 ^ k.bits) : k.wrap (n : Int) = n := by
  unfold IntKind.wrap
  rw [Int.emod_eq_of_lt (by omega) (by exact_mod_cast h)]
  simp [hs]
/-- bits of unsigned numbers are those of natural numbers -/
theorem b_or (k : IntKind) (hs : k.signed = false) (a b : Nat) (ha : a < 2 ^ k.bits) (hb : b < 2 ^ k.bits) : Go.bits .or k a b = ((a ||| b : Nat) : Int) := by
  simp only [Go.bits, BitVec.ofInt_natCast, BitVec.toNat_or, BitVec.toNat_ofNat, Nat.mod_eq_of_lt ha, Nat.mod_eq_of_lt hb]
  exact wrapU k hs _ (Nat.or_lt_two_pow ha hb)
theorem b_xor (k : IntKind) (hs : k.signed = false) (a b : Nat) (ha : a < 2 ^ k.bits) (hb : b < 2 ^ k.bits) : Go.bits .xor k a b = ((a ^^^ b : Nat) : Int) := by
  simp only [Go.bits, BitVec.ofInt_natCast, BitVec.toNat_xor, BitVec.toNat_ofNat, Nat.mod_eq_of_lt ha, Nat.mod_eq_of_lt hb]
  exact wrapU k hs _ (Nat.xor_lt_two_pow ha hb)
theorem b_and (k : IntKind) (hs : k.signed = false) (a b : Nat) (ha : a < 2 ^ k.bits) (hb : b < 2 ^ k.bits) : Go.bits .and k a b = ((a &&& b : Nat) : Int) := by
  simp only [Go.bits, BitVec.ofInt_natCast, BitVec.toNat_and, BitVec.toNat_ofNat, Nat.mod_eq_of_lt ha, Nat.mod_eq_of_lt hb]
  exact wrapU k hs _ (Nat.and_lt_two_pow _ hb)
theorem b_or8 (a b : Nat) (ha : a < 256) (hb : b < 256) : Go.bits .or .u8 a b = ((a ||| b : Nat) : Int) := b_or .u8 rfl a b ha hb
theorem u64w (x : Int) : IntKind.u64.wrap x = x % 18446744073709551616 := by simp [IntKind.wrap, IntKind.bits, IntKind.signed]

/-! ## section bytes -/
/-- the bytes of a text, as natural numbers -/
def nb (s : ByteArray) : List Nat := s.data.toList.map UInt8.toNat
theorem nb_length (s : ByteArray) : (nb s).length = s.size := by rw [nb, List.length_map, Array.length_toList]; rfl
theorem nb_lt (s : ByteArray) : ∀ b ∈ nb s, b < 256 := by
  intro b hb
  simp only [nb, List.mem_map] at hb
  obtain ⟨u, _, rfl⟩ := hb
  exact u.toNat_lt
theorem bt_nb (s : ByteArray) (i : Nat) (h : i < s.size) : bt s i = (((nb s)[i]'(by rw [nb_length]; exact h) : Nat) : Int) := by
  simp only [bt, Int.toNat_natCast, h, nb]
  simp
  rfl
theorem nb_drop (s : ByteArray) (i : Nat) (h : i < s.size) : ∃ b, (nb s).drop i = b :: (nb s).drop (i + 1) ∧ bt s i = (b : Int) ∧ b < 256 := by
  have hl : i < (nb s).length := by rw [nb_length]; exact h
  exact ⟨(nb s)[i], List.drop_eq_getElem_cons hl, bt_nb s i h, nb_lt s _ (List.getElem_mem hl)⟩
theorem nb_end (s : ByteArray) (i : Nat) (h : s.size ≤ i) : (nb s).drop i = [] := List.drop_eq_nil_of_le (by rw [nb_length]; exact h)
theorem w64 {x : Int} (h0 : -9223372036854775808 ≤ x) (h1 : x < 9223372036854775808) : wrap64 x = x := by unfold wrap64; omega
theorem w64s {i n : Nat} (h : i < n) (hn : n ≤ 140737488351232) : wrap64 ((i : Int) + 1) = ((i + 1 : Nat) : Int) := by rw [w64] <;> omega
theorem bits_range (k : IntKind) (hs : k.signed = false) (op : BinOp) (x y : Int) : 0 ≤ Go.bits op k x y ∧ Go.bits op k x y < 2 ^ k.bits := by
  have hp : (0 : Int) < 2 ^ k.bits := by exact_mod_cast Nat.two_pow_pos k.bits
  unfold Go.bits IntKind.wrap
  simp only [hs, Bool.false_and]
  exact ⟨Int.emod_nonneg _ (by omega), Int.emod_lt_of_pos _ hp⟩

/-! ## section tz -/
/-- how many zeros stand at the end; f: at the most -/
def tzN : Nat → Nat → Nat
  | 0, _ => 0
  | f + 1, x => if x % 2 = 0 then 1 + tzN f (x / 2) else 0
theorem and_double (a b : Nat) : 2 * a &&& 2 * b = 2 * (a &&& b) := by
  apply Nat.eq_of_testBit_eq
  intro i
  cases i with
  | zero => simp [Nat.testBit_zero]
  | succ i =>
    rw [Nat.testBit_and, Nat.testBit_succ, Nat.testBit_succ, Nat.testBit_succ, show 2 * a / 2 = a by omega, show 2 * b / 2 = b by omega, show 2 * (a &&& b) / 2 = a &&& b by omega, Nat.testBit_and]
theorem and_compl (m K : Nat) (h : m < 2 ^ K) : m &&& (2 ^ K - (m + 1)) = 0 := by
  apply Nat.eq_of_testBit_eq
  intro i
  rw [Nat.testBit_and, Nat.testBit_two_pow_sub_succ h, Nat.zero_testBit]
  cases m.testBit i <;> simp
theorem and_neg : ∀ (t N m : Nat), 2 ^ t * (2 * m + 1) < 2 ^ N → (2 ^ t * (2 * m + 1)) &&& (2 ^ N - 2 ^ t * (2 * m + 1)) = 2 ^ t
  | 0, N, m, h => by
    rw [Nat.pow_zero, Nat.one_mul] at *
    obtain ⟨K, rfl⟩ : ∃ K, N = K + 1 := ⟨N - 1, by cases N with | zero => simp at h | succ n => rfl⟩
    rw [Nat.pow_succ] at *
    have hm : m < 2 ^ K := by omega
    have e := and_compl m K hm
    apply Nat.eq_of_testBit_eq
    intro i
    cases i with
    | zero =>
      rw [Nat.testBit_and, Nat.testBit_zero, Nat.testBit_zero, Nat.testBit_zero]
      have h1 : (2 * m + 1) % 2 = 1 := by omega
      have h2 : (2 ^ K * 2 - (2 * m + 1)) % 2 = 1 := by omega
      rw [h1, h2]; rfl
    | succ i =>
      rw [Nat.testBit_and, Nat.testBit_succ, Nat.testBit_succ, Nat.testBit_succ, show (2 * m + 1) / 2 = m by omega, show (2 ^ K * 2 - (2 * m + 1)) / 2 = 2 ^ K - (m + 1) by omega, ← Nat.testBit_and, e]
  | t + 1, N, m, h => by
    obtain ⟨K, rfl⟩ : ∃ K, N = K + 1 := ⟨N - 1, by
      cases N with
      | zero => have := Nat.two_pow_pos (t + 1); have : 1 ≤ 2 ^ (t + 1) * (2 * m + 1) := Nat.mul_pos this (by omega); exfalso; rw [Nat.pow_zero] at h; omega
      | succ n => rfl⟩
    have e1 : 2 ^ (t + 1) * (2 * m + 1) = 2 * (2 ^ t * (2 * m + 1)) := by rw [Nat.pow_succ, Nat.mul_comm (2 ^ t) 2, Nat.mul_assoc]
    rw [e1] at h ⊢
    rw [Nat.pow_succ] at h ⊢
    have ih := and_neg t K m (by omega)
    generalize 2 ^ t * (2 * m + 1) = y at *
    rw [show 2 ^ K * 2 - 2 * y = 2 * (2 ^ K - y) by omega, and_double, ih, Nat.pow_succ, Nat.mul_comm]
theorem tz_form : ∀ (f x : Nat), x ≠ 0 → x < 2 ^ f → ∃ m, x = 2 ^ tzN f x * (2 * m + 1) ∧ tzN f x < f
  | 0, x, h0, h => by simp at h; exact absurd h h0
  | f + 1, x, h0, h => by
    rw [tzN]
    by_cases c : x % 2 = 0
    · rw [if_pos c]
      rw [Nat.pow_succ] at h
      obtain ⟨m, hm, ht⟩ := tz_form f (x / 2) (by omega) (by omega)
      refine ⟨m, ?_, by omega⟩
      rw [Nat.pow_add, Nat.pow_one, Nat.mul_assoc, ← hm]
      omega
    · rw [if_neg c]
      exact ⟨x / 2, by rw [Nat.pow_zero]; omega, by omega⟩
theorem tz_tab : ∀ t : Fin 64, rd tabG (((2 ^ t.val * 285870213051353865 % 18446744073709551616 / 288230376151711744 : Nat) : Int)) = (t.val : Int) := by decide
theorem itz (X : Nat) (h : X < 18446744073709551616) : bits_TrailingZeros64.f (X : Int) = some ((tzN 64 X : Nat) : Int) := by
  unfold bits_TrailingZeros64.f
  by_cases c : X = 0
  · subst c
    rw [if_pos (show ((0 : Nat) : Int) = 0 from rfl)]
    rfl
  · rw [if_neg (by omega)]
    obtain ⟨m, hm, ht⟩ := tz_form 64 X c h
    have e1 : IntKind.u64.wrap (-(X : Int)) = ((18446744073709551616 - X : Nat) : Int) := by rw [u64w]; omega
    have e2 : Go.bits .and .u64 (X : Int) ((18446744073709551616 - X : Nat) : Int) = ((2 ^ tzN 64 X : Nat) : Int) := by
      rw [b_and .u64 rfl X (18446744073709551616 - X) h (by show 18446744073709551616 - X < 18446744073709551616; omega)]
      congr 1
      have := and_neg (tzN 64 X) 64 m (by rw [← hm]; exact h)
      rw [← hm] at this
      exact this
    have e3 : tzI (X : Int) = ((2 ^ tzN 64 X * 285870213051353865 % 18446744073709551616 / 288230376151711744 : Nat) : Int) := by
      unfold tzI
      rw [e1, e2, u64w, show ((2 ^ tzN 64 X : Nat) : Int) * 285870213051353865 = ((2 ^ tzN 64 X * 285870213051353865 : Nat) : Int) from (Int.natCast_mul _ _).symm]
      generalize 2 ^ tzN 64 X * 285870213051353865 = y
      omega
    rw [e3]
    have := tz_tab ⟨tzN 64 X, ht⟩
    simp only at this
    rw [this]
theorem tzN_le : ∀ (f x : Nat), tzN f x ≤ f
  | 0, _ => Nat.le_refl _
  | f + 1, x => by
    rw [tzN]
    split
    · have := tzN_le f (x / 2); omega
    · omega

/-! ## section hash -/
theorem ish_l0 (s : ByteArray) : ∀ (k : Nat) (h : Int) (i : Int), 0 ≤ i → impl_Hash.l0 k s h s.size i = spec_Hash.l0 k s h i := by
  intro k
  induction k with
  | zero => intros; rfl
  | succ k ih =>
    intro h i h0
    rw [impl_Hash.l0, spec_Hash.l0]
    by_cases c : i < (s.size : Int)
    · rw [if_pos c, if_pos c, if_pos h0, if_pos h0, if_pos c]
      by_cases c2 : 0 ≤ wrap64 (i + 1)
      · rw [ih _ _ c2]
      · cases k with
        | zero => rfl
        | succ k =>
          rw [impl_Hash.l0, spec_Hash.l0, if_neg c2, if_neg c2]
    · rw [if_neg c, if_neg c]
theorem sh_l0 (s : ByteArray) (hs : s.size ≤ 140737488351232) : ∀ (d k i : Nat) (h : Int), i ≤ s.size → s.size - i = d → d < k → ∃ r, spec_Hash.l0 k s h i = some r ∧ 0 ≤ r ∧ r < 18446744073709551616 := by
  intro d
  induction d with
  | zero =>
    intro k i h h1 h2 hk
    obtain ⟨k, rfl⟩ : ∃ m, k = m + 1 := ⟨k - 1, by omega⟩
    rw [spec_Hash.l0, if_neg (by omega)]
    refine ⟨_, rfl, ?_⟩
    exact bits_range .u64 rfl .xor _ _
  | succ d ih =>
    intro k i h h1 h2 hk
    obtain ⟨k, rfl⟩ : ∃ m, k = m + 1 := ⟨k - 1, by omega⟩
    rw [spec_Hash.l0, if_pos (by omega), if_pos (by omega), w64s (n := s.size) (by omega) hs]
    exact ih k (i + 1) _ (by omega) (by omega) (by omega)
/-- the hash of a text, as a natural number -/
def hsh (seed : Int) (s : ByteArray) : Nat := ((spec_Hash.f (s.size + 1) seed s).getD 0).toNat
theorem shash (seed : Int) (s : ByteArray) (hs : s.size ≤ 140737488351232) (k : Nat) (hk : s.size < k) : spec_Hash.f k seed s = some (hsh seed s : Int) := by
  obtain ⟨r, hr, h0, h1⟩ := sh_l0 s hs s.size (s.size + 1) 0 (Go.bits .xor .u64 14695981039346656037 (IntKind.u64.wrap ((IntKind.u64.wrap (seed)) * 11400714819323198485))) (by omega) (by omega) (by omega)
  have e : spec_Hash.f (s.size + 1) seed s = some r := hr
  rw [hsh, e]
  simp only [Option.getD_some]
  rw [Int.toNat_of_nonneg h0]
  exact at_rounds (fun j => spec_Hash.mono seed s j) hk e
theorem hsh_lt (seed : Int) (s : ByteArray) (hs : s.size ≤ 140737488351232) : hsh seed s < 18446744073709551616 := by
  obtain ⟨r, hr, h0, h1⟩ := sh_l0 s hs s.size (s.size + 1) 0 (Go.bits .xor .u64 14695981039346656037 (IntKind.u64.wrap ((IntKind.u64.wrap (seed)) * 11400714819323198485))) (by omega) (by omega) (by omega)
  have e : spec_Hash.f (s.size + 1) seed s = some r := hr
  rw [hsh, e]
  simp only [Option.getD_some]
  omega
theorem ihash (seed : Int) (s : ByteArray) (hs : s.size ≤ 140737488351232) (k : Nat) (hk : s.size < k) : impl_Hash.f k seed s = some (hsh seed s : Int) := by
  rw [← shash seed s hs k hk]
  exact ish_l0 s k _ 0 (by omega)

/-! ## section hllok -/
def hokB (s : ByteArray) : Bool := decide (s.size = 64) && (nb s).all (fun b => decide (b ≤ 58))
theorem iho_l0 (s : ByteArray) (hs : s.size ≤ 140737488351232) : ∀ (d k i : Nat), i ≤ s.size → s.size - i = d → d < k → impl_HllOk.l0 k s s.size i = some (((nb s).drop i).all (fun b => decide (b ≤ 58)) && decide (s.size = 64)) := by
  intro d
  induction d with
  | zero =>
    intro k i h1 h2 hk
    obtain ⟨k, rfl⟩ : ∃ m, k = m + 1 := ⟨k - 1, by omega⟩
    rw [impl_HllOk.l0, if_neg (by omega), nb_end s i (by omega)]
    have e : ((s.size : Int) == 64) = decide (s.size = 64) := by rw [Bool.eq_iff_iff]; simp; omega
    rw [e]; simp
  | succ d ih =>
    intro k i h1 h2 hk
    obtain ⟨k, rfl⟩ : ∃ m, k = m + 1 := ⟨k - 1, by omega⟩
    obtain ⟨b, hd, hb, hl⟩ := nb_drop s i (by omega)
    rw [impl_HllOk.l0, if_pos (by omega), if_pos (by omega), if_pos (by omega), hb, hd, w64s (n := s.size) (by omega) hs]
    by_cases c : b ≤ 58
    · rw [if_neg (by omega), ih k (i + 1) (by omega) (by omega) (by omega)]
      simp [c]
    · rw [if_pos (by omega)]
      simp [c]
theorem iho (s : ByteArray) (hs : s.size ≤ 140737488351232) (k : Nat) (hk : s.size < k) : impl_HllOk.f k s = some (hokB s) := by
  unfold impl_HllOk.f
  rw [show (0 : Int) = ((0 : Nat) : Int) from rfl, iho_l0 s hs s.size k 0 (by omega) (by omega) hk]
  simp [hokB, Bool.and_comm]
theorem sho_l0 (s : ByteArray) (hs : s.size ≤ 140737488351232) : ∀ (d k i : Nat), i ≤ s.size → s.size - i = d → d < k → spec_HllOk.l0 k s i = some (((nb s).drop i).all (fun b => decide (b ≤ 58))) := by
  intro d
  induction d with
  | zero =>
    intro k i h1 h2 hk
    obtain ⟨k, rfl⟩ : ∃ m, k = m + 1 := ⟨k - 1, by omega⟩
    rw [spec_HllOk.l0, if_neg (by omega), nb_end s i (by omega)]
    simp
  | succ d ih =>
    intro k i h1 h2 hk
    obtain ⟨k, rfl⟩ : ∃ m, k = m + 1 := ⟨k - 1, by omega⟩
    obtain ⟨b, hd, hb, hl⟩ := nb_drop s i (by omega)
    rw [spec_HllOk.l0, if_pos (by omega), if_pos (by omega), hb, hd, w64s (n := s.size) (by omega) hs]
    by_cases c : b ≤ 58
    · rw [if_neg (by omega), ih k (i + 1) (by omega) (by omega) (by omega)]
      simp [c]
    · rw [if_pos (by omega)]
      simp [c]
theorem sho (s : ByteArray) (hs : s.size ≤ 140737488351232) (k : Nat) (hk : s.size < k) : spec_HllOk.f k s = some (hokB s) := by
  unfold spec_HllOk.f
  by_cases c : s.size = 64
  · rw [if_pos (by omega), show (0 : Int) = ((0 : Nat) : Int) from rfl, sho_l0 s hs s.size k 0 (by omega) (by omega) hk]
    simp [hokB, c]
  · rw [if_neg (by omega)]
    simp [hokB, c]

/-! ## section isuser -/
def userB (s : ByteArray) : Bool := decide (1 ≤ s.size ∧ s.size ≤ 40)
theorem iuser (s : ByteArray) : impl_isUser.f s = some (userB s) := by
  unfold impl_isUser.f userB
  split
  · congr 1; rw [decide_eq_decide]; omega
  · congr 1; symm; rw [decide_eq_false_iff_not]; omega
theorem suser (s : ByteArray) : spec_l2User.f s = some (userB s) := by
  unfold spec_l2User.f userB
  split
  · congr 1; rw [decide_eq_decide]; omega
  · congr 1; symm; rw [decide_eq_false_iff_not]; omega

/-! ## section hlladd -/
theorem set_own (l : List Int) (i : Nat) : l.set i (rd l (i : Int)) = l := by
  unfold rd
  rw [Int.toNat_natCast]
  apply List.ext_getElem?
  intro j
  by_cases h : i = j
  · subst h
    by_cases c : i < l.length
    · rw [List.getElem?_set_self c, List.getD_eq_getElem?_getD, List.getElem?_eq_getElem c]; rfl
    · rw [List.getElem?_eq_none (by rw [List.length_set]; omega), List.getElem?_eq_none (by omega)]
  · rw [List.getElem?_set_ne h]
theorem hok64 {s : ByteArray} (h : hokB s = true) : s.size = 64 := by
  simp only [hokB, Bool.and_eq_true, decide_eq_true_eq] at h
  exact h.1
/-- the place and the rank of a user -/
def hP (u : ByteArray) : Nat := hsh 7 u % 64
def hR (u : ByteArray) : Nat := min (1 + tzN 64 (hsh 7 u / 64)) 58
theorem hP_lt (u : ByteArray) : hP u < 64 := Nat.mod_lt _ (by decide)
/-- registers with a user more, as bytes -/
def hAddL (l : List Int) (p r : Nat) : List Int := if rd l (p : Int) < (r : Int) then l.set p (r : Int) else l
def hAdd (h u : ByteArray) : ByteArray := if hokB h = true ∧ userB u = true then strOfNums (hAddL (bytesOf h) (hP u) (hR u)) else ⟨#[]⟩
theorem sha_l0 (s : ByteArray) (hs : s.size = 64) (p : Nat) (hp : p < 64) : ∀ (d f k r X : Nat), r + d = 58 → d ≤ f → d < k → X < 18446744073709551616 → spec_HllAdd.l0 k s X p r = some (strOfNums (hAddL (bytesOf s) p (min (r + tzN f X) 58))) := by
  have hl : (bytesOf s).length = 64 := by rw [bytesOf_length, hs]
  have ew : wrap64 (rd (bytesOf s) (p : Int)) = rd (bytesOf s) (p : Int) := by
    rw [rd_bytesOf]
    have := bt_range s (p : Int)
    generalize bt s (p : Int) = x at this
    exact w64 (by omega) (by omega)
  have stop : ∀ r : Nat, r ≤ 58 → (if s.size ≤ 140737488355328 then ((some (bytesOf s : List Int)).bind fun y104 => (if 0 ≤ (p : Int) then (if (p : Int) < (y104.length : Int) then (if (wrap64 (rd y104 (p : Int))) < (r : Int) then (some (strOfNums (y104.set ((p : Int) : Int).toNat (((r : Int)) % 256)))) else (some (strOfNums y104))) else (none)) else (none))) else (none)) = some (strOfNums (hAddL (bytesOf s) p r)) := by
    intro r hr
    rw [if_pos (by omega), Option.bind_some, if_pos (by omega), hl, if_pos (by omega), ew, Int.toNat_natCast, show ((r : Int)) % 256 = (r : Int) by omega]
    unfold hAddL
    split <;> rfl
  intro d
  induction d with
  | zero =>
    intro f k r X h1 hf hk hX
    obtain ⟨k, rfl⟩ : ∃ j, k = j + 1 := ⟨k - 1, by omega⟩
    rw [spec_HllAdd.l0, if_neg (by omega), stop r (by omega), show min (r + tzN f X) 58 = r by omega]
  | succ d ih =>
    intro f k r X h1 hf hk hX
    obtain ⟨k, rfl⟩ : ∃ j, k = j + 1 := ⟨k - 1, by omega⟩
    obtain ⟨f, rfl⟩ : ∃ j, f = j + 1 := ⟨f - 1, by omega⟩
    have e2 : Int.tmod (X : Int) 2 = ((X % 2 : Nat) : Int) := by rw [Int.tmod_eq_emod_of_nonneg (by omega)]; omega
    have e3 : IntKind.u64.wrap (Int.tdiv (X : Int) 2) = ((X / 2 : Nat) : Int) := by rw [Int.tdiv_eq_ediv_of_nonneg (by omega), u64w]; omega
    rw [spec_HllAdd.l0, if_pos (show (r : Int) < 58 by clear e2 e3 ew stop; omega), e2, e3, tzN]
    clear e2 e3
    by_cases c : X % 2 = 0
    · rw [if_pos (show ((X % 2 : Nat) : Int) = 0 by rw [c]; rfl), if_pos c, w64s (n := 100) (by omega) (by omega), ih f k (r + 1) (X / 2) (by omega) (by omega) (by omega) (by omega), show r + (1 + tzN f (X / 2)) = r + 1 + tzN f (X / 2) by omega]
    · rw [if_neg (show ¬ ((X % 2 : Nat) : Int) = 0 by clear stop ew; omega), if_neg c, stop r (by clear stop ew; omega), Nat.add_zero, show min r 58 = r by clear stop ew; omega]
theorem shadd (h u : ByteArray) (hh : h.size ≤ 140737488351232) (hu : u.size ≤ 140737488351232) (k : Nat) (hk : h.size + u.size + 100 < k) : spec_HllAdd.f k h u = some (hAdd h u) := by
  obtain ⟨k, rfl⟩ : ∃ j, k = j + 1 := ⟨k - 1, by omega⟩
  have jt : spec_HllAdd.j0 (k + 1) h u true = some ⟨#[]⟩ := by rw [spec_HllAdd.j0, if_pos rfl]
  unfold spec_HllAdd.f hAdd
  rw [sho h hh _ (by omega), Option.bind_some]
  by_cases g : hokB h = true
  · rw [if_pos g, suser, Option.bind_some]
    by_cases q : userB u = true
    · rw [if_pos ⟨g, q⟩, q, Bool.not_true, spec_HllAdd.j0, if_neg (by decide), shash 7 u hu k (by omega), Option.bind_some]
      have hlt := hsh_lt 7 u hu
      unfold hP hR
      generalize hsh 7 u = t at hlt
      have e1 : IntKind.u64.wrap (Int.tdiv (t : Int) 64) = ((t / 64 : Nat) : Int) := by rw [Int.tdiv_eq_ediv_of_nonneg (by omega), u64w]; omega
      have e2 : Int.tmod (t : Int) 64 = ((t % 64 : Nat) : Int) := by rw [Int.tmod_eq_emod_of_nonneg (by omega)]; omega
      rw [e1, e2]
      clear e1 e2
      exact sha_l0 h (hok64 g) (t % 64) (by omega) 57 64 k 1 (t / 64) (by omega) (by omega) (by omega) (by omega)
    · have q' : userB u = false := by simpa using q
      rw [if_neg (fun z => q z.2), q', Bool.not_false, jt]
  · rw [if_neg g, if_neg (fun z => g z.1), jt]
theorem ihadd (h u : ByteArray) (hh : h.size ≤ 140737488351232) (hu : u.size ≤ 140737488351232) (k : Nat) (hk : h.size + u.size + 100 < k) : impl_HllAdd.f k h u = some (hAdd h u) := by
  obtain ⟨k, rfl⟩ : ∃ j, k = j + 1 := ⟨k - 1, by omega⟩
  have jt : impl_HllAdd.j0 (k + 1) h u true = some ⟨#[]⟩ := by rw [impl_HllAdd.j0, if_pos rfl]
  unfold impl_HllAdd.f hAdd
  rw [iho h hh _ (by omega), Option.bind_some]
  by_cases g : hokB h = true
  · rw [if_pos g, iuser, Option.bind_some]
    by_cases q : userB u = true
    · have h64 := hok64 g
      rw [if_pos ⟨g, q⟩, q, Bool.not_true, impl_HllAdd.j0, if_neg (by decide), ihash 7 u hu k (by omega), Option.bind_some]
      have hlt := hsh_lt 7 u hu
      unfold hP hR
      generalize hsh 7 u = t at hlt
      have e1 : IntKind.u64.wrap (Int.tdiv (t : Int) 64) = ((t / 64 : Nat) : Int) := by rw [Int.tdiv_eq_ediv_of_nonneg (by omega), u64w]; omega
      have e2 : Int.tmod (t : Int) 64 = ((t % 64 : Nat) : Int) := by rw [Int.tmod_eq_emod_of_nonneg (by omega)]; omega
      rw [e1, e2]
      clear e1 e2
      have hl : (bytesOf h).length = 64 := by rw [bytesOf_length, h64]
      rw [if_pos (by omega), Option.bind_some, if_pos (by omega), hl, if_pos (by omega), itz _ (by omega), Option.bind_some, Int.toNat_natCast]
      have ht : tzN 64 (t / 64) ≤ 64 := tzN_le 64 _
      generalize tzN 64 (t / 64) = z at ht
      have e3 : (mn (wrap64 (1 + (z : Int))) 58) % 256 = ((min (1 + z) 58 : Nat) : Int) := by
        rw [w64 (by omega) (by omega)]
        unfold mn
        split <;> omega
      rw [e3]
      clear e3
      generalize min (1 + z) 58 = r
      congr 2
      unfold hAddL mx
      split
      · rfl
      · rw [set_own]
    · have q' : userB u = false := by simpa using q
      rw [if_neg (fun z => q z.2), q', Bool.not_false, jt]
  · rw [if_neg g, if_neg (fun z => g z.1), jt]

/-! ## section ba -/
theorem nb_append (a b : ByteArray) : nb (a ++ b) = nb a ++ nb b := by
  simp [nb, ByteArray.data_append]
theorem nb_extract (s : ByteArray) (i j : Nat) : nb (s.extract i j) = ((nb s).take j).drop i := by
  rw [List.drop_take]
  simp [nb, ByteArray.data_extract]
theorem nb_inj {a b : ByteArray} (h : nb a = nb b) : a = b := by
  have h1 : a.data.toList = b.data.toList := by
    have h2 : ∀ (l m : List UInt8), l.map UInt8.toNat = m.map UInt8.toNat → l = m := by
      intro l
      induction l with
      | nil => intro m h; cases m with
        | nil => rfl
        | cons y m => simp at h
      | cons x l ih => intro m h; cases m with
        | nil => simp at h
        | cons y m =>
          simp only [List.map_cons, List.cons.injEq] at h
          rw [UInt8.toNat_inj.1 h.1, ih m h.2]
    exact h2 _ _ h
  cases a; cases b; simp_all
theorem nb_nums (l : List Int) (h : ∀ x ∈ l, 0 ≤ x ∧ x < 256) : nb (strOfNums l) = l.map Int.toNat := by
  simp only [nb, strOfNums, List.map_map]
  apply List.map_congr_left
  intro x hx
  have := h x hx
  simp only [Function.comp]
  rw [UInt8.toNat_ofNat']
  exact Nat.mod_eq_of_lt (by omega)
theorem nb_empty : nb (⟨#[]⟩ : ByteArray) = [] := rfl
theorem bsize_append (a b : ByteArray) : (a ++ b).size = a.size + b.size := ByteArray.size_append

/-! ## section strs -/
theorem rds_drop (l : List ByteArray) (i : Nat) (h : i < l.length) : ∃ u, l.drop i = u :: l.drop (i + 1) ∧ rdOf ByteArray.empty l (i : Int) = u ∧ u ∈ l := by
  refine ⟨l[i], List.drop_eq_getElem_cons h, ?_, List.getElem_mem h⟩
  unfold rdOf
  rw [Int.toNat_natCast, List.getD_eq_getElem?_getD, List.getElem?_eq_getElem h]; rfl

/-! ## section usersok -/
/-- users are right: at most 400, each of 1 to 40 bytes -/
def usersB (l : List ByteArray) : Bool := decide (l.length ≤ 400) && l.all userB
theorem iuo_l0 (l : List ByteArray) (hl : l.length ≤ 1048576) : ∀ (d k i : Nat), i ≤ l.length → l.length - i = d → d < k → impl_UsersOk.l0 k l l.length i = some ((l.drop i).all userB) := by
  intro d
  induction d with
  | zero =>
    intro k i h1 h2 hk
    obtain ⟨k, rfl⟩ : ∃ m, k = m + 1 := ⟨k - 1, by omega⟩
    rw [impl_UsersOk.l0, if_neg (by omega), List.drop_eq_nil_of_le (by omega)]; rfl
  | succ d ih =>
    intro k i h1 h2 hk
    obtain ⟨k, rfl⟩ : ∃ m, k = m + 1 := ⟨k - 1, by omega⟩
    obtain ⟨u, hd, hu, hm⟩ := rds_drop l i (by omega)
    rw [impl_UsersOk.l0, if_pos (by omega), if_pos (by omega), if_pos (by omega), hu, iuser, hd]
    simp only [Option.bind_some, List.all_cons]
    cases userB u
    · rfl
    · rw [if_pos rfl, w64s (n := l.length) (by omega) (by omega), ih k (i + 1) (by omega) (by omega) (by omega)]; rfl
theorem iuo (l : List ByteArray) (hl : l.length ≤ 1048576) (k : Nat) (hk : l.length < k) : impl_UsersOk.f k l = some (usersB l) := by
  unfold impl_UsersOk.f usersB
  by_cases c : l.length ≤ 400
  · rw [if_neg (by omega)]
    have h := iuo_l0 l hl l.length k 0 (by omega) (by omega) hk
    simpa [c] using h
  · rw [if_pos (by omega)]; simp [c]
theorem suo_l0 (l : List ByteArray) (hl : l.length ≤ 1048576) : ∀ (d k i : Nat), i ≤ l.length → l.length - i = d → d < k → spec_UsersOk.l0 k l i = some ((l.drop i).all userB) := by
  intro d
  induction d with
  | zero =>
    intro k i h1 h2 hk
    obtain ⟨k, rfl⟩ : ∃ m, k = m + 1 := ⟨k - 1, by omega⟩
    rw [spec_UsersOk.l0, if_neg (by omega), List.drop_eq_nil_of_le (by omega)]; rfl
  | succ d ih =>
    intro k i h1 h2 hk
    obtain ⟨k, rfl⟩ : ∃ m, k = m + 1 := ⟨k - 1, by omega⟩
    obtain ⟨u, hd, hu, hm⟩ := rds_drop l i (by omega)
    rw [spec_UsersOk.l0, if_pos (by omega), if_pos (by omega), hu, suser, hd]
    simp only [Option.bind_some, List.all_cons]
    cases userB u
    · rfl
    · rw [if_pos rfl, w64s (n := l.length) (by omega) (by omega), ih k (i + 1) (by omega) (by omega) (by omega)]; rfl
theorem suo (l : List ByteArray) (hl : l.length ≤ 1048576) (k : Nat) (hk : l.length < k) : spec_UsersOk.f k l = some (usersB l) := by
  unfold spec_UsersOk.f usersB
  by_cases c : l.length ≤ 400
  · rw [if_neg (by omega)]
    have h := suo_l0 l hl l.length k 0 (by omega) (by omega) hk
    simpa [c] using h
  · rw [if_pos (by omega)]; simp [c]

/-! ## section hllof -/
/-- registers as a row of bytes -/
def Tg (g : Nat → Nat) : List Int := (List.range 64).map (fun q => ((g q : Nat) : Int))
theorem Tg_len (g : Nat → Nat) : (Tg g).length = 64 := by simp [Tg]
theorem Tg_get (g : Nat → Nat) (q : Nat) (hq : q < 64) : (Tg g)[q]? = some ((g q : Nat) : Int) := by
  simp [Tg, List.getElem?_range hq]
theorem Tg_rd (g : Nat → Nat) (q : Nat) (hq : q < 64) : rd (Tg g) (q : Int) = ((g q : Nat) : Int) := by
  unfold rd
  rw [Int.toNat_natCast, List.getD_eq_getElem?_getD, Tg_get g q hq]; rfl
theorem Tg_ext {g g' : Nat → Nat} (h : ∀ q, q < 64 → g q = g' q) : Tg g = Tg g' := by
  unfold Tg
  apply List.map_congr_left
  intro q hq
  rw [h q (List.mem_range.1 hq)]
theorem Tg_set (g : Nat → Nat) (p v : Nat) (hp : p < 64) : (Tg g).set p (v : Int) = Tg (fun q => if q = p then v else g q) := by
  apply List.ext_getElem?
  intro j
  rcases Nat.lt_or_ge j 64 with hj | hj
  · rw [Tg_get _ j hj, List.getElem?_set]
    by_cases c : p = j
    · subst c
      rw [if_pos rfl, if_pos (by rw [Tg_len]; exact hp), if_pos rfl]
    · rw [if_neg c, if_neg (fun e => c e.symm), Tg_get g j hj]
  · rw [List.getElem?_eq_none (by rw [List.length_set, Tg_len]; exact hj), List.getElem?_eq_none (by rw [Tg_len]; exact hj)]
theorem Tg_ok {g : Nat → Nat} (h : ∀ q, g q ≤ 58) : ∀ x ∈ Tg g, 0 ≤ x ∧ x < 256 := by
  intro x hx
  simp only [Tg, List.mem_map] at hx
  obtain ⟨q, _, rfl⟩ := hx
  have := h q
  omega
theorem bytes_nums {l : List Int} (h : ∀ x ∈ l, 0 ≤ x ∧ x < 256) : bytesOf (strOfNums l) = l := by
  unfold bytesOf strOfNums
  simp only [List.map_map]
  conv => rhs; rw [← List.map_id l]
  apply List.map_congr_left
  intro x hx
  have := h x hx
  simp
  omega
theorem Tg_size (g : Nat → Nat) : (strOfNums (Tg g)).size = 64 := by
  have : (strOfNums (Tg g)).size = (Tg g).length := by simp [strOfNums, ByteArray.size]
  rw [this, Tg_len]
theorem Tg_hok {g : Nat → Nat} (h : ∀ q, g q ≤ 58) : hokB (strOfNums (Tg g)) = true := by
  unfold hokB
  rw [Tg_size, nb_nums _ (Tg_ok h)]
  simp only [Bool.and_eq_true, decide_eq_true_eq, List.all_eq_true, List.mem_map]
  refine ⟨trivial, ?_⟩
  rintro b ⟨x, hx, rfl⟩
  simp only [Tg, List.mem_map] at hx
  obtain ⟨q, _, rfl⟩ := hx
  rw [Int.toNat_natCast]
  exact h q
/-- a user more -/
def hU (u : ByteArray) (g : Nat → Nat) : Nat → Nat := fun q => if q = hP u then max (g q) (hR u) else g q
theorem hR_le (u : ByteArray) : hR u ≤ 58 := Nat.min_le_right _ _
theorem hU_le {g : Nat → Nat} (h : ∀ q, g q ≤ 58) (u : ByteArray) : ∀ q, hU u g q ≤ 58 := by
  intro q
  unfold hU
  have := hR_le u
  have := h q
  split <;> omega
theorem hAdd_Tg {g : Nat → Nat} (h : ∀ q, g q ≤ 58) (u : ByteArray) (hu : userB u = true) : hAdd (strOfNums (Tg g)) u = strOfNums (Tg (hU u g)) := by
  unfold hAdd
  rw [if_pos ⟨Tg_hok h, hu⟩, bytes_nums (Tg_ok h)]
  congr 1
  unfold hAddL
  rw [Tg_rd g _ (hP_lt u)]
  by_cases c : g (hP u) < hR u
  · rw [if_pos (by omega), Tg_set g _ _ (hP_lt u)]
    apply Tg_ext
    intro q _
    unfold hU
    by_cases e : q = hP u
    · rw [if_pos e, if_pos e, e]; omega
    · rw [if_neg e, if_neg e]
  · rw [if_neg (by omega)]
    apply Tg_ext
    intro q _
    unfold hU
    by_cases e : q = hP u
    · rw [if_pos e, e]; omega
    · rw [if_neg e]
def gOf : List ByteArray → (Nat → Nat) → Nat → Nat
  | [], g => g
  | u :: us, g => gOf us (hU u g)
theorem iof_l0 (us : List ByteArray) (hl : us.length ≤ 400) (hu : ∀ u ∈ us, userB u = true) : ∀ (d k i : Nat) (g : Nat → Nat), (∀ q, g q ≤ 58) → i ≤ us.length → us.length - i = d → d + 300 < k → impl_HllOf.l0 k (strOfNums (Tg g)) us us.length i = some (strOfNums (Tg (gOf (us.drop i) g))) := by
  intro d
  induction d with
  | zero =>
    intro k i g hg h1 h2 hk
    obtain ⟨k, rfl⟩ : ∃ j, k = j + 1 := ⟨k - 1, by omega⟩
    rw [impl_HllOf.l0, if_neg (by omega), List.drop_eq_nil_of_le (by omega)]; rfl
  | succ d ih =>
    intro k i g hg h1 h2 hk
    obtain ⟨k, rfl⟩ : ∃ j, k = j + 1 := ⟨k - 1, by omega⟩
    obtain ⟨u, hd, hu', hmem⟩ := rds_drop us i (by omega)
    have hub := hu u hmem
    have hus : u.size ≤ 40 := by simp only [userB, decide_eq_true_eq] at hub; exact hub.2
    rw [impl_HllOf.l0, if_pos (by omega), if_pos (by omega), if_pos (by omega), hu', ihadd _ u (by rw [Tg_size]; omega) (by omega) k (by rw [Tg_size]; omega), Option.bind_some, hAdd_Tg hg u hub, w64s (n := us.length) (by omega) (by omega), hd, gOf]
    exact ih k (i + 1) _ (hU_le hg u) (by omega) (by omega) (by omega)
theorem sof_l0 (us : List ByteArray) (hl : us.length ≤ 400) (hu : ∀ u ∈ us, userB u = true) : ∀ (d k i : Nat) (g : Nat → Nat), (∀ q, g q ≤ 58) → i ≤ us.length → us.length - i = d → d + 300 < k → spec_HllOf.l0 k us (strOfNums (Tg g)) i = some (strOfNums (Tg (gOf (us.drop i) g))) := by
  intro d
  induction d with
  | zero =>
    intro k i g hg h1 h2 hk
    obtain ⟨k, rfl⟩ : ∃ j, k = j + 1 := ⟨k - 1, by omega⟩
    rw [spec_HllOf.l0, if_neg (by omega), List.drop_eq_nil_of_le (by omega)]; rfl
  | succ d ih =>
    intro k i g hg h1 h2 hk
    obtain ⟨k, rfl⟩ : ∃ j, k = j + 1 := ⟨k - 1, by omega⟩
    obtain ⟨u, hd, hu', hmem⟩ := rds_drop us i (by omega)
    have hub := hu u hmem
    have hus : u.size ≤ 40 := by simp only [userB, decide_eq_true_eq] at hub; exact hub.2
    rw [spec_HllOf.l0, if_pos (by omega), if_pos (by omega), hu', shadd _ u (by rw [Tg_size]; omega) (by omega) k (by rw [Tg_size]; omega), Option.bind_some, hAdd_Tg hg u hub, w64s (n := us.length) (by omega) (by omega), hd, gOf]
    exact ih k (i + 1) _ (hU_le hg u) (by omega) (by omega) (by omega)
/-- the registers of users -/
def hOf (us : List ByteArray) : ByteArray := if usersB us = true then strOfNums (Tg (gOf us (fun _ => 0))) else ⟨#[]⟩
theorem Tg_zero : List.replicate 64 (0 : Int) = Tg (fun _ => 0) := rfl
theorem usersB_of {us : List ByteArray} (h : usersB us = true) : us.length ≤ 400 ∧ ∀ u ∈ us, userB u = true := by
  simp only [usersB, Bool.and_eq_true, decide_eq_true_eq, List.all_eq_true] at h
  exact h
theorem ihof (us : List ByteArray) (hl : us.length ≤ 1048576) (k : Nat) (hk : us.length + 400 < k) : impl_HllOf.f k us = some (hOf us) := by
  unfold impl_HllOf.f hOf
  rw [iuo us hl k (by omega), Option.bind_some]
  by_cases g : usersB us = true
  · obtain ⟨h1, h2⟩ := usersB_of g
    rw [if_pos g, if_pos g, if_pos (by decide), Tg_zero]
    have h := iof_l0 us h1 h2 us.length k 0 (fun _ => 0) (fun _ => by omega) (by omega) (by omega) (by omega)
    exact h
  · rw [if_neg g, if_neg g]
theorem shof (us : List ByteArray) (hl : us.length ≤ 1048576) (k : Nat) (hk : us.length + 400 < k) : spec_HllOf.f k us = some (hOf us) := by
  unfold spec_HllOf.f hOf
  rw [suo us hl k (by omega), Option.bind_some]
  by_cases g : usersB us = true
  · obtain ⟨h1, h2⟩ := usersB_of g
    rw [if_pos g, if_pos g, if_pos (by decide), Tg_zero]
    have h := sof_l0 us h1 h2 us.length k 0 (fun _ => 0) (fun _ => by omega) (by omega) (by omega) (by omega)
    exact h
  · rw [if_neg g, if_neg g]

/-! ## section hllm -/
theorem mx_nat (a b : Nat) : mx (a : Int) (b : Int) = ((max a b : Nat) : Int) := by
  unfold mx
  split <;> omega
theorem imerge_l0 (g g' : Nat → Nat) (hg : ∀ q, g q ≤ 58) (hg' : ∀ q, g' q ≤ 58) : ∀ (d k i : Nat), i ≤ 64 → 64 - i = d → d < k → impl_HllMerge.l0 k (strOfNums (Tg g')) (Tg (fun q => if q < i then max (g q) (g' q) else g q)) 64 i = some (strOfNums (Tg (fun q => max (g q) (g' q)))) := by
  intro d
  induction d with
  | zero =>
    intro k i h1 h2 hk
    obtain ⟨k, rfl⟩ : ∃ m, k = m + 1 := ⟨k - 1, by omega⟩
    rw [impl_HllMerge.l0, if_neg (by omega)]
    congr 2
    apply Tg_ext
    intro q hq
    rw [if_pos (by omega)]
  | succ d ih =>
    intro k i h1 h2 hk
    obtain ⟨k, rfl⟩ : ∃ m, k = m + 1 := ⟨k - 1, by omega⟩
    have hb : bt (strOfNums (Tg g')) (i : Int) = ((g' i : Nat) : Int) := by
      rw [← rd_bytesOf, bytes_nums (Tg_ok hg'), Tg_rd g' i (by omega)]
    have e : (Tg (fun q => if q < i then max (g q) (g' q) else g q)).set i (mx (rd (Tg (fun q => if q < i then max (g q) (g' q) else g q)) (i : Int)) (bt (strOfNums (Tg g')) (i : Int))) = Tg (fun q => if q < i + 1 then max (g q) (g' q) else g q) := by
      rw [hb, Tg_rd _ i (by omega), if_neg (by omega), mx_nat, Tg_set _ i _ (by omega)]
      apply Tg_ext
      intro q _
      by_cases c : q = i
      · subst c; rw [if_pos rfl, if_pos (by omega)]
      · rw [if_neg c]
        by_cases c2 : q < i
        · rw [if_pos c2, if_pos (by omega)]
        · rw [if_neg c2, if_neg (by omega)]
    rw [impl_HllMerge.l0, if_pos (by omega), if_pos (by omega), Tg_len, if_pos (by omega), Tg_size, if_pos (by omega), Int.toNat_natCast, e, w64s (n := 64) (by omega) (by omega)]
    exact ih k (i + 1) (by omega) (by omega) (by omega)
theorem imerge (g g' : Nat → Nat) (hg : ∀ q, g q ≤ 58) (hg' : ∀ q, g' q ≤ 58) (k : Nat) (hk : 200 ≤ k) : impl_HllMerge.f k (strOfNums (Tg g)) (strOfNums (Tg g')) = some (strOfNums (Tg (fun q => max (g q) (g' q)))) := by
  obtain ⟨k, rfl⟩ : ∃ m, k = m + 1 := ⟨k - 1, by omega⟩
  unfold impl_HllMerge.f
  rw [iho _ (by rw [Tg_size]; omega) _ (by rw [Tg_size]; omega), Option.bind_some, Tg_hok hg, if_pos rfl, iho _ (by rw [Tg_size]; omega) _ (by rw [Tg_size]; omega), Option.bind_some, Tg_hok hg', Bool.not_true, impl_HllMerge.j0, if_neg (by decide), if_pos (by rw [Tg_size]; omega), Option.bind_some, bytes_nums (Tg_ok hg), Tg_len]
  have h := imerge_l0 g g' hg hg' 64 k 0 (by omega) (by omega) (by omega)
  have e : Tg (fun q => if q < 0 then max (g q) (g' q) else g q) = Tg g := Tg_ext (fun q _ => if_neg (by omega))
  rw [e] at h
  exact h
/-- the greatest rank at each place -/
def mR : List ByteArray → Nat → Nat
  | [], _ => 0
  | u :: us, q => max (if q = hP u then hR u else 0) (mR us q)
theorem mR_le : ∀ (us : List ByteArray) (q : Nat), mR us q ≤ 58
  | [], _ => by simp [mR]
  | u :: us, q => by
    have h1 := mR_le us q
    have h2 := hR_le u
    rw [mR]
    split <;> omega
theorem gOf_mR : ∀ (us : List ByteArray) (g : Nat → Nat) (q : Nat), gOf us g q = max (g q) (mR us q)
  | [], g, q => by simp [gOf, mR]
  | u :: us, g, q => by
    rw [gOf, gOf_mR us (hU u g) q, mR]
    unfold hU
    split <;> omega
theorem mR_append : ∀ (a b : List ByteArray) (q : Nat), mR (a ++ b) q = max (mR a q) (mR b q)
  | [], b, q => by simp [mR]
  | u :: a, b, q => by
    rw [List.cons_append, mR, mR, mR_append a b q]
    omega
theorem hOf_mR {us : List ByteArray} (h : usersB us = true) : hOf us = strOfNums (Tg (mR us)) := by
  unfold hOf
  rw [if_pos h]
  congr 1
  apply Tg_ext
  intro q _
  rw [gOf_mR]
  omega
theorem usersB_part {us vs : List ByteArray} (h : usersB us = true) (hl : vs.length ≤ us.length) (hs : ∀ u ∈ vs, u ∈ us) : usersB vs = true := by
  obtain ⟨h1, h2⟩ := usersB_of h
  simp only [usersB, Bool.and_eq_true, decide_eq_true_eq, List.all_eq_true]
  exact ⟨by omega, fun u hu => h2 u (hs u hu)⟩

/-! ## section draw -/
/-- the code that things are drawn from: each cell is a byte -/
def isCode (l : List Int) : Prop := l.length ≤ 1048576 ∧ ∀ x ∈ l, 0 ≤ x ∧ x ≤ 255
theorem code_of {l : List Int} (h : ¬ ((l.length : Int) > 1048576)) (hw : ∀ x ∈ l, (Lit.int .u8 x).wf = true) : isCode l := by
  refine ⟨by omega, fun x hx => ?_⟩
  have := hw x hx
  simp [Lit.wf, IntKind.min, IntKind.max, IntKind.bits, IntKind.signed] at this
  omega
def posOk (l : List Int) (p : Int) : Prop := 0 ≤ p ∧ p ≤ l.length
theorem rd_code {l : List Int} (h : isCode l) (i : Int) : 0 ≤ rd l i ∧ rd l i ≤ 255 := by
  unfold rd
  rw [List.getD_eq_getElem?_getD]
  cases hi : l[i.toNat]? with
  | none => simp
  | some b => simpa using h.2 b (List.mem_of_getElem? hi)
theorem dnext {l : List Int} (h : isCode l) {p : Int} (hp : posOk l p) : ∃ v q, spec_l1Rd_next.f l p = some (v, q) ∧ 0 ≤ v ∧ v ≤ 255 ∧ posOk l q := by
  have hl := h.1
  obtain ⟨h0, h1⟩ := hp
  unfold spec_l1Rd_next.f
  by_cases c : p ≥ (l.length : Int)
  · rw [if_pos c]
    exact ⟨0, p, rfl, by omega, by omega, h0, h1⟩
  · have e1 : wrap64 (p + 1) = p + 1 := by unfold wrap64; omega
    have e2 : wrap64 (p + 1 - 1) = p := by unfold wrap64; omega
    have hr := rd_code h p
    have e3 : wrap64 (rd l p) = rd l p := by unfold wrap64; omega
    rw [if_neg c, e1, e2, if_pos h0, if_pos (by omega), e3]
    exact ⟨_, _, rfl, hr.1, hr.2, by omega, by omega⟩
theorem dbelow {l : List Int} (h : isCode l) {p : Int} (hp : posOk l p) {n : Int} (hn : 1 ≤ n) : ∃ v q, spec_l1Rd_below.f l p n = some (v, q) ∧ 0 ≤ v ∧ v < n ∧ posOk l q := by
  unfold spec_l1Rd_below.f
  by_cases c : n ≤ 1
  · rw [if_pos c]
    exact ⟨0, p, rfl, by omega, by omega, hp⟩
  · rw [if_neg c]
    obtain ⟨v, q, e, h0, h1, hq⟩ := dnext h hp
    by_cases c2 : n ≤ 256
    · rw [if_pos c2, e]
      simp only [Option.bind_some]
      rw [if_neg (by omega)]
      refine ⟨_, _, rfl, ?_, ?_, hq⟩
      · rw [Int.tmod_eq_emod_of_nonneg h0]; exact Int.emod_nonneg _ (by omega)
      · rw [Int.tmod_eq_emod_of_nonneg h0]; exact Int.emod_lt_of_pos _ (by omega)
    · rw [if_neg c2, e]
      simp only [Option.bind_some]
      obtain ⟨v2, q2, e2, h2, h3, hq2⟩ := dnext h hq
      rw [e2]
      simp only [Option.bind_some]
      rw [if_neg (by omega)]
      have ew : wrap64 (wrap64 (v * 256) + v2) = v * 256 + v2 := by unfold wrap64; omega
      rw [ew]
      refine ⟨_, _, rfl, ?_, ?_, hq2⟩
      · rw [Int.tmod_eq_emod_of_nonneg (by omega)]; exact Int.emod_nonneg _ (by omega)
      · rw [Int.tmod_eq_emod_of_nonneg (by omega)]; exact Int.emod_lt_of_pos _ (by omega)
theorem posOk0 (l : List Int) : posOk l 0 := ⟨Int.le_refl _, by omega⟩

/-! ## section drawuser -/
theorem duser {l : List Int} (h : isCode l) {p : Int} (hp : posOk l p) : ∃ s q, spec_l1Rd_user.f l p = some (s, q) ∧ 1 ≤ s.size ∧ s.size ≤ 4 ∧ posOk l q := by
  unfold spec_l1Rd_user.f
  simp only [Option.bind_some]
  obtain ⟨v, r, e2, hv0, hv1, hr⟩ := dbelow h hp (n := 10) (by omega)
  rw [e2]
  simp only [Option.bind_some]
  rw [if_pos hv0, if_pos (by simpa using hv1)]
  obtain ⟨n, rfl⟩ := Int.eq_ofNat_of_zero_le hv0
  have hn : n < 10 := by omega
  have key : ∀ n, n < 10 → 1 ≤ (rdOf ByteArray.empty ([(⟨#[97]⟩ : ByteArray), (⟨#[98]⟩ : ByteArray), (⟨#[97, 98]⟩ : ByteArray), (⟨#[97, 98, 99]⟩ : ByteArray), (⟨#[97, 98, 100]⟩ : ByteArray), (⟨#[107, 101, 121]⟩ : ByteArray), (⟨#[107, 101, 121, 49]⟩ : ByteArray), (⟨#[107, 101, 121, 50]⟩ : ByteArray), (⟨#[122, 122]⟩ : ByteArray), (⟨#[97, 0]⟩ : ByteArray)] : List ByteArray) ((n : Nat) : Int)).size ∧ (rdOf ByteArray.empty ([(⟨#[97]⟩ : ByteArray), (⟨#[98]⟩ : ByteArray), (⟨#[97, 98]⟩ : ByteArray), (⟨#[97, 98, 99]⟩ : ByteArray), (⟨#[97, 98, 100]⟩ : ByteArray), (⟨#[107, 101, 121]⟩ : ByteArray), (⟨#[107, 101, 121, 49]⟩ : ByteArray), (⟨#[107, 101, 121, 50]⟩ : ByteArray), (⟨#[122, 122]⟩ : ByteArray), (⟨#[97, 0]⟩ : ByteArray)] : List ByteArray) ((n : Nat) : Int)).size ≤ 4 := by decide +kernel
  have := key n hn
  exact ⟨_, _, rfl, this.1, this.2, hr⟩

/-! ## section drawonce -/
theorem donce {l : List Int} (h : isCode l) {p : Int} (hp : posOk l p) {n : Int} (hn : 1 ≤ n) : ∃ v q, spec_l1Rd_once.f l p n = some (v, q) ∧ posOk l q := by
  unfold spec_l1Rd_once.f
  obtain ⟨v, q, e, _, _, hq⟩ := dbelow h hp hn
  rw [e]
  exact ⟨_, _, rfl, hq⟩

/-! ## section putsize -/
theorem strOfNums_size (l : List Int) : (strOfNums l).size = l.length := by simp [strOfNums, ByteArray.size]

/-! ## section drawbytes -/
theorem dbytes_l0 {l : List Int} (h : isCode l) : ∀ (d k : Nat) (acc : List Int) (p : Int), d < k → acc.length + d < 140737488355328 → (∀ x ∈ acc, 0 ≤ x ∧ x < 256) → posOk l p → ∃ zs q, spec_l1Rd_bytes.l0 k acc d l p = some (strOfNums zs, q) ∧ zs.length = acc.length + d ∧ (∀ x ∈ zs, 0 ≤ x ∧ x < 256) ∧ posOk l q := by
  intro d
  induction d with
  | zero =>
    intro k acc p hk hl ha hp
    obtain ⟨k, rfl⟩ : ∃ m, k = m + 1 := ⟨k - 1, by omega⟩
    rw [spec_l1Rd_bytes.l0, if_neg (by omega)]
    exact ⟨acc, p, rfl, by omega, ha, hp⟩
  | succ d ih =>
    intro k acc p hk hl ha hp
    obtain ⟨k, rfl⟩ : ∃ m, k = m + 1 := ⟨k - 1, by omega⟩
    obtain ⟨v, q, e, v0, v1, hq⟩ := dbelow h hp (n := 256) (by omega)
    have ed : wrap64 (((d + 1 : Nat) : Int) - 1) = (d : Int) := by unfold wrap64; omega
    rw [spec_l1Rd_bytes.l0, if_pos (by omega), e]
    simp only [Option.bind_some]
    rw [if_pos (by omega), ed]
    obtain ⟨zs, r, e2, hz, hb, hr⟩ := ih k (acc ++ [v % 256]) q (by omega) (by simp; omega) (by
      intro x hx
      rcases List.mem_append.1 hx with hx | hx
      · exact ha x hx
      · simp at hx; omega) hq
    exact ⟨zs, r, e2, by rw [hz]; simp; omega, hb, hr⟩
/-- some bytes are drawn: at most 'most' -/
theorem dbytes {l : List Int} (h : isCode l) {p : Int} (hp : posOk l p) {most k : Nat} (hm : most ≤ 1000) (hk : most < k) : ∃ s q, spec_l1Rd_bytes.f k l p (most : Int) = some (s, q) ∧ s.size ≤ most ∧ posOk l q := by
  unfold spec_l1Rd_bytes.f
  have em : wrap64 ((most : Int) + 1) = (most : Int) + 1 := by unfold wrap64; omega
  rw [em]
  obtain ⟨v, q, e, v0, v1, hq⟩ := dbelow h hp (n := (most : Int) + 1) (by omega)
  rw [e]
  simp only [Option.bind_some]
  obtain ⟨d, rfl⟩ := Int.eq_ofNat_of_zero_le v0
  obtain ⟨zs, r, e2, hz, _, hr⟩ := dbytes_l0 h d k [] q (by omega) (by simp; omega) (by simp) hq
  exact ⟨_, r, e2, by rw [strOfNums_size, hz]; simp; omega, hr⟩

/-! ## section drawusers -/
theorem dusers_l0 {l : List Int} (h : isCode l) : ∀ (d k : Nat) (acc : List ByteArray) (p : Int), d + 46 < k → acc.length + d < 1000000 → (∀ u ∈ acc, u.size ≤ 44) → posOk l p → ∃ us q, spec_l1Rd_users.l0 k acc d l p = some (us, q) ∧ us.length ≤ acc.length + d + 1 ∧ (∀ u ∈ us, u.size ≤ 44) ∧ posOk l q := by
  intro d
  induction d with
  | zero =>
    intro k acc p hk hl ha hp
    obtain ⟨k, rfl⟩ : ∃ m, k = m + 1 := ⟨k - 1, by omega⟩
    rw [spec_l1Rd_users.l0, if_neg (by omega)]
    obtain ⟨b, q, e, hq⟩ := donce h hp (n := 24) (by omega)
    rw [e]; simp only [Option.bind_some]
    split
    · obtain ⟨v, q5, e5, hv, hq5⟩ := dbytes h hq (most := 44) (k := k) (by omega) (by omega)
      simp only [Int.cast_ofNat_Int] at e5
      rw [e5]; simp only [Option.bind_some]
      rw [if_pos (by omega)]
      refine ⟨_, _, rfl, by simp, ?_, hq5⟩
      intro u hu
      rcases List.mem_append.1 hu with hu | hu
      · exact ha u hu
      · simp at hu; subst hu; exact hv
    · exact ⟨_, _, rfl, by omega, ha, hq⟩
  | succ d ih =>
    intro k acc p hk hl ha hp
    obtain ⟨k, rfl⟩ : ∃ m, k = m + 1 := ⟨k - 1, by omega⟩
    obtain ⟨b, q, e, hq⟩ := donce h hp (n := 3) (by omega)
    have ed : wrap64 (((d + 1 : Nat) : Int) - 1) = (d : Int) := by unfold wrap64; omega
    rw [spec_l1Rd_users.l0, if_pos (by omega), e]
    simp only [Option.bind_some]
    split
    · obtain ⟨v, q5, e5, hv, hq5⟩ := dbytes h hq (most := 3) (k := k) (by omega) (by omega)
      simp only [Int.cast_ofNat_Int] at e5
      rw [e5]; simp only [Option.bind_some]
      have h1 : (⟨#[107]⟩ : ByteArray).size = 1 := rfl
      rw [if_pos (by omega), if_pos (by omega), ed]
      obtain ⟨us, r, e6, h6, h7, h8⟩ := ih k (acc ++ [(⟨#[107]⟩ : ByteArray) ++ v]) q5 (by omega) (by simp; omega) (by
        intro u hu
        rcases List.mem_append.1 hu with hu | hu
        · exact ha u hu
        · simp at hu; subst hu; rw [bsize_append]; omega) hq5
      exact ⟨us, r, e6, by simp at h6; omega, h7, h8⟩
    · obtain ⟨v, q5, e5, hv, hv2, hq5⟩ := duser h hq
      rw [e5]; simp only [Option.bind_some]
      rw [if_pos (by omega), ed]
      obtain ⟨us, r, e6, h6, h7, h8⟩ := ih k (acc ++ [v]) q5 (by omega) (by simp; omega) (by
        intro u hu
        rcases List.mem_append.1 hu with hu | hu
        · exact ha u hu
        · simp at hu; subst hu; omega) hq5
      exact ⟨us, r, e6, by simp at h6; omega, h7, h8⟩
theorem dusers {l : List Int} (h : isCode l) {p : Int} (hp : posOk l p) {most k : Nat} (hm : most ≤ 1000) (hk : most + 46 < k) : ∃ us q, spec_l1Rd_users.f k l p (most : Int) = some (us, q) ∧ us.length ≤ most + 1 ∧ (∀ u ∈ us, u.size ≤ 44) ∧ posOk l q := by
  unfold spec_l1Rd_users.f
  have em : wrap64 ((most : Int) + 1) = (most : Int) + 1 := by unfold wrap64; omega
  rw [em]
  obtain ⟨v, q, e, v0, v1, hq⟩ := dbelow h hp (n := (most : Int) + 1) (by omega)
  rw [e]; simp only [Option.bind_some]
  obtain ⟨d, rfl⟩ := Int.eq_ofNat_of_zero_le v0
  obtain ⟨us, r, e2, h2, h3, h4⟩ := dusers_l0 h d k [] q (by omega) (by simp; omega) (by simp) hq
  exact ⟨us, r, e2, by simp at h2; omega, h3, h4⟩

theorem FnCounters : laws_FnCounters.Pure := by
  intro l _ _ hw
  obtain ⟨k, hk⟩ : ∃ k : Nat, 100000 = k := ⟨_, rfl⟩
  refine ⟨k, ?_⟩
  unfold laws_FnCounters.f laws_big.f
  rw [Option.bind_some]
  by_cases hb : (l.length : Int) > 1048576
  · rw [if_pos (by simpa using hb)]
  · have hc := code_of hb hw
    rw [if_neg (by simpa using hb)]
    obtain ⟨us, e, hu1⟩ : ∃ us, spec_DrawHllOf.f k l = some us ∧ us.length ≤ 15 := by
      unfold spec_DrawHllOf.f spec_l1Open.f
      rw [Option.bind_some]
      obtain ⟨us, q, e1, h1, h2, hq⟩ := dusers hc (posOk0 l) (most := 14) (k := k) (by omega) (by omega)
      simp only [Int.cast_ofNat_Int] at e1
      rw [e1, Option.bind_some]
      exact ⟨us, rfl, h1⟩
    rw [e, Option.bind_some]
    clear e
    rw [ihof us (by omega) k (by omega), shof us (by omega) k (by omega), Option.bind_some, Option.bind_some, if_pos rfl]
    obtain ⟨k, rfl⟩ : ∃ j, k = j + 1 := ⟨k - 1, by omega⟩
    by_cases g : usersB us = true
    · rw [hOf_mR g]
      have hne : ((strOfNums (Tg (mR us))).toList == ([] : List UInt8)) = false := by
        rw [beq_eq_false_iff_ne]
        intro h
        rw [ByteArray.toList_eq] at h
        have h1 := Tg_size (mR us)
        have h2 : (strOfNums (Tg (mR us))).data.toList.length = (strOfNums (Tg (mR us))).size := by rw [Array.length_toList]; rfl
        rw [h, h1] at h2
        exact absurd h2 (by simp)
      rw [hne, laws_FnCounters.j0, if_neg (by decide)]
      clear hne
      have hK : l.length % (us.length + 1) ≤ us.length := by have := Nat.mod_lt l.length (show 0 < us.length + 1 by omega); omega
      have ew : wrap64 ((us.length : Int) + 1) = ((us.length + 1 : Nat) : Int) := w64s (n := 100) (by omega) (by omega)
      have em : (l.length : Int) % ((us.length + 1 : Nat) : Int) = ((l.length % (us.length + 1) : Nat) : Int) := (Int.natCast_emod _ _).symm
      rw [ew, em, if_neg (show ¬ ((us.length + 1 : Nat) : Int) = 0 by clear ew em; omega)]
      clear ew em
      generalize l.length % (us.length + 1) = K at hK
      rw [if_pos (by omega), if_pos (by omega), Int.toNat_natCast]
      have ga : usersB (us.take K) = true := usersB_part g (by rw [List.length_take]; omega) (fun u hu => List.mem_of_mem_take hu)
      have gb : usersB (us.drop K) = true := usersB_part g (by rw [List.length_drop]; omega) (fun u hu => List.mem_of_mem_drop hu)
      rw [ihof (us.take K) (by rw [List.length_take]; omega) k (by rw [List.length_take]; omega), ihof (us.drop K) (by rw [List.length_drop]; omega) k (by rw [List.length_drop]; omega), Option.bind_some, Option.bind_some, hOf_mR ga, hOf_mR gb]
      have app : ∀ q, mR us q = max (mR (us.take K) q) (mR (us.drop K) q) := fun q => by
        have h := mR_append (us.take K) (us.drop K) q
        rwa [List.take_append_drop] at h
      have e1 : Tg (fun q => max (mR (us.take K) q) (mR (us.drop K) q)) = Tg (mR us) := Tg_ext (fun q _ => (app q).symm)
      have e2 : Tg (fun q => max (mR (us.drop K) q) (mR (us.take K) q)) = Tg (mR us) := Tg_ext (fun q _ => by rw [app q]; omega)
      have e3 : Tg (fun q => max (mR us q) (mR us q)) = Tg (mR us) := Tg_ext (fun q _ => by omega)
      have e4 : Tg (fun q => max (mR us q) (mR (us.take K) q)) = Tg (mR us) := Tg_ext (fun q _ => by rw [app q]; omega)
      rw [imerge _ _ (mR_le _) (mR_le _) k (by omega), e1, Option.bind_some, if_pos rfl, imerge _ _ (mR_le _) (mR_le _) k (by omega), e2, Option.bind_some, if_pos rfl, imerge _ _ (mR_le _) (mR_le _) k (by omega), e3, Option.bind_some, if_pos rfl, imerge _ _ (mR_le _) (mR_le _) k (by omega), e4, Option.bind_some, if_pos rfl, iho _ (by rw [Tg_size]; omega) k (by rw [Tg_size]; omega), Option.bind_some, Tg_hok (mR_le us)]
    · have hz : hOf us = ⟨#[]⟩ := by unfold hOf; rw [if_neg g]
      have hne : ((hOf us).toList == ([] : List UInt8)) = true := by rw [hz, ByteArray.toList_eq]; rfl
      rw [hne, laws_FnCounters.j0, if_pos rfl, shof us (by omega) k (by omega), Option.bind_some, if_pos rfl, iuo us (by omega) k (by omega), Option.bind_some]
      have : usersB us = false := by simpa using g
      rw [this]; rfl

end Go.Proofs.YtfcjacncllmapaaDoor.Pure
