/- The program's FilterMay returns what the reference's FilterMay returns, for every filter and text: no condition. -/
import Derived.Test.YtfcjacncllmapafQFnExactFilterMayy
namespace Go.Proofs.Ytfcjacncllmapaf.Pure
open Go.RowKit Go.Proofs.Ytfcjacncllmapaf.QFnExactFilterMay Go.Proofs.YtfcjacncllmapafW.PrintWords Go.Proofs.YtfcjacncllmapafW.PrintLast Go.Proofs.YtfcjacncllmapafW.PrintMore
set_option linter.unusedVariables false
set_option linter.unusedSimpArgs false

/-! ## section base -/
/-- an unsigned kind's number that fits is not wrapped -/
theorem wrapU (k : IntKind) (hs : k.signed = false) (n : Nat) (h : n < 2 ^ k.bits) : k.wrap (n : Int) = n := by
  unfold IntKind.wrap
  rw [Int.emod_eq_of_lt (by omega) (by exact_mod_cast h)]
  simp [hs]
/-- bits of unsigned numbers are those of natural numbers -/
theorem b_or (k : IntKind) (hs : k.signed = false) (a b : Nat) (ha : a < 2 ^ k.bits) (hb : b < 2 ^ k.bits) : Go.bits .or k a b = ((a ||| b : Nat) : Int) := by
  simp only [Go.bits, BitVec.ofInt_natCast, BitVec.toNat_or, BitVec.toNat_ofNat, Nat.mod_eq_of_lt ha, Nat.mod_eq_of_lt hb]
  exact wrapU k hs _ (Nat.or_lt_two_pow ha hb)
theorem b_xor (k : IntKind) (hs : k.signed = false) (a b : Nat) (ha : a < 2 ^ k.bits) (hb : b < 2 ^ k.bits) : Go.bits .xor k a b = ((a ^^^ b : Nat) : Int) := by
  simp only [Go.bits, BitVec.ofInt_natCast, BitVec.toNat_xor, BitVec.toNat_ofNat, Nat.mod_eq_of_lt ha, Nat.mod_eq_of_lt hb]
  exact wrapU k hs _ (Nat.xor_lt_two_pow ha hb)
theorem b_and (k : IntKind) (hs : k.signed = false) (a b : Nat) (ha : a < 2 ^ k.bits) (hb : b < 2 ^ k.bits) : Go.bits .and k a b = ((a &&& b : Nat) : Int) := by
  simp only [Go.bits, BitVec.ofInt_natCast, BitVec.toNat_and, BitVec.toNat_ofNat, Nat.mod_eq_of_lt ha, Nat.mod_eq_of_lt hb]
  exact wrapU k hs _ (Nat.and_lt_two_pow _ hb)
theorem b_or8 (a b : Nat) (ha : a < 256) (hb : b < 256) : Go.bits .or .u8 a b = ((a ||| b : Nat) : Int) := b_or .u8 rfl a b ha hb
theorem u64w (x : Int) : IntKind.u64.wrap x = x % 18446744073709551616 := by simp [IntKind.wrap, IntKind.bits, IntKind.signed]

/-! ## section bytes -/
/-- the bytes of a text, as natural numbers -/
def nb (s : ByteArray) : List Nat := s.data.toList.map UInt8.toNat
theorem nb_length (s : ByteArray) : (nb s).length = s.size := by rw [nb, List.length_map, Array.length_toList]; rfl
theorem nb_lt (s : ByteArray) : ∀ b ∈ nb s, b < 256 := by
  intro b hb
  simp only [nb, List.mem_map] at hb
  obtain ⟨u, _, rfl⟩ := hb
  exact u.toNat_lt
theorem bt_nb (s : ByteArray) (i : Nat) (h : i < s.size) : bt s i = (((nb s)[i]'(by rw [nb_length]; exact h) : Nat) : Int) := by
  simp only [bt, Int.toNat_natCast, h, nb]
  simp
  rfl
theorem nb_drop (s : ByteArray) (i : Nat) (h : i < s.size) : ∃ b, (nb s).drop i = b :: (nb s).drop (i + 1) ∧ bt s i = (b : Int) ∧ b < 256 := by
  have hl : i < (nb s).length := by rw [nb_length]; exact h
  exact ⟨(nb s)[i], List.drop_eq_getElem_cons hl, bt_nb s i h, nb_lt s _ (List.getElem_mem hl)⟩
theorem nb_end (s : ByteArray) (i : Nat) (h : s.size ≤ i) : (nb s).drop i = [] := List.drop_eq_nil_of_le (by rw [nb_length]; exact h)
theorem w64 {x : Int} (h0 : -9223372036854775808 ≤ x) (h1 : x < 9223372036854775808) : wrap64 x = x := by unfold wrap64; omega
theorem w64s {i n : Nat} (h : i < n) (hn : n ≤ 140737488351232) : wrap64 ((i : Int) + 1) = ((i + 1 : Nat) : Int) := by rw [w64] <;> omega
theorem bits_range (k : IntKind) (hs : k.signed = false) (op : BinOp) (x y : Int) : 0 ≤ Go.bits op k x y ∧ Go.bits op k x y < 2 ^ k.bits := by
  have hp : (0 : Int) < 2 ^ k.bits := by exact_mod_cast Nat.two_pow_pos k.bits
  unfold Go.bits IntKind.wrap
  simp only [hs, Bool.false_and]
  exact ⟨Int.emod_nonneg _ (by omega), Int.emod_lt_of_pos _ hp⟩

/-! ## section szfilter -/
theorem szfilter_some (a b c : Int) (s : ByteArray) (hs : s.size ≤ 9223372036854775807) : ∃ r, laws_szFilter.f a b c s 1048576 = some r ∧ (¬ r < 0 → s.size ≤ 1048576) := by
  unfold laws_szFilter.f
  have e : wrap64 (1048576 - (s.size : Int)) = 1048576 - s.size := by unfold wrap64; omega
  rw [e]
  split
  · exact ⟨_, rfl, fun h => absurd (by decide) h⟩
  · exact ⟨_, rfl, fun h => by omega⟩

/-! ## section xr -/
/-- the xor of the bytes that a row names, from a place on; n: rounds -/
def xr (f : Nat → Nat) : Nat → Nat → Nat → Nat
  | _, _, 0 => 0
  | p, r, n + 1 => (if r % 2 = 1 then f p else 0) ^^^ xr f (p + 1) (r / 2) n
theorem xr_zero (f : Nat → Nat) : ∀ (n p : Nat), xr f p 0 n = 0
  | 0, _ => rfl
  | n + 1, p => by rw [xr, if_neg (by omega), show 0 / 2 = 0 from rfl, xr_zero f n (p + 1)]; rfl
theorem xr_more (f : Nat → Nat) : ∀ (n p r : Nat), r < 2 ^ n → ∀ m, n ≤ m → xr f p r m = xr f p r n
  | 0, p, r, h, m, _ => by
    obtain rfl : r = 0 := by simpa using h
    rw [xr_zero, xr_zero]
  | n + 1, p, r, h, m, hm => by
    obtain ⟨m, rfl⟩ : ∃ q, m = q + 1 := ⟨m - 1, by omega⟩
    rw [xr, xr, xr_more f n (p + 1) (r / 2) (by rw [Nat.pow_succ] at h; omega) m (by omega)]
theorem xor_mod2 (a b : Nat) : (a ^^^ b) % 2 = (a % 2 + b % 2) % 2 := by
  have h := Nat.xor_mod_two_pow (a := a) (b := b) (n := 1)
  rw [Nat.pow_one] at h
  rw [h]
  rcases Nat.mod_two_eq_zero_or_one a with ha | ha <;> rcases Nat.mod_two_eq_zero_or_one b with hb | hb <;> rw [ha, hb] <;> rfl
theorem xor_swap4 (a b c d : Nat) : (a ^^^ b) ^^^ (c ^^^ d) = (a ^^^ c) ^^^ (b ^^^ d) := by
  rw [Nat.xor_assoc, Nat.xor_assoc, ← Nat.xor_assoc b c d, Nat.xor_comm b c, Nat.xor_assoc c b d]
theorem xr_xor (f : Nat → Nat) : ∀ (n p a b : Nat), xr f p (a ^^^ b) n = xr f p a n ^^^ xr f p b n
  | 0, _, _, _ => by simp [xr]
  | n + 1, p, a, b => by
    rw [xr, xr, xr, Nat.xor_div_two, xr_xor f n (p + 1) (a / 2) (b / 2), xor_swap4, xor_mod2]
    congr 1
    rcases Nat.mod_two_eq_zero_or_one a with ha | ha <;> rcases Nat.mod_two_eq_zero_or_one b with hb | hb <;> rw [ha, hb] <;> simp
theorem xr_same (f g : Nat → Nat) : ∀ (n p r : Nat), (∀ i, p ≤ i → f i = g i) → xr f p r n = xr g p r n
  | 0, _, _, _ => rfl
  | n + 1, p, r, h => by rw [xr, xr, h p (Nat.le_refl _), xr_same f g n (p + 1) (r / 2) (fun i hi => h i (by omega))]
theorem xr_lt (f : Nat → Nat) (b : Nat) (hf : ∀ i, f i < 2 ^ b) : ∀ (n p r : Nat), xr f p r n < 2 ^ b
  | 0, _, _ => Nat.two_pow_pos b
  | n + 1, p, r => by
    rw [xr]
    refine Nat.xor_lt_two_pow ?_ (xr_lt f b hf n _ _)
    split
    · exact hf p
    · exact Nat.two_pow_pos b
theorem xor_zero_iff (a b : Nat) : a ^^^ b = 0 ↔ a = b := by
  constructor
  · intro h
    have := congrArg (· ^^^ b) h
    simpa [Nat.xor_assoc] using this
  · rintro rfl; exact Nat.xor_self a

/-! ## section hash -/
theorem ish_l0 (s : ByteArray) : ∀ (k : Nat) (h : Int) (i : Int), 0 ≤ i → impl_Hash.l0 k s h s.size i = spec_Hash.l0 k s h i := by
  intro k
  induction k with
  | zero => intros; rfl
  | succ k ih =>
    intro h i h0
    rw [impl_Hash.l0, spec_Hash.l0]
    by_cases c : i < (s.size : Int)
    · rw [if_pos c, if_pos c, if_pos h0, if_pos h0, if_pos c]
      by_cases c2 : 0 ≤ wrap64 (i + 1)
      · rw [ih _ _ c2]
      · cases k with
        | zero => rfl
        | succ k =>
          rw [impl_Hash.l0, spec_Hash.l0, if_neg c2, if_neg c2]
    · rw [if_neg c, if_neg c]
theorem sh_l0 (s : ByteArray) (hs : s.size ≤ 140737488351232) : ∀ (d k i : Nat) (h : Int), i ≤ s.size → s.size - i = d → d < k → ∃ r, spec_Hash.l0 k s h i = some r ∧ 0 ≤ r ∧ r < 18446744073709551616 := by
  intro d
  induction d with
  | zero =>
    intro k i h h1 h2 hk
    obtain ⟨k, rfl⟩ : ∃ m, k = m + 1 := ⟨k - 1, by omega⟩
    rw [spec_Hash.l0, if_neg (by omega)]
    refine ⟨_, rfl, ?_⟩
    exact bits_range .u64 rfl .xor _ _
  | succ d ih =>
    intro k i h h1 h2 hk
    obtain ⟨k, rfl⟩ : ∃ m, k = m + 1 := ⟨k - 1, by omega⟩
    rw [spec_Hash.l0, if_pos (by omega), if_pos (by omega), w64s (n := s.size) (by omega) hs]
    exact ih k (i + 1) _ (by omega) (by omega) (by omega)
/-- the hash of a text, as a natural number -/
def hsh (seed : Int) (s : ByteArray) : Nat := ((spec_Hash.f (s.size + 1) seed s).getD 0).toNat
theorem shash (seed : Int) (s : ByteArray) (hs : s.size ≤ 140737488351232) (k : Nat) (hk : s.size < k) : spec_Hash.f k seed s = some (hsh seed s : Int) := by
  obtain ⟨r, hr, h0, h1⟩ := sh_l0 s hs s.size (s.size + 1) 0 (Go.bits .xor .u64 14695981039346656037 (IntKind.u64.wrap ((IntKind.u64.wrap (seed)) * 11400714819323198485))) (by omega) (by omega) (by omega)
  have e : spec_Hash.f (s.size + 1) seed s = some r := hr
  rw [hsh, e]
  simp only [Option.getD_some]
  rw [Int.toNat_of_nonneg h0]
  exact at_rounds (fun j => spec_Hash.mono seed s j) hk e
theorem hsh_lt (seed : Int) (s : ByteArray) (hs : s.size ≤ 140737488351232) : hsh seed s < 18446744073709551616 := by
  obtain ⟨r, hr, h0, h1⟩ := sh_l0 s hs s.size (s.size + 1) 0 (Go.bits .xor .u64 14695981039346656037 (IntKind.u64.wrap ((IntKind.u64.wrap (seed)) * 11400714819323198485))) (by omega) (by omega) (by omega)
  have e : spec_Hash.f (s.size + 1) seed s = some r := hr
  rw [hsh, e]
  simp only [Option.getD_some]
  omega
theorem ihash (seed : Int) (s : ByteArray) (hs : s.size ≤ 140737488351232) (k : Nat) (hk : s.size < k) : impl_Hash.f k seed s = some (hsh seed s : Int) := by
  rw [← shash seed s hs k hk]
  exact ish_l0 s k _ 0 (by omega)

/-! ## section ribbon -/
def okB (l : List Int) : Prop := ∀ x ∈ l, 0 ≤ x ∧ x < 256
theorem okB_rd {l : List Int} (h : okB l) (i : Int) : 0 ≤ rd l i ∧ rd l i < 256 := by
  unfold rd
  rw [List.getD_eq_getElem?_getD]
  cases hi : l[i.toNat]? with
  | none => simp
  | some b => simpa using h b (List.mem_of_getElem? hi)
theorem okB_bytesOf (s : ByteArray) : okB (bytesOf s) := by
  intro x hx
  simp only [bytesOf, List.mem_map] at hx
  obtain ⟨b, _, rfl⟩ := hx
  have := b.toNat_lt
  omega
/-- the bytes of a row, as natural numbers -/
def bf (l : List Int) (i : Nat) : Nat := (rd l (i : Int)).toNat
theorem bf_val {l : List Int} (h : okB l) (i : Nat) : rd l (i : Int) = (bf l i : Int) := by
  have := okB_rd h (i : Int)
  unfold bf
  omega
theorem bf_lt {l : List Int} (h : okB l) (i : Nat) : bf l i < 256 := by
  have := okB_rd h (i : Int)
  unfold bf
  omega
theorem tmodN (a b : Nat) : Int.tmod (a : Int) (b : Int) = ((a % b : Nat) : Int) := by
  rw [Int.tmod_eq_emod_of_nonneg (by omega)]; push_cast; rfl
theorem shrU (r i : Nat) (hi : i ≤ 64) : shr .u64 (r : Int) (i : Int) = ((r / 2 ^ i : Nat) : Int) := by
  unfold shr
  rw [Int.toNat_natCast, Nat.min_eq_left (by show i ≤ 64; omega)]
  push_cast; rfl
/-- a user's equation: where it begins, its row, what it comes to -/
def eqP (seed : Int) (u : ByteArray) (m : Nat) : Nat := hsh (seed % 4294967296) u / 4294967296 % (m - 15)
def eqR (seed : Int) (u : ByteArray) : Nat := hsh (seed % 4294967296) u % 65536 ||| 1
def eqS (seed : Int) (u : ByteArray) : Nat := hsh (seed % 4294967296) u / 65536 % 128
theorem eqP_lt (seed : Int) (u : ByteArray) {m : Nat} (hm : 16 ≤ m) : eqP seed u m + 16 ≤ m := by
  have := Nat.mod_lt (hsh (seed % 4294967296) u / 4294967296) (show 0 < m - 15 by omega)
  unfold eqP; omega
theorem eqR_lt (seed : Int) (u : ByteArray) : eqR seed u < 2 ^ 16 := Nat.or_lt_two_pow (Nat.mod_lt _ (by decide)) (by decide)
theorem eqS_lt (seed : Int) (u : ByteArray) : eqS seed u < 128 := Nat.mod_lt _ (by decide)
theorem m15 {m : Nat} (hm : 16 ≤ m) (h2 : m ≤ 10000) : IntKind.u64.wrap (wrap64 ((m : Int) - 15)) = ((m - 15 : Nat) : Int) := by
  rw [w64 (by omega) (by omega), show (m : Int) - 15 = ((m - 15 : Nat) : Int) by omega]
  exact wrapU .u64 rfl _ (by show m - 15 < 18446744073709551616; omega)
theorem place_val (t m : Nat) (hm : 16 ≤ m) (h2 : m ≤ 10000) : wrap64 (Int.tmod ((t : Int) / 4294967296) ((m - 15 : Nat) : Int)) = ((t / 4294967296 % (m - 15) : Nat) : Int) := by
  rw [show (t : Int) / 4294967296 = ((t / 4294967296 : Nat) : Int) by omega, tmodN]
  have := Nat.mod_lt (t / 4294967296) (show 0 < m - 15 by omega)
  generalize t / 4294967296 % (m - 15) = x at this
  exact w64 (by omega) (by omega)
theorem row_val (t : Nat) : Go.bits .or .u64 (Int.tmod (t : Int) 65536) 1 = ((t % 65536 ||| 1 : Nat) : Int) := by
  rw [show (65536 : Int) = ((65536 : Nat) : Int) from rfl, tmodN]
  have := Nat.mod_lt t (show 0 < 65536 by decide)
  exact b_or .u64 rfl _ 1 (by show t % 65536 < 18446744073709551616; omega) (by decide)
theorem row_vali (t : Nat) (ht : t < 18446744073709551616) : Go.bits .or .u64 (Go.bits .and .u64 (t : Int) 65535) 1 = ((t % 65536 ||| 1 : Nat) : Int) := by
  rw [show Go.bits .and .u64 (t : Int) 65535 = ((t &&& 65535 : Nat) : Int) from b_and .u64 rfl t 65535 ht (by decide), show t &&& 65535 = t % 65536 from Nat.and_two_pow_sub_one_eq_mod t 16]
  have := Nat.mod_lt t (show 0 < 65536 by decide)
  exact b_or .u64 rfl _ 1 (by show t % 65536 < 18446744073709551616; omega) (by decide)
theorem sum_val (t : Nat) : Int.tmod ((t : Int) / 65536) 128 = ((t / 65536 % 128 : Nat) : Int) := by
  rw [show (t : Int) / 65536 = ((t / 65536 : Nat) : Int) by omega, show (128 : Int) = ((128 : Nat) : Int) from rfl, tmodN]
theorem srow (k : Nat) (u : ByteArray) (seed : Int) (m : Nat) (hm : 16 ≤ m) (h2 : m ≤ 10000) (hu : u.size ≤ 140737488351232) (hk : u.size < k) : spec_l4Row.f k u seed m = some ((eqP seed u m : Int), (eqR seed u : Int), (eqS seed u : Int)) := by
  unfold spec_l4Row.f
  rw [shash _ u hu k hk]
  simp only [Option.bind_some]
  rw [m15 hm h2, if_neg (by omega), place_val _ _ hm h2, row_val, sum_val]
  rfl
theorem irow (k : Nat) (u : ByteArray) (seed : Int) (m : Nat) (hm : 16 ≤ m) (h2 : m ≤ 10000) (hu : u.size ≤ 140737488351232) (hk : u.size < k) : impl_equationOf.f k u seed m = some ((eqP seed u m : Int), (eqR seed u : Int), (eqS seed u : Int)) := by
  unfold impl_equationOf.f
  rw [ihash _ u hu k hk]
  simp only [Option.bind_some]
  rw [m15 hm h2, if_neg (by omega), place_val _ _ hm h2, row_vali _ (hsh_lt _ u hu), sum_val]
  have h : ((hsh (seed % 4294967296) u / 65536 % 128 : Nat) : Int) % 256 = ((hsh (seed % 4294967296) u / 65536 % 128 : Nat) : Int) := by
    have := Nat.mod_lt (hsh (seed % 4294967296) u / 65536) (show 0 < 128 by decide)
    generalize hsh (seed % 4294967296) u / 65536 % 128 = x at this
    omega
  rw [h]
  rfl
theorem isolve_l0 {l : List Int} (h : okB l) : ∀ (n k p r o : Nat), r < 2 ^ n → n ≤ 16 → p + n ≤ l.length → l.length ≤ 10000 → n < k → o < 256 → impl_solve.l0 k l p r o = some ((o ^^^ xr (bf l) p r n : Nat) : Int)
  | 0, k, p, r, o, hr, _, _, _, hk, _ => by
    obtain ⟨k, rfl⟩ : ∃ m, k = m + 1 := ⟨k - 1, by omega⟩
    obtain rfl : r = 0 := by simpa using hr
    rw [impl_solve.l0, if_pos (by rfl), xr, Nat.xor_zero]
  | n + 1, k, p, r, o, hr, hn, hp, hl, hk, ho => by
    obtain ⟨k, rfl⟩ : ∃ m, k = m + 1 := ⟨k - 1, by omega⟩
    by_cases hz : r = 0
    · subst hz
      rw [impl_solve.l0, if_pos (by rfl), xr_zero, Nat.xor_zero]
    · have h16 : r < 65536 := Nat.lt_of_lt_of_le hr (Nat.pow_le_pow_right (by decide) hn)
      have hr2 : r / 2 < 2 ^ n := by rw [Nat.pow_succ] at hr; omega
      have ea : Go.bits .and .u64 (r : Int) 1 = ((r % 2 : Nat) : Int) := by
        rw [show Go.bits .and .u64 (r : Int) 1 = ((r &&& 1 : Nat) : Int) from b_and .u64 rfl r 1 (by show r < 18446744073709551616; omega) (by decide), Nat.and_one_is_mod]
      have ew : wrap64 ((p : Int) + 1) = ((p + 1 : Nat) : Int) := w64s (n := l.length) (by omega) (by omega)
      have ed : (r : Int) / 2 = ((r / 2 : Nat) : Int) := by push_cast; rfl
      have ex : Go.bits .xor .u8 (o : Int) (rd l (p : Int)) = ((o ^^^ bf l p : Nat) : Int) := by
        rw [bf_val h]; exact b_xor .u8 rfl _ _ ho (bf_lt h p)
      rw [impl_solve.l0, if_neg (show ¬ ((r : Int) = 0) by omega), ea, ew, ed, ex, xr]
      by_cases g : r % 2 = 1
      · rw [if_pos (show ((r % 2 : Nat) : Int) = 1 by rw [g]; rfl), if_pos (show (0 : Int) ≤ (p : Int) from Int.natCast_nonneg p), if_pos (show (p : Int) < (l.length : Int) by clear ew; omega), if_pos g, ← Nat.xor_assoc]
        exact isolve_l0 h n k (p + 1) (r / 2) (o ^^^ bf l p) hr2 (by omega) (by omega) hl (by omega) (Nat.xor_lt_two_pow (n := 8) ho (bf_lt h p))
      · rw [if_neg (show ¬ ((r % 2 : Nat) : Int) = 1 by clear ew; omega), if_neg g, Nat.zero_xor]
        exact isolve_l0 h n k (p + 1) (r / 2) o hr2 (by omega) (by omega) hl (by omega) ho
theorem isolve {l : List Int} (h : okB l) (n k p r : Nat) (hr : r < 2 ^ n) (hn : n ≤ 16) (hp : p + n ≤ l.length) (hl : l.length ≤ 10000) (hk : n < k) : impl_solve.f k l p r = some ((xr (bf l) p r n : Nat) : Int) := by
  unfold impl_solve.f
  have := isolve_l0 h n k p r 0 hr hn hp hl hk (by decide)
  rw [Nat.zero_xor] at this
  exact this

/-! ## section within -/
def inB (n lo hi : Int) : Bool := decide (lo ≤ n ∧ n ≤ hi)
theorem iwithin (n lo hi : Int) : impl_within.f n lo hi = some (inB n lo hi) := by
  unfold impl_within.f inB
  split
  · congr 1; rw [decide_eq_decide]; omega
  · congr 1; symm; rw [decide_eq_false_iff_not]; omega
theorem swithin (n lo hi : Int) : spec_l1In.f n lo hi = some (inB n lo hi) := by
  unfold spec_l1In.f inB
  split
  · congr 1; rw [decide_eq_decide]; omega
  · congr 1; symm; rw [decide_eq_false_iff_not]; omega

/-! ## section filterok -/
/-- a filter is right -/
def fltB (a b c : Int) (s : ByteArray) : Bool :=
  if a = 0 then (a == 0 && (b == 0 && (c == 0 && (s.toList == ([] : List UInt8))))) else if a = 1 then decide (b = 0) && (inB c 1 30 && inB s.size 1 1000) else if a = 2 then decide (c = 0) && (inB b 0 3 && (inB s.size 20 600 && (nb s).all (fun x => decide (x ≤ 127)))) else false
theorem ifo_l0 (s : ByteArray) (hs : s.size ≤ 1048576) (a b c : Int) : ∀ (d k i : Nat), i ≤ s.size → s.size - i = d → d < k → impl_FilterOk.l0 k s.size i a b c s = some (((nb s).drop i).all (fun x => decide (x ≤ 127))) := by
  intro d
  induction d with
  | zero =>
    intro k i h1 h2 hk
    obtain ⟨k, rfl⟩ : ∃ m, k = m + 1 := ⟨k - 1, by omega⟩
    rw [impl_FilterOk.l0, if_neg (by omega), nb_end s i (by omega)]; rfl
  | succ d ih =>
    intro k i h1 h2 hk
    obtain ⟨k, rfl⟩ : ∃ m, k = m + 1 := ⟨k - 1, by omega⟩
    obtain ⟨x, hd, hx, hl⟩ := nb_drop s i (by omega)
    rw [impl_FilterOk.l0, if_pos (by omega), if_pos (by omega), if_pos (by omega), hx, hd, w64s (n := s.size) (by omega) (by omega)]
    by_cases g : x ≤ 127
    · rw [if_neg (by omega), ih k (i + 1) (by omega) (by omega) (by omega)]; simp [g]
    · rw [if_pos (by omega)]; simp [g]
theorem ifo (a b c : Int) (s : ByteArray) (k : Nat) (hk : s.size + 2 < k) : impl_FilterOk.f k a b c s = some (fltB a b c s) := by
  obtain ⟨k, rfl⟩ : ∃ m, k = m + 1 := ⟨k - 1, by omega⟩
  unfold impl_FilterOk.f fltB
  by_cases h0 : a = 0
  · rw [if_pos h0, if_pos h0]
  · rw [if_neg h0, if_neg h0]
    by_cases h1 : a = 1
    · rw [if_pos h1, if_pos h1]
      by_cases hb : b = 0
      · rw [if_pos hb, iwithin, iwithin]
        simp only [Option.bind_some, hb, decide_true, Bool.true_and]
        cases inB c 1 30 <;> rfl
      · rw [if_neg hb]; simp [hb]
    · rw [if_neg h1, if_neg h1]
      by_cases h2 : a = 2
      · rw [if_pos h2, if_pos h2]
        have jt : impl_FilterOk.j0 (k + 1) true a b c s = some false := by rw [impl_FilterOk.j0, if_pos rfl]
        by_cases hc : c = 0
        · rw [if_pos hc, iwithin, iwithin]
          simp only [Option.bind_some, hc, decide_true, Bool.true_and]
          rw [hc] at jt
          by_cases hq : inB b 0 3 = true
          · rw [if_pos hq, hq, Bool.true_and]
            by_cases hr : inB (s.size : Int) 20 600 = true
            · have hsz : s.size ≤ 600 := by simp only [inB, decide_eq_true_eq] at hr; omega
              rw [hr, Bool.true_and, impl_FilterOk.j0, if_neg (by decide)]
              have h := ifo_l0 s (by omega) a b 0 s.size k 0 (by omega) (by omega) (by omega)
              simpa using h
            · have hr' : inB (s.size : Int) 20 600 = false := by simpa using hr
              rw [hr', Bool.not_false, jt]; rfl
          · have hq' : inB b 0 3 = false := by simpa using hq
            rw [if_neg hq, hq', jt]; rfl
        · rw [if_neg hc, jt]; simp [hc]
      · rw [if_neg h2, if_neg h2]
theorem flt_size {a b c : Int} {s : ByteArray} (h : fltB a b c s = true) : s.size ≤ 1000 := by
  unfold fltB at h
  split at h
  · simp only [Bool.and_eq_true, beq_iff_eq] at h
    have h' := h.2.2.2
    rw [ByteArray.toList_eq] at h'
    have : s.data.toList.length = s.size := by rw [Array.length_toList]; rfl
    rw [h'] at this
    simp at this
    omega
  · split at h
    · simp only [Bool.and_eq_true, inB, decide_eq_true_eq] at h; omega
    · split at h
      · simp only [Bool.and_eq_true, inB, decide_eq_true_eq] at h; omega
      · cases h

/-! ## section ribbonmay -/
/-- what RibbonMay says -/
def rmayB (a b c : Int) (s u : ByteArray) : Bool := !decide (a = 2) || (!fltB a b c s || decide (xr (bf (bytesOf s)) (eqP b u s.size) (eqR b u) 16 = eqS b u))
theorem flt_ribbon {b c : Int} {s : ByteArray} (h : fltB 2 b c s = true) : c = 0 ∧ 0 ≤ b ∧ b ≤ 3 ∧ 20 ≤ s.size ∧ s.size ≤ 600 := by
  unfold fltB at h
  rw [if_neg (by decide), if_neg (by decide), if_pos rfl] at h
  simp only [Bool.and_eq_true, inB, decide_eq_true_eq] at h
  omega
theorem irmay (k : Nat) (a b c : Int) (s u : ByteArray) (hs : s.size ≤ 1048576) (hu : u.size ≤ 1048576) (hk : 1048700 < k) : impl_RibbonMay.f k a b c s u = some (rmayB a b c s u) := by
  obtain ⟨k, rfl⟩ : ∃ m, k = m + 1 := ⟨k - 1, by omega⟩
  have jt : ∀ a, impl_RibbonMay.j0 (k + 1) u true a b c s = some true := fun a => by rw [impl_RibbonMay.j0, if_pos rfl]
  unfold impl_RibbonMay.f rmayB
  by_cases h : a = 2
  · subst h
    rw [if_pos rfl, ifo 2 b c s _ (by omega)]
    simp only [Option.bind_some, decide_true, Bool.not_true, Bool.false_or]
    by_cases g : fltB 2 b c s = true
    · obtain ⟨_, b0, b1, s0, s1⟩ := flt_ribbon g
      rw [g, impl_RibbonMay.j0, if_neg (by decide), irow k u b s.size (by omega) (by omega) (by omega) (by omega)]
      simp only [Option.bind_some]
      have hp := eqP_lt b u (m := s.size) (by omega)
      rw [if_pos (by omega), isolve (okB_bytesOf s) 16 k _ _ (eqR_lt b u) (by omega) (by rw [bytesOf_length]; exact hp) (by rw [bytesOf_length]; omega) (by omega)]
      simp only [Option.bind_some, Bool.not_true, Bool.false_or]
      generalize xr (bf (bytesOf s)) (eqP b u s.size) (eqR b u) 16 = x
      generalize eqS b u = y
      congr 1
      by_cases e : x = y
      · subst e; simp
      · rw [decide_eq_false e]
        exact beq_eq_false_iff_ne.2 (by omega)
    · have g' : fltB 2 b c s = false := by simpa using g
      rw [g', Bool.not_false, jt]; rfl
  · rw [if_neg h, jt]; simp [h]

/-! ## section filterokspec -/
theorem sfo_l0 (s : ByteArray) (hs : s.size ≤ 1048576) (a b c : Int) : ∀ (d k i : Nat), i ≤ s.size → s.size - i = d → d < k → spec_FilterOk.l0 k i a b c s = some (((nb s).drop i).all (fun x => decide (x ≤ 127))) := by
  intro d
  induction d with
  | zero =>
    intro k i h1 h2 hk
    obtain ⟨k, rfl⟩ : ∃ m, k = m + 1 := ⟨k - 1, by omega⟩
    rw [spec_FilterOk.l0, if_neg (by omega), nb_end s i (by omega)]; rfl
  | succ d ih =>
    intro k i h1 h2 hk
    obtain ⟨k, rfl⟩ : ∃ m, k = m + 1 := ⟨k - 1, by omega⟩
    obtain ⟨x, hd, hx, hl⟩ := nb_drop s i (by omega)
    rw [spec_FilterOk.l0, if_pos (by omega), if_pos (by omega), hx, hd, w64s (n := s.size) (by omega) (by omega)]
    by_cases g : x ≤ 127
    · rw [if_neg (by omega), ih k (i + 1) (by omega) (by omega) (by omega)]; simp [g]
    · rw [if_pos (by omega)]; simp [g]
theorem sfo (a b c : Int) (s : ByteArray) (k : Nat) (hk : s.size + 2 < k) : spec_FilterOk.f k a b c s = some (fltB a b c s) := by
  obtain ⟨k, rfl⟩ : ∃ m, k = m + 1 := ⟨k - 1, by omega⟩
  unfold spec_FilterOk.f fltB
  by_cases h0 : a = 0
  · rw [if_pos h0, if_pos h0]
  · rw [if_neg h0, if_neg h0]
    by_cases h1 : a = 1
    · rw [if_pos h1, if_pos h1]
      by_cases hb : b = 0
      · rw [if_pos hb, swithin, swithin]
        simp only [Option.bind_some, hb, decide_true, Bool.true_and]
        cases inB c 1 30 <;> rfl
      · rw [if_neg hb]; simp [hb]
    · rw [if_neg h1, if_neg h1]
      by_cases h2 : a = 2
      · rw [if_pos h2, if_pos h2]
        have jt : spec_FilterOk.j0 (k + 1) true a b c s = some false := by rw [spec_FilterOk.j0, if_pos rfl]
        by_cases hc : c = 0
        · rw [if_pos hc, swithin, swithin]
          simp only [Option.bind_some, hc, decide_true, Bool.true_and]
          rw [hc] at jt
          by_cases hq : inB b 0 3 = true
          · rw [if_pos hq, hq, Bool.true_and]
            by_cases hr : inB (s.size : Int) 20 600 = true
            · have hsz : s.size ≤ 600 := by simp only [inB, decide_eq_true_eq] at hr; omega
              rw [hr, Bool.true_and, spec_FilterOk.j0, if_neg (by decide)]
              have h := sfo_l0 s (by omega) a b 0 s.size k 0 (by omega) (by omega) (by omega)
              simpa using h
            · have hr' : inB (s.size : Int) 20 600 = false := by simpa using hr
              rw [hr', Bool.not_false, jt]; rfl
          · have hq' : inB b 0 3 = false := by simpa using hq
            rw [if_neg hq, hq', jt]; rfl
        · rw [if_neg hc, jt]; simp [hc]
      · rw [if_neg h2, if_neg h2]

/-! ## section ribbonmayspec -/
theorem srm_l0 (s : ByteArray) (p r : Nat) (hr : r < 2 ^ 16) (hp : p + 16 ≤ s.size) (h2 : s.size ≤ 1000) (a b c : Int) : ∀ (d k i o : Nat), i + d = 16 → d < k → o < 256 → spec_RibbonMay.l0 k p r o i a b c s = some ((((o ^^^ xr (bf (bytesOf s)) (p + i) (r / 2 ^ i) d : Nat) : Int)) == 0) := by
  intro d
  induction d with
  | zero =>
    intro k i o g1 hk ho
    obtain ⟨k, rfl⟩ : ∃ m, k = m + 1 := ⟨k - 1, by omega⟩
    rw [spec_RibbonMay.l0, if_neg (by omega), xr, Nat.xor_zero]
  | succ d ih =>
    intro k i o g1 hk ho
    obtain ⟨k, rfl⟩ : ∃ m, k = m + 1 := ⟨k - 1, by omega⟩
    have ei : IntKind.u64.wrap (i : Int) = (i : Int) := wrapU .u64 rfl _ (by show i < 18446744073709551616; omega)
    have ep : wrap64 ((p : Int) + (i : Int)) = ((p + i : Nat) : Int) := by rw [w64 (by omega) (by omega)]; push_cast; rfl
    have e1 : wrap64 ((i : Int) + 1) = ((i + 1 : Nat) : Int) := w64s (n := 16) (by omega) (by omega)
    have et : Int.tmod ((r / 2 ^ i : Nat) : Int) 2 = ((r / 2 ^ i % 2 : Nat) : Int) := tmodN _ 2
    have hb := bf_lt (okB_bytesOf s) (p + i)
    have ex : Go.bits .xor .u64 (o : Int) (IntKind.u64.wrap (bt s ((p + i : Nat) : Int))) = ((o ^^^ bf (bytesOf s) (p + i) : Nat) : Int) := by
      rw [← rd_bytesOf, bf_val (okB_bytesOf s), wrapU .u64 rfl _ (by show bf (bytesOf s) (p + i) < 18446744073709551616; omega)]
      exact b_xor .u64 rfl _ _ (by show o < 18446744073709551616; omega) (by show bf (bytesOf s) (p + i) < 18446744073709551616; omega)
    have nx : r / 2 ^ i / 2 = r / 2 ^ (i + 1) := by rw [Nat.div_div_eq_div_mul, Nat.pow_succ]
    rw [spec_RibbonMay.l0, if_pos (show (i : Int) < 16 by clear ei ep e1 et ex; omega), ei, if_pos (show (0 : Int) ≤ (i : Int) from Int.natCast_nonneg i), shrU r i (by omega), et, ep, e1, ex, xr, nx]
    by_cases g : r / 2 ^ i % 2 = 1
    · rw [if_pos (show ((r / 2 ^ i % 2 : Nat) : Int) = 1 by rw [g]; rfl), if_pos (show (0 : Int) ≤ ((p + i : Nat) : Int) from Int.natCast_nonneg _), if_pos (show ((p + i : Nat) : Int) < (s.size : Int) by clear ei ep e1 et ex; omega), if_pos g, ← Nat.xor_assoc]
      exact ih k (i + 1) _ (by omega) (by omega) (Nat.xor_lt_two_pow (n := 8) ho hb)
    · rw [if_neg (show ¬ ((r / 2 ^ i % 2 : Nat) : Int) = 1 by intro hh; exact g (by exact_mod_cast hh)), if_neg g, Nat.zero_xor]
      exact ih k (i + 1) o (by omega) (by omega) ho
theorem srmay (k : Nat) (a b c : Int) (s u : ByteArray) (hs : s.size ≤ 1048576) (hu : u.size ≤ 1048576) (hk : 1048700 < k) : spec_RibbonMay.f k a b c s u = some (rmayB a b c s u) := by
  obtain ⟨k, rfl⟩ : ∃ m, k = m + 1 := ⟨k - 1, by omega⟩
  have jt : ∀ a, spec_RibbonMay.j0 (k + 1) u true a b c s = some true := fun a => by rw [spec_RibbonMay.j0, if_pos rfl]
  unfold spec_RibbonMay.f rmayB
  by_cases h : a = 2
  · subst h
    rw [if_pos rfl, sfo 2 b c s _ (by omega)]
    simp only [Option.bind_some, decide_true, Bool.not_true, Bool.false_or]
    by_cases g : fltB 2 b c s = true
    · obtain ⟨_, b0, b1, s0, s1⟩ := flt_ribbon g
      rw [g, spec_RibbonMay.j0, if_neg (by decide), srow k u b s.size (by omega) (by omega) (by omega) (by omega)]
      simp only [Option.bind_some]
      have hp := eqP_lt b u (m := s.size) (by omega)
      have h := srm_l0 s (eqP b u s.size) (eqR b u) (eqR_lt b u) hp (by omega) 2 b c 16 k 0 (eqS b u) (by omega) (by omega) (by have := eqS_lt b u; omega)
      rw [Nat.add_zero, Nat.pow_zero, Nat.div_one] at h
      rw [show ((0 : Nat) : Int) = 0 from rfl] at h
      rw [h]
      simp only [Bool.not_true, Bool.false_or]
      generalize xr (bf (bytesOf s)) (eqP b u s.size) (eqR b u) 16 = x
      generalize eqS b u = y
      congr 1
      by_cases e : x = y
      · subst e; rw [Nat.xor_self]; simp
      · rw [decide_eq_false e]
        refine beq_eq_false_iff_ne.2 (fun hh => e ?_)
        have h0 : y ^^^ x = 0 := by exact_mod_cast hh
        exact ((xor_zero_iff y x).1 h0).symm
    · have g' : fltB 2 b c s = false := by simpa using g
      rw [g', Bool.not_false, jt]; rfl
  · rw [if_neg h, jt]; simp [h]

/-! ## section place -/
/-- the other number of a user -/
def hG (u : ByteArray) : Nat := (Go.bits .or .u64 ((hsh 0 u : Int) / 8589934592) (IntKind.u64.wrap ((hsh 0 u : Int) * 2147483648))).toNat
theorem hG_val (u : ByteArray) : Go.bits .or .u64 ((hsh 0 u : Int) / 8589934592) (IntKind.u64.wrap ((hsh 0 u : Int) * 2147483648)) = (hG u : Int) := by
  have h := bits_range .u64 rfl .or ((hsh 0 u : Int) / 8589934592) (IntKind.u64.wrap ((hsh 0 u : Int) * 2147483648))
  unfold hG; rw [Int.toNat_of_nonneg h.1]
/-- the number of a user's bit i among m -/
def pl (u : ByteArray) (i m : Nat) : Nat := (hsh 0 u + i * hG u % 18446744073709551616) % 18446744073709551616 % m
theorem pl_lt (u : ByteArray) (i m : Nat) (h : 0 < m) : pl u i m < m := Nat.mod_lt _ h
theorem u64n (n : Nat) : IntKind.u64.wrap (n : Int) = ((n % 18446744073709551616 : Nat) : Int) := by rw [u64w]; omega
theorem pl_val (u : ByteArray) (i m : Nat) : Int.tmod (IntKind.u64.wrap ((hsh 0 u : Int) + IntKind.u64.wrap ((i : Int) * (hG u : Int)))) (m : Int) = ((pl u i m : Nat) : Int) := by
  rw [← Int.natCast_mul, u64n, ← Int.natCast_add, u64n]
  rw [Int.tmod_eq_emod_of_nonneg (by omega)]
  exact (Int.natCast_emod _ _).symm
theorem shr8 (x : Int) (b : Nat) (hb : b < 8) : shr .u8 x (b : Int) = x / 2 ^ b := by
  unfold shr
  rw [Int.toNat_natCast, Nat.min_eq_left (by show b ≤ 8; omega)]
theorem td8 (b : Nat) (h : b < 100000) : IntKind.u64.wrap (Int.tdiv (b : Int) 8) = ((b / 8 : Nat) : Int) := by
  rw [Int.tdiv_eq_ediv_of_nonneg (by omega), u64w]; omega
theorem tm8 (b : Nat) : Int.tmod (b : Int) 8 = ((b % 8 : Nat) : Int) := by
  rw [Int.tmod_eq_emod_of_nonneg (by omega)]; omega

/-! ## section probes -/
/-- the numbers of the bits of a user -/
def prb (u : ByteArray) (many m : Nat) : List Int := (List.range many).map fun i => ((pl u i m : Nat) : Int)
theorem prb_length (u : ByteArray) (many m : Nat) : (prb u many m).length = many := by simp [prb]
theorem prb_succ (u : ByteArray) (i m : Nat) : prb u (i + 1) m = prb u i m ++ [((pl u i m : Nat) : Int)] := by simp [prb, List.range_succ]
theorem iprb_l0 (u : ByteArray) (n : Nat) (hn : 1 ≤ n) (hn2 : n ≤ 10000) (many : Nat) (hm : many ≤ 100) : ∀ (d k i : Nat), i ≤ many → many - i = d → d < k → impl_probes.l0 k n (hsh 0 u) (hG u) (prb u i (8 * n)) many i = some (prb u many (8 * n)) := by
  have e8 : IntKind.u64.wrap (8 * (IntKind.u64.wrap (n : Int))) = ((8 * n : Nat) : Int) := by rw [u64w, u64w]; omega
  intro d
  induction d with
  | zero =>
    intro k i h1 h2 hk
    obtain ⟨k, rfl⟩ : ∃ m, k = m + 1 := ⟨k - 1, by omega⟩
    rw [impl_probes.l0, if_neg (by clear e8; omega), show i = many by clear e8; omega]
  | succ d ih =>
    intro k i h1 h2 hk
    obtain ⟨k, rfl⟩ : ∃ m, k = m + 1 := ⟨k - 1, by clear e8; omega⟩
    rw [impl_probes.l0, if_pos (by clear e8; omega), e8, if_neg (by clear e8; omega), prb_length, if_pos (by clear e8; omega), pl_val]
    have ei : IntKind.u64.wrap ((i : Int) + 1) = ((i + 1 : Nat) : Int) := by clear e8; rw [u64w]; omega
    rw [ei, ← prb_succ]
    clear ei
    exact ih k (i + 1) (by clear e8; omega) (by clear e8; omega) (by clear e8; omega)
theorem iprb (k : Nat) (u : ByteArray) (hu : u.size ≤ 140737488351232) (hk : u.size + 101 < k) (many n : Nat) (hm : many ≤ 100) (hn : 1 ≤ n) (hn2 : n ≤ 10000) : impl_probes.f k u (many : Int) (n : Int) = some (prb u many (8 * n)) := by
  unfold impl_probes.f
  rw [ihash 0 u hu k (by omega)]
  simp only [Option.bind_some]
  rw [hG_val]
  have e : IntKind.u64.wrap (many : Int) = (many : Int) := by rw [u64w]; omega
  rw [e]
  clear e
  exact iprb_l0 u n hn hn2 many hm many k 0 (by omega) (by omega) (by omega)
theorem rd_prb (u : ByteArray) (many m i : Nat) (h : i < many) : rd (prb u many m) (i : Int) = ((pl u i m : Nat) : Int) := by
  unfold rd
  rw [Int.toNat_natCast, List.getD_eq_getElem?_getD]
  simp [prb, h]

/-! ## section bloommay -/
/-- is a bit set -/
def bitB (s : ByteArray) (b : Nat) : Bool := decide ((nb s).getD (b / 8) 0 / 2 ^ (b % 8) % 2 = 1)
theorem bt_getD (s : ByteArray) (i : Nat) : bt s i = (((nb s).getD i 0 : Nat) : Int) := by
  rcases Nat.lt_or_ge i s.size with h | h
  · rw [bt_nb s i h, List.getD_eq_getElem?_getD, List.getElem?_eq_getElem (by rw [nb_length]; exact h)]; rfl
  · have e : bt s i = 0 := by simp only [bt, Int.toNat_natCast]; rw [dif_neg (by omega)]
    rw [e, List.getD_eq_getElem?_getD, List.getElem?_eq_none (by rw [nb_length]; exact h)]; rfl
theorem getD_lt (l : List Nat) (h : ∀ b ∈ l, b < 256) (i : Nat) : l.getD i 0 < 256 := by
  rw [List.getD_eq_getElem?_getD]
  cases hi : l[i]? with
  | none => simp
  | some b => simpa using h b (List.mem_of_getElem? hi)
theorem bit_shr (s : ByteArray) (b : Nat) : shr .u8 (bt s ((b / 8 : Nat) : Int)) ((b % 8 : Nat) : Int) = (((nb s).getD (b / 8) 0 / 2 ^ (b % 8) : Nat) : Int) := by
  rw [shr8 _ _ (Nat.mod_lt _ (by omega)), bt_getD]; push_cast; rfl
/-- what a filter of bits says of a user -/
def mayB (s : ByteArray) (u : ByteArray) (many : Nat) : Nat → Bool
  | 0 => true
  | d + 1 => bitB s (pl u (many - (d + 1)) (8 * s.size)) && mayB s u many d
theorem ibm_l0 (s u : ByteArray) (h1 : 1 ≤ s.size) (h2 : s.size ≤ 1000) (many : Nat) (hm : many ≤ 100) (a b c : Int) : ∀ (d k i : Nat), i ≤ many → many - i = d → d < k → impl_bloomMay.l0 k (prb u many (8 * s.size)) many i a b c s = some (mayB s u many d) := by
  intro d
  induction d with
  | zero =>
    intro k i g1 g2 hk
    obtain ⟨k, rfl⟩ : ∃ m, k = m + 1 := ⟨k - 1, by omega⟩
    rw [impl_bloomMay.l0, if_neg (by omega)]; rfl
  | succ d ih =>
    intro k i g1 g2 hk
    obtain ⟨k, rfl⟩ : ∃ m, k = m + 1 := ⟨k - 1, by omega⟩
    have hp := pl_lt u i (8 * s.size) (by omega)
    have hi : many - (d + 1) = i := by omega
    rw [impl_bloomMay.l0, if_pos (by omega), if_pos (by omega), prb_length, if_pos (by omega), rd_prb _ _ _ _ (by omega)]
    rw [mayB, hi]
    generalize pl u i (8 * s.size) = p at hp
    rw [td8 p (by omega), tm8, if_pos (by omega), if_pos (by omega), if_pos (by omega), bit_shr]
    unfold bitB
    have hx : (nb s).getD (p / 8) 0 / 2 ^ (p % 8) < 256 := Nat.lt_of_le_of_lt (Nat.div_le_self _ _) (getD_lt (nb s) (nb_lt s) _)
    generalize (nb s).getD (p / 8) 0 / 2 ^ (p % 8) = x at hx
    have ea : Go.bits .and .u8 (x : Int) 1 = ((x % 2 : Nat) : Int) := by
      rw [show (1 : Int) = ((1 : Nat) : Int) from rfl, b_and .u8 rfl _ _ hx (by decide), Nat.and_one_is_mod]
    rw [ea]
    clear ea
    by_cases g : x % 2 = 1
    · rw [if_neg (by omega), w64s (n := many) (by omega) (by omega), ih k (i + 1) (by omega) (by omega) (by omega)]; simp [g]
    · rw [if_pos (by omega)]; simp [g]
theorem ibm0 (k : Nat) (s u : ByteArray) (h1 : 1 ≤ s.size) (h2 : s.size ≤ 1000) (hu : u.size ≤ 140737488351232) (hk : u.size + 101 < k) (many : Nat) (hm : many ≤ 100) (a b : Int) : impl_bloomMay.f k a b (many : Int) s u = some (mayB s u many many) := by
  unfold impl_bloomMay.f
  rw [iprb k u hu hk many s.size hm h1 (by omega)]
  simp only [Option.bind_some]
  rw [prb_length]
  exact ibm_l0 s u h1 h2 many hm a b many many k 0 (by omega) (by omega) (by omega)
/-- what BloomMay says -/
def bmayB (a b c : Int) (s u : ByteArray) : Bool := !decide (a = 1) || (!fltB a b c s || mayB s u c.toNat c.toNat)
theorem flt_bloom {b c : Int} {s : ByteArray} (h : fltB 1 b c s = true) : b = 0 ∧ 1 ≤ c ∧ c ≤ 30 ∧ 1 ≤ s.size ∧ s.size ≤ 1000 := by
  unfold fltB at h
  rw [if_neg (by decide), if_pos rfl] at h
  simp only [Bool.and_eq_true, inB, decide_eq_true_eq] at h
  omega
theorem ibmay (k : Nat) (a b c : Int) (s u : ByteArray) (hs : s.size ≤ 1048576) (hu : u.size ≤ 1048576) (hk : 1048700 < k) : impl_BloomMay.f k a b c s u = some (bmayB a b c s u) := by
  unfold impl_BloomMay.f bmayB
  by_cases h : a = 1
  · subst h
    rw [if_pos rfl, ifo 1 b c s k (by omega)]
    simp only [Option.bind_some, decide_true, Bool.not_true, Bool.false_or]
    by_cases g : fltB 1 b c s = true
    · obtain ⟨_, c0, c1, s0, s1⟩ := flt_bloom g
      obtain ⟨m, rfl⟩ := Int.eq_ofNat_of_zero_le (show 0 ≤ c by omega)
      rw [if_pos g, ibm0 k s u s0 s1 (by omega) (by omega) m (by omega), g]
      simp
    · have g' : fltB 1 b c s = false := by simpa using g
      rw [if_neg g, g']; rfl
  · rw [if_neg h]; simp [h]

/-! ## section placespec -/
theorem spl (k : Nat) (u : ByteArray) (hu : u.size ≤ 140737488351232) (hk : u.size < k) (i m : Nat) (hi : i ≤ 100) (hm : 0 < m) : spec_l3Place.f k u (i : Int) (m : Int) = some ((pl u i m : Nat) : Int) := by
  unfold spec_l3Place.f
  rw [shash 0 u hu k hk]
  simp only [Option.bind_some]
  rw [if_neg (by omega), hG_val]
  have e : IntKind.u64.wrap (i : Int) = (i : Int) := by rw [u64w]; omega
  rw [e, pl_val]

/-! ## section bloommayspec -/
theorem sbm_l0 (s u : ByteArray) (h1 : 1 ≤ s.size) (h2 : s.size ≤ 1000) (hu : u.size ≤ 140737488351232) (many : Nat) (hm : many ≤ 100) (a b : Int) : ∀ (d k i : Nat), i ≤ many → many - i = d → d + u.size < k → spec_BloomMay.l0 k u i a b many s = some (mayB s u many d) := by
  intro d
  induction d with
  | zero =>
    intro k i g1 g2 hk
    obtain ⟨k, rfl⟩ : ∃ m, k = m + 1 := ⟨k - 1, by omega⟩
    rw [spec_BloomMay.l0, if_neg (by omega)]; rfl
  | succ d ih =>
    intro k i g1 g2 hk
    obtain ⟨k, rfl⟩ : ∃ m, k = m + 1 := ⟨k - 1, by omega⟩
    have hp := pl_lt u i (8 * s.size) (by omega)
    have hi : many - (d + 1) = i := by omega
    have e8 : IntKind.u64.wrap (wrap64 (8 * (s.size : Int))) = ((8 * s.size : Nat) : Int) := by
      have : wrap64 (8 * (s.size : Int)) = ((8 * s.size : Nat) : Int) := by unfold wrap64; omega
      rw [this, u64w]; omega
    rw [spec_BloomMay.l0, if_pos (by clear e8; omega), e8, spl k u hu (by clear e8; omega) i _ (by clear e8; omega) (by clear e8; omega)]
    clear e8
    simp only [Option.bind_some]
    rw [mayB, hi]
    generalize pl u i (8 * s.size) = p at hp
    rw [td8 p (by omega), tm8, if_pos (by omega), if_pos (by omega), if_pos (by omega), bit_shr]
    unfold bitB
    generalize (nb s).getD (p / 8) 0 / 2 ^ (p % 8) = x
    have ea : Int.tmod (x : Int) 2 = ((x % 2 : Nat) : Int) := by rw [Int.tmod_eq_emod_of_nonneg (by omega)]; omega
    rw [ea]
    clear ea
    by_cases g : x % 2 = 1
    · rw [if_neg (by omega), w64s (n := many) (by omega) (by omega), ih k (i + 1) (by omega) (by omega) (by omega)]; simp [g]
    · rw [if_pos (by omega)]; simp [g]
theorem sbmay (k : Nat) (a b c : Int) (s u : ByteArray) (hs : s.size ≤ 1048576) (hu : u.size ≤ 1048576) (hk : 1048700 < k) : spec_BloomMay.f k a b c s u = some (bmayB a b c s u) := by
  obtain ⟨k, rfl⟩ : ∃ m, k = m + 1 := ⟨k - 1, by omega⟩
  have jt : ∀ a, spec_BloomMay.j0 (k + 1) u true a b c s = some true := fun a => by rw [spec_BloomMay.j0, if_pos rfl]
  unfold spec_BloomMay.f bmayB
  by_cases h : a = 1
  · subst h
    rw [if_pos rfl, sfo 1 b c s _ (by omega)]
    simp only [Option.bind_some, decide_true, Bool.not_true, Bool.false_or]
    by_cases g : fltB 1 b c s = true
    · obtain ⟨_, c0, c1, s0, s1⟩ := flt_bloom g
      obtain ⟨m, rfl⟩ := Int.eq_ofNat_of_zero_le (show 0 ≤ c by omega)
      rw [g, spec_BloomMay.j0, if_neg (by decide)]
      have h := sbm_l0 s u s0 s1 (by omega) m (by omega) 1 b m k 0 (by omega) (by omega) (by omega)
      simpa using h
    · have g' : fltB 1 b c s = false := by simpa using g
      rw [g', Bool.not_false, jt]; rfl
  · rw [if_neg h, jt]; simp [h]

theorem FnExactFilterMay : laws_FnExactFilterMay.Pure := by
  intro a b c s u _ _ _ hs hu
  refine ⟨1048702, ?_⟩
  unfold laws_FnExactFilterMay.f
  by_cases hb : (u.size : Int) > 1048576
  · rw [if_pos hb]
  · rw [if_neg hb]
    obtain ⟨r, hr, hz⟩ := szfilter_some a b c s hs
    rw [hr]
    simp only [Option.bind_some]
    by_cases h : r < 0
    · rw [if_pos h]
    · have h1 := hz h
      rw [if_neg h]
      simp only [laws_toFilter.f, Option.bind_some]
      have es : spec_FilterMay.f 1048702 a b c s u = some (bmayB a b c s u && rmayB a b c s u) := by
        unfold spec_FilterMay.f
        rw [sbmay _ a b c s u h1 (by omega) (by omega), srmay _ a b c s u h1 (by omega) (by omega)]
        simp only [Option.bind_some]
        cases bmayB a b c s u <;> simp
      have ei : impl_FilterMay.f 1048702 a b c s u = some (bmayB a b c s u && rmayB a b c s u) := by
        unfold impl_FilterMay.f
        rw [ibmay _ a b c s u h1 (by omega) (by omega), irmay _ a b c s u h1 (by omega) (by omega)]
        simp only [Option.bind_some]
        cases bmayB a b c s u <;> simp
      rw [es, ei]
      simp

end Go.Proofs.Ytfcjacncllmapaf.Pure
