/- The program's FilterOf returns what the reference's FilterOf returns, for every list of texts and every number: no condition. -/
import Derived.Test.YtfcjacncllmapafQFnExactFilterOfy
namespace Go.Proofs.Ytfcjacncllmapaf.Pure
open Go.RowKit Go.Proofs.Ytfcjacncllmapaf.QFnExactFilterOf Go.Proofs.YtfcjacncllmapafW.PrintWords Go.Proofs.YtfcjacncllmapafW.PrintLast Go.Proofs.YtfcjacncllmapafW.PrintMore
set_option linter.unusedVariables false
set_option linter.unusedSimpArgs false

/-! ## section xr -/
/-- the xor of the bytes that a row names, from a place on; n: rounds -/
def xr (f : Nat → Nat) : Nat → Nat → Nat → Nat
  | _, _, 0 => 0
  | p, r, n + 1 => (if r % 2 = 1 then f p else 0) ^^^ xr f (p + 1) (r / 2) n
theorem xr_zero (f : Nat → Nat) : ∀ (n p : Nat), xr f p 0 n = 0
  | 0, _ => rfl
  | n + 1, p => by rw [xr, if_neg (by omega), show 0 / 2 = 0 from rfl, xr_zero f n (p + 1)]; rfl
theorem xr_more (f : Nat → Nat) : ∀ (n p r : Nat), r < 2 ^ n → ∀ m, n ≤ m → xr f p r m = xr f p r n
  | 0, p, r, h, m, _ => by
    obtain rfl : r = 0 := by simpa using h
    rw [xr_zero, xr_zero]
  | n + 1, p, r, h, m, hm => by
    obtain ⟨m, rfl⟩ : ∃ q, m = q + 1 := ⟨m - 1, by omega⟩
    rw [xr, xr, xr_more f n (p + 1) (r / 2) (by rw [Nat.pow_succ] at h; omega) m (by omega)]
theorem xor_mod2 (a b : Nat) : (a ^^^ b) % 2 = (a % 2 + b % 2) % 2 := by
  have h := Nat.xor_mod_two_pow (a := a) (b := b) (n := 1)
  rw [Nat.pow_one] at h
  rw [h]
  rcases Nat.mod_two_eq_zero_or_one a with ha | ha <;> rcases Nat.mod_two_eq_zero_or_one b with hb | hb <;> rw [ha, hb] <;> rfl
theorem xor_swap4 (a b c d : Nat) : (a ^^^ b) ^^^ (c ^^^ d) = (a ^^^ c) ^^^ (b ^^^ d) := by
  rw [Nat.xor_assoc, Nat.xor_assoc, ← Nat.xor_assoc b c d, Nat.xor_comm b c, Nat.xor_assoc c b d]
theorem xr_xor (f : Nat → Nat) : ∀ (n p a b : Nat), xr f p (a ^^^ b) n = xr f p a n ^^^ xr f p b n
  | 0, _, _, _ => by simp [xr]
  | n + 1, p, a, b => by
    rw [xr, xr, xr, Nat.xor_div_two, xr_xor f n (p + 1) (a / 2) (b / 2), xor_swap4, xor_mod2]
    congr 1
    rcases Nat.mod_two_eq_zero_or_one a with ha | ha <;> rcases Nat.mod_two_eq_zero_or_one b with hb | hb <;> rw [ha, hb] <;> simp
theorem xr_same (f g : Nat → Nat) : ∀ (n p r : Nat), (∀ i, p ≤ i → f i = g i) → xr f p r n = xr g p r n
  | 0, _, _, _ => rfl
  | n + 1, p, r, h => by rw [xr, xr, h p (Nat.le_refl _), xr_same f g n (p + 1) (r / 2) (fun i hi => h i (by omega))]
theorem xr_lt (f : Nat → Nat) (b : Nat) (hf : ∀ i, f i < 2 ^ b) : ∀ (n p r : Nat), xr f p r n < 2 ^ b
  | 0, _, _ => Nat.two_pow_pos b
  | n + 1, p, r => by
    rw [xr]
    refine Nat.xor_lt_two_pow ?_ (xr_lt f b hf n _ _)
    split
    · exact hf p
    · exact Nat.two_pow_pos b
theorem xor_zero_iff (a b : Nat) : a ^^^ b = 0 ↔ a = b := by
  constructor
  · intro h
    have := congrArg (· ^^^ b) h
    simpa [Nat.xor_assoc] using this
  · rintro rfl; exact Nat.xor_self a

/-! ## section base -/
/-- an unsigned kind's number that fits is not wrapped -/
theorem wrapU (k : IntKind) (hs : k.signed = false) (n : Nat) (h : n < 2 ^ k.bits) : k.wrap (n : Int) = n := by
  unfold IntKind.wrap
  rw [Int.emod_eq_of_lt (by omega) (by exact_mod_cast h)]
  simp [hs]
/-- bits of unsigned numbers are those of natural numbers -/
theorem b_or (k : IntKind) (hs : k.signed = false) (a b : Nat) (ha : a < 2 ^ k.bits) (hb : b < 2 ^ k.bits) : Go.bits .or k a b = ((a ||| b : Nat) : Int) := by
  simp only [Go.bits, BitVec.ofInt_natCast, BitVec.toNat_or, BitVec.toNat_ofNat, Nat.mod_eq_of_lt ha, Nat.mod_eq_of_lt hb]
  exact wrapU k hs _ (Nat.or_lt_two_pow ha hb)
theorem b_xor (k : IntKind) (hs : k.signed = false) (a b : Nat) (ha : a < 2 ^ k.bits) (hb : b < 2 ^ k.bits) : Go.bits .xor k a b = ((a ^^^ b : Nat) : Int) := by
  simp only [Go.bits, BitVec.ofInt_natCast, BitVec.toNat_xor, BitVec.toNat_ofNat, Nat.mod_eq_of_lt ha, Nat.mod_eq_of_lt hb]
  exact wrapU k hs _ (Nat.xor_lt_two_pow ha hb)
theorem b_and (k : IntKind) (hs : k.signed = false) (a b : Nat) (ha : a < 2 ^ k.bits) (hb : b < 2 ^ k.bits) : Go.bits .and k a b = ((a &&& b : Nat) : Int) := by
  simp only [Go.bits, BitVec.ofInt_natCast, BitVec.toNat_and, BitVec.toNat_ofNat, Nat.mod_eq_of_lt ha, Nat.mod_eq_of_lt hb]
  exact wrapU k hs _ (Nat.and_lt_two_pow _ hb)
theorem b_or8 (a b : Nat) (ha : a < 256) (hb : b < 256) : Go.bits .or .u8 a b = ((a ||| b : Nat) : Int) := b_or .u8 rfl a b ha hb
theorem u64w (x : Int) : IntKind.u64.wrap x = x % 18446744073709551616 := by simp [IntKind.wrap, IntKind.bits, IntKind.signed]

/-! ## section bytes -/
/-- the bytes of a text, as natural numbers -/
def nb (s : ByteArray) : List Nat := s.data.toList.map UInt8.toNat
theorem nb_length (s : ByteArray) : (nb s).length = s.size := by rw [nb, List.length_map, Array.length_toList]; rfl
theorem nb_lt (s : ByteArray) : ∀ b ∈ nb s, b < 256 := by
  intro b hb
  simp only [nb, List.mem_map] at hb
  obtain ⟨u, _, rfl⟩ := hb
  exact u.toNat_lt
theorem bt_nb (s : ByteArray) (i : Nat) (h : i < s.size) : bt s i = (((nb s)[i]'(by rw [nb_length]; exact h) : Nat) : Int) := by
  simp only [bt, Int.toNat_natCast, h, nb]
  simp
  rfl
theorem nb_drop (s : ByteArray) (i : Nat) (h : i < s.size) : ∃ b, (nb s).drop i = b :: (nb s).drop (i + 1) ∧ bt s i = (b : Int) ∧ b < 256 := by
  have hl : i < (nb s).length := by rw [nb_length]; exact h
  exact ⟨(nb s)[i], List.drop_eq_getElem_cons hl, bt_nb s i h, nb_lt s _ (List.getElem_mem hl)⟩
theorem nb_end (s : ByteArray) (i : Nat) (h : s.size ≤ i) : (nb s).drop i = [] := List.drop_eq_nil_of_le (by rw [nb_length]; exact h)
theorem w64 {x : Int} (h0 : -9223372036854775808 ≤ x) (h1 : x < 9223372036854775808) : wrap64 x = x := by unfold wrap64; omega
theorem w64s {i n : Nat} (h : i < n) (hn : n ≤ 140737488351232) : wrap64 ((i : Int) + 1) = ((i + 1 : Nat) : Int) := by rw [w64] <;> omega
theorem bits_range (k : IntKind) (hs : k.signed = false) (op : BinOp) (x y : Int) : 0 ≤ Go.bits op k x y ∧ Go.bits op k x y < 2 ^ k.bits := by
  have hp : (0 : Int) < 2 ^ k.bits := by exact_mod_cast Nat.two_pow_pos k.bits
  unfold Go.bits IntKind.wrap
  simp only [hs, Bool.false_and]
  exact ⟨Int.emod_nonneg _ (by omega), Int.emod_lt_of_pos _ hp⟩

/-! ## section hash -/
theorem ish_l0 (s : ByteArray) : ∀ (k : Nat) (h : Int) (i : Int), 0 ≤ i → impl_Hash.l0 k s h s.size i = spec_Hash.l0 k s h i := by
  intro k
  induction k with
  | zero => intros; rfl
  | succ k ih =>
    intro h i h0
    rw [impl_Hash.l0, spec_Hash.l0]
    by_cases c : i < (s.size : Int)
    · rw [if_pos c, if_pos c, if_pos h0, if_pos h0, if_pos c]
      by_cases c2 : 0 ≤ wrap64 (i + 1)
      · rw [ih _ _ c2]
      · cases k with
        | zero => rfl
        | succ k =>
          rw [impl_Hash.l0, spec_Hash.l0, if_neg c2, if_neg c2]
    · rw [if_neg c, if_neg c]
theorem sh_l0 (s : ByteArray) (hs : s.size ≤ 140737488351232) : ∀ (d k i : Nat) (h : Int), i ≤ s.size → s.size - i = d → d < k → ∃ r, spec_Hash.l0 k s h i = some r ∧ 0 ≤ r ∧ r < 18446744073709551616 := by
  intro d
  induction d with
  | zero =>
    intro k i h h1 h2 hk
    obtain ⟨k, rfl⟩ : ∃ m, k = m + 1 := ⟨k - 1, by omega⟩
    rw [spec_Hash.l0, if_neg (by omega)]
    refine ⟨_, rfl, ?_⟩
    exact bits_range .u64 rfl .xor _ _
  | succ d ih =>
    intro k i h h1 h2 hk
    obtain ⟨k, rfl⟩ : ∃ m, k = m + 1 := ⟨k - 1, by omega⟩
    rw [spec_Hash.l0, if_pos (by omega), if_pos (by omega), w64s (n := s.size) (by omega) hs]
    exact ih k (i + 1) _ (by omega) (by omega) (by omega)
/-- the hash of a text, as a natural number -/
def hsh (seed : Int) (s : ByteArray) : Nat := ((spec_Hash.f (s.size + 1) seed s).getD 0).toNat
theorem shash (seed : Int) (s : ByteArray) (hs : s.size ≤ 140737488351232) (k : Nat) (hk : s.size < k) : spec_Hash.f k seed s = some (hsh seed s : Int) := by
  obtain ⟨r, hr, h0, h1⟩ := sh_l0 s hs s.size (s.size + 1) 0 (Go.bits .xor .u64 14695981039346656037 (IntKind.u64.wrap ((IntKind.u64.wrap (seed)) * 11400714819323198485))) (by omega) (by omega) (by omega)
  have e : spec_Hash.f (s.size + 1) seed s = some r := hr
  rw [hsh, e]
  simp only [Option.getD_some]
  rw [Int.toNat_of_nonneg h0]
  exact at_rounds (fun j => spec_Hash.mono seed s j) hk e
theorem hsh_lt (seed : Int) (s : ByteArray) (hs : s.size ≤ 140737488351232) : hsh seed s < 18446744073709551616 := by
  obtain ⟨r, hr, h0, h1⟩ := sh_l0 s hs s.size (s.size + 1) 0 (Go.bits .xor .u64 14695981039346656037 (IntKind.u64.wrap ((IntKind.u64.wrap (seed)) * 11400714819323198485))) (by omega) (by omega) (by omega)
  have e : spec_Hash.f (s.size + 1) seed s = some r := hr
  rw [hsh, e]
  simp only [Option.getD_some]
  omega
theorem ihash (seed : Int) (s : ByteArray) (hs : s.size ≤ 140737488351232) (k : Nat) (hk : s.size < k) : impl_Hash.f k seed s = some (hsh seed s : Int) := by
  rw [← shash seed s hs k hk]
  exact ish_l0 s k _ 0 (by omega)

/-! ## section ribbon -/
def okB (l : List Int) : Prop := ∀ x ∈ l, 0 ≤ x ∧ x < 256
theorem okB_rd {l : List Int} (h : okB l) (i : Int) : 0 ≤ rd l i ∧ rd l i < 256 := by
  unfold rd
  rw [List.getD_eq_getElem?_getD]
  cases hi : l[i.toNat]? with
  | none => simp
  | some b => simpa using h b (List.mem_of_getElem? hi)
theorem okB_bytesOf (s : ByteArray) : okB (bytesOf s) := by
  intro x hx
  simp only [bytesOf, List.mem_map] at hx
  obtain ⟨b, _, rfl⟩ := hx
  have := b.toNat_lt
  omega
/-- the bytes of a row, as natural numbers -/
def bf (l : List Int) (i : Nat) : Nat := (rd l (i : Int)).toNat
theorem bf_val {l : List Int} (h : okB l) (i : Nat) : rd l (i : Int) = (bf l i : Int) := by
  have := okB_rd h (i : Int)
  unfold bf
  omega
theorem bf_lt {l : List Int} (h : okB l) (i : Nat) : bf l i < 256 := by
  have := okB_rd h (i : Int)
  unfold bf
  omega
theorem tmodN (a b : Nat) : Int.tmod (a : Int) (b : Int) = ((a % b : Nat) : Int) := by
  rw [Int.tmod_eq_emod_of_nonneg (by omega)]; push_cast; rfl
theorem shrU (r i : Nat) (hi : i ≤ 64) : shr .u64 (r : Int) (i : Int) = ((r / 2 ^ i : Nat) : Int) := by
  unfold shr
  rw [Int.toNat_natCast, Nat.min_eq_left (by show i ≤ 64; omega)]
  push_cast; rfl
/-- a user's equation: where it begins, its row, what it comes to -/
def eqP (seed : Int) (u : ByteArray) (m : Nat) : Nat := hsh (seed % 4294967296) u / 4294967296 % (m - 15)
def eqR (seed : Int) (u : ByteArray) : Nat := hsh (seed % 4294967296) u % 65536 ||| 1
def eqS (seed : Int) (u : ByteArray) : Nat := hsh (seed % 4294967296) u / 65536 % 128
theorem eqP_lt (seed : Int) (u : ByteArray) {m : Nat} (hm : 16 ≤ m) : eqP seed u m + 16 ≤ m := by
  have := Nat.mod_lt (hsh (seed % 4294967296) u / 4294967296) (show 0 < m - 15 by omega)
  unfold eqP; omega
theorem eqR_lt (seed : Int) (u : ByteArray) : eqR seed u < 2 ^ 16 := Nat.or_lt_two_pow (Nat.mod_lt _ (by decide)) (by decide)
theorem eqS_lt (seed : Int) (u : ByteArray) : eqS seed u < 128 := Nat.mod_lt _ (by decide)
theorem m15 {m : Nat} (hm : 16 ≤ m) (h2 : m ≤ 10000) : IntKind.u64.wrap (wrap64 ((m : Int) - 15)) = ((m - 15 : Nat) : Int) := by
  rw [w64 (by omega) (by omega), show (m : Int) - 15 = ((m - 15 : Nat) : Int) by omega]
  exact wrapU .u64 rfl _ (by show m - 15 < 18446744073709551616; omega)
theorem place_val (t m : Nat) (hm : 16 ≤ m) (h2 : m ≤ 10000) : wrap64 (Int.tmod ((t : Int) / 4294967296) ((m - 15 : Nat) : Int)) = ((t / 4294967296 % (m - 15) : Nat) : Int) := by
  rw [show (t : Int) / 4294967296 = ((t / 4294967296 : Nat) : Int) by omega, tmodN]
  have := Nat.mod_lt (t / 4294967296) (show 0 < m - 15 by omega)
  generalize t / 4294967296 % (m - 15) = x at this
  exact w64 (by omega) (by omega)
theorem row_val (t : Nat) : Go.bits .or .u64 (Int.tmod (t : Int) 65536) 1 = ((t % 65536 ||| 1 : Nat) : Int) := by
  rw [show (65536 : Int) = ((65536 : Nat) : Int) from rfl, tmodN]
  have := Nat.mod_lt t (show 0 < 65536 by decide)
  exact b_or .u64 rfl _ 1 (by show t % 65536 < 18446744073709551616; omega) (by decide)
theorem row_vali (t : Nat) (ht : t < 18446744073709551616) : Go.bits .or .u64 (Go.bits .and .u64 (t : Int) 65535) 1 = ((t % 65536 ||| 1 : Nat) : Int) := by
  rw [show Go.bits .and .u64 (t : Int) 65535 = ((t &&& 65535 : Nat) : Int) from b_and .u64 rfl t 65535 ht (by decide), show t &&& 65535 = t % 65536 from Nat.and_two_pow_sub_one_eq_mod t 16]
  have := Nat.mod_lt t (show 0 < 65536 by decide)
  exact b_or .u64 rfl _ 1 (by show t % 65536 < 18446744073709551616; omega) (by decide)
theorem sum_val (t : Nat) : Int.tmod ((t : Int) / 65536) 128 = ((t / 65536 % 128 : Nat) : Int) := by
  rw [show (t : Int) / 65536 = ((t / 65536 : Nat) : Int) by omega, show (128 : Int) = ((128 : Nat) : Int) from rfl, tmodN]
theorem srow (k : Nat) (u : ByteArray) (seed : Int) (m : Nat) (hm : 16 ≤ m) (h2 : m ≤ 10000) (hu : u.size ≤ 140737488351232) (hk : u.size < k) : spec_l4Row.f k u seed m = some ((eqP seed u m : Int), (eqR seed u : Int), (eqS seed u : Int)) := by
  unfold spec_l4Row.f
  rw [shash _ u hu k hk]
  simp only [Option.bind_some]
  rw [m15 hm h2, if_neg (by omega), place_val _ _ hm h2, row_val, sum_val]
  rfl
theorem irow (k : Nat) (u : ByteArray) (seed : Int) (m : Nat) (hm : 16 ≤ m) (h2 : m ≤ 10000) (hu : u.size ≤ 140737488351232) (hk : u.size < k) : impl_equationOf.f k u seed m = some ((eqP seed u m : Int), (eqR seed u : Int), (eqS seed u : Int)) := by
  unfold impl_equationOf.f
  rw [ihash _ u hu k hk]
  simp only [Option.bind_some]
  rw [m15 hm h2, if_neg (by omega), place_val _ _ hm h2, row_vali _ (hsh_lt _ u hu), sum_val]
  have h : ((hsh (seed % 4294967296) u / 65536 % 128 : Nat) : Int) % 256 = ((hsh (seed % 4294967296) u / 65536 % 128 : Nat) : Int) := by
    have := Nat.mod_lt (hsh (seed % 4294967296) u / 65536) (show 0 < 128 by decide)
    generalize hsh (seed % 4294967296) u / 65536 % 128 = x at this
    omega
  rw [h]
  rfl
theorem isolve_l0 {l : List Int} (h : okB l) : ∀ (n k p r o : Nat), r < 2 ^ n → n ≤ 16 → p + n ≤ l.length → l.length ≤ 10000 → n < k → o < 256 → impl_solve.l0 k l p r o = some ((o ^^^ xr (bf l) p r n : Nat) : Int)
  | 0, k, p, r, o, hr, _, _, _, hk, _ => by
    obtain ⟨k, rfl⟩ : ∃ m, k = m + 1 := ⟨k - 1, by omega⟩
    obtain rfl : r = 0 := by simpa using hr
    rw [impl_solve.l0, if_pos (by rfl), xr, Nat.xor_zero]
  | n + 1, k, p, r, o, hr, hn, hp, hl, hk, ho => by
    obtain ⟨k, rfl⟩ : ∃ m, k = m + 1 := ⟨k - 1, by omega⟩
    by_cases hz : r = 0
    · subst hz
      rw [impl_solve.l0, if_pos (by rfl), xr_zero, Nat.xor_zero]
    · have h16 : r < 65536 := Nat.lt_of_lt_of_le hr (Nat.pow_le_pow_right (by decide) hn)
      have hr2 : r / 2 < 2 ^ n := by rw [Nat.pow_succ] at hr; omega
      have ea : Go.bits .and .u64 (r : Int) 1 = ((r % 2 : Nat) : Int) := by
        rw [show Go.bits .and .u64 (r : Int) 1 = ((r &&& 1 : Nat) : Int) from b_and .u64 rfl r 1 (by show r < 18446744073709551616; omega) (by decide), Nat.and_one_is_mod]
      have ew : wrap64 ((p : Int) + 1) = ((p + 1 : Nat) : Int) := w64s (n := l.length) (by omega) (by omega)
      have ed : (r : Int) / 2 = ((r / 2 : Nat) : Int) := by push_cast; rfl
      have ex : Go.bits .xor .u8 (o : Int) (rd l (p : Int)) = ((o ^^^ bf l p : Nat) : Int) := by
        rw [bf_val h]; exact b_xor .u8 rfl _ _ ho (bf_lt h p)
      rw [impl_solve.l0, if_neg (show ¬ ((r : Int) = 0) by omega), ea, ew, ed, ex, xr]
      by_cases g : r % 2 = 1
      · rw [if_pos (show ((r % 2 : Nat) : Int) = 1 by rw [g]; rfl), if_pos (show (0 : Int) ≤ (p : Int) from Int.natCast_nonneg p), if_pos (show (p : Int) < (l.length : Int) by clear ew; omega), if_pos g, ← Nat.xor_assoc]
        exact isolve_l0 h n k (p + 1) (r / 2) (o ^^^ bf l p) hr2 (by omega) (by omega) hl (by omega) (Nat.xor_lt_two_pow (n := 8) ho (bf_lt h p))
      · rw [if_neg (show ¬ ((r % 2 : Nat) : Int) = 1 by clear ew; omega), if_neg g, Nat.zero_xor]
        exact isolve_l0 h n k (p + 1) (r / 2) o hr2 (by omega) (by omega) hl (by omega) ho
theorem isolve {l : List Int} (h : okB l) (n k p r : Nat) (hr : r < 2 ^ n) (hn : n ≤ 16) (hp : p + n ≤ l.length) (hl : l.length ≤ 10000) (hk : n < k) : impl_solve.f k l p r = some ((xr (bf l) p r n : Nat) : Int) := by
  unfold impl_solve.f
  have := isolve_l0 h n k p r 0 hr hn hp hl hk (by decide)
  rw [Nat.zero_xor] at this
  exact this

/-! ## section ribbonalg -/
/-- what is kept of the equations: rows and sums by their places; one more put in: 'd' places are left -/
def upd (f : Nat → Nat) (p v : Nat) : Nat → Nat := fun q => if q = p then v else f q
def ins (B S : Nat → Nat) : Nat → Nat → Nat → Nat → Option ((Nat → Nat) × (Nat → Nat))
  | 0, _, _, s => if s = 0 then some (B, S) else none
  | d + 1, p, r, s => if r = 0 then (if s = 0 then some (B, S) else none) else if r % 2 = 0 then ins B S d (p + 1) (r / 2) s else if B p = 0 then some (upd B p r, upd S p s) else ins B S d (p + 1) ((r ^^^ B p) / 2) (s ^^^ S p)
theorem ins_zero (B S : Nat → Nat) (d p s : Nat) : ins B S d p 0 s = if s = 0 then some (B, S) else none := by
  cases d with
  | zero => rfl
  | succ d => rw [ins, if_pos rfl]
def OkE (m : Nat) (B S : Nat → Nat) : Prop := ∀ q, B q < 2 ^ 16 ∧ S q < 2 ^ 7 ∧ B q < 2 ^ (m - q) ∧ (B q = 0 → S q = 0) ∧ (B q ≠ 0 → B q % 2 = 1)
theorem xor_odd {a b : Nat} (ha : a % 2 = 1) (hb : b % 2 = 1) : (a ^^^ b) % 2 = 0 := by rw [xor_mod2, ha, hb]
theorem half_lt {r d : Nat} (h : r < 2 ^ (d + 1)) : r / 2 < 2 ^ d := by rw [Nat.pow_succ] at h; omega
theorem ins_ok {m : Nat} {B S : Nat → Nat} (h : OkE m B S) : ∀ (d p r s : Nat), r < 2 ^ 16 → r < 2 ^ d → p + d = m → s < 2 ^ 7 → ∀ B' S', ins B S d p r s = some (B', S') → OkE m B' S'
  | 0, p, r, s, _, hr, _, _, B', S', e => by
    rw [ins] at e
    split at e
    · cases e; exact h
    · cases e
  | d + 1, p, r, s, h16, hr, hp, hs, B', S', e => by
    rw [ins] at e
    by_cases h0 : r = 0
    · rw [if_pos h0] at e
      split at e
      · cases e; exact h
      · cases e
    · rw [if_neg h0] at e
      by_cases h2 : r % 2 = 0
      · rw [if_pos h2] at e
        exact ins_ok h d (p + 1) (r / 2) s (by omega) (half_lt hr) (by omega) hs B' S' e
      · rw [if_neg h2] at e
        by_cases hb : B p = 0
        · rw [if_pos hb] at e
          cases e
          intro q
          have hq := h q
          unfold upd
          by_cases c : q = p
          · subst c
            rw [if_pos rfl, if_pos rfl]
            exact ⟨h16, hs, by rw [show m - q = d + 1 by omega]; exact hr, fun x => absurd x h0, fun _ => by omega⟩
          · rw [if_neg c, if_neg c]; exact hq
        · rw [if_neg hb] at e
          have hB := h p
          have x1 : r ^^^ B p < 2 ^ 16 := Nat.xor_lt_two_pow h16 hB.1
          have x2 : r ^^^ B p < 2 ^ (d + 1) := Nat.xor_lt_two_pow hr (by have := hB.2.2.1; rwa [show m - p = d + 1 by omega] at this)
          exact ins_ok h d (p + 1) ((r ^^^ B p) / 2) (s ^^^ S p) (by omega) (half_lt x2) (by omega) (Nat.xor_lt_two_pow hs hB.2.1) B' S' e
/-- what is kept stays -/
theorem ins_keep {B S : Nat → Nat} : ∀ (d p r s : Nat) (B' S' : Nat → Nat), ins B S d p r s = some (B', S') → ∀ q, B q ≠ 0 → B' q = B q ∧ S' q = S q
  | 0, p, r, s, B', S', e, q, hq => by
    rw [ins] at e
    split at e
    · cases e; exact ⟨rfl, rfl⟩
    · cases e
  | d + 1, p, r, s, B', S', e, q, hq => by
    rw [ins] at e
    by_cases h0 : r = 0
    · rw [if_pos h0] at e
      split at e
      · cases e; exact ⟨rfl, rfl⟩
      · cases e
    · rw [if_neg h0] at e
      by_cases h2 : r % 2 = 0
      · rw [if_pos h2] at e
        exact ins_keep d (p + 1) (r / 2) s B' S' e q hq
      · rw [if_neg h2] at e
        by_cases hb : B p = 0
        · rw [if_pos hb] at e
          cases e
          have c : q ≠ p := fun c => hq (c ▸ hb)
          simp only [upd, if_neg c, and_self]
        · rw [if_neg hb] at e
          exact ins_keep d (p + 1) _ _ B' S' e q hq
/-- bytes that answer to all that is kept -/
def Fits (f B S : Nat → Nat) : Prop := ∀ q, B q ≠ 0 → xr f q (B q) 16 = S q
theorem xr_step (f : Nat → Nat) (p r : Nat) (h : r < 2 ^ 16) : xr f p r 16 = (if r % 2 = 1 then f p else 0) ^^^ xr f (p + 1) (r / 2) 16 := by
  have e := xr_more f 15 (p + 1) (r / 2) (by omega) 16 (by omega)
  rw [e]; rfl
/-- bytes that answer to all that is kept behind it answer to what was put in -/
theorem ins_fits {f B S : Nat → Nat} {m : Nat} (h : OkE m B S) : ∀ (d p r s : Nat), r < 2 ^ 16 → r < 2 ^ d → p + d = m → s < 2 ^ 7 → ∀ B' S', ins B S d p r s = some (B', S') → Fits f B' S' → xr f p r 16 = s
  | 0, p, r, s, _, hr, _, _, B', S', e, hf => by
    obtain rfl : r = 0 := by simpa using hr
    rw [ins] at e
    split at e
    · rename_i hs; rw [xr_zero, hs]
    · cases e
  | d + 1, p, r, s, h16, hr, hp, hs, B', S', e, hf => by
    rw [ins] at e
    by_cases h0 : r = 0
    · subst h0
      rw [if_pos rfl] at e
      split at e
      · rename_i hs; rw [xr_zero, hs]
      · cases e
    · rw [if_neg h0] at e
      by_cases h2 : r % 2 = 0
      · rw [if_pos h2] at e
        rw [xr_step f p r h16, if_neg (by omega), Nat.zero_xor]
        exact ins_fits h d (p + 1) (r / 2) s (by omega) (half_lt hr) (by omega) hs B' S' e hf
      · rw [if_neg h2] at e
        by_cases hb : B p = 0
        · rw [if_pos hb] at e
          cases e
          have := hf p (by simp only [upd, if_pos]; exact h0)
          simpa only [upd, if_pos] using this
        · rw [if_neg hb] at e
          have hB := h p
          have x1 : r ^^^ B p < 2 ^ 16 := Nat.xor_lt_two_pow h16 hB.1
          have x2 : r ^^^ B p < 2 ^ (d + 1) := Nat.xor_lt_two_pow hr (by have := hB.2.2.1; rwa [show m - p = d + 1 by omega] at this)
          have ev : (r ^^^ B p) % 2 = 0 := xor_odd (by omega) (hB.2.2.2.2 hb)
          have h3 := ins_fits h d (p + 1) ((r ^^^ B p) / 2) (s ^^^ S p) (by omega) (half_lt x2) (by omega) (Nat.xor_lt_two_pow hs hB.2.1) B' S' e hf
          have h4 : xr f p (r ^^^ B p) 16 = s ^^^ S p := by rw [xr_step f p _ x1, if_neg (by omega), Nat.zero_xor]; exact h3
          have h5 : xr f p (B p) 16 = S p := by
            have hk := ins_keep d (p + 1) _ _ B' S' e p hb
            have := hf p (by rw [hk.1]; exact hb)
            rw [hk.1, hk.2] at this; exact this
          rw [xr_xor, h5] at h4
          have h6 := congrArg (· ^^^ S p) h4
          simpa [Nat.xor_assoc] using h6

/-! ## section strs -/
theorem rds_drop (l : List ByteArray) (i : Nat) (h : i < l.length) : ∃ u, l.drop i = u :: l.drop (i + 1) ∧ rdOf ByteArray.empty l (i : Int) = u ∧ u ∈ l := by
  refine ⟨l[i], List.drop_eq_getElem_cons h, ?_, List.getElem_mem h⟩
  unfold rdOf
  rw [Int.toNat_natCast, List.getD_eq_getElem?_getD, List.getElem?_eq_getElem h]; rfl

/-! ## section isuser -/
def userB (s : ByteArray) : Bool := decide (1 ≤ s.size ∧ s.size ≤ 40)
theorem iuser (s : ByteArray) : impl_isUser.f s = some (userB s) := by
  unfold impl_isUser.f userB
  split
  · congr 1; rw [decide_eq_decide]; omega
  · congr 1; symm; rw [decide_eq_false_iff_not]; omega
theorem suser (s : ByteArray) : spec_l2User.f s = some (userB s) := by
  unfold spec_l2User.f userB
  split
  · congr 1; rw [decide_eq_decide]; omega
  · congr 1; symm; rw [decide_eq_false_iff_not]; omega

/-! ## section usersok -/
/-- users are right: at most 400, each of 1 to 40 bytes -/
def usersB (l : List ByteArray) : Bool := decide (l.length ≤ 400) && l.all userB
theorem iuo_l0 (l : List ByteArray) (hl : l.length ≤ 1048576) : ∀ (d k i : Nat), i ≤ l.length → l.length - i = d → d < k → impl_UsersOk.l0 k l l.length i = some ((l.drop i).all userB) := by
  intro d
  induction d with
  | zero =>
    intro k i h1 h2 hk
    obtain ⟨k, rfl⟩ : ∃ m, k = m + 1 := ⟨k - 1, by omega⟩
    rw [impl_UsersOk.l0, if_neg (by omega), List.drop_eq_nil_of_le (by omega)]; rfl
  | succ d ih =>
    intro k i h1 h2 hk
    obtain ⟨k, rfl⟩ : ∃ m, k = m + 1 := ⟨k - 1, by omega⟩
    obtain ⟨u, hd, hu, hm⟩ := rds_drop l i (by omega)
    rw [impl_UsersOk.l0, if_pos (by omega), if_pos (by omega), if_pos (by omega), hu, iuser, hd]
    simp only [Option.bind_some, List.all_cons]
    cases userB u
    · rfl
    · rw [if_pos rfl, w64s (n := l.length) (by omega) (by omega), ih k (i + 1) (by omega) (by omega) (by omega)]; rfl
theorem iuo (l : List ByteArray) (hl : l.length ≤ 1048576) (k : Nat) (hk : l.length < k) : impl_UsersOk.f k l = some (usersB l) := by
  unfold impl_UsersOk.f usersB
  by_cases c : l.length ≤ 400
  · rw [if_neg (by omega)]
    have h := iuo_l0 l hl l.length k 0 (by omega) (by omega) hk
    simpa [c] using h
  · rw [if_pos (by omega)]; simp [c]
theorem suo_l0 (l : List ByteArray) (hl : l.length ≤ 1048576) : ∀ (d k i : Nat), i ≤ l.length → l.length - i = d → d < k → spec_UsersOk.l0 k l i = some ((l.drop i).all userB) := by
  intro d
  induction d with
  | zero =>
    intro k i h1 h2 hk
    obtain ⟨k, rfl⟩ : ∃ m, k = m + 1 := ⟨k - 1, by omega⟩
    rw [spec_UsersOk.l0, if_neg (by omega), List.drop_eq_nil_of_le (by omega)]; rfl
  | succ d ih =>
    intro k i h1 h2 hk
    obtain ⟨k, rfl⟩ : ∃ m, k = m + 1 := ⟨k - 1, by omega⟩
    obtain ⟨u, hd, hu, hm⟩ := rds_drop l i (by omega)
    rw [spec_UsersOk.l0, if_pos (by omega), if_pos (by omega), hu, suser, hd]
    simp only [Option.bind_some, List.all_cons]
    cases userB u
    · rfl
    · rw [if_pos rfl, w64s (n := l.length) (by omega) (by omega), ih k (i + 1) (by omega) (by omega) (by omega)]; rfl
theorem suo (l : List ByteArray) (hl : l.length ≤ 1048576) (k : Nat) (hk : l.length < k) : spec_UsersOk.f k l = some (usersB l) := by
  unfold spec_UsersOk.f usersB
  by_cases c : l.length ≤ 400
  · rw [if_neg (by omega)]
    have h := suo_l0 l hl l.length k 0 (by omega) (by omega) hk
    simpa [c] using h
  · rw [if_pos (by omega)]; simp [c]

/-! ## section within -/
def inB (n lo hi : Int) : Bool := decide (lo ≤ n ∧ n ≤ hi)
theorem iwithin (n lo hi : Int) : impl_within.f n lo hi = some (inB n lo hi) := by
  unfold impl_within.f inB
  split
  · congr 1; rw [decide_eq_decide]; omega
  · congr 1; symm; rw [decide_eq_false_iff_not]; omega
theorem swithin (n lo hi : Int) : spec_l1In.f n lo hi = some (inB n lo hi) := by
  unfold spec_l1In.f inB
  split
  · congr 1; rw [decide_eq_decide]; omega
  · congr 1; symm; rw [decide_eq_false_iff_not]; omega

/-! ## section ribbonof -/
/-- the kept equations as the program has them -/
def RK (kept : List S58) (B S : Nat → Nat) (m : Nat) : Prop := kept.length = m ∧ ∀ q : Nat, (rd_T58 kept (q : Int)).f1 = (B q : Int) ∧ (rd_T58 kept (q : Int)).f2 = (S q : Int)
theorem rdT_set (l : List S58) (p q : Nat) (v : S58) (hp : p < l.length) : rd_T58 (l.set p v) (q : Int) = if p = q then v else rd_T58 l (q : Int) := by
  unfold rd_T58
  rw [Int.toNat_natCast, List.getD_eq_getElem?_getD, List.getD_eq_getElem?_getD, List.getElem?_set]
  split
  · rename_i e; subst e; simp [hp]
  · rfl
theorem RK_set {kept : List S58} {B S : Nat → Nat} {m : Nat} (h : RK kept B S m) (p r s : Nat) (hp : p < m) : RK (kept.set p (⟨(p : Int), (r : Int), (s : Int)⟩ : S58)) (upd B p r) (upd S p s) m := by
  refine ⟨by rw [List.length_set]; exact h.1, fun q => ?_⟩
  rw [rdT_set _ _ _ _ (by rw [h.1]; exact hp)]
  unfold upd
  by_cases c : p = q
  · subst c; simp
  · rw [if_neg c, if_neg (fun e => c e.symm), if_neg (fun e => c e.symm)]; exact h.2 q
theorem RK_start (m : Nat) : RK (List.replicate m z58) (fun _ => 0) (fun _ => 0) m := by
  refine ⟨List.length_replicate, fun q => ?_⟩
  have e : rd_T58 (List.replicate m z58) (q : Int) = z58 := by
    unfold rd_T58
    rw [Int.toNat_natCast, List.getD_eq_getElem?_getD, List.getElem?_replicate]
    split <;> rfl
  rw [e]
  exact ⟨rfl, rfl⟩
theorem and1 {r : Nat} (h : r < 2 ^ 16) : Go.bits .and .u64 (r : Int) 1 = ((r % 2 : Nat) : Int) := by
  rw [show Go.bits .and .u64 (r : Int) 1 = ((r &&& 1 : Nat) : Int) from b_and .u64 rfl r 1 (by show r < 18446744073709551616; omega) (by decide), Nat.and_one_is_mod]
theorem iins_zero (x1 : Int) (us : List ByteArray) (i : Int) (m : Nat) (kept : List S58) (p : Int) (s k : Nat) : impl_RibbonOf.l1 (k + 1) x1 m kept us us.length i p 0 s = if s = 0 then impl_RibbonOf.l0 k x1 m kept us us.length (wrap64 (i + 1)) else some (0, 0, 0, (⟨#[]⟩ : ByteArray), false) := by
  rw [impl_RibbonOf.l1, if_pos rfl]
  by_cases h : s = 0
  · subst h; rw [if_pos (show ((0 : Nat) : Int) = 0 from rfl), if_pos rfl]
  · rw [if_neg (by omega), if_neg h]
theorem iins (x1 : Int) (us : List ByteArray) (i : Int) (m : Nat) (hm : m ≤ 10000) : ∀ (d k : Nat) (kept : List S58) (B S : Nat → Nat) (p r s : Nat), RK kept B S m → OkE m B S → r < 2 ^ 16 → r < 2 ^ d → p + d = m → s < 2 ^ 7 → 3 * d + 3 ≤ k →
    (ins B S d p r s = none → impl_RibbonOf.l1 k x1 m kept us us.length i p r s = some (0, 0, 0, (⟨#[]⟩ : ByteArray), false)) ∧
    (∀ B' S', ins B S d p r s = some (B', S') → ∃ k' kept', k ≤ k' + (3 * d + 3) ∧ RK kept' B' S' m ∧ impl_RibbonOf.l1 k x1 m kept us us.length i p r s = impl_RibbonOf.l0 k' x1 m kept' us us.length (wrap64 (i + 1))) := by
  have zero : ∀ (d k : Nat) (kept : List S58) (B S : Nat → Nat) (p : Int) (q s : Nat), RK kept B S m → 1 ≤ k →
      (ins B S d q 0 s = none → impl_RibbonOf.l1 k x1 m kept us us.length i p 0 s = some (0, 0, 0, (⟨#[]⟩ : ByteArray), false)) ∧
      (∀ B' S', ins B S d q 0 s = some (B', S') → ∃ k' kept', k ≤ k' + 1 ∧ RK kept' B' S' m ∧ impl_RibbonOf.l1 k x1 m kept us us.length i p 0 s = impl_RibbonOf.l0 k' x1 m kept' us us.length (wrap64 (i + 1))) := by
    intro d k kept B S p q s hK hk
    obtain ⟨k, rfl⟩ : ∃ j, k = j + 1 := ⟨k - 1, by omega⟩
    rw [ins_zero, iins_zero]
    by_cases h : s = 0
    · rw [if_pos h, if_pos h]
      refine ⟨fun e => (by cases e), fun B' S' e => ?_⟩
      cases e
      exact ⟨k, kept, Nat.le_refl _, hK, rfl⟩
    · rw [if_neg h, if_neg h]
      exact ⟨fun _ => rfl, fun B' S' e => by cases e⟩
  intro d
  induction d with
  | zero =>
    intro k kept B S p r s hK hO h16 hr hp hs hk
    obtain rfl : r = 0 := by simpa using hr
    have h := zero 0 k kept B S p p s hK (by omega)
    refine ⟨h.1, fun B' S' e => ?_⟩
    obtain ⟨k', kept', h1, h2, h3⟩ := h.2 B' S' e
    exact ⟨k', kept', by omega, h2, h3⟩
  | succ d ih =>
    intro k kept B S p r s hK hO h16 hr hp hs hk
    by_cases h0 : r = 0
    · subst h0
      have h := zero (d + 1) k kept B S p p s hK (by omega)
      refine ⟨h.1, fun B' S' e => ?_⟩
      obtain ⟨k', kept', h1, h2, h3⟩ := h.2 B' S' e
      exact ⟨k', kept', by omega, h2, h3⟩
    · obtain ⟨k, rfl⟩ : ∃ j, k = j + 3 := ⟨k - 3, by omega⟩
      have step : impl_RibbonOf.l1 (k + 3) x1 m kept us us.length i p r s = impl_RibbonOf.l2 (k + 2) x1 m kept us us.length i p r s := by
        rw [impl_RibbonOf.l1, if_neg (show ¬ ((r : Int) = 0) by omega)]
      have ew : wrap64 ((p : Int) + 1) = ((p + 1 : Nat) : Int) := w64s (n := m) (by omega) (by omega)
      have even : ∀ (n y t : Nat), y ≠ 0 → y < 2 ^ 16 → y % 2 = 0 → impl_RibbonOf.l2 (n + 1) x1 m kept us us.length i p y t = impl_RibbonOf.l1 (n + 1) x1 m kept us us.length i ((p + 1 : Nat) : Int) ((y / 2 : Nat) : Int) t := by
        intro n y t y0 y16 ye
        have ed : (y : Int) / 2 = ((y / 2 : Nat) : Int) := by omega
        rw [impl_RibbonOf.l2, and1 y16, if_pos (show ((y % 2 : Nat) : Int) = 0 by rw [ye]; rfl), ew, ed, impl_RibbonOf.l1, if_neg (show ¬ (((y / 2 : Nat) : Int) = 0) by clear ew; omega)]
      by_cases h2 : r % 2 = 0
      · have e1 : ins B S (d + 1) p r s = ins B S d (p + 1) (r / 2) s := by rw [ins, if_neg h0, if_pos h2]
        rw [e1, step, even (k + 1) r s h0 h16 h2]
        have h := ih (k + 2) kept B S (p + 1) (r / 2) s hK hO (by clear ew; omega) (half_lt hr) (by clear ew; omega) hs (by clear ew; omega)
        refine ⟨h.1, fun B' S' e => ?_⟩
        obtain ⟨k', kept', g1, g2, g3⟩ := h.2 B' S' e
        exact ⟨k', kept', by clear ew; omega, g2, g3⟩
      · have bp := hK.2 p
        have open_ : impl_RibbonOf.l2 (k + 2) x1 m kept us us.length i p r s = if B p = 0 then impl_RibbonOf.l0 (k + 1) x1 m (kept.set p (⟨(p : Int), (r : Int), (s : Int)⟩ : S58)) us us.length (wrap64 (i + 1)) else impl_RibbonOf.l1 (k + 1) x1 m kept us us.length i p ((r ^^^ B p : Nat) : Int) ((s ^^^ S p : Nat) : Int) := by
          have hB := hO p
          have x1' : Go.bits .xor .u64 (r : Int) (B p : Int) = ((r ^^^ B p : Nat) : Int) := b_xor .u64 rfl r (B p) (by show r < 18446744073709551616; clear ew; omega) (by show B p < 18446744073709551616; have := hB.1; clear ew; omega)
          have x2' : Go.bits .xor .u8 (s : Int) (S p : Int) = ((s ^^^ S p : Nat) : Int) := b_xor .u8 rfl s (S p) (by show s < 256; clear ew; omega) (by show S p < 256; have := hB.2.1; clear ew; omega)
          rw [impl_RibbonOf.l2, and1 h16, if_neg (show ¬ (((r % 2 : Nat) : Int) = 0) by clear ew x1' x2'; omega), if_pos (show (0 : Int) ≤ (p : Int) from Int.natCast_nonneg p), hK.1, if_pos (show (p : Int) < (m : Int) by clear ew x1' x2'; omega), bp.1, bp.2, Int.toNat_natCast]
          by_cases hb : B p = 0
          · rw [if_pos (show ((B p : Nat) : Int) = 0 by rw [hb]; rfl), if_pos hb]
            simp only [Option.bind_some]
            rw [if_neg (show ¬ ((r : Int) = 0) by clear ew x1' x2'; omega)]
          · rw [if_neg (show ¬ (((B p : Nat) : Int) = 0) by clear ew x1' x2'; omega), if_neg hb, x1', x2']
        rw [step, open_]
        by_cases hb : B p = 0
        · have e1 : ins B S (d + 1) p r s = some (upd B p r, upd S p s) := by rw [ins, if_neg h0, if_neg h2, if_pos hb]
          rw [e1, if_pos hb]
          refine ⟨fun e => (by cases e), fun B' S' e => ?_⟩
          cases e
          exact ⟨k + 1, _, by clear ew; omega, RK_set hK p r s (by clear ew; omega), rfl⟩
        · have hB := hO p
          have y16 : r ^^^ B p < 2 ^ 16 := Nat.xor_lt_two_pow h16 hB.1
          have yd : r ^^^ B p < 2 ^ (d + 1) := Nat.xor_lt_two_pow hr (by have := hB.2.2.1; rwa [show m - p = d + 1 by clear ew; omega] at this)
          have ye : (r ^^^ B p) % 2 = 0 := xor_odd (by clear ew; omega) (hB.2.2.2.2 hb)
          have st : s ^^^ S p < 2 ^ 7 := Nat.xor_lt_two_pow hs hB.2.1
          have e1 : ins B S (d + 1) p r s = ins B S d (p + 1) ((r ^^^ B p) / 2) (s ^^^ S p) := by rw [ins, if_neg h0, if_neg h2, if_neg hb]
          rw [e1, if_neg hb]
          generalize r ^^^ B p = y at *
          generalize s ^^^ S p = t at *
          by_cases y0 : y = 0
          · subst y0
            have h := zero d (k + 1) kept B S p (p + 1) t hK (by clear ew; omega)
            refine ⟨h.1, fun B' S' e => ?_⟩
            obtain ⟨k', kept', g1, g2, g3⟩ := h.2 B' S' e
            exact ⟨k', kept', by clear ew; omega, g2, g3⟩
          · obtain ⟨k, rfl⟩ : ∃ j, k = j + 1 := ⟨k - 1, by clear ew; omega⟩
            rw [show impl_RibbonOf.l1 (k + 1 + 1) x1 m kept us us.length i p (y : Int) (t : Int) = impl_RibbonOf.l2 (k + 1) x1 m kept us us.length i p (y : Int) (t : Int) by rw [impl_RibbonOf.l1, if_neg (show ¬ ((y : Int) = 0) by clear ew; omega)], even k y t y0 y16 ye]
            have h := ih (k + 1) kept B S (p + 1) (y / 2) t hK hO (by clear ew; omega) (half_lt yd) (by clear ew; omega) st (by clear ew; omega)
            refine ⟨h.1, fun B' S' e => ?_⟩
            obtain ⟨k', kept', g1, g2, g3⟩ := h.2 B' S' e
            exact ⟨k', kept', by clear ew; omega, g2, g3⟩

/-! ## section ribbonback -/
theorem andNot1 {x : Nat} (h : x < 2 ^ 16) (ho : x % 2 = 1) : Go.bits .andNot .u64 (x : Int) 1 = ((x - 1 : Nat) : Int) := by
  have e : Go.bits .andNot .u64 (x : Int) 1 = IntKind.u64.wrap (((BitVec.ofNat 64 x &&& ~~~ (1#64)).toNat : Nat) : Int) := rfl
  have hv : (BitVec.ofNat 64 x &&& ~~~ (1#64)).toNat = x - 1 := by
    apply Nat.eq_of_testBit_eq
    intro i
    rw [BitVec.testBit_toNat, BitVec.getLsbD_and, BitVec.getLsbD_not, BitVec.getLsbD_ofNat]
    have hx : x - 1 = 2 * (x / 2) := by omega
    rw [hx]
    cases i with
    | zero => simp [Nat.testBit_zero]
    | succ i =>
      rw [Nat.testBit_succ, Nat.testBit_succ, show 2 * (x / 2) / 2 = x / 2 by omega]
      have h1 : (1#64).getLsbD (i + 1) = false := by simp [BitVec.getLsbD_one]
      rw [h1]
      by_cases hi : i + 1 < 64
      · simp [hi]
      · have : (x / 2).testBit i = false := Nat.testBit_lt_two_pow (Nat.lt_of_lt_of_le (show x / 2 < 2 ^ 16 by omega) (Nat.pow_le_pow_right (by decide) (by omega)))
        simp [hi, this]
  rw [e, hv]
  exact wrapU .u64 rfl _ (by show x - 1 < 18446744073709551616; omega)
/-- the bytes, from behind: d places are left -/
def bk (B S : Nat → Nat) : Nat → List Int → List Int
  | 0, l => l
  | d + 1, l => bk B S d (l.set d ((S d ^^^ xr (bf l) d (B d - 1) 16 : Nat) : Int))
theorem okB_set {l : List Int} (h : okB l) (i v : Nat) (hv : v < 256) : okB (l.set i (v : Int)) := by
  intro x hx
  rcases List.mem_or_eq_of_mem_set hx with hx | hx
  · exact h x hx
  · subst hx; omega
theorem bf_set (l : List Int) (i v q : Nat) (hi : i < l.length) : bf (l.set i (v : Int)) q = if i = q then v else bf l q := by
  unfold bf rd
  rw [Int.toNat_natCast, List.getD_eq_getElem?_getD, List.getD_eq_getElem?_getD, List.getElem?_set]
  split
  · rename_i e; subst e; simp [hi]
  · rfl
theorem set_same {l : List Int} (i : Nat) (h : rd l (i : Int) = 0) (hi : i < l.length) : l.set i 0 = l := by
  apply List.ext_getElem?
  intro j
  by_cases c : i = j
  · subst c
    rw [List.getElem?_set_self hi, List.getElem?_eq_getElem hi]
    unfold rd at h
    rw [Int.toNat_natCast, List.getD_eq_getElem?_getD, List.getElem?_eq_getElem hi] at h
    simp only [Option.getD_some] at h
    rw [h]
  · rw [List.getElem?_set_ne c]
theorem bk_length (B S : Nat → Nat) : ∀ (d : Nat) (l : List Int), (bk B S d l).length = l.length
  | 0, _ => rfl
  | d + 1, l => by rw [bk, bk_length B S d, List.length_set]
theorem bkv_lt {m : Nat} {B S : Nat → Nat} (hO : OkE m B S) {l : List Int} (hl : okB l) (d : Nat) : S d ^^^ xr (bf l) d (B d - 1) 16 < 256 :=
  Nat.xor_lt_two_pow (n := 8) (Nat.lt_trans (hO d).2.1 (by decide)) (xr_lt (bf l) 8 (fun i => bf_lt hl i) 16 d _)
theorem bk_ok {m : Nat} {B S : Nat → Nat} (hO : OkE m B S) : ∀ (d : Nat) (l : List Int), okB l → okB (bk B S d l)
  | 0, _, h => h
  | d + 1, l, h => by rw [bk]; exact bk_ok hO d _ (okB_set h d _ (bkv_lt hO h d))
theorem bk_high (B S : Nat → Nat) : ∀ (d : Nat) (l : List Int), d ≤ l.length → ∀ q, d ≤ q → bf (bk B S d l) q = bf l q
  | 0, _, _, _, _ => rfl
  | d + 1, l, hl, q, hq => by
    rw [bk, bk_high B S d _ (by rw [List.length_set]; omega) q (by omega), bf_set _ _ _ _ (by omega), if_neg (by omega)]
theorem bk_fits {m : Nat} {B S : Nat → Nat} (hO : OkE m B S) : ∀ (d : Nat) (l : List Int), okB l → l.length = m → d ≤ m → (∀ q, d ≤ q → B q ≠ 0 → xr (bf l) q (B q) 16 = S q) → Fits (bf (bk B S d l)) B S
  | 0, l, _, _, _, h => fun q hq => h q (Nat.zero_le _) hq
  | d + 1, l, hl, hm, hd, h => by
    rw [bk]
    have hv := bkv_lt hO hl d
    refine bk_fits hO d _ (okB_set hl d _ hv) (by rw [List.length_set]; exact hm) (by omega) ?_
    intro q hq hb
    generalize hx : S d ^^^ xr (bf l) d (B d - 1) 16 = v at hv
    have hs : ∀ i, d < i → bf (l.set d (v : Int)) i = bf l i := fun i hi => by rw [bf_set _ _ _ _ (by omega), if_neg (by omega)]
    by_cases c : q = d
    · subst c
      have ho := (hO q).2.2.2.2 hb
      rw [xr_step _ _ _ (hO q).1, if_pos ho, bf_set _ _ _ _ (by omega), if_pos rfl, xr_same _ (bf l) 16 (q + 1) _ (fun i hi => hs i (by omega))]
      have e : xr (bf l) q (B q - 1) 16 = xr (bf l) (q + 1) (B q / 2) 16 := by
        rw [xr_step _ _ _ (by have := (hO q).1; omega), if_neg (by omega), Nat.zero_xor, show (B q - 1) / 2 = B q / 2 by omega]
      rw [e] at hx
      rw [← hx, Nat.xor_assoc, Nat.xor_self, Nat.xor_zero]
    · rw [xr_same _ (bf l) 16 q _ (fun i hi => hs i (by omega))]
      exact h q (by omega) hb
theorem w64m {d : Nat} (h : d ≤ 10000) : wrap64 ((d : Int) - 1) = (d : Int) - 1 := w64 (by omega) (by omega)
theorem iback (x1 : Int) {m : Nat} (hm : m ≤ 10000) {kept : List S58} {B S : Nat → Nat} (hK : RK kept B S m) (hO : OkE m B S) : ∀ (d k : Nat) (l : List Int), d ≤ m → okB l → l.length = m → (∀ q : Nat, q < d → rd l (q : Int) = 0) → d + 30 < k → impl_RibbonOf.l3 k x1 kept l ((d : Int) - 1) = some (2, x1, 0, strOfNums (bk B S d l), true) := by
  intro d
  induction d with
  | zero =>
    intro k l _ _ _ _ hk
    obtain ⟨k, rfl⟩ : ∃ j, k = j + 1 := ⟨k - 1, by omega⟩
    rw [impl_RibbonOf.l3, if_neg (by omega)]; rfl
  | succ d ih =>
    intro k l hd hl hm2 hz hk
    obtain ⟨k, rfl⟩ : ∃ j, k = j + 1 := ⟨k - 1, by omega⟩
    have bp := hK.2 d
    have hv := bkv_lt hO hl d
    have nx := ih k (l.set d ((S d ^^^ xr (bf l) d (B d - 1) 16 : Nat) : Int)) (by omega) (okB_set hl d _ hv) (by rw [List.length_set]; exact hm2) (fun q hq => by
      have := bf_set l d (S d ^^^ xr (bf l) d (B d - 1) 16) q (by omega)
      rw [if_neg (by omega)] at this
      have h1 := hz q (by omega)
      rw [bf_val hl] at h1
      rw [bf_val (okB_set hl d _ hv), this, h1]) (by omega)
    rw [show ((d + 1 : Nat) : Int) - 1 = (d : Int) by omega, impl_RibbonOf.l3, if_pos (show (d : Int) ≥ 0 from Int.natCast_nonneg d), if_pos (show (0 : Int) ≤ (d : Int) from Int.natCast_nonneg d), hK.1, if_pos (show (d : Int) < (m : Int) by omega), bp.1, bp.2, bk, w64m (by omega)]
    by_cases hb : B d = 0
    · rw [if_pos (show ((B d : Nat) : Int) = 0 by rw [hb]; rfl)]
      have hs := (hO d).2.2.2.1 hb
      rw [hb, hs, show (0 - 1 : Nat) = 0 from rfl, xr_zero, Nat.xor_zero, show ((0 : Nat) : Int) = 0 from rfl, set_same d (hz d (by omega)) (by omega)] at nx ⊢
      exact nx
    · have ho := (hO d).2.2.2.2 hb
      have h16 := (hO d).1
      have h3 := (hO d).2.2.1
      rw [if_neg (show ¬ (((B d : Nat) : Int) = 0) by omega), andNot1 h16 ho]
      have hn : B d - 1 < 2 ^ (min 16 (m - d)) := by
        rcases Nat.le_total 16 (m - d) with g | g
        · rw [Nat.min_eq_left g]; omega
        · rw [Nat.min_eq_right g]; omega
      rw [isolve hl (min 16 (m - d)) k d (B d - 1) hn (Nat.min_le_left _ _) (by have := Nat.min_le_right 16 (m - d); omega) (by omega) (by have := Nat.min_le_left 16 (m - d); omega), ← xr_more (bf l) (min 16 (m - d)) d (B d - 1) hn 16 (Nat.min_le_left _ _)]
      simp only [Option.bind_some]
      have hx := xr_lt (bf l) 8 (fun i => bf_lt hl i) 16 d (B d - 1)
      rw [hm2, if_pos (show (d : Int) < (m : Int) by omega), Int.toNat_natCast]
      have h7 := (hO d).2.1
      rw [show Go.bits .xor .u8 ((S d : Nat) : Int) ((xr (bf l) d (B d - 1) 16 : Nat) : Int) = ((S d ^^^ xr (bf l) d (B d - 1) 16 : Nat) : Int) from b_xor .u8 rfl _ _ (by show S d < 256; omega) (by show xr (bf l) d (B d - 1) 16 < 256; omega)]
      exact nx

/-! ## section ribbonofspec -/
def RL (l : List Int) (f : Nat → Nat) (m : Nat) : Prop := l.length = m ∧ ∀ q : Nat, rd l (q : Int) = (f q : Int)
theorem RL_set {l : List Int} {f : Nat → Nat} {m : Nat} (h : RL l f m) (p v : Nat) (hp : p < m) : RL (l.set p (v : Int)) (upd f p v) m := by
  refine ⟨by rw [List.length_set]; exact h.1, fun q => ?_⟩
  have e : rd (l.set p (v : Int)) (q : Int) = if p = q then (v : Int) else rd l (q : Int) := by
    unfold rd
    rw [Int.toNat_natCast, List.getD_eq_getElem?_getD, List.getD_eq_getElem?_getD, List.getElem?_set]
    split
    · rename_i e; subst e; simp [show p < l.length by rw [h.1]; exact hp]
    · rfl
  rw [e]
  unfold upd
  by_cases c : p = q
  · subst c; simp
  · rw [if_neg c, if_neg (fun e => c e.symm)]; exact h.2 q
theorem RL_start (m : Nat) : RL (List.replicate m 0) (fun _ => 0) m := by
  refine ⟨List.length_replicate, fun q => ?_⟩
  unfold rd
  rw [Int.toNat_natCast, List.getD_eq_getElem?_getD, List.getElem?_replicate]
  split <;> rfl
theorem Ok_start (m : Nat) : OkE m (fun _ => 0) (fun _ => 0) := fun q => ⟨Nat.two_pow_pos _, Nat.two_pow_pos _, Nat.two_pow_pos _, fun _ => rfl, fun h => absurd rfl h⟩
theorem td2 (r : Nat) : IntKind.u64.wrap (Int.tdiv (r : Int) 2) = ((r / 2 % 18446744073709551616 : Nat) : Int) := by
  rw [Int.tdiv_eq_ediv_of_nonneg (by omega), u64w]; omega
theorem td2s {r : Nat} (h : r < 2 ^ 16) : IntKind.u64.wrap (Int.tdiv (r : Int) 2) = ((r / 2 : Nat) : Int) := by
  rw [td2, Nat.mod_eq_of_lt (by omega)]
theorem sins_zero (x1 : Int) (us : List ByteArray) (i : Int) (m : Nat) (band sums : List Int) (p : Int) (s k : Nat) : spec_RibbonOf.l1 (k + 1) us x1 m band sums i p 0 s = if s = 0 then spec_RibbonOf.l0 k us x1 m band sums (wrap64 (i + 1)) else some (0, 0, 0, (⟨#[]⟩ : ByteArray), false) := by
  rw [spec_RibbonOf.l1, if_neg (by decide)]
  by_cases h : s = 0
  · subst h; rw [if_pos (show ((0 : Nat) : Int) = 0 from rfl), if_pos rfl]
  · rw [if_neg (by omega), if_neg h]
theorem sins (x1 : Int) (us : List ByteArray) (i : Int) (m : Nat) (hm : m ≤ 10000) : ∀ (d k : Nat) (band sums : List Int) (B S : Nat → Nat) (p r s : Nat), RL band B m → RL sums S m → OkE m B S → r < 2 ^ 16 → r < 2 ^ d → p + d = m → s < 2 ^ 7 → 3 * d + 3 ≤ k →
    (ins B S d p r s = none → spec_RibbonOf.l1 k us x1 m band sums i p r s = some (0, 0, 0, (⟨#[]⟩ : ByteArray), false)) ∧
    (∀ B' S', ins B S d p r s = some (B', S') → ∃ k' band' sums', k ≤ k' + (3 * d + 3) ∧ RL band' B' m ∧ RL sums' S' m ∧ spec_RibbonOf.l1 k us x1 m band sums i p r s = spec_RibbonOf.l0 k' us x1 m band' sums' (wrap64 (i + 1))) := by
  have zero : ∀ (d k : Nat) (band sums : List Int) (B S : Nat → Nat) (p : Int) (q s : Nat), RL band B m → RL sums S m → 1 ≤ k →
      (ins B S d q 0 s = none → spec_RibbonOf.l1 k us x1 m band sums i p 0 s = some (0, 0, 0, (⟨#[]⟩ : ByteArray), false)) ∧
      (∀ B' S', ins B S d q 0 s = some (B', S') → ∃ k' band' sums', k ≤ k' + 1 ∧ RL band' B' m ∧ RL sums' S' m ∧ spec_RibbonOf.l1 k us x1 m band sums i p 0 s = spec_RibbonOf.l0 k' us x1 m band' sums' (wrap64 (i + 1))) := by
    intro d k band sums B S p q s hK hL hk
    obtain ⟨k, rfl⟩ : ∃ j, k = j + 1 := ⟨k - 1, by omega⟩
    rw [ins_zero, sins_zero]
    by_cases h : s = 0
    · rw [if_pos h, if_pos h]
      refine ⟨fun e => (by cases e), fun B' S' e => ?_⟩
      cases e
      exact ⟨k, band, sums, Nat.le_refl _, hK, hL, rfl⟩
    · rw [if_neg h, if_neg h]
      exact ⟨fun _ => rfl, fun B' S' e => by cases e⟩
  intro d
  induction d with
  | zero =>
    intro k band sums B S p r s hK hL hO h16 hr hp hs hk
    obtain rfl : r = 0 := by simpa using hr
    have h := zero 0 k band sums B S p p s hK hL (by omega)
    refine ⟨h.1, fun B' S' e => ?_⟩
    obtain ⟨k', b', s', h1, h2, h3, h4⟩ := h.2 B' S' e
    exact ⟨k', b', s', by omega, h2, h3, h4⟩
  | succ d ih =>
    intro k band sums B S p r s hK hL hO h16 hr hp hs hk
    by_cases h0 : r = 0
    · subst h0
      have h := zero (d + 1) k band sums B S p p s hK hL (by omega)
      refine ⟨h.1, fun B' S' e => ?_⟩
      obtain ⟨k', b', s', h1, h2, h3, h4⟩ := h.2 B' S' e
      exact ⟨k', b', s', by omega, h2, h3, h4⟩
    · obtain ⟨k, rfl⟩ : ∃ j, k = j + 3 := ⟨k - 3, by omega⟩
      have ew : wrap64 ((p : Int) + 1) = ((p + 1 : Nat) : Int) := w64s (n := m) (by omega) (by omega)
      have even : ∀ (n y t : Nat), y ≠ 0 → y < 2 ^ 16 → y % 2 = 0 → spec_RibbonOf.l1 (n + 1) us x1 m band sums i p y t = spec_RibbonOf.l1 n us x1 m band sums i ((p + 1 : Nat) : Int) ((y / 2 : Nat) : Int) t := by
        intro n y t y0 y16 ye
        rw [spec_RibbonOf.l1, if_pos (show (y : Int) > 0 by clear ew; omega), show Int.tmod (y : Int) 2 = ((y % 2 : Nat) : Int) from tmodN y 2, if_pos (show ((y % 2 : Nat) : Int) = 0 by rw [ye]; rfl), ew, td2s y16]
      by_cases h2 : r % 2 = 0
      · have e1 : ins B S (d + 1) p r s = ins B S d (p + 1) (r / 2) s := by rw [ins, if_neg h0, if_pos h2]
        rw [e1, even (k + 2) r s h0 h16 h2]
        have h := ih (k + 2) band sums B S (p + 1) (r / 2) s hK hL hO (by clear ew; omega) (half_lt hr) (by clear ew; omega) hs (by clear ew; omega)
        refine ⟨h.1, fun B' S' e => ?_⟩
        obtain ⟨k', b', s', g1, g2, g3, g4⟩ := h.2 B' S' e
        exact ⟨k', b', s', by clear ew; omega, g2, g3, g4⟩
      · have bp := hK.2 p
        have sp := hL.2 p
        have open_ : spec_RibbonOf.l1 (k + 3) us x1 m band sums i p r s = if B p = 0 then spec_RibbonOf.l1 (k + 2) us x1 m (band.set p (r : Int)) (sums.set p (s : Int)) i p 0 ((0 : Nat) : Int) else spec_RibbonOf.l1 (k + 2) us x1 m band sums i p ((r ^^^ B p : Nat) : Int) ((s ^^^ S p : Nat) : Int) := by
          have hB := hO p
          have x1' : Go.bits .xor .u64 (r : Int) (B p : Int) = ((r ^^^ B p : Nat) : Int) := b_xor .u64 rfl r (B p) (by show r < 18446744073709551616; clear ew; omega) (by show B p < 18446744073709551616; have := hB.1; clear ew; omega)
          have x2' : Go.bits .xor .u64 (s : Int) (S p : Int) = ((s ^^^ S p : Nat) : Int) := b_xor .u64 rfl s (S p) (by show s < 18446744073709551616; clear ew x1'; omega) (by show S p < 18446744073709551616; have := hB.2.1; clear ew x1'; omega)
          rw [spec_RibbonOf.l1, if_pos (show (r : Int) > 0 by clear ew x1' x2'; omega), show Int.tmod (r : Int) 2 = ((r % 2 : Nat) : Int) from tmodN r 2, if_neg (show ¬ (((r % 2 : Nat) : Int) = 0) by clear ew x1' x2'; omega), if_pos (show (0 : Int) ≤ (p : Int) from Int.natCast_nonneg p), hK.1, if_pos (show (p : Int) < (m : Int) by clear ew x1' x2'; omega), bp, hL.1, if_pos (show (p : Int) < (m : Int) by clear ew x1' x2'; omega), if_pos (show (p : Int) < (m : Int) by clear ew x1' x2'; omega), sp, Int.toNat_natCast]
          by_cases hb : B p = 0
          · rw [if_pos (show ((B p : Nat) : Int) = 0 by rw [hb]; rfl), if_pos hb]; rfl
          · rw [if_neg (show ¬ (((B p : Nat) : Int) = 0) by clear ew x1' x2'; omega), if_neg hb, x1', x2']
        rw [open_]
        by_cases hb : B p = 0
        · have e1 : ins B S (d + 1) p r s = some (upd B p r, upd S p s) := by rw [ins, if_neg h0, if_neg h2, if_pos hb]
          rw [e1, if_pos hb, sins_zero, if_pos rfl]
          refine ⟨fun e => (by cases e), fun B' S' e => ?_⟩
          cases e
          exact ⟨k + 1, _, _, by clear ew; omega, RL_set hK p r (by clear ew; omega), RL_set hL p s (by clear ew; omega), rfl⟩
        · have hB := hO p
          have y16 : r ^^^ B p < 2 ^ 16 := Nat.xor_lt_two_pow h16 hB.1
          have yd : r ^^^ B p < 2 ^ (d + 1) := Nat.xor_lt_two_pow hr (by have := hB.2.2.1; rwa [show m - p = d + 1 by clear ew; omega] at this)
          have ye : (r ^^^ B p) % 2 = 0 := xor_odd (by clear ew; omega) (hB.2.2.2.2 hb)
          have st : s ^^^ S p < 2 ^ 7 := Nat.xor_lt_two_pow hs hB.2.1
          have e1 : ins B S (d + 1) p r s = ins B S d (p + 1) ((r ^^^ B p) / 2) (s ^^^ S p) := by rw [ins, if_neg h0, if_neg h2, if_neg hb]
          rw [e1, if_neg hb]
          generalize r ^^^ B p = y at *
          generalize s ^^^ S p = t at *
          by_cases y0 : y = 0
          · subst y0
            have h := zero d (k + 2) band sums B S p (p + 1) t hK hL (by clear ew; omega)
            refine ⟨h.1, fun B' S' e => ?_⟩
            obtain ⟨k', b', s', g1, g2, g3, g4⟩ := h.2 B' S' e
            exact ⟨k', b', s', by clear ew; omega, g2, g3, g4⟩
          · rw [even (k + 1) y t y0 y16 ye]
            have h := ih (k + 1) band sums B S (p + 1) (y / 2) t hK hL hO (by clear ew; omega) (half_lt yd) (by clear ew; omega) st (by clear ew; omega)
            refine ⟨h.1, fun B' S' e => ?_⟩
            obtain ⟨k', b', s', g1, g2, g3, g4⟩ := h.2 B' S' e
            exact ⟨k', b', s', by clear ew; omega, g2, g3, g4⟩
theorem sback3 (x1 : Int) {m : Nat} (hm : m ≤ 10000) {band sums : List Int} {B S : Nat → Nat} (hK : RL band B m) (hO : OkE m B S) (d : Nat) (hd : d < m) (l : List Int) (hl : okB l) (hm2 : l.length = m) : ∀ (e k i o : Nat), i + e = 16 → o < 256 → e < k → spec_RibbonOf.l3 k x1 band sums l d o i = spec_RibbonOf.l2 (k - (e + 1)) x1 band sums (l.set d ((o ^^^ xr (bf l) (d + i) (B d / 2 ^ i) e : Nat) : Int)) ((d : Int) - 1) := by
  intro e
  induction e with
  | zero =>
    intro k i o g1 ho hk
    obtain ⟨k, rfl⟩ : ∃ j, k = j + 1 := ⟨k - 1, by omega⟩
    rw [spec_RibbonOf.l3, if_neg (by omega), if_pos (show (0 : Int) ≤ (d : Int) from Int.natCast_nonneg d), hm2, if_pos (show (d : Int) < (m : Int) by omega), Int.toNat_natCast, w64m (by omega), xr, Nat.xor_zero, show k + 1 - (0 + 1) = k by omega, show (o : Int) % 256 = (o : Int) by omega]
  | succ e ih =>
    intro k i o g1 ho hk
    obtain ⟨k, rfl⟩ : ∃ j, k = j + 1 := ⟨k - 1, by omega⟩
    have h16 := (hO d).1
    have h3 := (hO d).2.2.1
    have hb := bf_lt hl (d + i)
    have nx : B d / 2 ^ i / 2 = B d / 2 ^ (i + 1) := by rw [Nat.div_div_eq_div_mul, Nat.pow_succ]
    have ei : IntKind.u64.wrap (i : Int) = (i : Int) := wrapU .u64 rfl _ (by show i < 18446744073709551616; omega)
    have ep : wrap64 ((d : Int) + (i : Int)) = ((d + i : Nat) : Int) := by rw [w64 (by omega) (by omega)]; push_cast; rfl
    have e1 : wrap64 ((i : Int) + 1) = ((i + 1 : Nat) : Int) := w64s (n := 16) (by omega) (by omega)
    have et : Int.tmod ((B d / 2 ^ i : Nat) : Int) 2 = ((B d / 2 ^ i % 2 : Nat) : Int) := tmodN _ 2
    have ex : Go.bits .xor .u64 (o : Int) (IntKind.u64.wrap (rd l ((d + i : Nat) : Int))) = ((o ^^^ bf l (d + i) : Nat) : Int) := by
      rw [bf_val hl, wrapU .u64 rfl _ (by show bf l (d + i) < 18446744073709551616; omega)]
      exact b_xor .u64 rfl _ _ (by show o < 18446744073709551616; omega) (by show bf l (d + i) < 18446744073709551616; omega)
    rw [spec_RibbonOf.l3, if_pos (show (i : Int) < 16 by clear ei ep e1 et ex; omega), if_pos (show (0 : Int) ≤ (d : Int) from Int.natCast_nonneg d), hK.1, if_pos (show (d : Int) < (m : Int) by clear ei ep e1 et ex; omega), ei, if_pos (show (0 : Int) ≤ (i : Int) from Int.natCast_nonneg i), hK.2, shrU _ i (by clear ei ep e1 et ex; omega), et, ep, e1, ex, xr, nx, show k + 1 - (e + 1 + 1) = k - (e + 1) by clear ei ep e1 et ex; omega]
    by_cases g : B d / 2 ^ i % 2 = 1
    · have hin : d + i < m := by
        rcases Nat.lt_or_ge i (m - d) with c | c
        · clear ei ep e1 et ex; omega
        · exfalso
          have : B d / 2 ^ i = 0 := Nat.div_eq_of_lt (Nat.lt_of_lt_of_le h3 (Nat.pow_le_pow_right (by decide) c))
          rw [this] at g
          exact absurd g (by decide)
      rw [if_pos (show ((B d / 2 ^ i % 2 : Nat) : Int) = 1 by rw [g]; rfl), if_pos (show (0 : Int) ≤ ((d + i : Nat) : Int) from Int.natCast_nonneg _), hm2, if_pos (show ((d + i : Nat) : Int) < (m : Int) by clear ei ep e1 et ex; omega), if_pos g, ← Nat.xor_assoc]
      exact ih k (i + 1) _ (by clear ei ep e1 et ex; omega) (Nat.xor_lt_two_pow (n := 8) ho hb) (by clear ei ep e1 et ex; omega)
    · rw [if_neg (show ¬ ((B d / 2 ^ i % 2 : Nat) : Int) = 1 by intro hh; exact g (by exact_mod_cast hh)), if_neg g, Nat.zero_xor]
      exact ih k (i + 1) o (by clear ei ep e1 et ex; omega) ho (by clear ei ep e1 et ex; omega)
theorem sback (x1 : Int) {m : Nat} (hm : m ≤ 10000) {band sums : List Int} {B S : Nat → Nat} (hK : RL band B m) (hL : RL sums S m) (hO : OkE m B S) : ∀ (d k : Nat) (l : List Int), d ≤ m → okB l → l.length = m → 20 * d + 30 < k → spec_RibbonOf.l2 k x1 band sums l ((d : Int) - 1) = some (2, x1, 0, strOfNums (bk B S d l), true) := by
  intro d
  induction d with
  | zero =>
    intro k l _ _ _ hk
    obtain ⟨k, rfl⟩ : ∃ j, k = j + 1 := ⟨k - 1, by omega⟩
    rw [spec_RibbonOf.l2, if_neg (by omega)]; rfl
  | succ d ih =>
    intro k l hd hl hm2 hk
    obtain ⟨k, rfl⟩ : ∃ j, k = j + 1 := ⟨k - 1, by omega⟩
    have hv := bkv_lt hO hl d
    have hS : S d < 256 := by have := (hO d).2.1; omega
    have h3 := sback3 x1 hm hK hO (sums := sums) d (by omega) l hl hm2 15 k 1 (S d) (by omega) hS (by omega)
    rw [show ((1 : Nat) : Int) = 1 from rfl, Nat.pow_one] at h3
    have e : xr (bf l) d (B d - 1) 16 = xr (bf l) (d + 1) (B d / 2) 15 := by
      by_cases hb : B d = 0
      · rw [hb, show (0 - 1 : Nat) = 0 from rfl, xr_zero, show 0 / 2 = 0 from rfl, xr_zero]
      · have ho := (hO d).2.2.2.2 hb
        show (if (B d - 1) % 2 = 1 then bf l d else 0) ^^^ xr (bf l) (d + 1) ((B d - 1) / 2) 15 = _
        rw [if_neg (by omega), Nat.zero_xor, show (B d - 1) / 2 = B d / 2 by omega]
    rw [show ((d + 1 : Nat) : Int) - 1 = (d : Int) by omega, spec_RibbonOf.l2, if_pos (show (d : Int) ≥ 0 from Int.natCast_nonneg d), if_pos (show (0 : Int) ≤ (d : Int) from Int.natCast_nonneg d), hL.1, if_pos (show (d : Int) < (m : Int) by omega), hL.2, h3, bk, ← e]
    exact ih (k - (15 + 1)) _ (by omega) (okB_set hl d _ hv) (by rw [List.length_set]; exact hm2) (by omega)

/-! ## section ribbonend -/
/-- all users' equations -/
def insAll (seed : Int) (m : Nat) : List ByteArray → (Nat → Nat) → (Nat → Nat) → Option ((Nat → Nat) × (Nat → Nat))
  | [], B, S => some (B, S)
  | u :: us, B, S => match ins B S (m - eqP seed u m) (eqP seed u m) (eqR seed u) (eqS seed u) with
    | none => none
    | some x => insAll seed m us x.1 x.2
def zs (m : Nat) : List Int := List.replicate m 0
theorem okB_zs (m : Nat) : okB (zs m) := by
  intro x hx; unfold zs at hx; rw [List.eq_of_mem_replicate hx]; omega
theorem rd_zs (m : Nat) (q : Nat) : rd (zs m) (q : Int) = 0 := by
  unfold rd zs
  rw [Int.toNat_natCast, List.getD_eq_getElem?_getD, List.getElem?_replicate]
  split <;> rfl
def fin (seed : Int) (m : Nat) : Option ((Nat → Nat) × (Nat → Nat)) → Int × Int × Int × ByteArray × Bool
  | none => (0, 0, 0, (⟨#[]⟩ : ByteArray), false)
  | some x => (2, seed, 0, strOfNums (bk x.1 x.2 m (zs m)), true)
theorem iall (seed : Int) (us : List ByteArray) (hu : us.length ≤ 400) (hs : ∀ u ∈ us, u.size ≤ 1048576) (m : Nat) (h16 : 16 ≤ m) (hm : m ≤ 600) : ∀ (d k i : Nat) (kept : List S58) (B S : Nat → Nat), i ≤ us.length → us.length - i = d → RK kept B S m → OkE m B S → 2000 * d + 1100000 ≤ k → impl_RibbonOf.l0 k seed m kept us us.length i = some (fin seed m (insAll seed m (us.drop i) B S)) := by
  intro d
  induction d with
  | zero =>
    intro k i kept B S g1 g2 hK hO hk
    obtain ⟨k, rfl⟩ : ∃ j, k = j + 1 := ⟨k - 1, by omega⟩
    rw [impl_RibbonOf.l0, if_neg (by omega), if_pos (show (0 : Int) ≤ (m : Int) from Int.natCast_nonneg m), Int.toNat_natCast, if_pos (show m ≤ 281474976710656 by omega), w64m (by omega), List.drop_eq_nil_of_le (by omega)]
    exact iback seed (by omega) hK hO m k (zs m) (Nat.le_refl _) (okB_zs m) List.length_replicate (fun q _ => rd_zs m q) (by omega)
  | succ d ih =>
    intro k i kept B S g1 g2 hK hO hk
    obtain ⟨k, rfl⟩ : ∃ j, k = j + 1 := ⟨k - 1, by omega⟩
    obtain ⟨u, hd, hu', hmem⟩ := rds_drop us i (by omega)
    have hsu := hs u hmem
    rw [impl_RibbonOf.l0, if_pos (by omega), if_pos (by omega), if_pos (by omega), hu', irow k u seed m h16 (by omega) (by omega) (by omega)]
    simp only [Option.bind_some]
    have hp := eqP_lt seed u h16
    have h := iins seed us i m (by omega) (m - eqP seed u m) k kept B S (eqP seed u m) (eqR seed u) (eqS seed u) hK hO (eqR_lt seed u) (Nat.lt_of_lt_of_le (eqR_lt seed u) (Nat.pow_le_pow_right (by decide) (by omega))) (by omega) (eqS_lt seed u) (by omega)
    rw [hd, insAll]
    cases e : ins B S (m - eqP seed u m) (eqP seed u m) (eqR seed u) (eqS seed u) with
    | none => rw [h.1 e]; rfl
    | some x =>
      obtain ⟨k', kept', q1, q2, q3⟩ := h.2 x.1 x.2 e
      have hO' := ins_ok hO (m - eqP seed u m) (eqP seed u m) (eqR seed u) (eqS seed u) (eqR_lt seed u) (Nat.lt_of_lt_of_le (eqR_lt seed u) (Nat.pow_le_pow_right (by decide) (by omega))) (by omega) (eqS_lt seed u) x.1 x.2 e
      rw [q3, w64s (n := us.length) (by omega) (by omega)]
      exact ih k' (i + 1) kept' x.1 x.2 (by omega) (by omega) q2 hO' (by omega)
theorem sall (seed : Int) (us : List ByteArray) (hu : us.length ≤ 400) (hs : ∀ u ∈ us, u.size ≤ 1048576) (m : Nat) (h16 : 16 ≤ m) (hm : m ≤ 600) : ∀ (d k i : Nat) (band sums : List Int) (B S : Nat → Nat), i ≤ us.length → us.length - i = d → RL band B m → RL sums S m → OkE m B S → 2000 * d + 1100000 ≤ k → spec_RibbonOf.l0 k us seed m band sums i = some (fin seed m (insAll seed m (us.drop i) B S)) := by
  intro d
  induction d with
  | zero =>
    intro k i band sums B S g1 g2 hK hL hO hk
    obtain ⟨k, rfl⟩ : ∃ j, k = j + 1 := ⟨k - 1, by omega⟩
    rw [spec_RibbonOf.l0, if_neg (by omega), if_pos (show (0 : Int) ≤ (m : Int) from Int.natCast_nonneg m), Int.toNat_natCast, if_pos (show m ≤ 281474976710656 by omega), w64m (by omega), List.drop_eq_nil_of_le (by omega)]
    exact sback seed (by omega) hK hL hO m k (zs m) (Nat.le_refl _) (okB_zs m) List.length_replicate (by omega)
  | succ d ih =>
    intro k i band sums B S g1 g2 hK hL hO hk
    obtain ⟨k, rfl⟩ : ∃ j, k = j + 1 := ⟨k - 1, by omega⟩
    obtain ⟨u, hd, hu', hmem⟩ := rds_drop us i (by omega)
    have hsu := hs u hmem
    rw [spec_RibbonOf.l0, if_pos (by omega), if_pos (by omega), hu', srow k u seed m h16 (by omega) (by omega) (by omega)]
    simp only [Option.bind_some]
    have hp := eqP_lt seed u h16
    have h := sins seed us i m (by omega) (m - eqP seed u m) k band sums B S (eqP seed u m) (eqR seed u) (eqS seed u) hK hL hO (eqR_lt seed u) (Nat.lt_of_lt_of_le (eqR_lt seed u) (Nat.pow_le_pow_right (by decide) (by omega))) (by omega) (eqS_lt seed u) (by omega)
    rw [hd, insAll]
    cases e : ins B S (m - eqP seed u m) (eqP seed u m) (eqR seed u) (eqS seed u) with
    | none => rw [h.1 e]; rfl
    | some x =>
      obtain ⟨k', b', s', q1, q2, q4, q3⟩ := h.2 x.1 x.2 e
      have hO' := ins_ok hO (m - eqP seed u m) (eqP seed u m) (eqR seed u) (eqS seed u) (eqR_lt seed u) (Nat.lt_of_lt_of_le (eqR_lt seed u) (Nat.pow_le_pow_right (by decide) (by omega))) (by omega) (eqS_lt seed u) x.1 x.2 e
      rw [q3, w64s (n := us.length) (by omega) (by omega)]
      exact ih k' (i + 1) b' s' x.1 x.2 (by omega) (by omega) q2 q4 hO' (by omega)
/-- how many rows -/
def roM (n : Nat) : Nat := n + n / 4 + 20
theorem roM_val (n : Nat) (h : n ≤ 400) : wrap64 ((wrap64 ((n : Int) + (wrap64 ((n : Int) / 4)))) + 20) = ((roM n : Nat) : Int) := by
  have e1 : wrap64 ((n : Int) / 4) = ((n / 4 : Nat) : Int) := by rw [w64 (by omega) (by omega)]; omega
  rw [e1]
  clear e1
  have e2 : wrap64 ((n : Int) + ((n / 4 : Nat) : Int)) = ((n + n / 4 : Nat) : Int) := by rw [w64 (by omega) (by omega)]; omega
  rw [e2]
  clear e2
  unfold roM
  rw [w64 (by omega) (by omega)]; omega
/-- what RibbonOf makes -/
def roR (us : List ByteArray) (seed : Int) : Int × Int × Int × ByteArray × Bool :=
  if usersB us = true ∧ inB seed 0 3 = true then fin seed (roM us.length) (insAll seed (roM us.length) us (fun _ => 0) (fun _ => 0)) else (0, 0, 0, (⟨#[]⟩ : ByteArray), false)
theorem iro (k : Nat) (us : List ByteArray) (hl : us.length ≤ 1048576) (hs : ∀ u ∈ us, u.size ≤ 1048576) (seed : Int) (hk : 2000000 < k) : impl_RibbonOf.f k us seed = some (roR us seed) := by
  obtain ⟨k, rfl⟩ : ∃ j, k = j + 1 := ⟨k - 1, by omega⟩
  have jt : impl_RibbonOf.j0 (k + 1) us seed true = some (0, 0, 0, (⟨#[]⟩ : ByteArray), false) := by rw [impl_RibbonOf.j0, if_pos rfl]
  unfold impl_RibbonOf.f roR
  rw [iuo us hl _ (by omega), iwithin]
  simp only [Option.bind_some]
  by_cases g : usersB us = true
  · have h400 : us.length ≤ 400 := by simp only [usersB, Bool.and_eq_true, decide_eq_true_eq] at g; exact g.1
    by_cases hp : inB seed 0 3 = true
    · rw [if_pos g, if_pos ⟨g, hp⟩, hp, impl_RibbonOf.j0, if_neg (by decide), roM_val _ h400]
      have hM : 20 ≤ roM us.length ∧ roM us.length ≤ 600 := by unfold roM; omega
      generalize roM us.length = m at hM
      rw [if_pos (show (0 : Int) ≤ (m : Int) from Int.natCast_nonneg m), Int.toNat_natCast, if_pos (show m ≤ 11728124029610 by omega)]
      have h := iall seed us h400 hs m (by omega) (by omega) us.length k 0 _ _ _ (by omega) (by omega) (RK_start m) (Ok_start m) (by omega)
      simpa using h
    · have hp' : inB seed 0 3 = false := by simpa using hp
      rw [if_pos g, if_neg (fun h => hp h.2), hp', Bool.not_false, jt]
  · rw [if_neg g, if_neg (fun h => g h.1), jt]
theorem sro (k : Nat) (us : List ByteArray) (hl : us.length ≤ 1048576) (hs : ∀ u ∈ us, u.size ≤ 1048576) (seed : Int) (hk : 2000000 < k) : spec_RibbonOf.f k us seed = some (roR us seed) := by
  obtain ⟨k, rfl⟩ : ∃ j, k = j + 1 := ⟨k - 1, by omega⟩
  have jt : spec_RibbonOf.j0 (k + 1) us seed true = some (0, 0, 0, (⟨#[]⟩ : ByteArray), false) := by rw [spec_RibbonOf.j0, if_pos rfl]
  unfold spec_RibbonOf.f roR
  rw [suo us hl _ (by omega), swithin]
  simp only [Option.bind_some]
  by_cases g : usersB us = true
  · have h400 : us.length ≤ 400 := by simp only [usersB, Bool.and_eq_true, decide_eq_true_eq] at g; exact g.1
    by_cases hp : inB seed 0 3 = true
    · rw [if_pos g, if_pos ⟨g, hp⟩, hp, spec_RibbonOf.j0, if_neg (by decide), roM_val _ h400]
      have hM : 20 ≤ roM us.length ∧ roM us.length ≤ 600 := by unfold roM; omega
      generalize roM us.length = m at hM
      rw [if_pos (show (0 : Int) ≤ (m : Int) from Int.natCast_nonneg m), Int.toNat_natCast, if_pos (show m ≤ 35184372088832 by omega)]
      have h := sall seed us h400 hs m (by omega) (by omega) us.length k 0 _ _ _ _ (by omega) (by omega) (RL_start m) (RL_start m) (Ok_start m) (by omega)
      simpa using h
    · have hp' : inB seed 0 3 = false := by simpa using hp
      rw [if_pos g, if_neg (fun h => hp h.2), hp', Bool.not_false, jt]
  · rw [if_neg g, if_neg (fun h => g h.1), jt]

/-! ## section place -/
/-- the other number of a user -/
def hG (u : ByteArray) : Nat := (Go.bits .or .u64 ((hsh 0 u : Int) / 8589934592) (IntKind.u64.wrap ((hsh 0 u : Int) * 2147483648))).toNat
theorem hG_val (u : ByteArray) : Go.bits .or .u64 ((hsh 0 u : Int) / 8589934592) (IntKind.u64.wrap ((hsh 0 u : Int) * 2147483648)) = (hG u : Int) := by
  have h := bits_range .u64 rfl .or ((hsh 0 u : Int) / 8589934592) (IntKind.u64.wrap ((hsh 0 u : Int) * 2147483648))
  unfold hG; rw [Int.toNat_of_nonneg h.1]
/-- the number of a user's bit i among m -/
def pl (u : ByteArray) (i m : Nat) : Nat := (hsh 0 u + i * hG u % 18446744073709551616) % 18446744073709551616 % m
theorem pl_lt (u : ByteArray) (i m : Nat) (h : 0 < m) : pl u i m < m := Nat.mod_lt _ h
theorem u64n (n : Nat) : IntKind.u64.wrap (n : Int) = ((n % 18446744073709551616 : Nat) : Int) := by rw [u64w]; omega
theorem pl_val (u : ByteArray) (i m : Nat) : Int.tmod (IntKind.u64.wrap ((hsh 0 u : Int) + IntKind.u64.wrap ((i : Int) * (hG u : Int)))) (m : Int) = ((pl u i m : Nat) : Int) := by
  rw [← Int.natCast_mul, u64n, ← Int.natCast_add, u64n]
  rw [Int.tmod_eq_emod_of_nonneg (by omega)]
  exact (Int.natCast_emod _ _).symm
theorem shr8 (x : Int) (b : Nat) (hb : b < 8) : shr .u8 x (b : Int) = x / 2 ^ b := by
  unfold shr
  rw [Int.toNat_natCast, Nat.min_eq_left (by show b ≤ 8; omega)]
theorem td8 (b : Nat) (h : b < 100000) : IntKind.u64.wrap (Int.tdiv (b : Int) 8) = ((b / 8 : Nat) : Int) := by
  rw [Int.tdiv_eq_ediv_of_nonneg (by omega), u64w]; omega
theorem tm8 (b : Nat) : Int.tmod (b : Int) 8 = ((b % 8 : Nat) : Int) := by
  rw [Int.tmod_eq_emod_of_nonneg (by omega)]; omega

/-! ## section probes -/
/-- the numbers of the bits of a user -/
def prb (u : ByteArray) (many m : Nat) : List Int := (List.range many).map fun i => ((pl u i m : Nat) : Int)
theorem prb_length (u : ByteArray) (many m : Nat) : (prb u many m).length = many := by simp [prb]
theorem prb_succ (u : ByteArray) (i m : Nat) : prb u (i + 1) m = prb u i m ++ [((pl u i m : Nat) : Int)] := by simp [prb, List.range_succ]
theorem iprb_l0 (u : ByteArray) (n : Nat) (hn : 1 ≤ n) (hn2 : n ≤ 10000) (many : Nat) (hm : many ≤ 100) : ∀ (d k i : Nat), i ≤ many → many - i = d → d < k → impl_probes.l0 k n (hsh 0 u) (hG u) (prb u i (8 * n)) many i = some (prb u many (8 * n)) := by
  have e8 : IntKind.u64.wrap (8 * (IntKind.u64.wrap (n : Int))) = ((8 * n : Nat) : Int) := by rw [u64w, u64w]; omega
  intro d
  induction d with
  | zero =>
    intro k i h1 h2 hk
    obtain ⟨k, rfl⟩ : ∃ m, k = m + 1 := ⟨k - 1, by omega⟩
    rw [impl_probes.l0, if_neg (by clear e8; omega), show i = many by clear e8; omega]
  | succ d ih =>
    intro k i h1 h2 hk
    obtain ⟨k, rfl⟩ : ∃ m, k = m + 1 := ⟨k - 1, by clear e8; omega⟩
    rw [impl_probes.l0, if_pos (by clear e8; omega), e8, if_neg (by clear e8; omega), prb_length, if_pos (by clear e8; omega), pl_val]
    have ei : IntKind.u64.wrap ((i : Int) + 1) = ((i + 1 : Nat) : Int) := by clear e8; rw [u64w]; omega
    rw [ei, ← prb_succ]
    clear ei
    exact ih k (i + 1) (by clear e8; omega) (by clear e8; omega) (by clear e8; omega)
theorem iprb (k : Nat) (u : ByteArray) (hu : u.size ≤ 140737488351232) (hk : u.size + 101 < k) (many n : Nat) (hm : many ≤ 100) (hn : 1 ≤ n) (hn2 : n ≤ 10000) : impl_probes.f k u (many : Int) (n : Int) = some (prb u many (8 * n)) := by
  unfold impl_probes.f
  rw [ihash 0 u hu k (by omega)]
  simp only [Option.bind_some]
  rw [hG_val]
  have e : IntKind.u64.wrap (many : Int) = (many : Int) := by rw [u64w]; omega
  rw [e]
  clear e
  exact iprb_l0 u n hn hn2 many hm many k 0 (by omega) (by omega) (by omega)
theorem rd_prb (u : ByteArray) (many m i : Nat) (h : i < many) : rd (prb u many m) (i : Int) = ((pl u i m : Nat) : Int) := by
  unfold rd
  rw [Int.toNat_natCast, List.getD_eq_getElem?_getD]
  simp [prb, h]

/-! ## section bloomof -/
/-- one bit set in a list of bytes -/
def setB (l : List Int) (b : Nat) : List Int := l.set (b / 8) (Go.bits .or .u8 (rd l ((b / 8 : Nat) : Int)) (shl .u8 1 ((b % 8 : Nat) : Int)))
theorem setB_length (l : List Int) (b : Nat) : (setB l b).length = l.length := by simp [setB]
/-- the last d of a user's 'many' bits set -/
def addU (u : ByteArray) (many : Nat) : Nat → List Int → List Int
  | 0, l => l
  | d + 1, l => addU u many d (setB l (pl u (many - (d + 1)) (8 * l.length)))
theorem addU_length (u : ByteArray) (many : Nat) : ∀ (d : Nat) (l : List Int), (addU u many d l).length = l.length
  | 0, l => rfl
  | d + 1, l => by rw [addU, addU_length u many d, setB_length]
def addUs (many : Nat) : List ByteArray → List Int → List Int
  | [], l => l
  | u :: us, l => addUs many us (addU u many many l)
theorem addUs_length (many : Nat) : ∀ (us : List ByteArray) (l : List Int), (addUs many us l).length = l.length
  | [], l => rfl
  | u :: us, l => by rw [addUs, addUs_length many us, addU_length]
/-- how many bytes, how many bits for each user -/
def bfN (n per : Nat) : Nat := (max 64 (n * per) + 7) / 8
def bfP (per : Nat) : Nat := min (max 1 (per * 69 / 100)) 30
theorem bfN_bound (n per : Nat) (hn : n ≤ 400) (hp : per ≤ 20) : 8 ≤ bfN n per ∧ bfN n per ≤ 1000 := by
  have : n * per ≤ 400 * 20 := Nat.mul_le_mul hn hp
  unfold bfN; omega
theorem bfP_bound (per : Nat) : 1 ≤ bfP per ∧ bfP per ≤ 30 := by unfold bfP; omega
theorem mx64 (n per : Nat) (hn : n ≤ 400) (hp : per ≤ 20) : wrap64 (Int.tdiv (wrap64 ((mx 64 (wrap64 (((n * per : Nat) : Int)))) + 7)) 8) = ((bfN n per : Nat) : Int) := by
  have hb : n * per ≤ 400 * 20 := Nat.mul_le_mul hn hp
  unfold bfN
  generalize n * per = x at *
  have e1 : wrap64 (x : Int) = (x : Int) := by unfold wrap64; omega
  rw [e1]
  clear e1
  have e2 : mx 64 (x : Int) = ((max 64 x : Nat) : Int) := by unfold mx; split <;> omega
  rw [e2]
  clear e2
  have e3 : wrap64 (((max 64 x : Nat) : Int) + 7) = ((max 64 x + 7 : Nat) : Int) := by unfold wrap64; omega
  rw [e3]
  clear e3
  have e4 : Int.tdiv ((max 64 x + 7 : Nat) : Int) 8 = (((max 64 x + 7) / 8 : Nat) : Int) := by rw [Int.tdiv_eq_ediv_of_nonneg (by omega)]; omega
  rw [e4]
  clear e4
  unfold wrap64; omega
theorem pr_i (per : Nat) (hp : per ≤ 20) : mn (mx (wrap64 (Int.tdiv (wrap64 (69 * (per : Int))) 100)) 1) 30 = ((bfP per : Nat) : Int) := by
  have e1 : wrap64 (69 * (per : Int)) = ((per * 69 : Nat) : Int) := by unfold wrap64; omega
  rw [e1]; clear e1
  have e2 : Int.tdiv ((per * 69 : Nat) : Int) 100 = ((per * 69 / 100 : Nat) : Int) := by rw [Int.tdiv_eq_ediv_of_nonneg (by omega)]; omega
  rw [e2]; clear e2
  have e3 : wrap64 ((per * 69 / 100 : Nat) : Int) = ((per * 69 / 100 : Nat) : Int) := by unfold wrap64; omega
  rw [e3]; clear e3
  unfold bfP mn mx
  repeat' split
  all_goals omega
theorem ibo_l1 (users : List ByteArray) (nu q1 q2 : Int) (bs : ByteArray) (w : Nat) (many : Nat) (hm : many ≤ 100) (u : ByteArray) (L : Nat) (hL : 1 ≤ L) (hL2 : L ≤ 1000) : ∀ (d k i : Nat) (l : List Int), l.length = L → i ≤ many → many - i = d → d < k → impl_BloomOf.l1 k l users nu w (prb u many (8 * L)) many i q1 q2 many bs = impl_BloomOf.l0 (k - (d + 1)) (addU u many d l) users nu (wrap64 ((w : Int) + 1)) q1 q2 many bs := by
  intro d
  induction d with
  | zero =>
    intro k i l hl g1 g2 hk
    obtain ⟨k, rfl⟩ : ∃ m, k = m + 1 := ⟨k - 1, by omega⟩
    rw [impl_BloomOf.l1, if_neg (by omega)]; rfl
  | succ d ih =>
    intro k i l hl g1 g2 hk
    obtain ⟨k, rfl⟩ : ∃ m, k = m + 1 := ⟨k - 1, by omega⟩
    have hp := pl_lt u i (8 * L) (by omega)
    have hi : many - (d + 1) = i := by omega
    rw [impl_BloomOf.l1, if_pos (by omega), if_pos (by omega), prb_length, if_pos (by omega), rd_prb _ _ _ _ (by omega)]
    rw [addU, hi, hl]
    generalize hpl : pl u i (8 * L) = p at hp
    rw [td8 p (by omega), tm8, if_pos (by omega), if_pos (by omega), if_pos (by omega), w64s (n := many) (by omega) (by omega), Int.toNat_natCast]
    have hs : (setB l p).length = L := by rw [setB_length, hl]
    have h := ih k (i + 1) (setB l p) hs (by omega) (by omega) (by omega)
    rw [show k + 1 - (d + 1 + 1) = k - (d + 1) by omega]
    exact h
theorem ibo_l0 (users : List ByteArray) (hu : users.length ≤ 400) (hs : ∀ u ∈ users, u.size ≤ 1048576) (q1 q2 : Int) (bs : ByteArray) (many : Nat) (hm : many ≤ 100) (L : Nat) (hL : 1 ≤ L) (hL2 : L ≤ 1000) : ∀ (d k i : Nat) (l : List Int), l.length = L → i ≤ users.length → users.length - i = d → 200 * d + 1048800 < k → impl_BloomOf.l0 k l users users.length i q1 q2 many bs = some (q1, q2, (many : Int), strOfNums (addUs many (users.drop i) l), true) := by
  intro d
  induction d with
  | zero =>
    intro k i l hl g1 g2 hk
    obtain ⟨k, rfl⟩ : ∃ m, k = m + 1 := ⟨k - 1, by omega⟩
    rw [impl_BloomOf.l0, if_neg (by omega), List.drop_eq_nil_of_le (by omega)]; rfl
  | succ d ih =>
    intro k i l hl g1 g2 hk
    obtain ⟨k, rfl⟩ : ∃ m, k = m + 1 := ⟨k - 1, by omega⟩
    obtain ⟨u, hd, hu', hmem⟩ := rds_drop users i (by omega)
    have hsu := hs u hmem
    rw [impl_BloomOf.l0, if_pos (by omega), if_pos (by omega), if_pos (by omega), hu', hl, iprb k u (by omega) (by omega) many L hm hL (by omega)]
    simp only [Option.bind_some]
    rw [prb_length]
    have h1 := ibo_l1 users users.length q1 q2 bs i many hm u L hL hL2 many k 0 l hl (by omega) (by omega) (by omega)
    rw [show ((0 : Nat) : Int) = 0 from rfl] at h1
    rw [h1, w64s (n := users.length) (by omega) (by omega), hd, addUs]
    exact ih (k - (many + 1)) (i + 1) (addU u many many l) (by rw [addU_length, hl]) (by omega) (by omega) (by omega)
/-- what BloomOf makes -/
def boR (users : List ByteArray) (per : Int) : Int × Int × Int × ByteArray × Bool :=
  if usersB users = true ∧ inB per 1 20 = true then (1, 0, ((bfP per.toNat : Nat) : Int), strOfNums (addUs (bfP per.toNat) users (List.replicate (bfN users.length per.toNat) 0)), true) else (0, 0, 0, (⟨#[]⟩ : ByteArray), false)
theorem ibo (k : Nat) (users : List ByteArray) (hl : users.length ≤ 1048576) (hs : ∀ u ∈ users, u.size ≤ 1048576) (per : Int) (hk : 1200000 < k) : impl_BloomOf.f k users per = some (boR users per) := by
  obtain ⟨k, rfl⟩ : ∃ m, k = m + 1 := ⟨k - 1, by omega⟩
  have jt : impl_BloomOf.j0 (k + 1) users per true = some (0, 0, 0, (⟨#[]⟩ : ByteArray), false) := by rw [impl_BloomOf.j0, if_pos rfl]
  unfold impl_BloomOf.f boR
  rw [iuo users hl _ (by omega), iwithin]
  simp only [Option.bind_some]
  by_cases g : usersB users = true
  · have h400 : users.length ≤ 400 := by simp only [usersB, Bool.and_eq_true, decide_eq_true_eq] at g; exact g.1
    by_cases hp : inB per 1 20 = true
    · have hp' : 1 ≤ per ∧ per ≤ 20 := by simpa [inB] using hp
      obtain ⟨n, rfl⟩ := Int.eq_ofNat_of_zero_le (show 0 ≤ per by omega)
      have hb := bfN_bound users.length n h400 (by omega)
      have hq := bfP_bound n
      rw [if_pos g, if_pos ⟨g, hp⟩, hp, impl_BloomOf.j0, if_neg (by decide)]
      rw [show ((n : Int) * (users.length : Int)) = ((users.length * n : Nat) : Int) by push_cast; exact Int.mul_comm _ _]
      rw [mx64 users.length n h400 (by omega), if_pos (by omega), if_pos (by omega), pr_i n (by omega), Int.toNat_natCast, Int.toNat_natCast]
      have h := ibo_l0 users h400 hs 1 0 (⟨#[]⟩ : ByteArray) (bfP n) (by omega) (bfN users.length n) (by omega) (by omega) users.length k 0 (List.replicate (bfN users.length n) 0) (by simp) (by omega) (by omega) (by omega)
      simpa using h
    · have hp' : inB per 1 20 = false := by simpa using hp
      rw [if_pos g, if_neg (fun h => hp h.2), hp', Bool.not_false, jt]
  · rw [if_neg g, if_neg (fun h => g h.1), jt]

/-! ## section placespec -/
theorem spl (k : Nat) (u : ByteArray) (hu : u.size ≤ 140737488351232) (hk : u.size < k) (i m : Nat) (hi : i ≤ 100) (hm : 0 < m) : spec_l3Place.f k u (i : Int) (m : Int) = some ((pl u i m : Nat) : Int) := by
  unfold spec_l3Place.f
  rw [shash 0 u hu k hk]
  simp only [Option.bind_some]
  rw [if_neg (by omega), hG_val]
  have e : IntKind.u64.wrap (i : Int) = (i : Int) := by rw [u64w]; omega
  rw [e, pl_val]

/-! ## section bloomofspec -/
theorem pr_s (per : Nat) (hp : per ≤ 20) : mn (mx 1 (wrap64 (Int.tdiv (wrap64 ((per : Int) * 69)) 100))) 30 = ((bfP per : Nat) : Int) := by
  have e1 : wrap64 ((per : Int) * 69) = ((per * 69 : Nat) : Int) := by unfold wrap64; omega
  rw [e1]; clear e1
  have e2 : Int.tdiv ((per * 69 : Nat) : Int) 100 = ((per * 69 / 100 : Nat) : Int) := by rw [Int.tdiv_eq_ediv_of_nonneg (by omega)]; omega
  rw [e2]; clear e2
  have e3 : wrap64 ((per * 69 / 100 : Nat) : Int) = ((per * 69 / 100 : Nat) : Int) := by unfold wrap64; omega
  rw [e3]; clear e3
  unfold bfP mn mx
  repeat' split
  all_goals omega
theorem sbo_l1 (users : List ByteArray) (hus : users.length ≤ 400) (w : Nat) (hw : w < users.length) (u : ByteArray) (hu : rdOf ByteArray.empty users (w : Int) = u) (hsu : u.size ≤ 1048576) (many : Nat) (hm : many ≤ 100) (L : Nat) (hL : 1 ≤ L) (hL2 : L ≤ 1000) : ∀ (d k i : Nat) (l : List Int), l.length = L → i ≤ many → many - i = d → d + 1048600 < k → spec_BloomOf.l1 k users L many l w i = spec_BloomOf.l0 (k - (d + 1)) users L many (addU u many d l) (wrap64 ((w : Int) + 1)) := by
  intro d
  induction d with
  | zero =>
    intro k i l hl g1 g2 hk
    obtain ⟨k, rfl⟩ : ∃ m, k = m + 1 := ⟨k - 1, by omega⟩
    rw [spec_BloomOf.l1, if_neg (by omega)]; rfl
  | succ d ih =>
    intro k i l hl g1 g2 hk
    obtain ⟨k, rfl⟩ : ∃ m, k = m + 1 := ⟨k - 1, by omega⟩
    have hp := pl_lt u i (8 * L) (by omega)
    have hi : many - (d + 1) = i := by omega
    have e8 : IntKind.u64.wrap (wrap64 (8 * (L : Int))) = ((8 * L : Nat) : Int) := by
      have : wrap64 (8 * (L : Int)) = ((8 * L : Nat) : Int) := by unfold wrap64; omega
      rw [this, u64w]; omega
    rw [spec_BloomOf.l1, if_pos (by clear e8; omega), if_pos (by clear e8; omega), if_pos (by clear e8; omega), e8, hu, spl k u (by clear e8; omega) (by clear e8; omega) i _ (by clear e8; omega) (by clear e8; omega)]
    clear e8
    simp only [Option.bind_some]
    rw [addU, hi, hl]
    generalize hpl : pl u i (8 * L) = p at hp
    rw [td8 p (by omega), tm8, if_pos (by omega), if_pos (by omega), if_pos (by omega), w64s (n := many) (by omega) (by omega), Int.toNat_natCast]
    have hs : (setB l p).length = L := by rw [setB_length, hl]
    have h := ih k (i + 1) (setB l p) hs (by omega) (by omega) (by omega)
    rw [show k + 1 - (d + 1 + 1) = k - (d + 1) by omega]
    exact h
theorem sbo_l0 (users : List ByteArray) (hu : users.length ≤ 400) (hs : ∀ u ∈ users, u.size ≤ 1048576) (many : Nat) (hm : many ≤ 100) (L : Nat) (hL : 1 ≤ L) (hL2 : L ≤ 1000) : ∀ (d k i : Nat) (l : List Int), l.length = L → i ≤ users.length → users.length - i = d → 200 * d + 1048800 < k → spec_BloomOf.l0 k users L many l i = some (1, 0, (many : Int), strOfNums (addUs many (users.drop i) l), true) := by
  intro d
  induction d with
  | zero =>
    intro k i l hl g1 g2 hk
    obtain ⟨k, rfl⟩ : ∃ m, k = m + 1 := ⟨k - 1, by omega⟩
    rw [spec_BloomOf.l0, if_neg (by omega), List.drop_eq_nil_of_le (by omega)]; rfl
  | succ d ih =>
    intro k i l hl g1 g2 hk
    obtain ⟨k, rfl⟩ : ∃ m, k = m + 1 := ⟨k - 1, by omega⟩
    obtain ⟨u, hd, hu', hmem⟩ := rds_drop users i (by omega)
    have hsu := hs u hmem
    have h1 := sbo_l1 users hu i (by omega) u hu' hsu many hm L hL hL2 many k 0 l hl (by omega) (by omega) (by omega)
    rw [spec_BloomOf.l0, if_pos (by omega), show (0 : Int) = ((0 : Nat) : Int) from rfl, h1, w64s (n := users.length) (by omega) (by omega), hd, addUs]
    exact ih (k - (many + 1)) (i + 1) (addU u many many l) (by rw [addU_length, hl]) (by omega) (by omega) (by omega)
theorem sbo (k : Nat) (users : List ByteArray) (hl : users.length ≤ 1048576) (hs : ∀ u ∈ users, u.size ≤ 1048576) (per : Int) (hk : 1200000 < k) : spec_BloomOf.f k users per = some (boR users per) := by
  obtain ⟨k, rfl⟩ : ∃ m, k = m + 1 := ⟨k - 1, by omega⟩
  have jt : spec_BloomOf.j0 (k + 1) users per true = some (0, 0, 0, (⟨#[]⟩ : ByteArray), false) := by rw [spec_BloomOf.j0, if_pos rfl]
  unfold spec_BloomOf.f boR
  rw [suo users hl _ (by omega), swithin]
  simp only [Option.bind_some]
  by_cases g : usersB users = true
  · have h400 : users.length ≤ 400 := by simp only [usersB, Bool.and_eq_true, decide_eq_true_eq] at g; exact g.1
    by_cases hp : inB per 1 20 = true
    · have hp' : 1 ≤ per ∧ per ≤ 20 := by simpa [inB] using hp
      obtain ⟨n, rfl⟩ := Int.eq_ofNat_of_zero_le (show 0 ≤ per by omega)
      have hb := bfN_bound users.length n h400 (by omega)
      have hq := bfP_bound n
      rw [if_pos g, if_pos ⟨g, hp⟩, hp, spec_BloomOf.j0, if_neg (by decide)]
      rw [← Int.natCast_mul users.length n]
      rw [mx64 users.length n h400 (by omega), if_pos (by omega), if_pos (by omega), pr_s n (by omega), Int.toNat_natCast, Int.toNat_natCast]
      have h := sbo_l0 users h400 hs (bfP n) (by omega) (bfN users.length n) (by omega) (by omega) users.length k 0 (List.replicate (bfN users.length n) 0) (by simp) (by omega) (by omega) (by omega)
      simpa using h
    · have hp' : inB per 1 20 = false := by simpa using hp
      rw [if_pos g, if_neg (fun h => hp h.2), hp', Bool.not_false, jt]
  · rw [if_neg g, if_neg (fun h => g h.1), jt]

/-! ## section szstrs -/
/-- what is left of a purse behind a list of texts: -1 when it does not do -/
theorem szstrs_l0 (l : List ByteArray) (hs : ∀ u ∈ l, u.size ≤ 9223372036854775807) : ∀ (d k i : Nat) (left : Int), i ≤ l.length → l.length - i = d → l.length ≤ 1048576 → d < k → 0 ≤ left → left ≤ 1048576 → ∃ r, laws_szStringS.l0 k l left i = some r ∧ (0 ≤ r → ∀ u ∈ l.drop i, u.size ≤ 1048576) := by
  intro d
  induction d with
  | zero =>
    intro k i left h1 h2 hl hk h0 hle
    obtain ⟨k, rfl⟩ : ∃ m, k = m + 1 := ⟨k - 1, by omega⟩
    rw [laws_szStringS.l0, if_neg (by omega)]
    refine ⟨_, rfl, fun _ => ?_⟩
    rw [List.drop_eq_nil_of_le (by omega)]; simp
  | succ d ih =>
    intro k i left h1 h2 hl hk h0 hle
    obtain ⟨k, rfl⟩ : ∃ m, k = m + 1 := ⟨k - 1, by omega⟩
    obtain ⟨u, hd, hu, hm⟩ := rds_drop l i (by omega)
    have hsz := hs u hm
    have e : wrap64 (left - (u.size : Int)) = left - u.size := by unfold wrap64; omega
    rw [laws_szStringS.l0, if_pos (by omega), if_pos (by omega), hu, e]
    by_cases c : left - (u.size : Int) < 0
    · rw [if_pos c]; exact ⟨_, rfl, fun h => by omega⟩
    · rw [if_neg c, w64s (n := l.length) (by omega) (by omega)]
      obtain ⟨r, hr, hb⟩ := ih k (i + 1) (left - u.size) (by omega) (by omega) hl (by omega) (by omega) (by omega)
      refine ⟨r, hr, fun h x hx => ?_⟩
      rw [hd] at hx
      rcases List.mem_cons.1 hx with rfl | hx
      · omega
      · exact hb h x hx
theorem szstrs (l : List ByteArray) (hl : l.length ≤ 9223372036854775807) (hs : ∀ u ∈ l, u.size ≤ 9223372036854775807) (k : Nat) (hk : 1048577 ≤ k) : ∃ r, laws_szStringS.f k l 1048576 = some r ∧ (¬ r < 0 → l.length ≤ 1048576 ∧ ∀ u ∈ l, u.size ≤ 1048576) := by
  unfold laws_szStringS.f
  have e : wrap64 (1048576 - (l.length : Int)) = 1048576 - l.length := by unfold wrap64; omega
  rw [e]
  by_cases c : 1048576 - (l.length : Int) < 0
  · rw [if_pos c]; exact ⟨_, rfl, fun h => absurd (by decide) h⟩
  · rw [if_neg c]
    obtain ⟨r, hr, hb⟩ := szstrs_l0 l hs l.length k 0 (1048576 - l.length) (by omega) (by omega) (by omega) (by omega) (by omega) (by omega)
    refine ⟨r, hr, fun h => ⟨by omega, fun u hu => ?_⟩⟩
    exact hb (by omega) u (by simpa using hu)
theorem tostrs_l0 (l : List ByteArray) (hl : l.length ≤ 1048576) : ∀ (d k i : Nat) (acc : List ByteArray), i ≤ l.length → l.length - i = d → d < k → acc.length = l.length → acc.take i = l.take i → laws_toStringS.l0 k l acc i = some l := by
  intro d
  induction d with
  | zero =>
    intro k i acc h1 h2 hk ha ht
    obtain ⟨k, rfl⟩ : ∃ m, k = m + 1 := ⟨k - 1, by omega⟩
    rw [laws_toStringS.l0, if_neg (by omega)]
    rw [List.take_of_length_le (by omega), List.take_of_length_le (by omega)] at ht
    rw [ht]
  | succ d ih =>
    intro k i acc h1 h2 hk ha ht
    obtain ⟨k, rfl⟩ : ∃ m, k = m + 1 := ⟨k - 1, by omega⟩
    obtain ⟨u, hd, hu, hm⟩ := rds_drop l i (by omega)
    rw [laws_toStringS.l0, if_pos (by omega), if_pos (by omega), if_pos (by omega), hu, Int.toNat_natCast, w64s (n := l.length) (by omega) (by omega)]
    refine ih k (i + 1) _ (by omega) (by omega) (by omega) (by simpa using ha) ?_
    have hlt : i < acc.length := by omega
    have hlt2 : i < l.length := by omega
    have eu : l[i] = u := by
      have := List.drop_eq_getElem_cons hlt2
      rw [hd] at this
      exact (List.cons.inj this).1.symm
    rw [List.take_succ_eq_append_getElem (by simpa using hlt), List.take_succ_eq_append_getElem hlt2, List.take_set_of_le (by omega), ht, List.getElem_set_self, eu]
theorem tostrs (l : List ByteArray) (hl : l.length ≤ 1048576) (k : Nat) (hk : l.length < k) : laws_toStringS.f k l = some l := by
  unfold laws_toStringS.f
  rw [if_pos (by omega), if_pos (by omega)]
  exact tostrs_l0 l hl l.length k 0 _ (by omega) (by omega) hk (by simp) (by simp)
theorem eqstrs_l0 (l : List ByteArray) (hl : l.length ≤ 1048576) : ∀ (d k i : Nat), i ≤ l.length → l.length - i = d → d < k → laws_eqStringS.l0 k l l i = some true := by
  intro d
  induction d with
  | zero =>
    intro k i h1 h2 hk
    obtain ⟨k, rfl⟩ : ∃ m, k = m + 1 := ⟨k - 1, by omega⟩
    rw [laws_eqStringS.l0, if_neg (by omega)]
  | succ d ih =>
    intro k i h1 h2 hk
    obtain ⟨k, rfl⟩ : ∃ m, k = m + 1 := ⟨k - 1, by omega⟩
    rw [laws_eqStringS.l0, if_pos (by omega), if_pos (by omega), if_pos (by omega), if_pos rfl, w64s (n := l.length) (by omega) (by omega)]
    exact ih k (i + 1) (by omega) (by omega) (by omega)
theorem eqstrs (l : List ByteArray) (hl : l.length ≤ 1048576) (k : Nat) (hk : l.length < k) : laws_eqStringS.f k l l = some true := by
  unfold laws_eqStringS.f
  rw [if_pos rfl]
  exact eqstrs_l0 l hl l.length k 0 (by omega) (by omega) hk

/-- the seeds in turn, d of them left -/
def seeds (us : List ByteArray) : Nat → Int → Int × Int × Int × ByteArray × Bool
  | 0, _ => boR us 10
  | d + 1, s => if (roR us s).2.2.2.2 = true then roR us s else seeds us d (s + 1)
theorem pair5 (x : Int × Int × Int × ByteArray × Bool) (h : x.2.2.2.2 = true) : (x.1, x.2.1, x.2.2.1, x.2.2.2.1, true) = x := by rw [← h]
theorem ifo_seeds (us : List ByteArray) (hl : us.length ≤ 1048576) (hs : ∀ u ∈ us, u.size ≤ 1048576) : ∀ (d k i : Nat), i + d = 4 → 2 * d + 2000010 < k → impl_FilterOf.l0 k us 2 i = some (seeds us d i) := by
  intro d
  induction d with
  | zero =>
    intro k i h1 hk
    obtain ⟨k, rfl⟩ : ∃ j, k = j + 2 := ⟨k - 2, by omega⟩
    rw [impl_FilterOf.l0, if_pos rfl, decide_eq_false (by omega), impl_FilterOf.j2, if_neg (by decide), ibo k us hl hs 10 (by omega), Option.bind_some]
    rfl
  | succ d ih =>
    intro k i h1 hk
    obtain ⟨k, rfl⟩ : ∃ j, k = j + 2 := ⟨k - 2, by omega⟩
    rw [impl_FilterOf.l0, if_pos rfl, decide_eq_true (by omega), impl_FilterOf.j2, if_pos rfl, iro k us hl hs i (by omega), Option.bind_some, seeds]
    by_cases c : (roR us i).2.2.2.2 = true
    · rw [if_pos c, if_pos c, pair5 _ c]
    · rw [if_neg c, if_neg c, w64s (n := 4) (by omega) (by omega)]
      exact ih k (i + 1) (by omega) (by omega)
theorem sfo_seeds (us : List ByteArray) (hl : us.length ≤ 1048576) (hs : ∀ u ∈ us, u.size ≤ 1048576) : ∀ (d k i : Nat), i + d = 4 → 2 * d + 2000010 < k → spec_FilterOf.l0 k us 2 i = some (seeds us d i) := by
  intro d
  induction d with
  | zero =>
    intro k i h1 hk
    obtain ⟨k, rfl⟩ : ∃ j, k = j + 2 := ⟨k - 2, by omega⟩
    rw [spec_FilterOf.l0, if_pos rfl, decide_eq_false (by omega), spec_FilterOf.j2, if_neg (by decide), sbo k us hl hs 10 (by omega), Option.bind_some]
    rfl
  | succ d ih =>
    intro k i h1 hk
    obtain ⟨k, rfl⟩ : ∃ j, k = j + 2 := ⟨k - 2, by omega⟩
    rw [spec_FilterOf.l0, if_pos rfl, decide_eq_true (by omega), spec_FilterOf.j2, if_pos rfl, sro k us hl hs i (by omega), Option.bind_some, seeds]
    by_cases c : (roR us i).2.2.2.2 = true
    · rw [if_pos c, if_pos c, pair5 _ c]
    · rw [if_neg c, if_neg c, w64s (n := 4) (by omega) (by omega)]
      exact ih k (i + 1) (by omega) (by omega)
theorem both (k : Nat) (us : List ByteArray) (hl : us.length ≤ 1048576) (hs : ∀ u ∈ us, u.size ≤ 1048576) (kind : Int) (hk : 2000100 < k) : ∃ r, spec_FilterOf.f k us kind = some r ∧ impl_FilterOf.f k us kind = some r := by
  obtain ⟨k, rfl⟩ : ∃ j, k = j + 3 := ⟨k - 3, by omega⟩
  have j1 : spec_FilterOf.j0 (k + 3) us kind true = some (0, 0, 0, (⟨#[]⟩ : ByteArray), false) := by rw [spec_FilterOf.j0, if_pos rfl]
  have j2 : impl_FilterOf.j0 (k + 3) us kind true = some (0, 0, 0, (⟨#[]⟩ : ByteArray), false) := by rw [impl_FilterOf.j0, if_pos rfl]
  unfold spec_FilterOf.f impl_FilterOf.f
  rw [suo us hl _ (by omega), iuo us hl _ (by omega), swithin, iwithin]
  simp only [Option.bind_some]
  by_cases g : usersB us = true
  · rw [if_pos g, if_pos g]
    by_cases h : inB kind 0 2 = true
    · rw [h, Bool.not_true, spec_FilterOf.j0, impl_FilterOf.j0, if_neg (show ¬ (false = true) by decide), if_neg (show ¬ (false = true) by decide)]
      by_cases h0 : kind = 0
      · rw [if_pos h0, if_pos h0]; exact ⟨_, rfl, rfl⟩
      · rw [if_neg h0, if_neg h0]
        by_cases h2 : kind = 2
        · subst h2
          have e1 := sfo_seeds us hl hs 4 (k + 2) 0 (by omega) (by omega)
          have e2 := ifo_seeds us hl hs 4 (k + 2) 0 (by omega) (by omega)
          exact ⟨_, e1, e2⟩
        · rw [spec_FilterOf.l0, impl_FilterOf.l0, if_neg h2, if_neg h2, spec_FilterOf.j2, impl_FilterOf.j2, if_neg (show ¬ (false = true) by decide), if_neg (show ¬ (false = true) by decide), sbo k us hl hs 10 (by omega), ibo k us hl hs 10 (by omega), Option.bind_some]
          exact ⟨_, rfl, rfl⟩
    · have h' : inB kind 0 2 = false := by simpa using h
      rw [h', Bool.not_false, j1, j2]; exact ⟨_, rfl, rfl⟩
  · rw [if_neg g, if_neg g, j1, j2]; exact ⟨_, rfl, rfl⟩
theorem FnExactFilterOf : laws_FnExactFilterOf.Pure := by
  intro l kind ⟨hl, hs⟩ _
  refine ⟨2100000, ?_⟩
  unfold laws_FnExactFilterOf.f
  obtain ⟨r, hr, hb⟩ := szstrs l hl hs 2100000 (by omega)
  rw [hr]
  simp only [Option.bind_some]
  by_cases c : r < 0
  · rw [if_pos c]
  · obtain ⟨h1, h2⟩ := hb c
    rw [if_neg c, tostrs l h1 _ (by omega)]
    simp only [Option.bind_some]
    obtain ⟨x, e1, e2⟩ := both 2100000 l h1 h2 kind (by omega)
    rw [e1, e2]
    simp only [Option.bind_some]
    have e : ∀ a b c s, laws_eqFilter.f a b c s a b c s = some true := fun a b c s => by simp [laws_eqFilter.f]
    rw [e]
    simp only [Option.bind_some]
    rw [if_pos trivial, laws_FnExactFilterOf.j0, if_neg (by simp), tostrs l h1 _ (by omega)]
    simp only [Option.bind_some]
    rw [eqstrs l h1 _ (by omega)]
    rfl

end Go.Proofs.Ytfcjacncllmapaf.Pure
