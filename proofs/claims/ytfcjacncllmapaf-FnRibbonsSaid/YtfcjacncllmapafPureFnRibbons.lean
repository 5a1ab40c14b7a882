/- A ribbon says of each user that it was made of that it may be there: at every code. No condition. -/
import Derived.Test.YtfcjacncllmapafQFnRibbonsx
namespace Go.Proofs.Ytfcjacncllmapaf.Pure
open Go.RowKit Go.Proofs.Ytfcjacncllmapaf.QFnRibbons Go.Proofs.YtfcjacncllmapafW.PrintWords Go.Proofs.YtfcjacncllmapafW.PrintLast Go.Proofs.YtfcjacncllmapafW.PrintMore
set_option linter.unusedVariables false
set_option linter.unusedSimpArgs false

/-! ## section xr -/
/-- the xor of the bytes that a row names, from a place on; n: rounds -/
def xr (f : Nat → Nat) : Nat → Nat → Nat → Nat
  | _, _, 0 => 0
  | p, r, n + 1 => (if r % 2 = 1 then f p else 0) ^^^ xr f (p + 1) (r / 2) n
theorem xr_zero (f : Nat → Nat) : ∀ (n p : Nat), xr f p 0 n = 0
  | 0, _ => rfl
  | n + 1, p => by rw [xr, if_neg (by omega), show 0 / 2 = 0 from rfl, xr_zero f n (p + 1)]; rfl
theorem xr_more (f : Nat → Nat) : ∀ (n p r : Nat), r < 2 ^ n → ∀ m, n ≤ m → xr f p r m = xr f p r n
  | 0, p, r, h, m, _ => by
    obtain rfl : r = 0 := by simpa using h
    rw [xr_zero, xr_zero]
  | n + 1, p, r, h, m, hm => by
    obtain ⟨m, rfl⟩ : ∃ q, m = q + 1 := ⟨m - 1, by omega⟩
    rw [xr, xr, xr_more f n (p + 1) (r / 2) (by rw [Nat.pow_succ] at h; omega) m (by omega)]
theorem xor_mod2 (a b : Nat) : (a ^^^ b) % 2 = (a % 2 + b % 2) % 2 := by
  have h := Nat.xor_mod_two_pow (a := a) (b := b) (n := 1)
  rw [Nat.pow_one] at h
  rw [h]
  rcases Nat.mod_two_eq_zero_or_one a with ha | ha <;> rcases Nat.mod_two_eq_zero_or_one b with hb | hb <;> rw [ha, hb] <;> rfl
theorem xor_swap4 (a b c d : Nat) : (a ^^^ b) ^^^ (c ^^^ d) = (a ^^^ c) ^^^ (b ^^^ d) := by
  rw [Nat.xor_assoc, Nat.xor_assoc, ← Nat.xor_assoc b c d, Nat.xor_comm b c, Nat.xor_assoc c b d]
theorem xr_xor (f : Nat → Nat) : ∀ (n p a b : Nat), xr f p (a ^^^ b) n = xr f p a n ^^^ xr f p b n
  | 0, _, _, _ => by simp [xr]
  | n + 1, p, a, b => by
    rw [xr, xr, xr, Nat.xor_div_two, xr_xor f n (p + 1) (a / 2) (b / 2), xor_swap4, xor_mod2]
    congr 1
    rcases Nat.mod_two_eq_zero_or_one a with ha | ha <;> rcases Nat.mod_two_eq_zero_or_one b with hb | hb <;> rw [ha, hb] <;> simp
theorem xr_same (f g : Nat → Nat) : ∀ (n p r : Nat), (∀ i, p ≤ i → f i = g i) → xr f p r n = xr g p r n
  | 0, _, _, _ => rfl
  | n + 1, p, r, h => by rw [xr, xr, h p (Nat.le_refl _), xr_same f g n (p + 1) (r / 2) (fun i hi => h i (by omega))]
theorem xr_lt (f : Nat → Nat) (b : Nat) (hf : ∀ i, f i < 2 ^ b) : ∀ (n p r : Nat), xr f p r n < 2 ^ b
  | 0, _, _ => Nat.two_pow_pos b
  | n + 1, p, r => by
    rw [xr]
    refine Nat.xor_lt_two_pow ?_ (xr_lt f b hf n _ _)
    split
    · exact hf p
    · exact Nat.two_pow_pos b
theorem xor_zero_iff (a b : Nat) : a ^^^ b = 0 ↔ a = b := by
  constructor
  · intro h
    have := congrArg (· ^^^ b) h
    simpa [Nat.xor_assoc] using this
  · rintro rfl; exact Nat.xor_self a

/-! ## section base -/
/-- an unsigned kind's number that fits is not wrapped -/
theorem wrapU (k : IntKind) (hs : k.signed = false) (n : Nat) (h : n < 2 ^ k.bits) : k.wrap (n : Int) = n := by
  unfold IntKind.wrap
  rw [Int.emod_eq_of_lt (by omega) (by exact_mod_cast h)]
  simp [hs]
/-- bits of unsigned numbers are those of natural numbers -/
theorem b_or (k : IntKind) (hs : k.signed = false) (a b : Nat) (ha : a < 2 ^ k.bits) (hb : b < 2 ^ k.bits) : Go.bits .or k a b = ((a ||| b : Nat) : Int) := by
  simp only [Go.bits, BitVec.ofInt_natCast, BitVec.toNat_or, BitVec.toNat_ofNat, Nat.mod_eq_of_lt ha, Nat.mod_eq_of_lt hb]
  exact wrapU k hs _ (Nat.or_lt_two_pow ha hb)
theorem b_xor (k : IntKind) (hs : k.signed = false) (a b : Nat) (ha : a < 2 ^ k.bits) (hb : b < 2 ^ k.bits) : Go.bits .xor k a b = ((a ^^^ b : Nat) : Int) := by
  simp only [Go.bits, BitVec.ofInt_natCast, BitVec.toNat_xor, BitVec.toNat_ofNat, Nat.mod_eq_of_lt ha, Nat.mod_eq_of_lt hb]
  exact wrapU k hs _ (Nat.xor_lt_two_pow ha hb)
theorem b_and (k : IntKind) (hs : k.signed = false) (a b : Nat) (ha : a < 2 ^ k.bits) (hb : b < 2 ^ k.bits) : Go.bits .and k a b = ((a &&& b : Nat) : Int) := by
  simp only [Go.bits, BitVec.ofInt_natCast, BitVec.toNat_and, BitVec.toNat_ofNat, Nat.mod_eq_of_lt ha, Nat.mod_eq_of_lt hb]
  exact wrapU k hs _ (Nat.and_lt_two_pow _ hb)
theorem b_or8 (a b : Nat) (ha : a < 256) (hb : b < 256) : Go.bits .or .u8 a b = ((a ||| b : Nat) : Int) := b_or .u8 rfl a b ha hb
theorem u64w (x : Int) : IntKind.u64.wrap x = x % 18446744073709551616 := by simp [IntKind.wrap, IntKind.bits, IntKind.signed]

/-! ## section bytes -/
/-- the bytes of a text, as natural numbers -/
def nb (s : ByteArray) : List Nat := s.data.toList.map UInt8.toNat
theorem nb_length (s : ByteArray) : (nb s).length = s.size := by rw [nb, List.length_map, Array.length_toList]; rfl
theorem nb_lt (s : ByteArray) : ∀ b ∈ nb s, b < 256 := by
  intro b hb
  simp only [nb, List.mem_map] at hb
  obtain ⟨u, _, rfl⟩ := hb
  exact u.toNat_lt
theorem bt_nb (s : ByteArray) (i : Nat) (h : i < s.size) : bt s i = (((nb s)[i]'(by rw [nb_length]; exact h) : Nat) : Int) := by
  simp only [bt, Int.toNat_natCast, h, nb]
  simp
  rfl
theorem nb_drop (s : ByteArray) (i : Nat) (h : i < s.size) : ∃ b, (nb s).drop i = b :: (nb s).drop (i + 1) ∧ bt s i = (b : Int) ∧ b < 256 := by
  have hl : i < (nb s).length := by rw [nb_length]; exact h
  exact ⟨(nb s)[i], List.drop_eq_getElem_cons hl, bt_nb s i h, nb_lt s _ (List.getElem_mem hl)⟩
theorem nb_end (s : ByteArray) (i : Nat) (h : s.size ≤ i) : (nb s).drop i = [] := List.drop_eq_nil_of_le (by rw [nb_length]; exact h)
theorem w64 {x : Int} (h0 : -9223372036854775808 ≤ x) (h1 : x < 9223372036854775808) : wrap64 x = x := by unfold wrap64; omega
theorem w64s {i n : Nat} (h : i < n) (hn : n ≤ 140737488351232) : wrap64 ((i : Int) + 1) = ((i + 1 : Nat) : Int) := by rw [w64] <;> omega
theorem bits_range (k : IntKind) (hs : k.signed = false) (op : BinOp) (x y : Int) : 0 ≤ Go.bits op k x y ∧ Go.bits op k x y < 2 ^ k.bits := by
  have hp : (0 : Int) < 2 ^ k.bits := by exact_mod_cast Nat.two_pow_pos k.bits
  unfold Go.bits IntKind.wrap
  simp only [hs, Bool.false_and]
  exact ⟨Int.emod_nonneg _ (by omega), Int.emod_lt_of_pos _ hp⟩

/-! ## section hash -/
theorem ish_l0 (s : ByteArray) : ∀ (k : Nat) (h : Int) (i : Int), 0 ≤ i → impl_Hash.l0 k s h s.size i = spec_Hash.l0 k s h i := by
  intro k
  induction k with
  | zero => intros; rfl
  | succ k ih =>
    intro h i h0
    rw [impl_Hash.l0, spec_Hash.l0]
    by_cases c : i < (s.size : Int)
    · rw [if_pos c, if_pos c, if_pos h0, if_pos h0, if_pos c]
      by_cases c2 : 0 ≤ wrap64 (i + 1)
      · rw [ih _ _ c2]
      · cases k with
        | zero => rfl
        | succ k =>
          rw [impl_Hash.l0, spec_Hash.l0, if_neg c2, if_neg c2]
    · rw [if_neg c, if_neg c]
theorem sh_l0 (s : ByteArray) (hs : s.size ≤ 140737488351232) : ∀ (d k i : Nat) (h : Int), i ≤ s.size → s.size - i = d → d < k → ∃ r, spec_Hash.l0 k s h i = some r ∧ 0 ≤ r ∧ r < 18446744073709551616 := by
  intro d
  induction d with
  | zero =>
    intro k i h h1 h2 hk
    obtain ⟨k, rfl⟩ : ∃ m, k = m + 1 := ⟨k - 1, by omega⟩
    rw [spec_Hash.l0, if_neg (by omega)]
    refine ⟨_, rfl, ?_⟩
    exact bits_range .u64 rfl .xor _ _
  | succ d ih =>
    intro k i h h1 h2 hk
    obtain ⟨k, rfl⟩ : ∃ m, k = m + 1 := ⟨k - 1, by omega⟩
    rw [spec_Hash.l0, if_pos (by omega), if_pos (by omega), w64s (n := s.size) (by omega) hs]
    exact ih k (i + 1) _ (by omega) (by omega) (by omega)
/-- the hash of a text, as a natural number -/
def hsh (seed : Int) (s : ByteArray) : Nat := ((spec_Hash.f (s.size + 1) seed s).getD 0).toNat
theorem shash (seed : Int) (s : ByteArray) (hs : s.size ≤ 140737488351232) (k : Nat) (hk : s.size < k) : spec_Hash.f k seed s = some (hsh seed s : Int) := by
  obtain ⟨r, hr, h0, h1⟩ := sh_l0 s hs s.size (s.size + 1) 0 (Go.bits .xor .u64 14695981039346656037 (IntKind.u64.wrap ((IntKind.u64.wrap (seed)) * 11400714819323198485))) (by omega) (by omega) (by omega)
  have e : spec_Hash.f (s.size + 1) seed s = some r := hr
  rw [hsh, e]
  simp only [Option.getD_some]
  rw [Int.toNat_of_nonneg h0]
  exact at_rounds (fun j => spec_Hash.mono seed s j) hk e
theorem hsh_lt (seed : Int) (s : ByteArray) (hs : s.size ≤ 140737488351232) : hsh seed s < 18446744073709551616 := by
  obtain ⟨r, hr, h0, h1⟩ := sh_l0 s hs s.size (s.size + 1) 0 (Go.bits .xor .u64 14695981039346656037 (IntKind.u64.wrap ((IntKind.u64.wrap (seed)) * 11400714819323198485))) (by omega) (by omega) (by omega)
  have e : spec_Hash.f (s.size + 1) seed s = some r := hr
  rw [hsh, e]
  simp only [Option.getD_some]
  omega
theorem ihash (seed : Int) (s : ByteArray) (hs : s.size ≤ 140737488351232) (k : Nat) (hk : s.size < k) : impl_Hash.f k seed s = some (hsh seed s : Int) := by
  rw [← shash seed s hs k hk]
  exact ish_l0 s k _ 0 (by omega)

/-! ## section ribbon -/
def okB (l : List Int) : Prop := ∀ x ∈ l, 0 ≤ x ∧ x < 256
theorem okB_rd {l : List Int} (h : okB l) (i : Int) : 0 ≤ rd l i ∧ rd l i < 256 := by
  unfold rd
  rw [List.getD_eq_getElem?_getD]
  cases hi : l[i.toNat]? with
  | none => simp
  | some b => simpa using h b (List.mem_of_getElem? hi)
theorem okB_bytesOf (s : ByteArray) : okB (bytesOf s) := by
  intro x hx
  simp only [bytesOf, List.mem_map] at hx
  obtain ⟨b, _, rfl⟩ := hx
  have := b.toNat_lt
  omega
/-- the bytes of a row, as natural numbers -/
def bf (l : List Int) (i : Nat) : Nat := (rd l (i : Int)).toNat
theorem bf_val {l : List Int} (h : okB l) (i : Nat) : rd l (i : Int) = (bf l i : Int) := by
  have := okB_rd h (i : Int)
  unfold bf
  omega
theorem bf_lt {l : List Int} (h : okB l) (i : Nat) : bf l i < 256 := by
  have := okB_rd h (i : Int)
  unfold bf
  omega
theorem tmodN (a b : Nat) : Int.tmod (a : Int) (b : Int) = ((a % b : Nat) : Int) := by
  rw [Int.tmod_eq_emod_of_nonneg (by omega)]; push_cast; rfl
theorem shrU (r i : Nat) (hi : i ≤ 64) : shr .u64 (r : Int) (i : Int) = ((r / 2 ^ i : Nat) : Int) := by
  unfold shr
  rw [Int.toNat_natCast, Nat.min_eq_left (by show i ≤ 64; omega)]
  push_cast; rfl
/-- a user's equation: where it begins, its row, what it comes to -/
def eqP (seed : Int) (u : ByteArray) (m : Nat) : Nat := hsh (seed % 4294967296) u / 4294967296 % (m - 15)
def eqR (seed : Int) (u : ByteArray) : Nat := hsh (seed % 4294967296) u % 65536 ||| 1
def eqS (seed : Int) (u : ByteArray) : Nat := hsh (seed % 4294967296) u / 65536 % 128
theorem eqP_lt (seed : Int) (u : ByteArray) {m : Nat} (hm : 16 ≤ m) : eqP seed u m + 16 ≤ m := by
  have := Nat.mod_lt (hsh (seed % 4294967296) u / 4294967296) (show 0 < m - 15 by omega)
  unfold eqP; omega
theorem eqR_lt (seed : Int) (u : ByteArray) : eqR seed u < 2 ^ 16 := Nat.or_lt_two_pow (Nat.mod_lt _ (by decide)) (by decide)
theorem eqS_lt (seed : Int) (u : ByteArray) : eqS seed u < 128 := Nat.mod_lt _ (by decide)
theorem m15 {m : Nat} (hm : 16 ≤ m) (h2 : m ≤ 10000) : IntKind.u64.wrap (wrap64 ((m : Int) - 15)) = ((m - 15 : Nat) : Int) := by
  rw [w64 (by omega) (by omega), show (m : Int) - 15 = ((m - 15 : Nat) : Int) by omega]
  exact wrapU .u64 rfl _ (by show m - 15 < 18446744073709551616; omega)
theorem place_val (t m : Nat) (hm : 16 ≤ m) (h2 : m ≤ 10000) : wrap64 (Int.tmod ((t : Int) / 4294967296) ((m - 15 : Nat) : Int)) = ((t / 4294967296 % (m - 15) : Nat) : Int) := by
  rw [show (t : Int) / 4294967296 = ((t / 4294967296 : Nat) : Int) by omega, tmodN]
  have := Nat.mod_lt (t / 4294967296) (show 0 < m - 15 by omega)
  generalize t / 4294967296 % (m - 15) = x at this
  exact w64 (by omega) (by omega)
theorem row_val (t : Nat) : Go.bits .or .u64 (Int.tmod (t : Int) 65536) 1 = ((t % 65536 ||| 1 : Nat) : Int) := by
  rw [show (65536 : Int) = ((65536 : Nat) : Int) from rfl, tmodN]
  have := Nat.mod_lt t (show 0 < 65536 by decide)
  exact b_or .u64 rfl _ 1 (by show t % 65536 < 18446744073709551616; omega) (by decide)
theorem row_vali (t : Nat) (ht : t < 18446744073709551616) : Go.bits .or .u64 (Go.bits .and .u64 (t : Int) 65535) 1 = ((t % 65536 ||| 1 : Nat) : Int) := by
  rw [show Go.bits .and .u64 (t : Int) 65535 = ((t &&& 65535 : Nat) : Int) from b_and .u64 rfl t 65535 ht (by decide), show t &&& 65535 = t % 65536 from Nat.and_two_pow_sub_one_eq_mod t 16]
  have := Nat.mod_lt t (show 0 < 65536 by decide)
  exact b_or .u64 rfl _ 1 (by show t % 65536 < 18446744073709551616; omega) (by decide)
theorem sum_val (t : Nat) : Int.tmod ((t : Int) / 65536) 128 = ((t / 65536 % 128 : Nat) : Int) := by
  rw [show (t : Int) / 65536 = ((t / 65536 : Nat) : Int) by omega, show (128 : Int) = ((128 : Nat) : Int) from rfl, tmodN]
theorem srow (k : Nat) (u : ByteArray) (seed : Int) (m : Nat) (hm : 16 ≤ m) (h2 : m ≤ 10000) (hu : u.size ≤ 140737488351232) (hk : u.size < k) : spec_l4Row.f k u seed m = some ((eqP seed u m : Int), (eqR seed u : Int), (eqS seed u : Int)) := by
  unfold spec_l4Row.f
  rw [shash _ u hu k hk]
  simp only [Option.bind_some]
  rw [m15 hm h2, if_neg (by omega), place_val _ _ hm h2, row_val, sum_val]
  rfl
theorem irow (k : Nat) (u : ByteArray) (seed : Int) (m : Nat) (hm : 16 ≤ m) (h2 : m ≤ 10000) (hu : u.size ≤ 140737488351232) (hk : u.size < k) : impl_equationOf.f k u seed m = some ((eqP seed u m : Int), (eqR seed u : Int), (eqS seed u : Int)) := by
  unfold impl_equationOf.f
  rw [ihash _ u hu k hk]
  simp only [Option.bind_some]
  rw [m15 hm h2, if_neg (by omega), place_val _ _ hm h2, row_vali _ (hsh_lt _ u hu), sum_val]
  have h : ((hsh (seed % 4294967296) u / 65536 % 128 : Nat) : Int) % 256 = ((hsh (seed % 4294967296) u / 65536 % 128 : Nat) : Int) := by
    have := Nat.mod_lt (hsh (seed % 4294967296) u / 65536) (show 0 < 128 by decide)
    generalize hsh (seed % 4294967296) u / 65536 % 128 = x at this
    omega
  rw [h]
  rfl
theorem isolve_l0 {l : List Int} (h : okB l) : ∀ (n k p r o : Nat), r < 2 ^ n → n ≤ 16 → p + n ≤ l.length → l.length ≤ 10000 → n < k → o < 256 → impl_solve.l0 k l p r o = some ((o ^^^ xr (bf l) p r n : Nat) : Int)
  | 0, k, p, r, o, hr, _, _, _, hk, _ => by
    obtain ⟨k, rfl⟩ : ∃ m, k = m + 1 := ⟨k - 1, by omega⟩
    obtain rfl : r = 0 := by simpa using hr
    rw [impl_solve.l0, if_pos (by rfl), xr, Nat.xor_zero]
  | n + 1, k, p, r, o, hr, hn, hp, hl, hk, ho => by
    obtain ⟨k, rfl⟩ : ∃ m, k = m + 1 := ⟨k - 1, by omega⟩
    by_cases hz : r = 0
    · subst hz
      rw [impl_solve.l0, if_pos (by rfl), xr_zero, Nat.xor_zero]
    · have h16 : r < 65536 := Nat.lt_of_lt_of_le hr (Nat.pow_le_pow_right (by decide) hn)
      have hr2 : r / 2 < 2 ^ n := by rw [Nat.pow_succ] at hr; omega
      have ea : Go.bits .and .u64 (r : Int) 1 = ((r % 2 : Nat) : Int) := by
        rw [show Go.bits .and .u64 (r : Int) 1 = ((r &&& 1 : Nat) : Int) from b_and .u64 rfl r 1 (by show r < 18446744073709551616; omega) (by decide), Nat.and_one_is_mod]
      have ew : wrap64 ((p : Int) + 1) = ((p + 1 : Nat) : Int) := w64s (n := l.length) (by omega) (by omega)
      have ed : (r : Int) / 2 = ((r / 2 : Nat) : Int) := by push_cast; rfl
      have ex : Go.bits .xor .u8 (o : Int) (rd l (p : Int)) = ((o ^^^ bf l p : Nat) : Int) := by
        rw [bf_val h]; exact b_xor .u8 rfl _ _ ho (bf_lt h p)
      rw [impl_solve.l0, if_neg (show ¬ ((r : Int) = 0) by omega), ea, ew, ed, ex, xr]
      by_cases g : r % 2 = 1
      · rw [if_pos (show ((r % 2 : Nat) : Int) = 1 by rw [g]; rfl), if_pos (show (0 : Int) ≤ (p : Int) from Int.natCast_nonneg p), if_pos (show (p : Int) < (l.length : Int) by clear ew; omega), if_pos g, ← Nat.xor_assoc]
        exact isolve_l0 h n k (p + 1) (r / 2) (o ^^^ bf l p) hr2 (by omega) (by omega) hl (by omega) (Nat.xor_lt_two_pow (n := 8) ho (bf_lt h p))
      · rw [if_neg (show ¬ ((r % 2 : Nat) : Int) = 1 by clear ew; omega), if_neg g, Nat.zero_xor]
        exact isolve_l0 h n k (p + 1) (r / 2) o hr2 (by omega) (by omega) hl (by omega) ho
theorem isolve {l : List Int} (h : okB l) (n k p r : Nat) (hr : r < 2 ^ n) (hn : n ≤ 16) (hp : p + n ≤ l.length) (hl : l.length ≤ 10000) (hk : n < k) : impl_solve.f k l p r = some ((xr (bf l) p r n : Nat) : Int) := by
  unfold impl_solve.f
  have := isolve_l0 h n k p r 0 hr hn hp hl hk (by decide)
  rw [Nat.zero_xor] at this
  exact this

/-! ## section ribbonalg -/
/-- what is kept of the equations: rows and sums by their places; one more put in: 'd' places are left -/
def upd (f : Nat → Nat) (p v : Nat) : Nat → Nat := fun q => if q = p then v else f q
def ins (B S : Nat → Nat) : Nat → Nat → Nat → Nat → Option ((Nat → Nat) × (Nat → Nat))
  | 0, _, _, s => if s = 0 then some (B, S) else none
  | d + 1, p, r, s => if r = 0 then (if s = 0 then some (B, S) else none) else if r % 2 = 0 then ins B S d (p + 1) (r / 2) s else if B p = 0 then some (upd B p r, upd S p s) else ins B S d (p + 1) ((r ^^^ B p) / 2) (s ^^^ S p)
theorem ins_zero (B S : Nat → Nat) (d p s : Nat) : ins B S d p 0 s = if s = 0 then some (B, S) else none := by
  cases d with
  | zero => rfl
  | succ d => rw [ins, if_pos rfl]
def OkE (m : Nat) (B S : Nat → Nat) : Prop := ∀ q, B q < 2 ^ 16 ∧ S q < 2 ^ 7 ∧ B q < 2 ^ (m - q) ∧ (B q = 0 → S q = 0) ∧ (B q ≠ 0 → B q % 2 = 1)
theorem xor_odd {a b : Nat} (ha : a % 2 = 1) (hb : b % 2 = 1) : (a ^^^ b) % 2 = 0 := by rw [xor_mod2, ha, hb]
theorem half_lt {r d : Nat} (h : r < 2 ^ (d + 1)) : r / 2 < 2 ^ d := by rw [Nat.pow_succ] at h; omega
theorem ins_ok {m : Nat} {B S : Nat → Nat} (h : OkE m B S) : ∀ (d p r s : Nat), r < 2 ^ 16 → r < 2 ^ d → p + d = m → s < 2 ^ 7 → ∀ B' S', ins B S d p r s = some (B', S') → OkE m B' S'
  | 0, p, r, s, _, hr, _, _, B', S', e => by
    rw [ins] at e
    split at e
    · cases e; exact h
    · cases e
  | d + 1, p, r, s, h16, hr, hp, hs, B', S', e => by
    rw [ins] at e
    by_cases h0 : r = 0
    · rw [if_pos h0] at e
      split at e
      · cases e; exact h
      · cases e
    · rw [if_neg h0] at e
      by_cases h2 : r % 2 = 0
      · rw [if_pos h2] at e
        exact ins_ok h d (p + 1) (r / 2) s (by omega) (half_lt hr) (by omega) hs B' S' e
      · rw [if_neg h2] at e
        by_cases hb : B p = 0
        · rw [if_pos hb] at e
          cases e
          intro q
          have hq := h q
          unfold upd
          by_cases c : q = p
          · subst c
            rw [if_pos rfl, if_pos rfl]
            exact ⟨h16, hs, by rw [show m - q = d + 1 by omega]; exact hr, fun x => absurd x h0, fun _ => by omega⟩
          · rw [if_neg c, if_neg c]; exact hq
        · rw [if_neg hb] at e
          have hB := h p
          have x1 : r ^^^ B p < 2 ^ 16 := Nat.xor_lt_two_pow h16 hB.1
          have x2 : r ^^^ B p < 2 ^ (d + 1) := Nat.xor_lt_two_pow hr (by have := hB.2.2.1; rwa [show m - p = d + 1 by omega] at this)
          exact ins_ok h d (p + 1) ((r ^^^ B p) / 2) (s ^^^ S p) (by omega) (half_lt x2) (by omega) (Nat.xor_lt_two_pow hs hB.2.1) B' S' e
/-- what is kept stays -/
theorem ins_keep {B S : Nat → Nat} : ∀ (d p r s : Nat) (B' S' : Nat → Nat), ins B S d p r s = some (B', S') → ∀ q, B q ≠ 0 → B' q = B q ∧ S' q = S q
  | 0, p, r, s, B', S', e, q, hq => by
    rw [ins] at e
    split at e
    · cases e; exact ⟨rfl, rfl⟩
    · cases e
  | d + 1, p, r, s, B', S', e, q, hq => by
    rw [ins] at e
    by_cases h0 : r = 0
    · rw [if_pos h0] at e
      split at e
      · cases e; exact ⟨rfl, rfl⟩
      · cases e
    · rw [if_neg h0] at e
      by_cases h2 : r % 2 = 0
      · rw [if_pos h2] at e
        exact ins_keep d (p + 1) (r / 2) s B' S' e q hq
      · rw [if_neg h2] at e
        by_cases hb : B p = 0
        · rw [if_pos hb] at e
          cases e
          have c : q ≠ p := fun c => hq (c ▸ hb)
          simp only [upd, if_neg c, and_self]
        · rw [if_neg hb] at e
          exact ins_keep d (p + 1) _ _ B' S' e q hq
/-- bytes that answer to all that is kept -/
def Fits (f B S : Nat → Nat) : Prop := ∀ q, B q ≠ 0 → xr f q (B q) 16 = S q
theorem xr_step (f : Nat → Nat) (p r : Nat) (h : r < 2 ^ 16) : xr f p r 16 = (if r % 2 = 1 then f p else 0) ^^^ xr f (p + 1) (r / 2) 16 := by
  have e := xr_more f 15 (p + 1) (r / 2) (by omega) 16 (by omega)
  rw [e]; rfl
/-- bytes that answer to all that is kept behind it answer to what was put in -/
theorem ins_fits {f B S : Nat → Nat} {m : Nat} (h : OkE m B S) : ∀ (d p r s : Nat), r < 2 ^ 16 → r < 2 ^ d → p + d = m → s < 2 ^ 7 → ∀ B' S', ins B S d p r s = some (B', S') → Fits f B' S' → xr f p r 16 = s
  | 0, p, r, s, _, hr, _, _, B', S', e, hf => by
    obtain rfl : r = 0 := by simpa using hr
    rw [ins] at e
    split at e
    · rename_i hs; rw [xr_zero, hs]
    · cases e
  | d + 1, p, r, s, h16, hr, hp, hs, B', S', e, hf => by
    rw [ins] at e
    by_cases h0 : r = 0
    · subst h0
      rw [if_pos rfl] at e
      split at e
      · rename_i hs; rw [xr_zero, hs]
      · cases e
    · rw [if_neg h0] at e
      by_cases h2 : r % 2 = 0
      · rw [if_pos h2] at e
        rw [xr_step f p r h16, if_neg (by omega), Nat.zero_xor]
        exact ins_fits h d (p + 1) (r / 2) s (by omega) (half_lt hr) (by omega) hs B' S' e hf
      · rw [if_neg h2] at e
        by_cases hb : B p = 0
        · rw [if_pos hb] at e
          cases e
          have := hf p (by simp only [upd, if_pos]; exact h0)
          simpa only [upd, if_pos] using this
        · rw [if_neg hb] at e
          have hB := h p
          have x1 : r ^^^ B p < 2 ^ 16 := Nat.xor_lt_two_pow h16 hB.1
          have x2 : r ^^^ B p < 2 ^ (d + 1) := Nat.xor_lt_two_pow hr (by have := hB.2.2.1; rwa [show m - p = d + 1 by omega] at this)
          have ev : (r ^^^ B p) % 2 = 0 := xor_odd (by omega) (hB.2.2.2.2 hb)
          have h3 := ins_fits h d (p + 1) ((r ^^^ B p) / 2) (s ^^^ S p) (by omega) (half_lt x2) (by omega) (Nat.xor_lt_two_pow hs hB.2.1) B' S' e hf
          have h4 : xr f p (r ^^^ B p) 16 = s ^^^ S p := by rw [xr_step f p _ x1, if_neg (by omega), Nat.zero_xor]; exact h3
          have h5 : xr f p (B p) 16 = S p := by
            have hk := ins_keep d (p + 1) _ _ B' S' e p hb
            have := hf p (by rw [hk.1]; exact hb)
            rw [hk.1, hk.2] at this; exact this
          rw [xr_xor, h5] at h4
          have h6 := congrArg (· ^^^ S p) h4
          simpa [Nat.xor_assoc] using h6

/-! ## section strs -/
theorem rds_drop (l : List ByteArray) (i : Nat) (h : i < l.length) : ∃ u, l.drop i = u :: l.drop (i + 1) ∧ rdOf ByteArray.empty l (i : Int) = u ∧ u ∈ l := by
  refine ⟨l[i], List.drop_eq_getElem_cons h, ?_, List.getElem_mem h⟩
  unfold rdOf
  rw [Int.toNat_natCast, List.getD_eq_getElem?_getD, List.getElem?_eq_getElem h]; rfl

/-! ## section isuser -/
def userB (s : ByteArray) : Bool := decide (1 ≤ s.size ∧ s.size ≤ 40)
theorem iuser (s : ByteArray) : impl_isUser.f s = some (userB s) := by
  unfold impl_isUser.f userB
  split
  · congr 1; rw [decide_eq_decide]; omega
  · congr 1; symm; rw [decide_eq_false_iff_not]; omega
theorem suser (s : ByteArray) : spec_l2User.f s = some (userB s) := by
  unfold spec_l2User.f userB
  split
  · congr 1; rw [decide_eq_decide]; omega
  · congr 1; symm; rw [decide_eq_false_iff_not]; omega

/-! ## section usersok -/
/-- users are right: at most 400, each of 1 to 40 bytes -/
def usersB (l : List ByteArray) : Bool := decide (l.length ≤ 400) && l.all userB
theorem iuo_l0 (l : List ByteArray) (hl : l.length ≤ 1048576) : ∀ (d k i : Nat), i ≤ l.length → l.length - i = d → d < k → impl_UsersOk.l0 k l l.length i = some ((l.drop i).all userB) := by
  intro d
  induction d with
  | zero =>
    intro k i h1 h2 hk
    obtain ⟨k, rfl⟩ : ∃ m, k = m + 1 := ⟨k - 1, by omega⟩
    rw [impl_UsersOk.l0, if_neg (by omega), List.drop_eq_nil_of_le (by omega)]; rfl
  | succ d ih =>
    intro k i h1 h2 hk
    obtain ⟨k, rfl⟩ : ∃ m, k = m + 1 := ⟨k - 1, by omega⟩
    obtain ⟨u, hd, hu, hm⟩ := rds_drop l i (by omega)
    rw [impl_UsersOk.l0, if_pos (by omega), if_pos (by omega), if_pos (by omega), hu, iuser, hd]
    simp only [Option.bind_some, List.all_cons]
    cases userB u
    · rfl
    · rw [if_pos rfl, w64s (n := l.length) (by omega) (by omega), ih k (i + 1) (by omega) (by omega) (by omega)]; rfl
theorem iuo (l : List ByteArray) (hl : l.length ≤ 1048576) (k : Nat) (hk : l.length < k) : impl_UsersOk.f k l = some (usersB l) := by
  unfold impl_UsersOk.f usersB
  by_cases c : l.length ≤ 400
  · rw [if_neg (by omega)]
    have h := iuo_l0 l hl l.length k 0 (by omega) (by omega) hk
    simpa [c] using h
  · rw [if_pos (by omega)]; simp [c]
theorem suo_l0 (l : List ByteArray) (hl : l.length ≤ 1048576) : ∀ (d k i : Nat), i ≤ l.length → l.length - i = d → d < k → spec_UsersOk.l0 k l i = some ((l.drop i).all userB) := by
  intro d
  induction d with
  | zero =>
    intro k i h1 h2 hk
    obtain ⟨k, rfl⟩ : ∃ m, k = m + 1 := ⟨k - 1, by omega⟩
    rw [spec_UsersOk.l0, if_neg (by omega), List.drop_eq_nil_of_le (by omega)]; rfl
  | succ d ih =>
    intro k i h1 h2 hk
    obtain ⟨k, rfl⟩ : ∃ m, k = m + 1 := ⟨k - 1, by omega⟩
    obtain ⟨u, hd, hu, hm⟩ := rds_drop l i (by omega)
    rw [spec_UsersOk.l0, if_pos (by omega), if_pos (by omega), hu, suser, hd]
    simp only [Option.bind_some, List.all_cons]
    cases userB u
    · rfl
    · rw [if_pos rfl, w64s (n := l.length) (by omega) (by omega), ih k (i + 1) (by omega) (by omega) (by omega)]; rfl
theorem suo (l : List ByteArray) (hl : l.length ≤ 1048576) (k : Nat) (hk : l.length < k) : spec_UsersOk.f k l = some (usersB l) := by
  unfold spec_UsersOk.f usersB
  by_cases c : l.length ≤ 400
  · rw [if_neg (by omega)]
    have h := suo_l0 l hl l.length k 0 (by omega) (by omega) hk
    simpa [c] using h
  · rw [if_pos (by omega)]; simp [c]

/-! ## section within -/
def inB (n lo hi : Int) : Bool := decide (lo ≤ n ∧ n ≤ hi)
theorem iwithin (n lo hi : Int) : impl_within.f n lo hi = some (inB n lo hi) := by
  unfold impl_within.f inB
  split
  · congr 1; rw [decide_eq_decide]; omega
  · congr 1; symm; rw [decide_eq_false_iff_not]; omega
theorem swithin (n lo hi : Int) : spec_l1In.f n lo hi = some (inB n lo hi) := by
  unfold spec_l1In.f inB
  split
  · congr 1; rw [decide_eq_decide]; omega
  · congr 1; symm; rw [decide_eq_false_iff_not]; omega

/-! ## section ribbonof -/
/-- the kept equations as the program has them -/
def RK (kept : List S58) (B S : Nat → Nat) (m : Nat) : Prop := kept.length = m ∧ ∀ q : Nat, (rd_T58 kept (q : Int)).f1 = (B q : Int) ∧ (rd_T58 kept (q : Int)).f2 = (S q : Int)
theorem rdT_set (l : List S58) (p q : Nat) (v : S58) (hp : p < l.length) : rd_T58 (l.set p v) (q : Int) = if p = q then v else rd_T58 l (q : Int) := by
  unfold rd_T58
  rw [Int.toNat_natCast, List.getD_eq_getElem?_getD, List.getD_eq_getElem?_getD, List.getElem?_set]
  split
  · rename_i e; subst e; simp [hp]
  · rfl
theorem RK_set {kept : List S58} {B S : Nat → Nat} {m : Nat} (h : RK kept B S m) (p r s : Nat) (hp : p < m) : RK (kept.set p (⟨(p : Int), (r : Int), (s : Int)⟩ : S58)) (upd B p r) (upd S p s) m := by
  refine ⟨by rw [List.length_set]; exact h.1, fun q => ?_⟩
  rw [rdT_set _ _ _ _ (by rw [h.1]; exact hp)]
  unfold upd
  by_cases c : p = q
  · subst c; simp
  · rw [if_neg c, if_neg (fun e => c e.symm), if_neg (fun e => c e.symm)]; exact h.2 q
theorem RK_start (m : Nat) : RK (List.replicate m z58) (fun _ => 0) (fun _ => 0) m := by
  refine ⟨List.length_replicate, fun q => ?_⟩
  have e : rd_T58 (List.replicate m z58) (q : Int) = z58 := by
    unfold rd_T58
    rw [Int.toNat_natCast, List.getD_eq_getElem?_getD, List.getElem?_replicate]
    split <;> rfl
  rw [e]
  exact ⟨rfl, rfl⟩
theorem and1 {r : Nat} (h : r < 2 ^ 16) : Go.bits .and .u64 (r : Int) 1 = ((r % 2 : Nat) : Int) := by
  rw [show Go.bits .and .u64 (r : Int) 1 = ((r &&& 1 : Nat) : Int) from b_and .u64 rfl r 1 (by show r < 18446744073709551616; omega) (by decide), Nat.and_one_is_mod]
theorem iins_zero (x1 : Int) (us : List ByteArray) (i : Int) (m : Nat) (kept : List S58) (p : Int) (s k : Nat) : impl_RibbonOf.l1 (k + 1) x1 m kept us us.length i p 0 s = if s = 0 then impl_RibbonOf.l0 k x1 m kept us us.length (wrap64 (i + 1)) else some (0, 0, 0, (⟨#[]⟩ : ByteArray), false) := by
  rw [impl_RibbonOf.l1, if_pos rfl]
  by_cases h : s = 0
  · subst h; rw [if_pos (show ((0 : Nat) : Int) = 0 from rfl), if_pos rfl]
  · rw [if_neg (by omega), if_neg h]
theorem iins (x1 : Int) (us : List ByteArray) (i : Int) (m : Nat) (hm : m ≤ 10000) : ∀ (d k : Nat) (kept : List S58) (B S : Nat → Nat) (p r s : Nat), RK kept B S m → OkE m B S → r < 2 ^ 16 → r < 2 ^ d → p + d = m → s < 2 ^ 7 → 3 * d + 3 ≤ k →
    (ins B S d p r s = none → impl_RibbonOf.l1 k x1 m kept us us.length i p r s = some (0, 0, 0, (⟨#[]⟩ : ByteArray), false)) ∧
    (∀ B' S', ins B S d p r s = some (B', S') → ∃ k' kept', k ≤ k' + (3 * d + 3) ∧ RK kept' B' S' m ∧ impl_RibbonOf.l1 k x1 m kept us us.length i p r s = impl_RibbonOf.l0 k' x1 m kept' us us.length (wrap64 (i + 1))) := by
  have zero : ∀ (d k : Nat) (kept : List S58) (B S : Nat → Nat) (p : Int) (q s : Nat), RK kept B S m → 1 ≤ k →
      (ins B S d q 0 s = none → impl_RibbonOf.l1 k x1 m kept us us.length i p 0 s = some (0, 0, 0, (⟨#[]⟩ : ByteArray), false)) ∧
      (∀ B' S', ins B S d q 0 s = some (B', S') → ∃ k' kept', k ≤ k' + 1 ∧ RK kept' B' S' m ∧ impl_RibbonOf.l1 k x1 m kept us us.length i p 0 s = impl_RibbonOf.l0 k' x1 m kept' us us.length (wrap64 (i + 1))) := by
    intro d k kept B S p q s hK hk
    obtain ⟨k, rfl⟩ : ∃ j, k = j + 1 := ⟨k - 1, by omega⟩
    rw [ins_zero, iins_zero]
    by_cases h : s = 0
    · rw [if_pos h, if_pos h]
      refine ⟨fun e => (by cases e), fun B' S' e => ?_⟩
      cases e
      exact ⟨k, kept, Nat.le_refl _, hK, rfl⟩
    · rw [if_neg h, if_neg h]
      exact ⟨fun _ => rfl, fun B' S' e => by cases e⟩
  intro d
  induction d with
  | zero =>
    intro k kept B S p r s hK hO h16 hr hp hs hk
    obtain rfl : r = 0 := by simpa using hr
    have h := zero 0 k kept B S p p s hK (by omega)
    refine ⟨h.1, fun B' S' e => ?_⟩
    obtain ⟨k', kept', h1, h2, h3⟩ := h.2 B' S' e
    exact ⟨k', kept', by omega, h2, h3⟩
  | succ d ih =>
    intro k kept B S p r s hK hO h16 hr hp hs hk
    by_cases h0 : r = 0
    · subst h0
      have h := zero (d + 1) k kept B S p p s hK (by omega)
      refine ⟨h.1, fun B' S' e => ?_⟩
      obtain ⟨k', kept', h1, h2, h3⟩ := h.2 B' S' e
      exact ⟨k', kept', by omega, h2, h3⟩
    · obtain ⟨k, rfl⟩ : ∃ j, k = j + 3 := ⟨k - 3, by omega⟩
      have step : impl_RibbonOf.l1 (k + 3) x1 m kept us us.length i p r s = impl_RibbonOf.l2 (k + 2) x1 m kept us us.length i p r s := by
        rw [impl_RibbonOf.l1, if_neg (show ¬ ((r : Int) = 0) by omega)]
      have ew : wrap64 ((p : Int) + 1) = ((p + 1 : Nat) : Int) := w64s (n := m) (by omega) (by omega)
      have even : ∀ (n y t : Nat), y ≠ 0 → y < 2 ^ 16 → y % 2 = 0 → impl_RibbonOf.l2 (n + 1) x1 m kept us us.length i p y t = impl_RibbonOf.l1 (n + 1) x1 m kept us us.length i ((p + 1 : Nat) : Int) ((y / 2 : Nat) : Int) t := by
        intro n y t y0 y16 ye
        have ed : (y : Int) / 2 = ((y / 2 : Nat) : Int) := by omega
        rw [impl_RibbonOf.l2, and1 y16, if_pos (show ((y % 2 : Nat) : Int) = 0 by rw [ye]; rfl), ew, ed, impl_RibbonOf.l1, if_neg (show ¬ (((y / 2 : Nat) : Int) = 0) by clear ew; omega)]
      by_cases h2 : r % 2 = 0
      · have e1 : ins B S (d + 1) p r s = ins B S d (p + 1) (r / 2) s := by rw [ins, if_neg h0, if_pos h2]
        rw [e1, step, even (k + 1) r s h0 h16 h2]
        have h := ih (k + 2) kept B S (p + 1) (r / 2) s hK hO (by clear ew; omega) (half_lt hr) (by clear ew; omega) hs (by clear ew; omega)
        refine ⟨h.1, fun B' S' e => ?_⟩
        obtain ⟨k', kept', g1, g2, g3⟩ := h.2 B' S' e
        exact ⟨k', kept', by clear ew; omega, g2, g3⟩
      · have bp := hK.2 p
        have open_ : impl_RibbonOf.l2 (k + 2) x1 m kept us us.length i p r s = if B p = 0 then impl_RibbonOf.l0 (k + 1) x1 m (kept.set p (⟨(p : Int), (r : Int), (s : Int)⟩ : S58)) us us.length (wrap64 (i + 1)) else impl_RibbonOf.l1 (k + 1) x1 m kept us us.length i p ((r ^^^ B p : Nat) : Int) ((s ^^^ S p : Nat) : Int) := by
          have hB := hO p
          have x1' : Go.bits .xor .u64 (r : Int) (B p : Int) = ((r ^^^ B p : Nat) : Int) := b_xor .u64 rfl r (B p) (by show r < 18446744073709551616; clear ew; omega) (by show B p < 18446744073709551616; have := hB.1; clear ew; omega)
          have x2' : Go.bits .xor .u8 (s : Int) (S p : Int) = ((s ^^^ S p : Nat) : Int) := b_xor .u8 rfl s (S p) (by show s < 256; clear ew; omega) (by show S p < 256; have := hB.2.1; clear ew; omega)
          rw [impl_RibbonOf.l2, and1 h16, if_neg (show ¬ (((r % 2 : Nat) : Int) = 0) by clear ew x1' x2'; omega), if_pos (show (0 : Int) ≤ (p : Int) from Int.natCast_nonneg p), hK.1, if_pos (show (p : Int) < (m : Int) by clear ew x1' x2'; omega), bp.1, bp.2, Int.toNat_natCast]
          by_cases hb : B p = 0
          · rw [if_pos (show ((B p : Nat) : Int) = 0 by rw [hb]; rfl), if_pos hb]
            simp only [Option.bind_some]
            rw [if_neg (show ¬ ((r : Int) = 0) by clear ew x1' x2'; omega)]
          · rw [if_neg (show ¬ (((B p : Nat) : Int) = 0) by clear ew x1' x2'; omega), if_neg hb, x1', x2']
        rw [step, open_]
        by_cases hb : B p = 0
        · have e1 : ins B S (d + 1) p r s = some (upd B p r, upd S p s) := by rw [ins, if_neg h0, if_neg h2, if_pos hb]
          rw [e1, if_pos hb]
          refine ⟨fun e => (by cases e), fun B' S' e => ?_⟩
          cases e
          exact ⟨k + 1, _, by clear ew; omega, RK_set hK p r s (by clear ew; omega), rfl⟩
        · have hB := hO p
          have y16 : r ^^^ B p < 2 ^ 16 := Nat.xor_lt_two_pow h16 hB.1
          have yd : r ^^^ B p < 2 ^ (d + 1) := Nat.xor_lt_two_pow hr (by have := hB.2.2.1; rwa [show m - p = d + 1 by clear ew; omega] at this)
          have ye : (r ^^^ B p) % 2 = 0 := xor_odd (by clear ew; omega) (hB.2.2.2.2 hb)
          have st : s ^^^ S p < 2 ^ 7 := Nat.xor_lt_two_pow hs hB.2.1
          have e1 : ins B S (d + 1) p r s = ins B S d (p + 1) ((r ^^^ B p) / 2) (s ^^^ S p) := by rw [ins, if_neg h0, if_neg h2, if_neg hb]
          rw [e1, if_neg hb]
          generalize r ^^^ B p = y at *
          generalize s ^^^ S p = t at *
          by_cases y0 : y = 0
          · subst y0
            have h := zero d (k + 1) kept B S p (p + 1) t hK (by clear ew; omega)
            refine ⟨h.1, fun B' S' e => ?_⟩
            obtain ⟨k', kept', g1, g2, g3⟩ := h.2 B' S' e
            exact ⟨k', kept', by clear ew; omega, g2, g3⟩
          · obtain ⟨k, rfl⟩ : ∃ j, k = j + 1 := ⟨k - 1, by clear ew; omega⟩
            rw [show impl_RibbonOf.l1 (k + 1 + 1) x1 m kept us us.length i p (y : Int) (t : Int) = impl_RibbonOf.l2 (k + 1) x1 m kept us us.length i p (y : Int) (t : Int) by rw [impl_RibbonOf.l1, if_neg (show ¬ ((y : Int) = 0) by clear ew; omega)], even k y t y0 y16 ye]
            have h := ih (k + 1) kept B S (p + 1) (y / 2) t hK hO (by clear ew; omega) (half_lt yd) (by clear ew; omega) st (by clear ew; omega)
            refine ⟨h.1, fun B' S' e => ?_⟩
            obtain ⟨k', kept', g1, g2, g3⟩ := h.2 B' S' e
            exact ⟨k', kept', by clear ew; omega, g2, g3⟩

/-! ## section ribbonback -/
theorem andNot1 {x : Nat} (h : x < 2 ^ 16) (ho : x % 2 = 1) : Go.bits .andNot .u64 (x : Int) 1 = ((x - 1 : Nat) : Int) := by
  have e : Go.bits .andNot .u64 (x : Int) 1 = IntKind.u64.wrap (((BitVec.ofNat 64 x &&& ~~~ (1#64)).toNat : Nat) : Int) := rfl
  have hv : (BitVec.ofNat 64 x &&& ~~~ (1#64)).toNat = x - 1 := by
    apply Nat.eq_of_testBit_eq
    intro i
    rw [BitVec.testBit_toNat, BitVec.getLsbD_and, BitVec.getLsbD_not, BitVec.getLsbD_ofNat]
    have hx : x - 1 = 2 * (x / 2) := by omega
    rw [hx]
    cases i with
    | zero => simp [Nat.testBit_zero]
    | succ i =>
      rw [Nat.testBit_succ, Nat.testBit_succ, show 2 * (x / 2) / 2 = x / 2 by omega]
      have h1 : (1#64).getLsbD (i + 1) = false := by simp [BitVec.getLsbD_one]
      rw [h1]
      by_cases hi : i + 1 < 64
      · simp [hi]
      · have : (x / 2).testBit i = false := Nat.testBit_lt_two_pow (Nat.lt_of_lt_of_le (show x / 2 < 2 ^ 16 by omega) (Nat.pow_le_pow_right (by decide) (by omega)))
        simp [hi, this]
  rw [e, hv]
  exact wrapU .u64 rfl _ (by show x - 1 < 18446744073709551616; omega)
/-- the bytes, from behind: d places are left -/
def bk (B S : Nat → Nat) : Nat → List Int → List Int
  | 0, l => l
  | d + 1, l => bk B S d (l.set d ((S d ^^^ xr (bf l) d (B d - 1) 16 : Nat) : Int))
theorem okB_set {l : List Int} (h : okB l) (i v : Nat) (hv : v < 256) : okB (l.set i (v : Int)) := by
  intro x hx
  rcases List.mem_or_eq_of_mem_set hx with hx | hx
  · exact h x hx
  · subst hx; omega
theorem bf_set (l : List Int) (i v q : Nat) (hi : i < l.length) : bf (l.set i (v : Int)) q = if i = q then v else bf l q := by
  unfold bf rd
  rw [Int.toNat_natCast, List.getD_eq_getElem?_getD, List.getD_eq_getElem?_getD, List.getElem?_set]
  split
  · rename_i e; subst e; simp [hi]
  · rfl
theorem set_same {l : List Int} (i : Nat) (h : rd l (i : Int) = 0) (hi : i < l.length) : l.set i 0 = l := by
  apply List.ext_getElem?
  intro j
  by_cases c : i = j
  · subst c
    rw [List.getElem?_set_self hi, List.getElem?_eq_getElem hi]
    unfold rd at h
    rw [Int.toNat_natCast, List.getD_eq_getElem?_getD, List.getElem?_eq_getElem hi] at h
    simp only [Option.getD_some] at h
    rw [h]
  · rw [List.getElem?_set_ne c]
theorem bk_length (B S : Nat → Nat) : ∀ (d : Nat) (l : List Int), (bk B S d l).length = l.length
  | 0, _ => rfl
  | d + 1, l => by rw [bk, bk_length B S d, List.length_set]
theorem bkv_lt {m : Nat} {B S : Nat → Nat} (hO : OkE m B S) {l : List Int} (hl : okB l) (d : Nat) : S d ^^^ xr (bf l) d (B d - 1) 16 < 256 :=
  Nat.xor_lt_two_pow (n := 8) (Nat.lt_trans (hO d).2.1 (by decide)) (xr_lt (bf l) 8 (fun i => bf_lt hl i) 16 d _)
theorem bk_ok {m : Nat} {B S : Nat → Nat} (hO : OkE m B S) : ∀ (d : Nat) (l : List Int), okB l → okB (bk B S d l)
  | 0, _, h => h
  | d + 1, l, h => by rw [bk]; exact bk_ok hO d _ (okB_set h d _ (bkv_lt hO h d))
theorem bk_high (B S : Nat → Nat) : ∀ (d : Nat) (l : List Int), d ≤ l.length → ∀ q, d ≤ q → bf (bk B S d l) q = bf l q
  | 0, _, _, _, _ => rfl
  | d + 1, l, hl, q, hq => by
    rw [bk, bk_high B S d _ (by rw [List.length_set]; omega) q (by omega), bf_set _ _ _ _ (by omega), if_neg (by omega)]
theorem bk_fits {m : Nat} {B S : Nat → Nat} (hO : OkE m B S) : ∀ (d : Nat) (l : List Int), okB l → l.length = m → d ≤ m → (∀ q, d ≤ q → B q ≠ 0 → xr (bf l) q (B q) 16 = S q) → Fits (bf (bk B S d l)) B S
  | 0, l, _, _, _, h => fun q hq => h q (Nat.zero_le _) hq
  | d + 1, l, hl, hm, hd, h => by
    rw [bk]
    have hv := bkv_lt hO hl d
    refine bk_fits hO d _ (okB_set hl d _ hv) (by rw [List.length_set]; exact hm) (by omega) ?_
    intro q hq hb
    generalize hx : S d ^^^ xr (bf l) d (B d - 1) 16 = v at hv
    have hs : ∀ i, d < i → bf (l.set d (v : Int)) i = bf l i := fun i hi => by rw [bf_set _ _ _ _ (by omega), if_neg (by omega)]
    by_cases c : q = d
    · subst c
      have ho := (hO q).2.2.2.2 hb
      rw [xr_step _ _ _ (hO q).1, if_pos ho, bf_set _ _ _ _ (by omega), if_pos rfl, xr_same _ (bf l) 16 (q + 1) _ (fun i hi => hs i (by omega))]
      have e : xr (bf l) q (B q - 1) 16 = xr (bf l) (q + 1) (B q / 2) 16 := by
        rw [xr_step _ _ _ (by have := (hO q).1; omega), if_neg (by omega), Nat.zero_xor, show (B q - 1) / 2 = B q / 2 by omega]
      rw [e] at hx
      rw [← hx, Nat.xor_assoc, Nat.xor_self, Nat.xor_zero]
    · rw [xr_same _ (bf l) 16 q _ (fun i hi => hs i (by omega))]
      exact h q (by omega) hb
theorem w64m {d : Nat} (h : d ≤ 10000) : wrap64 ((d : Int) - 1) = (d : Int) - 1 := w64 (by omega) (by omega)
theorem iback (x1 : Int) {m : Nat} (hm : m ≤ 10000) {kept : List S58} {B S : Nat → Nat} (hK : RK kept B S m) (hO : OkE m B S) : ∀ (d k : Nat) (l : List Int), d ≤ m → okB l → l.length = m → (∀ q : Nat, q < d → rd l (q : Int) = 0) → d + 30 < k → impl_RibbonOf.l3 k x1 kept l ((d : Int) - 1) = some (2, x1, 0, strOfNums (bk B S d l), true) := by
  intro d
  induction d with
  | zero =>
    intro k l _ _ _ _ hk
    obtain ⟨k, rfl⟩ : ∃ j, k = j + 1 := ⟨k - 1, by omega⟩
    rw [impl_RibbonOf.l3, if_neg (by omega)]; rfl
  | succ d ih =>
    intro k l hd hl hm2 hz hk
    obtain ⟨k, rfl⟩ : ∃ j, k = j + 1 := ⟨k - 1, by omega⟩
    have bp := hK.2 d
    have hv := bkv_lt hO hl d
    have nx := ih k (l.set d ((S d ^^^ xr (bf l) d (B d - 1) 16 : Nat) : Int)) (by omega) (okB_set hl d _ hv) (by rw [List.length_set]; exact hm2) (fun q hq => by
      have := bf_set l d (S d ^^^ xr (bf l) d (B d - 1) 16) q (by omega)
      rw [if_neg (by omega)] at this
      have h1 := hz q (by omega)
      rw [bf_val hl] at h1
      rw [bf_val (okB_set hl d _ hv), this, h1]) (by omega)
    rw [show ((d + 1 : Nat) : Int) - 1 = (d : Int) by omega, impl_RibbonOf.l3, if_pos (show (d : Int) ≥ 0 from Int.natCast_nonneg d), if_pos (show (0 : Int) ≤ (d : Int) from Int.natCast_nonneg d), hK.1, if_pos (show (d : Int) < (m : Int) by omega), bp.1, bp.2, bk, w64m (by omega)]
    by_cases hb : B d = 0
    · rw [if_pos (show ((B d : Nat) : Int) = 0 by rw [hb]; rfl)]
      have hs := (hO d).2.2.2.1 hb
      rw [hb, hs, show (0 - 1 : Nat) = 0 from rfl, xr_zero, Nat.xor_zero, show ((0 : Nat) : Int) = 0 from rfl, set_same d (hz d (by omega)) (by omega)] at nx ⊢
      exact nx
    · have ho := (hO d).2.2.2.2 hb
      have h16 := (hO d).1
      have h3 := (hO d).2.2.1
      rw [if_neg (show ¬ (((B d : Nat) : Int) = 0) by omega), andNot1 h16 ho]
      have hn : B d - 1 < 2 ^ (min 16 (m - d)) := by
        rcases Nat.le_total 16 (m - d) with g | g
        · rw [Nat.min_eq_left g]; omega
        · rw [Nat.min_eq_right g]; omega
      rw [isolve hl (min 16 (m - d)) k d (B d - 1) hn (Nat.min_le_left _ _) (by have := Nat.min_le_right 16 (m - d); omega) (by omega) (by have := Nat.min_le_left 16 (m - d); omega), ← xr_more (bf l) (min 16 (m - d)) d (B d - 1) hn 16 (Nat.min_le_left _ _)]
      simp only [Option.bind_some]
      have hx := xr_lt (bf l) 8 (fun i => bf_lt hl i) 16 d (B d - 1)
      rw [hm2, if_pos (show (d : Int) < (m : Int) by omega), Int.toNat_natCast]
      have h7 := (hO d).2.1
      rw [show Go.bits .xor .u8 ((S d : Nat) : Int) ((xr (bf l) d (B d - 1) 16 : Nat) : Int) = ((S d ^^^ xr (bf l) d (B d - 1) 16 : Nat) : Int) from b_xor .u8 rfl _ _ (by show S d < 256; omega) (by show xr (bf l) d (B d - 1) 16 < 256; omega)]
      exact nx

/-! ## section ribbonofspec -/
def RL (l : List Int) (f : Nat → Nat) (m : Nat) : Prop := l.length = m ∧ ∀ q : Nat, rd l (q : Int) = (f q : Int)
theorem RL_set {l : List Int} {f : Nat → Nat} {m : Nat} (h : RL l f m) (p v : Nat) (hp : p < m) : RL (l.set p (v : Int)) (upd f p v) m := by
  refine ⟨by rw [List.length_set]; exact h.1, fun q => ?_⟩
  have e : rd (l.set p (v : Int)) (q : Int) = if p = q then (v : Int) else rd l (q : Int) := by
    unfold rd
    rw [Int.toNat_natCast, List.getD_eq_getElem?_getD, List.getD_eq_getElem?_getD, List.getElem?_set]
    split
    · rename_i e; subst e; simp [show p < l.length by rw [h.1]; exact hp]
    · rfl
  rw [e]
  unfold upd
  by_cases c : p = q
  · subst c; simp
  · rw [if_neg c, if_neg (fun e => c e.symm)]; exact h.2 q
theorem RL_start (m : Nat) : RL (List.replicate m 0) (fun _ => 0) m := by
  refine ⟨List.length_replicate, fun q => ?_⟩
  unfold rd
  rw [Int.toNat_natCast, List.getD_eq_getElem?_getD, List.getElem?_replicate]
  split <;> rfl
theorem Ok_start (m : Nat) : OkE m (fun _ => 0) (fun _ => 0) := fun q => ⟨Nat.two_pow_pos _, Nat.two_pow_pos _, Nat.two_pow_pos _, fun _ => rfl, fun h => absurd rfl h⟩
theorem td2 (r : Nat) : IntKind.u64.wrap (Int.tdiv (r : Int) 2) = ((r / 2 % 18446744073709551616 : Nat) : Int) := by
  rw [Int.tdiv_eq_ediv_of_nonneg (by omega), u64w]; omega
theorem td2s {r : Nat} (h : r < 2 ^ 16) : IntKind.u64.wrap (Int.tdiv (r : Int) 2) = ((r / 2 : Nat) : Int) := by
  rw [td2, Nat.mod_eq_of_lt (by omega)]
theorem sins_zero (x1 : Int) (us : List ByteArray) (i : Int) (m : Nat) (band sums : List Int) (p : Int) (s k : Nat) : spec_RibbonOf.l1 (k + 1) us x1 m band sums i p 0 s = if s = 0 then spec_RibbonOf.l0 k us x1 m band sums (wrap64 (i + 1)) else some (0, 0, 0, (⟨#[]⟩ : ByteArray), false) := by
  rw [spec_RibbonOf.l1, if_neg (by decide)]
  by_cases h : s = 0
  · subst h; rw [if_pos (show ((0 : Nat) : Int) = 0 from rfl), if_pos rfl]
  · rw [if_neg (by omega), if_neg h]
theorem sins (x1 : Int) (us : List ByteArray) (i : Int) (m : Nat) (hm : m ≤ 10000) : ∀ (d k : Nat) (band sums : List Int) (B S : Nat → Nat) (p r s : Nat), RL band B m → RL sums S m → OkE m B S → r < 2 ^ 16 → r < 2 ^ d → p + d = m → s < 2 ^ 7 → 3 * d + 3 ≤ k →
    (ins B S d p r s = none → spec_RibbonOf.l1 k us x1 m band sums i p r s = some (0, 0, 0, (⟨#[]⟩ : ByteArray), false)) ∧
    (∀ B' S', ins B S d p r s = some (B', S') → ∃ k' band' sums', k ≤ k' + (3 * d + 3) ∧ RL band' B' m ∧ RL sums' S' m ∧ spec_RibbonOf.l1 k us x1 m band sums i p r s = spec_RibbonOf.l0 k' us x1 m band' sums' (wrap64 (i + 1))) := by
  have zero : ∀ (d k : Nat) (band sums : List Int) (B S : Nat → Nat) (p : Int) (q s : Nat), RL band B m → RL sums S m → 1 ≤ k →
      (ins B S d q 0 s = none → spec_RibbonOf.l1 k us x1 m band sums i p 0 s = some (0, 0, 0, (⟨#[]⟩ : ByteArray), false)) ∧
      (∀ B' S', ins B S d q 0 s = some (B', S') → ∃ k' band' sums', k ≤ k' + 1 ∧ RL band' B' m ∧ RL sums' S' m ∧ spec_RibbonOf.l1 k us x1 m band sums i p 0 s = spec_RibbonOf.l0 k' us x1 m band' sums' (wrap64 (i + 1))) := by
    intro d k band sums B S p q s hK hL hk
    obtain ⟨k, rfl⟩ : ∃ j, k = j + 1 := ⟨k - 1, by omega⟩
    rw [ins_zero, sins_zero]
    by_cases h : s = 0
    · rw [if_pos h, if_pos h]
      refine ⟨fun e => (by cases e), fun B' S' e => ?_⟩
      cases e
      exact ⟨k, band, sums, Nat.le_refl _, hK, hL, rfl⟩
    · rw [if_neg h, if_neg h]
      exact ⟨fun _ => rfl, fun B' S' e => by cases e⟩
  intro d
  induction d with
  | zero =>
    intro k band sums B S p r s hK hL hO h16 hr hp hs hk
    obtain rfl : r = 0 := by simpa using hr
    have h := zero 0 k band sums B S p p s hK hL (by omega)
    refine ⟨h.1, fun B' S' e => ?_⟩
    obtain ⟨k', b', s', h1, h2, h3, h4⟩ := h.2 B' S' e
    exact ⟨k', b', s', by omega, h2, h3, h4⟩
  | succ d ih =>
    intro k band sums B S p r s hK hL hO h16 hr hp hs hk
    by_cases h0 : r = 0
    · subst h0
      have h := zero (d + 1) k band sums B S p p s hK hL (by omega)
      refine ⟨h.1, fun B' S' e => ?_⟩
      obtain ⟨k', b', s', h1, h2, h3, h4⟩ := h.2 B' S' e
      exact ⟨k', b', s', by omega, h2, h3, h4⟩
    · obtain ⟨k, rfl⟩ : ∃ j, k = j + 3 := ⟨k - 3, by omega⟩
      have ew : wrap64 ((p : Int) + 1) = ((p + 1 : Nat) : Int) := w64s (n := m) (by omega) (by omega)
      have even : ∀ (n y t : Nat), y ≠ 0 → y < 2 ^ 16 → y % 2 = 0 → spec_RibbonOf.l1 (n + 1) us x1 m band sums i p y t = spec_RibbonOf.l1 n us x1 m band sums i ((p + 1 : Nat) : Int) ((y / 2 : Nat) : Int) t := by
        intro n y t y0 y16 ye
        rw [spec_RibbonOf.l1, if_pos (show (y : Int) > 0 by clear ew; omega), show Int.tmod (y : Int) 2 = ((y % 2 : Nat) : Int) from tmodN y 2, if_pos (show ((y % 2 : Nat) : Int) = 0 by rw [ye]; rfl), ew, td2s y16]
      by_cases h2 : r % 2 = 0
      · have e1 : ins B S (d + 1) p r s = ins B S d (p + 1) (r / 2) s := by rw [ins, if_neg h0, if_pos h2]
        rw [e1, even (k + 2) r s h0 h16 h2]
        have h := ih (k + 2) band sums B S (p + 1) (r / 2) s hK hL hO (by clear ew; omega) (half_lt hr) (by clear ew; omega) hs (by clear ew; omega)
        refine ⟨h.1, fun B' S' e => ?_⟩
        obtain ⟨k', b', s', g1, g2, g3, g4⟩ := h.2 B' S' e
        exact ⟨k', b', s', by clear ew; omega, g2, g3, g4⟩
      · have bp := hK.2 p
        have sp := hL.2 p
        have open_ : spec_RibbonOf.l1 (k + 3) us x1 m band sums i p r s = if B p = 0 then spec_RibbonOf.l1 (k + 2) us x1 m (band.set p (r : Int)) (sums.set p (s : Int)) i p 0 ((0 : Nat) : Int) else spec_RibbonOf.l1 (k + 2) us x1 m band sums i p ((r ^^^ B p : Nat) : Int) ((s ^^^ S p : Nat) : Int) := by
          have hB := hO p
          have x1' : Go.bits .xor .u64 (r : Int) (B p : Int) = ((r ^^^ B p : Nat) : Int) := b_xor .u64 rfl r (B p) (by show r < 18446744073709551616; clear ew; omega) (by show B p < 18446744073709551616; have := hB.1; clear ew; omega)
          have x2' : Go.bits .xor .u64 (s : Int) (S p : Int) = ((s ^^^ S p : Nat) : Int) := b_xor .u64 rfl s (S p) (by show s < 18446744073709551616; clear ew x1'; omega) (by show S p < 18446744073709551616; have := hB.2.1; clear ew x1'; omega)
          rw [spec_RibbonOf.l1, if_pos (show (r : Int) > 0 by clear ew x1' x2'; omega), show Int.tmod (r : Int) 2 = ((r % 2 : Nat) : Int) from tmodN r 2, if_neg (show ¬ (((r % 2 : Nat) : Int) = 0) by clear ew x1' x2'; omega), if_pos (show (0 : Int) ≤ (p : Int) from Int.natCast_nonneg p), hK.1, if_pos (show (p : Int) < (m : Int) by clear ew x1' x2'; omega), bp, hL.1, if_pos (show (p : Int) < (m : Int) by clear ew x1' x2'; omega), if_pos (show (p : Int) < (m : Int) by clear ew x1' x2'; omega), sp, Int.toNat_natCast]
          by_cases hb : B p = 0
          · rw [if_pos (show ((B p : Nat) : Int) = 0 by rw [hb]; rfl), if_pos hb]; rfl
          · rw [if_neg (show ¬ (((B p : Nat) : Int) = 0) by clear ew x1' x2'; omega), if_neg hb, x1', x2']
        rw [open_]
        by_cases hb : B p = 0
        · have e1 : ins B S (d + 1) p r s = some (upd B p r, upd S p s) := by rw [ins, if_neg h0, if_neg h2, if_pos hb]
          rw [e1, if_pos hb, sins_zero, if_pos rfl]
          refine ⟨fun e => (by cases e), fun B' S' e => ?_⟩
          cases e
          exact ⟨k + 1, _, _, by clear ew; omega, RL_set hK p r (by clear ew; omega), RL_set hL p s (by clear ew; omega), rfl⟩
        · have hB := hO p
          have y16 : r ^^^ B p < 2 ^ 16 := Nat.xor_lt_two_pow h16 hB.1
          have yd : r ^^^ B p < 2 ^ (d + 1) := Nat.xor_lt_two_pow hr (by have := hB.2.2.1; rwa [show m - p = d + 1 by clear ew; omega] at this)
          have ye : (r ^^^ B p) % 2 = 0 := xor_odd (by clear ew; omega) (hB.2.2.2.2 hb)
          have st : s ^^^ S p < 2 ^ 7 := Nat.xor_lt_two_pow hs hB.2.1
          have e1 : ins B S (d + 1) p r s = ins B S d (p + 1) ((r ^^^ B p) / 2) (s ^^^ S p) := by rw [ins, if_neg h0, if_neg h2, if_neg hb]
          rw [e1, if_neg hb]
          generalize r ^^^ B p = y at *
          generalize s ^^^ S p = t at *
          by_cases y0 : y = 0
          · subst y0
            have h := zero d (k + 2) band sums B S p (p + 1) t hK hL (by clear ew; omega)
            refine ⟨h.1, fun B' S' e => ?_⟩
            obtain ⟨k', b', s', g1, g2, g3, g4⟩ := h.2 B' S' e
            exact ⟨k', b', s', by clear ew; omega, g2, g3, g4⟩
          · rw [even (k + 1) y t y0 y16 ye]
            have h := ih (k + 1) band sums B S (p + 1) (y / 2) t hK hL hO (by clear ew; omega) (half_lt yd) (by clear ew; omega) st (by clear ew; omega)
            refine ⟨h.1, fun B' S' e => ?_⟩
            obtain ⟨k', b', s', g1, g2, g3, g4⟩ := h.2 B' S' e
            exact ⟨k', b', s', by clear ew; omega, g2, g3, g4⟩
theorem sback3 (x1 : Int) {m : Nat} (hm : m ≤ 10000) {band sums : List Int} {B S : Nat → Nat} (hK : RL band B m) (hO : OkE m B S) (d : Nat) (hd : d < m) (l : List Int) (hl : okB l) (hm2 : l.length = m) : ∀ (e k i o : Nat), i + e = 16 → o < 256 → e < k → spec_RibbonOf.l3 k x1 band sums l d o i = spec_RibbonOf.l2 (k - (e + 1)) x1 band sums (l.set d ((o ^^^ xr (bf l) (d + i) (B d / 2 ^ i) e : Nat) : Int)) ((d : Int) - 1) := by
  intro e
  induction e with
  | zero =>
    intro k i o g1 ho hk
    obtain ⟨k, rfl⟩ : ∃ j, k = j + 1 := ⟨k - 1, by omega⟩
    rw [spec_RibbonOf.l3, if_neg (by omega), if_pos (show (0 : Int) ≤ (d : Int) from Int.natCast_nonneg d), hm2, if_pos (show (d : Int) < (m : Int) by omega), Int.toNat_natCast, w64m (by omega), xr, Nat.xor_zero, show k + 1 - (0 + 1) = k by omega, show (o : Int) % 256 = (o : Int) by omega]
  | succ e ih =>
    intro k i o g1 ho hk
    obtain ⟨k, rfl⟩ : ∃ j, k = j + 1 := ⟨k - 1, by omega⟩
    have h16 := (hO d).1
    have h3 := (hO d).2.2.1
    have hb := bf_lt hl (d + i)
    have nx : B d / 2 ^ i / 2 = B d / 2 ^ (i + 1) := by rw [Nat.div_div_eq_div_mul, Nat.pow_succ]
    have ei : IntKind.u64.wrap (i : Int) = (i : Int) := wrapU .u64 rfl _ (by show i < 18446744073709551616; omega)
    have ep : wrap64 ((d : Int) + (i : Int)) = ((d + i : Nat) : Int) := by rw [w64 (by omega) (by omega)]; push_cast; rfl
    have e1 : wrap64 ((i : Int) + 1) = ((i + 1 : Nat) : Int) := w64s (n := 16) (by omega) (by omega)
    have et : Int.tmod ((B d / 2 ^ i : Nat) : Int) 2 = ((B d / 2 ^ i % 2 : Nat) : Int) := tmodN _ 2
    have ex : Go.bits .xor .u64 (o : Int) (IntKind.u64.wrap (rd l ((d + i : Nat) : Int))) = ((o ^^^ bf l (d + i) : Nat) : Int) := by
      rw [bf_val hl, wrapU .u64 rfl _ (by show bf l (d + i) < 18446744073709551616; omega)]
      exact b_xor .u64 rfl _ _ (by show o < 18446744073709551616; omega) (by show bf l (d + i) < 18446744073709551616; omega)
    rw [spec_RibbonOf.l3, if_pos (show (i : Int) < 16 by clear ei ep e1 et ex; omega), if_pos (show (0 : Int) ≤ (d : Int) from Int.natCast_nonneg d), hK.1, if_pos (show (d : Int) < (m : Int) by clear ei ep e1 et ex; omega), ei, if_pos (show (0 : Int) ≤ (i : Int) from Int.natCast_nonneg i), hK.2, shrU _ i (by clear ei ep e1 et ex; omega), et, ep, e1, ex, xr, nx, show k + 1 - (e + 1 + 1) = k - (e + 1) by clear ei ep e1 et ex; omega]
    by_cases g : B d / 2 ^ i % 2 = 1
    · have hin : d + i < m := by
        rcases Nat.lt_or_ge i (m - d) with c | c
        · clear ei ep e1 et ex; omega
        · exfalso
          have : B d / 2 ^ i = 0 := Nat.div_eq_of_lt (Nat.lt_of_lt_of_le h3 (Nat.pow_le_pow_right (by decide) c))
          rw [this] at g
          exact absurd g (by decide)
      rw [if_pos (show ((B d / 2 ^ i % 2 : Nat) : Int) = 1 by rw [g]; rfl), if_pos (show (0 : Int) ≤ ((d + i : Nat) : Int) from Int.natCast_nonneg _), hm2, if_pos (show ((d + i : Nat) : Int) < (m : Int) by clear ei ep e1 et ex; omega), if_pos g, ← Nat.xor_assoc]
      exact ih k (i + 1) _ (by clear ei ep e1 et ex; omega) (Nat.xor_lt_two_pow (n := 8) ho hb) (by clear ei ep e1 et ex; omega)
    · rw [if_neg (show ¬ ((B d / 2 ^ i % 2 : Nat) : Int) = 1 by intro hh; exact g (by exact_mod_cast hh)), if_neg g, Nat.zero_xor]
      exact ih k (i + 1) o (by clear ei ep e1 et ex; omega) ho (by clear ei ep e1 et ex; omega)
theorem sback (x1 : Int) {m : Nat} (hm : m ≤ 10000) {band sums : List Int} {B S : Nat → Nat} (hK : RL band B m) (hL : RL sums S m) (hO : OkE m B S) : ∀ (d k : Nat) (l : List Int), d ≤ m → okB l → l.length = m → 20 * d + 30 < k → spec_RibbonOf.l2 k x1 band sums l ((d : Int) - 1) = some (2, x1, 0, strOfNums (bk B S d l), true) := by
  intro d
  induction d with
  | zero =>
    intro k l _ _ _ hk
    obtain ⟨k, rfl⟩ : ∃ j, k = j + 1 := ⟨k - 1, by omega⟩
    rw [spec_RibbonOf.l2, if_neg (by omega)]; rfl
  | succ d ih =>
    intro k l hd hl hm2 hk
    obtain ⟨k, rfl⟩ : ∃ j, k = j + 1 := ⟨k - 1, by omega⟩
    have hv := bkv_lt hO hl d
    have hS : S d < 256 := by have := (hO d).2.1; omega
    have h3 := sback3 x1 hm hK hO (sums := sums) d (by omega) l hl hm2 15 k 1 (S d) (by omega) hS (by omega)
    rw [show ((1 : Nat) : Int) = 1 from rfl, Nat.pow_one] at h3
    have e : xr (bf l) d (B d - 1) 16 = xr (bf l) (d + 1) (B d / 2) 15 := by
      by_cases hb : B d = 0
      · rw [hb, show (0 - 1 : Nat) = 0 from rfl, xr_zero, show 0 / 2 = 0 from rfl, xr_zero]
      · have ho := (hO d).2.2.2.2 hb
        show (if (B d - 1) % 2 = 1 then bf l d else 0) ^^^ xr (bf l) (d + 1) ((B d - 1) / 2) 15 = _
        rw [if_neg (by omega), Nat.zero_xor, show (B d - 1) / 2 = B d / 2 by omega]
    rw [show ((d + 1 : Nat) : Int) - 1 = (d : Int) by omega, spec_RibbonOf.l2, if_pos (show (d : Int) ≥ 0 from Int.natCast_nonneg d), if_pos (show (0 : Int) ≤ (d : Int) from Int.natCast_nonneg d), hL.1, if_pos (show (d : Int) < (m : Int) by omega), hL.2, h3, bk, ← e]
    exact ih (k - (15 + 1)) _ (by omega) (okB_set hl d _ hv) (by rw [List.length_set]; exact hm2) (by omega)

/-! ## section ribbonend -/
/-- all users' equations -/
def insAll (seed : Int) (m : Nat) : List ByteArray → (Nat → Nat) → (Nat → Nat) → Option ((Nat → Nat) × (Nat → Nat))
  | [], B, S => some (B, S)
  | u :: us, B, S => match ins B S (m - eqP seed u m) (eqP seed u m) (eqR seed u) (eqS seed u) with
    | none => none
    | some x => insAll seed m us x.1 x.2
def zs (m : Nat) : List Int := List.replicate m 0
theorem okB_zs (m : Nat) : okB (zs m) := by
  intro x hx; unfold zs at hx; rw [List.eq_of_mem_replicate hx]; omega
theorem rd_zs (m : Nat) (q : Nat) : rd (zs m) (q : Int) = 0 := by
  unfold rd zs
  rw [Int.toNat_natCast, List.getD_eq_getElem?_getD, List.getElem?_replicate]
  split <;> rfl
def fin (seed : Int) (m : Nat) : Option ((Nat → Nat) × (Nat → Nat)) → Int × Int × Int × ByteArray × Bool
  | none => (0, 0, 0, (⟨#[]⟩ : ByteArray), false)
  | some x => (2, seed, 0, strOfNums (bk x.1 x.2 m (zs m)), true)
theorem iall (seed : Int) (us : List ByteArray) (hu : us.length ≤ 400) (hs : ∀ u ∈ us, u.size ≤ 1048576) (m : Nat) (h16 : 16 ≤ m) (hm : m ≤ 600) : ∀ (d k i : Nat) (kept : List S58) (B S : Nat → Nat), i ≤ us.length → us.length - i = d → RK kept B S m → OkE m B S → 2000 * d + 1100000 ≤ k → impl_RibbonOf.l0 k seed m kept us us.length i = some (fin seed m (insAll seed m (us.drop i) B S)) := by
  intro d
  induction d with
  | zero =>
    intro k i kept B S g1 g2 hK hO hk
    obtain ⟨k, rfl⟩ : ∃ j, k = j + 1 := ⟨k - 1, by omega⟩
    rw [impl_RibbonOf.l0, if_neg (by omega), if_pos (show (0 : Int) ≤ (m : Int) from Int.natCast_nonneg m), Int.toNat_natCast, if_pos (show m ≤ 281474976710656 by omega), w64m (by omega), List.drop_eq_nil_of_le (by omega)]
    exact iback seed (by omega) hK hO m k (zs m) (Nat.le_refl _) (okB_zs m) List.length_replicate (fun q _ => rd_zs m q) (by omega)
  | succ d ih =>
    intro k i kept B S g1 g2 hK hO hk
    obtain ⟨k, rfl⟩ : ∃ j, k = j + 1 := ⟨k - 1, by omega⟩
    obtain ⟨u, hd, hu', hmem⟩ := rds_drop us i (by omega)
    have hsu := hs u hmem
    rw [impl_RibbonOf.l0, if_pos (by omega), if_pos (by omega), if_pos (by omega), hu', irow k u seed m h16 (by omega) (by omega) (by omega)]
    simp only [Option.bind_some]
    have hp := eqP_lt seed u h16
    have h := iins seed us i m (by omega) (m - eqP seed u m) k kept B S (eqP seed u m) (eqR seed u) (eqS seed u) hK hO (eqR_lt seed u) (Nat.lt_of_lt_of_le (eqR_lt seed u) (Nat.pow_le_pow_right (by decide) (by omega))) (by omega) (eqS_lt seed u) (by omega)
    rw [hd, insAll]
    cases e : ins B S (m - eqP seed u m) (eqP seed u m) (eqR seed u) (eqS seed u) with
    | none => rw [h.1 e]; rfl
    | some x =>
      obtain ⟨k', kept', q1, q2, q3⟩ := h.2 x.1 x.2 e
      have hO' := ins_ok hO (m - eqP seed u m) (eqP seed u m) (eqR seed u) (eqS seed u) (eqR_lt seed u) (Nat.lt_of_lt_of_le (eqR_lt seed u) (Nat.pow_le_pow_right (by decide) (by omega))) (by omega) (eqS_lt seed u) x.1 x.2 e
      rw [q3, w64s (n := us.length) (by omega) (by omega)]
      exact ih k' (i + 1) kept' x.1 x.2 (by omega) (by omega) q2 hO' (by omega)
theorem sall (seed : Int) (us : List ByteArray) (hu : us.length ≤ 400) (hs : ∀ u ∈ us, u.size ≤ 1048576) (m : Nat) (h16 : 16 ≤ m) (hm : m ≤ 600) : ∀ (d k i : Nat) (band sums : List Int) (B S : Nat → Nat), i ≤ us.length → us.length - i = d → RL band B m → RL sums S m → OkE m B S → 2000 * d + 1100000 ≤ k → spec_RibbonOf.l0 k us seed m band sums i = some (fin seed m (insAll seed m (us.drop i) B S)) := by
  intro d
  induction d with
  | zero =>
    intro k i band sums B S g1 g2 hK hL hO hk
    obtain ⟨k, rfl⟩ : ∃ j, k = j + 1 := ⟨k - 1, by omega⟩
    rw [spec_RibbonOf.l0, if_neg (by omega), if_pos (show (0 : Int) ≤ (m : Int) from Int.natCast_nonneg m), Int.toNat_natCast, if_pos (show m ≤ 281474976710656 by omega), w64m (by omega), List.drop_eq_nil_of_le (by omega)]
    exact sback seed (by omega) hK hL hO m k (zs m) (Nat.le_refl _) (okB_zs m) List.length_replicate (by omega)
  | succ d ih =>
    intro k i band sums B S g1 g2 hK hL hO hk
    obtain ⟨k, rfl⟩ : ∃ j, k = j + 1 := ⟨k - 1, by omega⟩
    obtain ⟨u, hd, hu', hmem⟩ := rds_drop us i (by omega)
    have hsu := hs u hmem
    rw [spec_RibbonOf.l0, if_pos (by omega), if_pos (by omega), hu', srow k u seed m h16 (by omega) (by omega) (by omega)]
    simp only [Option.bind_some]
    have hp := eqP_lt seed u h16
    have h := sins seed us i m (by omega) (m - eqP seed u m) k band sums B S (eqP seed u m) (eqR seed u) (eqS seed u) hK hL hO (eqR_lt seed u) (Nat.lt_of_lt_of_le (eqR_lt seed u) (Nat.pow_le_pow_right (by decide) (by omega))) (by omega) (eqS_lt seed u) (by omega)
    rw [hd, insAll]
    cases e : ins B S (m - eqP seed u m) (eqP seed u m) (eqR seed u) (eqS seed u) with
    | none => rw [h.1 e]; rfl
    | some x =>
      obtain ⟨k', b', s', q1, q2, q4, q3⟩ := h.2 x.1 x.2 e
      have hO' := ins_ok hO (m - eqP seed u m) (eqP seed u m) (eqR seed u) (eqS seed u) (eqR_lt seed u) (Nat.lt_of_lt_of_le (eqR_lt seed u) (Nat.pow_le_pow_right (by decide) (by omega))) (by omega) (eqS_lt seed u) x.1 x.2 e
      rw [q3, w64s (n := us.length) (by omega) (by omega)]
      exact ih k' (i + 1) b' s' x.1 x.2 (by omega) (by omega) q2 q4 hO' (by omega)
/-- how many rows -/
def roM (n : Nat) : Nat := n + n / 4 + 20
theorem roM_val (n : Nat) (h : n ≤ 400) : wrap64 ((wrap64 ((n : Int) + (wrap64 ((n : Int) / 4)))) + 20) = ((roM n : Nat) : Int) := by
  have e1 : wrap64 ((n : Int) / 4) = ((n / 4 : Nat) : Int) := by rw [w64 (by omega) (by omega)]; omega
  rw [e1]
  clear e1
  have e2 : wrap64 ((n : Int) + ((n / 4 : Nat) : Int)) = ((n + n / 4 : Nat) : Int) := by rw [w64 (by omega) (by omega)]; omega
  rw [e2]
  clear e2
  unfold roM
  rw [w64 (by omega) (by omega)]; omega
/-- what RibbonOf makes -/
def roR (us : List ByteArray) (seed : Int) : Int × Int × Int × ByteArray × Bool :=
  if usersB us = true ∧ inB seed 0 3 = true then fin seed (roM us.length) (insAll seed (roM us.length) us (fun _ => 0) (fun _ => 0)) else (0, 0, 0, (⟨#[]⟩ : ByteArray), false)
theorem iro (k : Nat) (us : List ByteArray) (hl : us.length ≤ 1048576) (hs : ∀ u ∈ us, u.size ≤ 1048576) (seed : Int) (hk : 2000000 < k) : impl_RibbonOf.f k us seed = some (roR us seed) := by
  obtain ⟨k, rfl⟩ : ∃ j, k = j + 1 := ⟨k - 1, by omega⟩
  have jt : impl_RibbonOf.j0 (k + 1) us seed true = some (0, 0, 0, (⟨#[]⟩ : ByteArray), false) := by rw [impl_RibbonOf.j0, if_pos rfl]
  unfold impl_RibbonOf.f roR
  rw [iuo us hl _ (by omega), iwithin]
  simp only [Option.bind_some]
  by_cases g : usersB us = true
  · have h400 : us.length ≤ 400 := by simp only [usersB, Bool.and_eq_true, decide_eq_true_eq] at g; exact g.1
    by_cases hp : inB seed 0 3 = true
    · rw [if_pos g, if_pos ⟨g, hp⟩, hp, impl_RibbonOf.j0, if_neg (by decide), roM_val _ h400]
      have hM : 20 ≤ roM us.length ∧ roM us.length ≤ 600 := by unfold roM; omega
      generalize roM us.length = m at hM
      rw [if_pos (show (0 : Int) ≤ (m : Int) from Int.natCast_nonneg m), Int.toNat_natCast, if_pos (show m ≤ 11728124029610 by omega)]
      have h := iall seed us h400 hs m (by omega) (by omega) us.length k 0 _ _ _ (by omega) (by omega) (RK_start m) (Ok_start m) (by omega)
      simpa using h
    · have hp' : inB seed 0 3 = false := by simpa using hp
      rw [if_pos g, if_neg (fun h => hp h.2), hp', Bool.not_false, jt]
  · rw [if_neg g, if_neg (fun h => g h.1), jt]
theorem sro (k : Nat) (us : List ByteArray) (hl : us.length ≤ 1048576) (hs : ∀ u ∈ us, u.size ≤ 1048576) (seed : Int) (hk : 2000000 < k) : spec_RibbonOf.f k us seed = some (roR us seed) := by
  obtain ⟨k, rfl⟩ : ∃ j, k = j + 1 := ⟨k - 1, by omega⟩
  have jt : spec_RibbonOf.j0 (k + 1) us seed true = some (0, 0, 0, (⟨#[]⟩ : ByteArray), false) := by rw [spec_RibbonOf.j0, if_pos rfl]
  unfold spec_RibbonOf.f roR
  rw [suo us hl _ (by omega), swithin]
  simp only [Option.bind_some]
  by_cases g : usersB us = true
  · have h400 : us.length ≤ 400 := by simp only [usersB, Bool.and_eq_true, decide_eq_true_eq] at g; exact g.1
    by_cases hp : inB seed 0 3 = true
    · rw [if_pos g, if_pos ⟨g, hp⟩, hp, spec_RibbonOf.j0, if_neg (by decide), roM_val _ h400]
      have hM : 20 ≤ roM us.length ∧ roM us.length ≤ 600 := by unfold roM; omega
      generalize roM us.length = m at hM
      rw [if_pos (show (0 : Int) ≤ (m : Int) from Int.natCast_nonneg m), Int.toNat_natCast, if_pos (show m ≤ 35184372088832 by omega)]
      have h := sall seed us h400 hs m (by omega) (by omega) us.length k 0 _ _ _ _ (by omega) (by omega) (RL_start m) (RL_start m) (Ok_start m) (by omega)
      simpa using h
    · have hp' : inB seed 0 3 = false := by simpa using hp
      rw [if_pos g, if_neg (fun h => hp h.2), hp', Bool.not_false, jt]
  · rw [if_neg g, if_neg (fun h => g h.1), jt]

/-! ## section filterok -/
/-- a filter is right -/
def fltB (a b c : Int) (s : ByteArray) : Bool :=
  if a = 0 then (a == 0 && (b == 0 && (c == 0 && (s.toList == ([] : List UInt8))))) else if a = 1 then decide (b = 0) && (inB c 1 30 && inB s.size 1 1000) else if a = 2 then decide (c = 0) && (inB b 0 3 && (inB s.size 20 600 && (nb s).all (fun x => decide (x ≤ 127)))) else false
theorem ifo_l0 (s : ByteArray) (hs : s.size ≤ 1048576) (a b c : Int) : ∀ (d k i : Nat), i ≤ s.size → s.size - i = d → d < k → impl_FilterOk.l0 k s.size i a b c s = some (((nb s).drop i).all (fun x => decide (x ≤ 127))) := by
  intro d
  induction d with
  | zero =>
    intro k i h1 h2 hk
    obtain ⟨k, rfl⟩ : ∃ m, k = m + 1 := ⟨k - 1, by omega⟩
    rw [impl_FilterOk.l0, if_neg (by omega), nb_end s i (by omega)]; rfl
  | succ d ih =>
    intro k i h1 h2 hk
    obtain ⟨k, rfl⟩ : ∃ m, k = m + 1 := ⟨k - 1, by omega⟩
    obtain ⟨x, hd, hx, hl⟩ := nb_drop s i (by omega)
    rw [impl_FilterOk.l0, if_pos (by omega), if_pos (by omega), if_pos (by omega), hx, hd, w64s (n := s.size) (by omega) (by omega)]
    by_cases g : x ≤ 127
    · rw [if_neg (by omega), ih k (i + 1) (by omega) (by omega) (by omega)]; simp [g]
    · rw [if_pos (by omega)]; simp [g]
theorem ifo (a b c : Int) (s : ByteArray) (k : Nat) (hk : s.size + 2 < k) : impl_FilterOk.f k a b c s = some (fltB a b c s) := by
  obtain ⟨k, rfl⟩ : ∃ m, k = m + 1 := ⟨k - 1, by omega⟩
  unfold impl_FilterOk.f fltB
  by_cases h0 : a = 0
  · rw [if_pos h0, if_pos h0]
  · rw [if_neg h0, if_neg h0]
    by_cases h1 : a = 1
    · rw [if_pos h1, if_pos h1]
      by_cases hb : b = 0
      · rw [if_pos hb, iwithin, iwithin]
        simp only [Option.bind_some, hb, decide_true, Bool.true_and]
        cases inB c 1 30 <;> rfl
      · rw [if_neg hb]; simp [hb]
    · rw [if_neg h1, if_neg h1]
      by_cases h2 : a = 2
      · rw [if_pos h2, if_pos h2]
        have jt : impl_FilterOk.j0 (k + 1) true a b c s = some false := by rw [impl_FilterOk.j0, if_pos rfl]
        by_cases hc : c = 0
        · rw [if_pos hc, iwithin, iwithin]
          simp only [Option.bind_some, hc, decide_true, Bool.true_and]
          rw [hc] at jt
          by_cases hq : inB b 0 3 = true
          · rw [if_pos hq, hq, Bool.true_and]
            by_cases hr : inB (s.size : Int) 20 600 = true
            · have hsz : s.size ≤ 600 := by simp only [inB, decide_eq_true_eq] at hr; omega
              rw [hr, Bool.true_and, impl_FilterOk.j0, if_neg (by decide)]
              have h := ifo_l0 s (by omega) a b 0 s.size k 0 (by omega) (by omega) (by omega)
              simpa using h
            · have hr' : inB (s.size : Int) 20 600 = false := by simpa using hr
              rw [hr', Bool.not_false, jt]; rfl
          · have hq' : inB b 0 3 = false := by simpa using hq
            rw [if_neg hq, hq', jt]; rfl
        · rw [if_neg hc, jt]; simp [hc]
      · rw [if_neg h2, if_neg h2]
theorem flt_size {a b c : Int} {s : ByteArray} (h : fltB a b c s = true) : s.size ≤ 1000 := by
  unfold fltB at h
  split at h
  · simp only [Bool.and_eq_true, beq_iff_eq] at h
    have h' := h.2.2.2
    rw [ByteArray.toList_eq] at h'
    have : s.data.toList.length = s.size := by rw [Array.length_toList]; rfl
    rw [h'] at this
    simp at this
    omega
  · split at h
    · simp only [Bool.and_eq_true, inB, decide_eq_true_eq] at h; omega
    · split at h
      · simp only [Bool.and_eq_true, inB, decide_eq_true_eq] at h; omega
      · cases h

/-! ## section ribbonmay -/
/-- what RibbonMay says -/
def rmayB (a b c : Int) (s u : ByteArray) : Bool := !decide (a = 2) || (!fltB a b c s || decide (xr (bf (bytesOf s)) (eqP b u s.size) (eqR b u) 16 = eqS b u))
theorem flt_ribbon {b c : Int} {s : ByteArray} (h : fltB 2 b c s = true) : c = 0 ∧ 0 ≤ b ∧ b ≤ 3 ∧ 20 ≤ s.size ∧ s.size ≤ 600 := by
  unfold fltB at h
  rw [if_neg (by decide), if_neg (by decide), if_pos rfl] at h
  simp only [Bool.and_eq_true, inB, decide_eq_true_eq] at h
  omega
theorem irmay (k : Nat) (a b c : Int) (s u : ByteArray) (hs : s.size ≤ 1048576) (hu : u.size ≤ 1048576) (hk : 1048700 < k) : impl_RibbonMay.f k a b c s u = some (rmayB a b c s u) := by
  obtain ⟨k, rfl⟩ : ∃ m, k = m + 1 := ⟨k - 1, by omega⟩
  have jt : ∀ a, impl_RibbonMay.j0 (k + 1) u true a b c s = some true := fun a => by rw [impl_RibbonMay.j0, if_pos rfl]
  unfold impl_RibbonMay.f rmayB
  by_cases h : a = 2
  · subst h
    rw [if_pos rfl, ifo 2 b c s _ (by omega)]
    simp only [Option.bind_some, decide_true, Bool.not_true, Bool.false_or]
    by_cases g : fltB 2 b c s = true
    · obtain ⟨_, b0, b1, s0, s1⟩ := flt_ribbon g
      rw [g, impl_RibbonMay.j0, if_neg (by decide), irow k u b s.size (by omega) (by omega) (by omega) (by omega)]
      simp only [Option.bind_some]
      have hp := eqP_lt b u (m := s.size) (by omega)
      rw [if_pos (by omega), isolve (okB_bytesOf s) 16 k _ _ (eqR_lt b u) (by omega) (by rw [bytesOf_length]; exact hp) (by rw [bytesOf_length]; omega) (by omega)]
      simp only [Option.bind_some, Bool.not_true, Bool.false_or]
      generalize xr (bf (bytesOf s)) (eqP b u s.size) (eqR b u) 16 = x
      generalize eqS b u = y
      congr 1
      by_cases e : x = y
      · subst e; simp
      · rw [decide_eq_false e]
        exact beq_eq_false_iff_ne.2 (by omega)
    · have g' : fltB 2 b c s = false := by simpa using g
      rw [g', Bool.not_false, jt]; rfl
  · rw [if_neg h, jt]; simp [h]

/-! ## section ribbonfits -/
theorem insAll_ok {seed : Int} {m : Nat} (h16 : 16 ≤ m) : ∀ (us : List ByteArray) (B S : Nat → Nat), OkE m B S → ∀ x, insAll seed m us B S = some x → OkE m x.1 x.2 ∧ (∀ q, B q ≠ 0 → x.1 q = B q ∧ x.2 q = S q)
  | [], B, S, h, x, e => by
    rw [insAll] at e; cases e; exact ⟨h, fun _ _ => ⟨rfl, rfl⟩⟩
  | u :: us, B, S, h, x, e => by
    rw [insAll] at e
    have hp := eqP_lt seed u h16
    cases c : ins B S (m - eqP seed u m) (eqP seed u m) (eqR seed u) (eqS seed u) with
    | none => rw [c] at e; cases e
    | some y =>
      rw [c] at e
      have hO' := ins_ok h (m - eqP seed u m) (eqP seed u m) (eqR seed u) (eqS seed u) (eqR_lt seed u) (Nat.lt_of_lt_of_le (eqR_lt seed u) (Nat.pow_le_pow_right (by decide) (by omega))) (by omega) (eqS_lt seed u) y.1 y.2 c
      obtain ⟨g1, g2⟩ := insAll_ok h16 us y.1 y.2 hO' x e
      refine ⟨g1, fun q hq => ?_⟩
      obtain ⟨k1, k2⟩ := ins_keep _ _ _ _ y.1 y.2 c q hq
      obtain ⟨k3, k4⟩ := g2 q (by rw [k1]; exact hq)
      exact ⟨by rw [k3, k1], by rw [k4, k2]⟩
theorem insAll_fits {seed : Int} {m : Nat} (h16 : 16 ≤ m) {f : Nat → Nat} : ∀ (us : List ByteArray) (B S : Nat → Nat), OkE m B S → ∀ x, insAll seed m us B S = some x → Fits f x.1 x.2 → ∀ u ∈ us, xr f (eqP seed u m) (eqR seed u) 16 = eqS seed u
  | [], B, S, h, x, e, hf, u, hu => by simp at hu
  | v :: us, B, S, h, x, e, hf, u, hu => by
    rw [insAll] at e
    have hp := eqP_lt seed v h16
    cases c : ins B S (m - eqP seed v m) (eqP seed v m) (eqR seed v) (eqS seed v) with
    | none => rw [c] at e; cases e
    | some y =>
      rw [c] at e
      have hO' := ins_ok h (m - eqP seed v m) (eqP seed v m) (eqR seed v) (eqS seed v) (eqR_lt seed v) (Nat.lt_of_lt_of_le (eqR_lt seed v) (Nat.pow_le_pow_right (by decide) (by omega))) (by omega) (eqS_lt seed v) y.1 y.2 c
      rcases List.mem_cons.1 hu with rfl | hu
      · obtain ⟨g1, g2⟩ := insAll_ok h16 us y.1 y.2 hO' x e
        refine ins_fits h (m - eqP seed u m) (eqP seed u m) (eqR seed u) (eqS seed u) (eqR_lt seed u) (Nat.lt_of_lt_of_le (eqR_lt seed u) (Nat.pow_le_pow_right (by decide) (by omega))) (by omega) (eqS_lt seed u) y.1 y.2 c ?_
        intro q hq
        obtain ⟨k3, k4⟩ := g2 q hq
        have := hf q (by rw [k3]; exact hq)
        rwa [k3, k4] at this
      · exact insAll_fits h16 us y.1 y.2 hO' x e hf u hu
theorem bk_small {m : Nat} {B S : Nat → Nat} (hO : OkE m B S) : ∀ (d : Nat) (l : List Int), (∀ i, bf l i < 128) → okB l → d ≤ l.length → ∀ i, bf (bk B S d l) i < 128
  | 0, _, h, _, _ => h
  | d + 1, l, h, hl, hd => by
    rw [bk]
    refine bk_small hO d _ (fun i => ?_) (okB_set hl d _ (bkv_lt hO hl d)) (by rw [List.length_set]; omega)
    rw [bf_set _ _ _ _ (by omega)]
    split
    · exact Nat.xor_lt_two_pow (n := 7) (hO d).2.1 (xr_lt (bf l) 7 h 16 d _)
    · exact h i
theorem bytesOf_nums {l : List Int} (h : okB l) : bytesOf (strOfNums l) = l := by
  unfold bytesOf strOfNums
  simp only [List.map_map]
  conv => rhs; rw [← List.map_id l]
  apply List.map_congr_left
  intro x hx
  have := h x hx
  simp
  omega
theorem nums_size (l : List Int) : (strOfNums l).size = l.length := by simp [strOfNums, ByteArray.size]
theorem nb_small {l : List Int} (h : okB l) (hb : ∀ i, bf l i < 128) : (nb (strOfNums l)).all (fun x => decide (x ≤ 127)) = true := by
  rw [List.all_eq_true]
  intro x hx
  rw [decide_eq_true_eq]
  obtain ⟨i, hi, rfl⟩ := List.getElem_of_mem hx
  have hi' : i < (strOfNums l).size := by rw [← nb_length]; exact hi
  have e := bt_nb (strOfNums l) i hi'
  rw [← rd_bytesOf, bytesOf_nums h, bf_val h] at e
  have := hb i
  omega

/-! ## section draw -/
/-- the code that things are drawn from: each cell is a byte -/
def isCode (l : List Int) : Prop := l.length ≤ 1048576 ∧ ∀ x ∈ l, 0 ≤ x ∧ x ≤ 255
theorem code_of {l : List Int} (h : ¬ ((l.length : Int) > 1048576)) (hw : ∀ x ∈ l, (Lit.int .u8 x).wf = true) : isCode l := by
  refine ⟨by omega, fun x hx => ?_⟩
  have := hw x hx
  simp [Lit.wf, IntKind.min, IntKind.max, IntKind.bits, IntKind.signed] at this
  omega
def posOk (l : List Int) (p : Int) : Prop := 0 ≤ p ∧ p ≤ l.length
theorem rd_code {l : List Int} (h : isCode l) (i : Int) : 0 ≤ rd l i ∧ rd l i ≤ 255 := by
  unfold rd
  rw [List.getD_eq_getElem?_getD]
  cases hi : l[i.toNat]? with
  | none => simp
  | some b => simpa using h.2 b (List.mem_of_getElem? hi)
theorem dnext {l : List Int} (h : isCode l) {p : Int} (hp : posOk l p) : ∃ v q, spec_l1Rd_next.f l p = some (v, q) ∧ 0 ≤ v ∧ v ≤ 255 ∧ posOk l q := by
  have hl := h.1
  obtain ⟨h0, h1⟩ := hp
  unfold spec_l1Rd_next.f
  by_cases c : p ≥ (l.length : Int)
  · rw [if_pos c]
    exact ⟨0, p, rfl, by omega, by omega, h0, h1⟩
  · have e1 : wrap64 (p + 1) = p + 1 := by unfold wrap64; omega
    have e2 : wrap64 (p + 1 - 1) = p := by unfold wrap64; omega
    have hr := rd_code h p
    have e3 : wrap64 (rd l p) = rd l p := by unfold wrap64; omega
    rw [if_neg c, e1, e2, if_pos h0, if_pos (by omega), e3]
    exact ⟨_, _, rfl, hr.1, hr.2, by omega, by omega⟩
theorem dbelow {l : List Int} (h : isCode l) {p : Int} (hp : posOk l p) {n : Int} (hn : 1 ≤ n) : ∃ v q, spec_l1Rd_below.f l p n = some (v, q) ∧ 0 ≤ v ∧ v < n ∧ posOk l q := by
  unfold spec_l1Rd_below.f
  by_cases c : n ≤ 1
  · rw [if_pos c]
    exact ⟨0, p, rfl, by omega, by omega, hp⟩
  · rw [if_neg c]
    obtain ⟨v, q, e, h0, h1, hq⟩ := dnext h hp
    by_cases c2 : n ≤ 256
    · rw [if_pos c2, e]
      simp only [Option.bind_some]
      rw [if_neg (by omega)]
      refine ⟨_, _, rfl, ?_, ?_, hq⟩
      · rw [Int.tmod_eq_emod_of_nonneg h0]; exact Int.emod_nonneg _ (by omega)
      · rw [Int.tmod_eq_emod_of_nonneg h0]; exact Int.emod_lt_of_pos _ (by omega)
    · rw [if_neg c2, e]
      simp only [Option.bind_some]
      obtain ⟨v2, q2, e2, h2, h3, hq2⟩ := dnext h hq
      rw [e2]
      simp only [Option.bind_some]
      rw [if_neg (by omega)]
      have ew : wrap64 (wrap64 (v * 256) + v2) = v * 256 + v2 := by unfold wrap64; omega
      rw [ew]
      refine ⟨_, _, rfl, ?_, ?_, hq2⟩
      · rw [Int.tmod_eq_emod_of_nonneg (by omega)]; exact Int.emod_nonneg _ (by omega)
      · rw [Int.tmod_eq_emod_of_nonneg (by omega)]; exact Int.emod_lt_of_pos _ (by omega)
theorem posOk0 (l : List Int) : posOk l 0 := ⟨Int.le_refl _, by omega⟩

/-! ## section drawuser -/
theorem duser {l : List Int} (h : isCode l) {p : Int} (hp : posOk l p) : ∃ s q, spec_l1Rd_user.f l p = some (s, q) ∧ 1 ≤ s.size ∧ s.size ≤ 4 ∧ posOk l q := by
  unfold spec_l1Rd_user.f
  simp only [Option.bind_some]
  obtain ⟨v, r, e2, hv0, hv1, hr⟩ := dbelow h hp (n := 10) (by omega)
  rw [e2]
  simp only [Option.bind_some]
  rw [if_pos hv0, if_pos (by simpa using hv1)]
  obtain ⟨n, rfl⟩ := Int.eq_ofNat_of_zero_le hv0
  have hn : n < 10 := by omega
  have key : ∀ n, n < 10 → 1 ≤ (rdOf ByteArray.empty ([(⟨#[97]⟩ : ByteArray), (⟨#[98]⟩ : ByteArray), (⟨#[97, 98]⟩ : ByteArray), (⟨#[97, 98, 99]⟩ : ByteArray), (⟨#[97, 98, 100]⟩ : ByteArray), (⟨#[107, 101, 121]⟩ : ByteArray), (⟨#[107, 101, 121, 49]⟩ : ByteArray), (⟨#[107, 101, 121, 50]⟩ : ByteArray), (⟨#[122, 122]⟩ : ByteArray), (⟨#[97, 0]⟩ : ByteArray)] : List ByteArray) ((n : Nat) : Int)).size ∧ (rdOf ByteArray.empty ([(⟨#[97]⟩ : ByteArray), (⟨#[98]⟩ : ByteArray), (⟨#[97, 98]⟩ : ByteArray), (⟨#[97, 98, 99]⟩ : ByteArray), (⟨#[97, 98, 100]⟩ : ByteArray), (⟨#[107, 101, 121]⟩ : ByteArray), (⟨#[107, 101, 121, 49]⟩ : ByteArray), (⟨#[107, 101, 121, 50]⟩ : ByteArray), (⟨#[122, 122]⟩ : ByteArray), (⟨#[97, 0]⟩ : ByteArray)] : List ByteArray) ((n : Nat) : Int)).size ≤ 4 := by decide +kernel
  have := key n hn
  exact ⟨_, _, rfl, this.1, this.2, hr⟩

/-! ## section drawonce -/
theorem donce {l : List Int} (h : isCode l) {p : Int} (hp : posOk l p) {n : Int} (hn : 1 ≤ n) : ∃ v q, spec_l1Rd_once.f l p n = some (v, q) ∧ posOk l q := by
  unfold spec_l1Rd_once.f
  obtain ⟨v, q, e, _, _, hq⟩ := dbelow h hp hn
  rw [e]
  exact ⟨_, _, rfl, hq⟩

/-! ## section putsize -/
theorem strOfNums_size (l : List Int) : (strOfNums l).size = l.length := by simp [strOfNums, ByteArray.size]

/-! ## section drawbytes -/
theorem dbytes_l0 {l : List Int} (h : isCode l) : ∀ (d k : Nat) (acc : List Int) (p : Int), d < k → acc.length + d < 140737488355328 → (∀ x ∈ acc, 0 ≤ x ∧ x < 256) → posOk l p → ∃ zs q, spec_l1Rd_bytes.l0 k acc d l p = some (strOfNums zs, q) ∧ zs.length = acc.length + d ∧ (∀ x ∈ zs, 0 ≤ x ∧ x < 256) ∧ posOk l q := by
  intro d
  induction d with
  | zero =>
    intro k acc p hk hl ha hp
    obtain ⟨k, rfl⟩ : ∃ m, k = m + 1 := ⟨k - 1, by omega⟩
    rw [spec_l1Rd_bytes.l0, if_neg (by omega)]
    exact ⟨acc, p, rfl, by omega, ha, hp⟩
  | succ d ih =>
    intro k acc p hk hl ha hp
    obtain ⟨k, rfl⟩ : ∃ m, k = m + 1 := ⟨k - 1, by omega⟩
    obtain ⟨v, q, e, v0, v1, hq⟩ := dbelow h hp (n := 256) (by omega)
    have ed : wrap64 (((d + 1 : Nat) : Int) - 1) = (d : Int) := by unfold wrap64; omega
    rw [spec_l1Rd_bytes.l0, if_pos (by omega), e]
    simp only [Option.bind_some]
    rw [if_pos (by omega), ed]
    obtain ⟨zs, r, e2, hz, hb, hr⟩ := ih k (acc ++ [v % 256]) q (by omega) (by simp; omega) (by
      intro x hx
      rcases List.mem_append.1 hx with hx | hx
      · exact ha x hx
      · simp at hx; omega) hq
    exact ⟨zs, r, e2, by rw [hz]; simp; omega, hb, hr⟩
/-- some bytes are drawn: at most 'most' -/
theorem dbytes {l : List Int} (h : isCode l) {p : Int} (hp : posOk l p) {most k : Nat} (hm : most ≤ 1000) (hk : most < k) : ∃ s q, spec_l1Rd_bytes.f k l p (most : Int) = some (s, q) ∧ s.size ≤ most ∧ posOk l q := by
  unfold spec_l1Rd_bytes.f
  have em : wrap64 ((most : Int) + 1) = (most : Int) + 1 := by unfold wrap64; omega
  rw [em]
  obtain ⟨v, q, e, v0, v1, hq⟩ := dbelow h hp (n := (most : Int) + 1) (by omega)
  rw [e]
  simp only [Option.bind_some]
  obtain ⟨d, rfl⟩ := Int.eq_ofNat_of_zero_le v0
  obtain ⟨zs, r, e2, hz, _, hr⟩ := dbytes_l0 h d k [] q (by omega) (by simp; omega) (by simp) hq
  exact ⟨_, r, e2, by rw [strOfNums_size, hz]; simp; omega, hr⟩

/-! ## section ba -/
theorem nb_append (a b : ByteArray) : nb (a ++ b) = nb a ++ nb b := by
  simp [nb, ByteArray.data_append]
theorem nb_extract (s : ByteArray) (i j : Nat) : nb (s.extract i j) = ((nb s).take j).drop i := by
  rw [List.drop_take]
  simp [nb, ByteArray.data_extract]
theorem nb_inj {a b : ByteArray} (h : nb a = nb b) : a = b := by
  have h1 : a.data.toList = b.data.toList := by
    have h2 : ∀ (l m : List UInt8), l.map UInt8.toNat = m.map UInt8.toNat → l = m := by
      intro l
      induction l with
      | nil => intro m h; cases m with
        | nil => rfl
        | cons y m => simp at h
      | cons x l ih => intro m h; cases m with
        | nil => simp at h
        | cons y m =>
          simp only [List.map_cons, List.cons.injEq] at h
          rw [UInt8.toNat_inj.1 h.1, ih m h.2]
    exact h2 _ _ h
  cases a; cases b; simp_all
theorem nb_nums (l : List Int) (h : ∀ x ∈ l, 0 ≤ x ∧ x < 256) : nb (strOfNums l) = l.map Int.toNat := by
  simp only [nb, strOfNums, List.map_map]
  apply List.map_congr_left
  intro x hx
  have := h x hx
  simp only [Function.comp]
  rw [UInt8.toNat_ofNat']
  exact Nat.mod_eq_of_lt (by omega)
theorem nb_empty : nb (⟨#[]⟩ : ByteArray) = [] := rfl
theorem bsize_append (a b : ByteArray) : (a ++ b).size = a.size + b.size := ByteArray.size_append

/-! ## section drawusers -/
theorem dusers_l0 {l : List Int} (h : isCode l) : ∀ (d k : Nat) (acc : List ByteArray) (p : Int), d + 46 < k → acc.length + d < 1000000 → (∀ u ∈ acc, u.size ≤ 44) → posOk l p → ∃ us q, spec_l1Rd_users.l0 k acc d l p = some (us, q) ∧ us.length ≤ acc.length + d + 1 ∧ (∀ u ∈ us, u.size ≤ 44) ∧ posOk l q := by
  intro d
  induction d with
  | zero =>
    intro k acc p hk hl ha hp
    obtain ⟨k, rfl⟩ : ∃ m, k = m + 1 := ⟨k - 1, by omega⟩
    rw [spec_l1Rd_users.l0, if_neg (by omega)]
    obtain ⟨b, q, e, hq⟩ := donce h hp (n := 24) (by omega)
    rw [e]; simp only [Option.bind_some]
    split
    · obtain ⟨v, q5, e5, hv, hq5⟩ := dbytes h hq (most := 44) (k := k) (by omega) (by omega)
      simp only [Int.cast_ofNat_Int] at e5
      rw [e5]; simp only [Option.bind_some]
      rw [if_pos (by omega)]
      refine ⟨_, _, rfl, by simp, ?_, hq5⟩
      intro u hu
      rcases List.mem_append.1 hu with hu | hu
      · exact ha u hu
      · simp at hu; subst hu; exact hv
    · exact ⟨_, _, rfl, by omega, ha, hq⟩
  | succ d ih =>
    intro k acc p hk hl ha hp
    obtain ⟨k, rfl⟩ : ∃ m, k = m + 1 := ⟨k - 1, by omega⟩
    obtain ⟨b, q, e, hq⟩ := donce h hp (n := 3) (by omega)
    have ed : wrap64 (((d + 1 : Nat) : Int) - 1) = (d : Int) := by unfold wrap64; omega
    rw [spec_l1Rd_users.l0, if_pos (by omega), e]
    simp only [Option.bind_some]
    split
    · obtain ⟨v, q5, e5, hv, hq5⟩ := dbytes h hq (most := 3) (k := k) (by omega) (by omega)
      simp only [Int.cast_ofNat_Int] at e5
      rw [e5]; simp only [Option.bind_some]
      have h1 : (⟨#[107]⟩ : ByteArray).size = 1 := rfl
      rw [if_pos (by omega), if_pos (by omega), ed]
      obtain ⟨us, r, e6, h6, h7, h8⟩ := ih k (acc ++ [(⟨#[107]⟩ : ByteArray) ++ v]) q5 (by omega) (by simp; omega) (by
        intro u hu
        rcases List.mem_append.1 hu with hu | hu
        · exact ha u hu
        · simp at hu; subst hu; rw [bsize_append]; omega) hq5
      exact ⟨us, r, e6, by simp at h6; omega, h7, h8⟩
    · obtain ⟨v, q5, e5, hv, hv2, hq5⟩ := duser h hq
      rw [e5]; simp only [Option.bind_some]
      rw [if_pos (by omega), ed]
      obtain ⟨us, r, e6, h6, h7, h8⟩ := ih k (acc ++ [v]) q5 (by omega) (by simp; omega) (by
        intro u hu
        rcases List.mem_append.1 hu with hu | hu
        · exact ha u hu
        · simp at hu; subst hu; omega) hq5
      exact ⟨us, r, e6, by simp at h6; omega, h7, h8⟩
theorem dusers {l : List Int} (h : isCode l) {p : Int} (hp : posOk l p) {most k : Nat} (hm : most ≤ 1000) (hk : most + 46 < k) : ∃ us q, spec_l1Rd_users.f k l p (most : Int) = some (us, q) ∧ us.length ≤ most + 1 ∧ (∀ u ∈ us, u.size ≤ 44) ∧ posOk l q := by
  unfold spec_l1Rd_users.f
  have em : wrap64 ((most : Int) + 1) = (most : Int) + 1 := by unfold wrap64; omega
  rw [em]
  obtain ⟨v, q, e, v0, v1, hq⟩ := dbelow h hp (n := (most : Int) + 1) (by omega)
  rw [e]; simp only [Option.bind_some]
  obtain ⟨d, rfl⟩ := Int.eq_ofNat_of_zero_le v0
  obtain ⟨us, r, e2, h2, h3, h4⟩ := dusers_l0 h d k [] q (by omega) (by simp; omega) (by simp) hq
  exact ⟨us, r, e2, by simp at h2; omega, h3, h4⟩

/-! ## section drawword -/
theorem dword_l0 {l : List Int} (h : isCode l) : ∀ (d k i : Nat) (x p : Int), i ≤ 8 → 8 - i = d → d < k → 0 ≤ x → x < 18446744073709551616 → posOk l p → ∃ v q, spec_l1Rd_word.l0 k x i l p = some (v, q) ∧ 0 ≤ v ∧ v < 18446744073709551616 ∧ posOk l q := by
  intro d
  induction d with
  | zero =>
    intro k i x p h1 h2 hk hx0 hx1 hp
    obtain ⟨k, rfl⟩ : ∃ m, k = m + 1 := ⟨k - 1, by omega⟩
    rw [spec_l1Rd_word.l0, if_neg (by omega)]
    exact ⟨_, _, rfl, hx0, hx1, hp⟩
  | succ d ih =>
    intro k i x p h1 h2 hk hx0 hx1 hp
    obtain ⟨k, rfl⟩ : ∃ m, k = m + 1 := ⟨k - 1, by omega⟩
    obtain ⟨v, q, e, _, _, hq⟩ := dnext h hp
    have ei : wrap64 ((i : Int) + 1) = ((i + 1 : Nat) : Int) := by unfold wrap64; omega
    rw [spec_l1Rd_word.l0, if_pos (by omega), e]
    simp only [Option.bind_some]
    rw [ei]
    have hb := bits_range .u64 rfl .or (IntKind.u64.wrap (x * 256)) (IntKind.u64.wrap v)
    exact ih k (i + 1) _ q (by omega) (by omega) (by omega) hb.1 hb.2 hq
theorem dword {l : List Int} (h : isCode l) {p : Int} (hp : posOk l p) {k : Nat} (hk : 9 ≤ k) : ∃ v q, spec_l1Rd_word.f k l p = some (v, q) ∧ 0 ≤ v ∧ v < 18446744073709551616 ∧ posOk l q := by
  unfold spec_l1Rd_word.f
  exact dword_l0 h 8 k 0 0 p (by omega) (by omega) (by omega) (by omega) (by omega) hp

/-! ## section drawnear -/
theorem dnear {l : List Int} (h : isCode l) {p : Int} (hp : posOk l p) {k : Nat} (hk : 9 ≤ k) {lo hi : Int} (h0 : 0 ≤ lo) (h1 : lo ≤ hi) (h2 : hi ≤ 1000000000000000) : ∃ v q, spec_l1Rd_near.f k l p lo hi = some (v, q) ∧ lo ≤ v ∧ v ≤ hi ∧ posOk l q := by
  unfold spec_l1Rd_near.f
  obtain ⟨v, q, e, _, _, hq⟩ := dbelow h hp (n := 8) (by omega)
  rw [e]
  simp only [Option.bind_some]
  by_cases c0 : v = 0
  · rw [if_pos c0]; exact ⟨_, _, rfl, by omega, by omega, hq⟩
  · rw [if_neg c0]
    by_cases c1 : v = 1
    · rw [if_pos c1]; exact ⟨_, _, rfl, by omega, by omega, hq⟩
    · rw [if_neg c1, if_neg (by omega)]
      obtain ⟨x, r, e2, hx0, hx1, hr⟩ := dword h hq hk
      rw [e2]
      simp only [Option.bind_some]
      have ew : IntKind.u64.wrap (wrap64 ((wrap64 (hi - lo)) + 1)) = hi - lo + 1 := by
        have e3 : wrap64 (hi - lo) = hi - lo := by unfold wrap64; omega
        have e4 : wrap64 (hi - lo + 1) = hi - lo + 1 := by unfold wrap64; omega
        rw [e3, e4, u64w]; omega
      rw [ew, if_neg (by omega)]
      have hm : 0 ≤ Int.tmod (x / 2) (hi - lo + 1) ∧ Int.tmod (x / 2) (hi - lo + 1) < hi - lo + 1 := by
        rw [Int.tmod_eq_emod_of_nonneg (by omega)]
        exact ⟨Int.emod_nonneg _ (by omega), Int.emod_lt_of_pos _ (by omega)⟩
      have ez : wrap64 (lo + (wrap64 (Int.tmod (x / 2) (hi - lo + 1)))) = lo + Int.tmod (x / 2) (hi - lo + 1) := by
        have e5 : wrap64 (Int.tmod (x / 2) (hi - lo + 1)) = Int.tmod (x / 2) (hi - lo + 1) := by unfold wrap64; omega
        rw [e5]; unfold wrap64; omega
      rw [ez]
      exact ⟨_, _, rfl, by omega, by omega, hr⟩

/-! ## section drawoff -/
def i64r (v : Int) : Prop := -9223372036854775808 ≤ v ∧ v ≤ 9223372036854775807
theorem doff {l : List Int} (h : isCode l) {p : Int} (hp : posOk l p) {k : Nat} (hk : 9 ≤ k) {lo hi : Int} (h0 : 0 ≤ lo) (h1 : lo ≤ hi) (h2 : hi ≤ 1000000000000000) : ∃ v q, spec_l1Rd_off.f k l p lo hi = some (v, q) ∧ i64r v ∧ posOk l q := by
  unfold spec_l1Rd_off.f
  obtain ⟨b, q, e, hq⟩ := donce h hp (n := 24) (by omega)
  rw [e]
  simp only [Option.bind_some]
  by_cases c : b = true
  · rw [if_pos c]
    obtain ⟨v, r, e2, hv0, hv1, hr⟩ := dbelow h hq (n := 4) (by omega)
    rw [e2]
    simp only [Option.bind_some]
    rw [if_pos hv0, if_pos (by simpa using hv1)]
    have e3 : wrap64 (lo - 1) = lo - 1 := by unfold wrap64; omega
    have e4 : wrap64 (hi + 1) = hi + 1 := by unfold wrap64; omega
    rw [e3, e4]
    refine ⟨_, _, rfl, ?_, hr⟩
    obtain ⟨n, rfl⟩ := Int.eq_ofNat_of_zero_le hv0
    have hn : n < 4 := by omega
    unfold rd i64r
    rw [Int.toNat_natCast]
    match n, hn with
    | 0, _ => simp; omega
    | 1, _ => simp; omega
    | 2, _ => simp
    | 3, _ => simp
  · rw [if_neg c]
    obtain ⟨v, r, e2, a, b, hr⟩ := dnear h hq hk h0 h1 h2
    rw [e2]
    exact ⟨_, _, rfl, ⟨by omega, by omega⟩, hr⟩

theorem FnRibbons : laws_FnRibbons.Pure := by
  intro l _ _ hw
  obtain ⟨k, hk⟩ : ∃ k : Nat, 3000000 = k := ⟨_, rfl⟩
  refine ⟨k, ?_⟩
  unfold laws_FnRibbons.f laws_big.f
  rw [Option.bind_some]
  by_cases hb : (l.length : Int) > 1048576
  · rw [if_pos (by simpa using hb)]
  · have hc := code_of hb hw
    rw [if_neg (by simpa using hb)]
    obtain ⟨x, e, hu1, hu2⟩ : ∃ x, spec_DrawRibbonOf.f k l = some x ∧ x.1.length ≤ 21 ∧ ∀ u ∈ x.1, u.size ≤ 44 := by
      unfold spec_DrawRibbonOf.f spec_l1Open.f
      simp only [Option.bind_some]
      obtain ⟨us, q, e1, h1, h2, hq⟩ := dusers hc (posOk0 l) (most := 20) (k := k) (by omega) (by omega)
      simp only [Int.cast_ofNat_Int] at e1
      rw [e1]; simp only [Option.bind_some]
      obtain ⟨per, q2, e2, _, hq2⟩ := doff hc hq (k := k) (by omega) (lo := 0) (hi := 3) (by omega) (by omega) (by omega)
      rw [e2]
      exact ⟨(us, per), rfl, h1, h2⟩
    rw [e, Option.bind_some]
    clear e
    generalize x.1 = us at hu1 hu2 ⊢
    generalize x.2 = seed
    have hs : ∀ u ∈ us, u.size ≤ 1048576 := fun u hu => by have := hu2 u hu; omega
    rw [iro _ us (by omega) hs seed (by omega), sro _ us (by omega) hs seed (by omega), Option.bind_some, Option.bind_some]
    rw [if_neg (by simp), if_neg (by simp)]
    obtain ⟨k, rfl⟩ : ∃ j, k = j + 1 := ⟨k - 1, by omega⟩
    unfold roR
    have bad : laws_FnRibbons.j0 (k + 1) us seed false false true 0 0 0 (⟨#[]⟩ : ByteArray) 0 0 0 (⟨#[]⟩ : ByteArray) = some true := by
      rw [laws_FnRibbons.j0, if_pos rfl, if_pos (by simp)]; rfl
    by_cases g : usersB us = true ∧ inB seed 0 3 = true
    · rw [if_pos g]
      have hM : 20 ≤ roM us.length ∧ roM us.length ≤ 600 := by unfold roM; omega
      have hlen : us.length ≤ 400 := by omega
      generalize hm : roM us.length = m at hM
      cases c : insAll seed m us (fun _ => 0) (fun _ => 0) with
      | none => exact bad
      | some x =>
        have hsd : 0 ≤ seed ∧ seed ≤ 3 := by have := g.2; simpa [inB] using this
        obtain ⟨hO, _⟩ := insAll_ok (by omega) us _ _ (Ok_start m) x c
        have hL : (bk x.1 x.2 m (zs m)).length = m := by rw [bk_length]; exact List.length_replicate
        have hok := bk_ok hO m (zs m) (okB_zs m)
        have hz : ∀ i, bf (zs m) i = 0 := fun i => by unfold bf; rw [rd_zs]; rfl
        have hsm := bk_small hO m (zs m) (fun i => by rw [hz]; decide) (okB_zs m) (by rw [show (zs m).length = m from List.length_replicate]; exact Nat.le_refl m)
        have hfit := bk_fits hO m (zs m) (okB_zs m) List.length_replicate (Nat.le_refl _) (fun q hq hb => absurd (hO q).2.2.1 (by rw [show m - q = 0 by omega]; omega))
        have hall := insAll_fits (by omega) us _ _ (Ok_start m) x c hfit
        show laws_FnRibbons.j0 (k + 1) us seed true true (!true) 2 seed 0 (strOfNums (bk x.1 x.2 m (zs m))) 2 seed 0 (strOfNums (bk x.1 x.2 m (zs m))) = some true
        rw [laws_FnRibbons.j0, if_neg (by decide)]
        generalize bk x.1 x.2 m (zs m) = L at hL hok hsm hall
        have hsz : (strOfNums L).size = m := by rw [nums_size, hL]
        have hflt : fltB 2 seed 0 (strOfNums L) = true := by
          unfold fltB
          rw [if_neg (by decide), if_neg (by decide), if_pos rfl, nb_small hok hsm, hsz]
          simp only [inB, Bool.and_eq_true, decide_eq_true_eq]
          refine ⟨trivial, ⟨?_, ?_⟩, ⟨?_, ?_⟩, trivial⟩ <;> omega
        have hmay : ∀ u ∈ us, rmayB 2 seed 0 (strOfNums L) u = true := by
          intro u hu
          unfold rmayB
          rw [hflt, bytesOf_nums hok, hsz]
          simp only [decide_true, Bool.not_true, Bool.false_or, decide_eq_true_eq]
          exact hall u hu
        have loop : ∀ (d k i : Nat), i ≤ us.length → us.length - i = d → d + 1300000 < k → laws_FnRibbons.l0 k us seed i 2 seed 0 (strOfNums L) = some true := by
          intro d
          induction d with
          | zero =>
            intro k i h1 h2 hk
            obtain ⟨k, rfl⟩ : ∃ m, k = m + 1 := ⟨k - 1, by omega⟩
            rw [laws_FnRibbons.l0, if_neg (by omega), ifo _ _ _ _ k (by omega), hflt, Option.bind_some, if_pos rfl]
            simp
          | succ d ih =>
            intro k i h1 h2 hk
            obtain ⟨k, rfl⟩ : ∃ m, k = m + 1 := ⟨k - 1, by omega⟩
            obtain ⟨u, hd, hu', hmem⟩ := rds_drop us i (by omega)
            rw [laws_FnRibbons.l0, if_pos (by omega), if_pos (by omega), hu', irmay k _ _ _ _ u (by omega) (hs u hmem) (by omega), hmay u hmem, Option.bind_some, if_pos rfl, w64s (n := us.length) (by omega) (by omega)]
            exact ih k (i + 1) (by omega) (by omega) (by omega)
        exact loop us.length k 0 (by omega) (by omega) (by omega)
    · rw [if_neg g]; exact bad

end Go.Proofs.Ytfcjacncllmapaf.Pure
