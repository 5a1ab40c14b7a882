/- The program's BloomOf returns what the reference's BloomOf returns, for every list of texts and every number: no condition. -/
import Derived.Test.YtfcjacncllmapadQFnExactBloomOfy
namespace Go.Proofs.Ytfcjacncllmapad.Pure
open Go.RowKit Go.Proofs.Ytfcjacncllmapad.PFnExactBloomOf Go.Proofs.YtfcjacncllmapadW.PrintWords Go.Proofs.YtfcjacncllmapadW.PrintLast Go.Proofs.YtfcjacncllmapadW.PrintMore
set_option linter.unusedVariables false
set_option linter.unusedSimpArgs false

/-! ## section base -/
/-- an unsigned kind's number that fits is not wrapped -/
theorem wrapU (k : IntKind) (hs : k.signed = false) (n : Nat) (h : n < 2 ^ k.bits) : k.wrap (n : Int) = n := by
  unfold IntKind.wrap
  rw [Int.emod_eq_of_lt (by omega) (by exact_mod_cast h)]
  simp [hs]
/-- bits of unsigned numbers are those of natural numbers -/
theorem b_or (k : IntKind) (hs : k.signed = false) (a b : Nat) (ha : a < 2 ^ k.bits) (hb : b < 2 ^ k.bits) : Go.bits .or k a b = ((a ||| b : Nat) : Int) := by
  simp only [Go.bits, BitVec.ofInt_natCast, BitVec.toNat_or, BitVec.toNat_ofNat, Nat.mod_eq_of_lt ha, Nat.mod_eq_of_lt hb]
  exact wrapU k hs _ (Nat.or_lt_two_pow ha hb)
theorem b_xor (k : IntKind) (hs : k.signed = false) (a b : Nat) (ha : a < 2 ^ k.bits) (hb : b < 2 ^ k.bits) : Go.bits .xor k a b = ((a ^^^ b : Nat) : Int) := by
  simp only [Go.bits, BitVec.ofInt_natCast, BitVec.toNat_xor, BitVec.toNat_ofNat, Nat.mod_eq_of_lt ha, Nat.mod_eq_of_lt hb]
  exact wrapU k hs _ (Nat.xor_lt_two_pow ha hb)
theorem b_and (k : IntKind) (hs : k.signed = false) (a b : Nat) (ha : a < 2 ^ k.bits) (hb : b < 2 ^ k.bits) : Go.bits .and k a b = ((a &&& b : Nat) : Int) := by
  simp only [Go.bits, BitVec.ofInt_natCast, BitVec.toNat_and, BitVec.toNat_ofNat, Nat.mod_eq_of_lt ha, Nat.mod_eq_of_lt hb]
  exact wrapU k hs _ (Nat.and_lt_two_pow _ hb)
theorem b_or8 (a b : Nat) (ha : a < 256) (hb : b < 256) : Go.bits .or .u8 a b = ((a ||| b : Nat) : Int) := b_or .u8 rfl a b ha hb
theorem u64w (x : Int) : IntKind.u64.wrap x = x % 18446744073709551616 := by simp [IntKind.wrap, IntKind.bits, IntKind.signed]

/-! ## section bytes -/
/-- the bytes of a text, as natural numbers -/
def nb (s : ByteArray) : List Nat := s.data.toList.map UInt8.toNat
theorem nb_length (s : ByteArray) : (nb s).length = s.size := by rw [nb, List.length_map, Array.length_toList]; rfl
theorem nb_lt (s : ByteArray) : ∀ b ∈ nb s, b < 256 := by
  intro b hb
  simp only [nb, List.mem_map] at hb
  obtain ⟨u, _, rfl⟩ := hb
  exact u.toNat_lt
theorem bt_nb (s : ByteArray) (i : Nat) (h : i < s.size) : bt s i = (((nb s)[i]'(by rw [nb_length]; exact h) : Nat) : Int) := by
  simp only [bt, Int.toNat_natCast, h, nb]
  simp
  rfl
theorem nb_drop (s : ByteArray) (i : Nat) (h : i < s.size) : ∃ b, (nb s).drop i = b :: (nb s).drop (i + 1) ∧ bt s i = (b : Int) ∧ b < 256 := by
  have hl : i < (nb s).length := by rw [nb_length]; exact h
  exact ⟨(nb s)[i], List.drop_eq_getElem_cons hl, bt_nb s i h, nb_lt s _ (List.getElem_mem hl)⟩
theorem nb_end (s : ByteArray) (i : Nat) (h : s.size ≤ i) : (nb s).drop i = [] := List.drop_eq_nil_of_le (by rw [nb_length]; exact h)
theorem w64 {x : Int} (h0 : -9223372036854775808 ≤ x) (h1 : x < 9223372036854775808) : wrap64 x = x := by unfold wrap64; omega
theorem w64s {i n : Nat} (h : i < n) (hn : n ≤ 140737488351232) : wrap64 ((i : Int) + 1) = ((i + 1 : Nat) : Int) := by rw [w64] <;> omega
theorem bits_range (k : IntKind) (hs : k.signed = false) (op : BinOp) (x y : Int) : 0 ≤ Go.bits op k x y ∧ Go.bits op k x y < 2 ^ k.bits := by
  have hp : (0 : Int) < 2 ^ k.bits := by exact_mod_cast Nat.two_pow_pos k.bits
  unfold Go.bits IntKind.wrap
  simp only [hs, Bool.false_and]
  exact ⟨Int.emod_nonneg _ (by omega), Int.emod_lt_of_pos _ hp⟩

/-! ## section hash -/
theorem ish_l0 (s : ByteArray) : ∀ (k : Nat) (h : Int) (i : Int), 0 ≤ i → impl_Hash.l0 k s h s.size i = spec_Hash.l0 k s h i := by
  intro k
  induction k with
  | zero => intros; rfl
  | succ k ih =>
    intro h i h0
    rw [impl_Hash.l0, spec_Hash.l0]
    by_cases c : i < (s.size : Int)
    · rw [if_pos c, if_pos c, if_pos h0, if_pos h0, if_pos c]
      by_cases c2 : 0 ≤ wrap64 (i + 1)
      · rw [ih _ _ c2]
      · cases k with
        | zero => rfl
        | succ k =>
          rw [impl_Hash.l0, spec_Hash.l0, if_neg c2, if_neg c2]
    · rw [if_neg c, if_neg c]
theorem sh_l0 (s : ByteArray) (hs : s.size ≤ 140737488351232) : ∀ (d k i : Nat) (h : Int), i ≤ s.size → s.size - i = d → d < k → ∃ r, spec_Hash.l0 k s h i = some r ∧ 0 ≤ r ∧ r < 18446744073709551616 := by
  intro d
  induction d with
  | zero =>
    intro k i h h1 h2 hk
    obtain ⟨k, rfl⟩ : ∃ m, k = m + 1 := ⟨k - 1, by omega⟩
    rw [spec_Hash.l0, if_neg (by omega)]
    refine ⟨_, rfl, ?_⟩
    exact bits_range .u64 rfl .xor _ _
  | succ d ih =>
    intro k i h h1 h2 hk
    obtain ⟨k, rfl⟩ : ∃ m, k = m + 1 := ⟨k - 1, by omega⟩
    rw [spec_Hash.l0, if_pos (by omega), if_pos (by omega), w64s (n := s.size) (by omega) hs]
    exact ih k (i + 1) _ (by omega) (by omega) (by omega)
/-- the hash of a text, as a natural number -/
def hsh (seed : Int) (s : ByteArray) : Nat := ((spec_Hash.f (s.size + 1) seed s).getD 0).toNat
theorem shash (seed : Int) (s : ByteArray) (hs : s.size ≤ 140737488351232) (k : Nat) (hk : s.size < k) : spec_Hash.f k seed s = some (hsh seed s : Int) := by
  obtain ⟨r, hr, h0, h1⟩ := sh_l0 s hs s.size (s.size + 1) 0 (Go.bits .xor .u64 14695981039346656037 (IntKind.u64.wrap ((IntKind.u64.wrap (seed)) * 11400714819323198485))) (by omega) (by omega) (by omega)
  have e : spec_Hash.f (s.size + 1) seed s = some r := hr
  rw [hsh, e]
  simp only [Option.getD_some]
  rw [Int.toNat_of_nonneg h0]
  exact at_rounds (fun j => spec_Hash.mono seed s j) hk e
theorem hsh_lt (seed : Int) (s : ByteArray) (hs : s.size ≤ 140737488351232) : hsh seed s < 18446744073709551616 := by
  obtain ⟨r, hr, h0, h1⟩ := sh_l0 s hs s.size (s.size + 1) 0 (Go.bits .xor .u64 14695981039346656037 (IntKind.u64.wrap ((IntKind.u64.wrap (seed)) * 11400714819323198485))) (by omega) (by omega) (by omega)
  have e : spec_Hash.f (s.size + 1) seed s = some r := hr
  rw [hsh, e]
  simp only [Option.getD_some]
  omega
theorem ihash (seed : Int) (s : ByteArray) (hs : s.size ≤ 140737488351232) (k : Nat) (hk : s.size < k) : impl_Hash.f k seed s = some (hsh seed s : Int) := by
  rw [← shash seed s hs k hk]
  exact ish_l0 s k _ 0 (by omega)

/-! ## section place -/
/-- the other number of a user -/
def hG (u : ByteArray) : Nat := (Go.bits .or .u64 ((hsh 0 u : Int) / 8589934592) (IntKind.u64.wrap ((hsh 0 u : Int) * 2147483648))).toNat
theorem hG_val (u : ByteArray) : Go.bits .or .u64 ((hsh 0 u : Int) / 8589934592) (IntKind.u64.wrap ((hsh 0 u : Int) * 2147483648)) = (hG u : Int) := by
  have h := bits_range .u64 rfl .or ((hsh 0 u : Int) / 8589934592) (IntKind.u64.wrap ((hsh 0 u : Int) * 2147483648))
  unfold hG; rw [Int.toNat_of_nonneg h.1]
/-- the number of a user's bit i among m -/
def pl (u : ByteArray) (i m : Nat) : Nat := (hsh 0 u + i * hG u % 18446744073709551616) % 18446744073709551616 % m
theorem pl_lt (u : ByteArray) (i m : Nat) (h : 0 < m) : pl u i m < m := Nat.mod_lt _ h
theorem u64n (n : Nat) : IntKind.u64.wrap (n : Int) = ((n % 18446744073709551616 : Nat) : Int) := by rw [u64w]; omega
theorem pl_val (u : ByteArray) (i m : Nat) : Int.tmod (IntKind.u64.wrap ((hsh 0 u : Int) + IntKind.u64.wrap ((i : Int) * (hG u : Int)))) (m : Int) = ((pl u i m : Nat) : Int) := by
  rw [← Int.natCast_mul, u64n, ← Int.natCast_add, u64n]
  rw [Int.tmod_eq_emod_of_nonneg (by omega)]
  exact (Int.natCast_emod _ _).symm
theorem shr8 (x : Int) (b : Nat) (hb : b < 8) : shr .u8 x (b : Int) = x / 2 ^ b := by
  unfold shr
  rw [Int.toNat_natCast, Nat.min_eq_left (by show b ≤ 8; omega)]
theorem td8 (b : Nat) (h : b < 100000) : IntKind.u64.wrap (Int.tdiv (b : Int) 8) = ((b / 8 : Nat) : Int) := by
  rw [Int.tdiv_eq_ediv_of_nonneg (by omega), u64w]; omega
theorem tm8 (b : Nat) : Int.tmod (b : Int) 8 = ((b % 8 : Nat) : Int) := by
  rw [Int.tmod_eq_emod_of_nonneg (by omega)]; omega

/-! ## section probes -/
/-- the numbers of the bits of a user -/
def prb (u : ByteArray) (many m : Nat) : List Int := (List.range many).map fun i => ((pl u i m : Nat) : Int)
theorem prb_length (u : ByteArray) (many m : Nat) : (prb u many m).length = many := by simp [prb]
theorem prb_succ (u : ByteArray) (i m : Nat) : prb u (i + 1) m = prb u i m ++ [((pl u i m : Nat) : Int)] := by simp [prb, List.range_succ]
theorem iprb_l0 (u : ByteArray) (n : Nat) (hn : 1 ≤ n) (hn2 : n ≤ 10000) (many : Nat) (hm : many ≤ 100) : ∀ (d k i : Nat), i ≤ many → many - i = d → d < k → impl_probes.l0 k n (hsh 0 u) (hG u) (prb u i (8 * n)) many i = some (prb u many (8 * n)) := by
  have e8 : IntKind.u64.wrap (8 * (IntKind.u64.wrap (n : Int))) = ((8 * n : Nat) : Int) := by rw [u64w, u64w]; omega
  intro d
  induction d with
  | zero =>
    intro k i h1 h2 hk
    obtain ⟨k, rfl⟩ : ∃ m, k = m + 1 := ⟨k - 1, by omega⟩
    rw [impl_probes.l0, if_neg (by clear e8; omega), show i = many by clear e8; omega]
  | succ d ih =>
    intro k i h1 h2 hk
    obtain ⟨k, rfl⟩ : ∃ m, k = m + 1 := ⟨k - 1, by clear e8; omega⟩
    rw [impl_probes.l0, if_pos (by clear e8; omega), e8, if_neg (by clear e8; omega), prb_length, if_pos (by clear e8; omega), pl_val]
    have ei : IntKind.u64.wrap ((i : Int) + 1) = ((i + 1 : Nat) : Int) := by clear e8; rw [u64w]; omega
    rw [ei, ← prb_succ]
    clear ei
    exact ih k (i + 1) (by clear e8; omega) (by clear e8; omega) (by clear e8; omega)
theorem iprb (k : Nat) (u : ByteArray) (hu : u.size ≤ 140737488351232) (hk : u.size + 101 < k) (many n : Nat) (hm : many ≤ 100) (hn : 1 ≤ n) (hn2 : n ≤ 10000) : impl_probes.f k u (many : Int) (n : Int) = some (prb u many (8 * n)) := by
  unfold impl_probes.f
  rw [ihash 0 u hu k (by omega)]
  simp only [Option.bind_some]
  rw [hG_val]
  have e : IntKind.u64.wrap (many : Int) = (many : Int) := by rw [u64w]; omega
  rw [e]
  clear e
  exact iprb_l0 u n hn hn2 many hm many k 0 (by omega) (by omega) (by omega)
theorem rd_prb (u : ByteArray) (many m i : Nat) (h : i < many) : rd (prb u many m) (i : Int) = ((pl u i m : Nat) : Int) := by
  unfold rd
  rw [Int.toNat_natCast, List.getD_eq_getElem?_getD]
  simp [prb, h]

/-! ## section strs -/
theorem rds_drop (l : List ByteArray) (i : Nat) (h : i < l.length) : ∃ u, l.drop i = u :: l.drop (i + 1) ∧ rdOf ByteArray.empty l (i : Int) = u ∧ u ∈ l := by
  refine ⟨l[i], List.drop_eq_getElem_cons h, ?_, List.getElem_mem h⟩
  unfold rdOf
  rw [Int.toNat_natCast, List.getD_eq_getElem?_getD, List.getElem?_eq_getElem h]; rfl
/-- what is left of a purse behind a list of texts: -1 when it does not do -/
theorem szstrs_l0 (l : List ByteArray) (hs : ∀ u ∈ l, u.size ≤ 9223372036854775807) : ∀ (d k i : Nat) (left : Int), i ≤ l.length → l.length - i = d → l.length ≤ 1048576 → d < k → 0 ≤ left → left ≤ 1048576 → ∃ r, laws_szStringS.l0 k l left i = some r ∧ (0 ≤ r → ∀ u ∈ l.drop i, u.size ≤ 1048576) := by
  intro d
  induction d with
  | zero =>
    intro k i left h1 h2 hl hk h0 hle
    obtain ⟨k, rfl⟩ : ∃ m, k = m + 1 := ⟨k - 1, by omega⟩
    rw [laws_szStringS.l0, if_neg (by omega)]
    refine ⟨_, rfl, fun _ => ?_⟩
    rw [List.drop_eq_nil_of_le (by omega)]; simp
  | succ d ih =>
    intro k i left h1 h2 hl hk h0 hle
    obtain ⟨k, rfl⟩ : ∃ m, k = m + 1 := ⟨k - 1, by omega⟩
    obtain ⟨u, hd, hu, hm⟩ := rds_drop l i (by omega)
    have hsz := hs u hm
    have e : wrap64 (left - (u.size : Int)) = left - u.size := by unfold wrap64; omega
    rw [laws_szStringS.l0, if_pos (by omega), if_pos (by omega), hu, e]
    by_cases c : left - (u.size : Int) < 0
    · rw [if_pos c]; exact ⟨_, rfl, fun h => by omega⟩
    · rw [if_neg c, w64s (n := l.length) (by omega) (by omega)]
      obtain ⟨r, hr, hb⟩ := ih k (i + 1) (left - u.size) (by omega) (by omega) hl (by omega) (by omega) (by omega)
      refine ⟨r, hr, fun h x hx => ?_⟩
      rw [hd] at hx
      rcases List.mem_cons.1 hx with rfl | hx
      · omega
      · exact hb h x hx
theorem szstrs (l : List ByteArray) (hl : l.length ≤ 9223372036854775807) (hs : ∀ u ∈ l, u.size ≤ 9223372036854775807) (k : Nat) (hk : 1048577 ≤ k) : ∃ r, laws_szStringS.f k l 1048576 = some r ∧ (¬ r < 0 → l.length ≤ 1048576 ∧ ∀ u ∈ l, u.size ≤ 1048576) := by
  unfold laws_szStringS.f
  have e : wrap64 (1048576 - (l.length : Int)) = 1048576 - l.length := by unfold wrap64; omega
  rw [e]
  by_cases c : 1048576 - (l.length : Int) < 0
  · rw [if_pos c]; exact ⟨_, rfl, fun h => absurd (by decide) h⟩
  · rw [if_neg c]
    obtain ⟨r, hr, hb⟩ := szstrs_l0 l hs l.length k 0 (1048576 - l.length) (by omega) (by omega) (by omega) (by omega) (by omega) (by omega)
    refine ⟨r, hr, fun h => ⟨by omega, fun u hu => ?_⟩⟩
    exact hb (by omega) u (by simpa using hu)
theorem tostrs_l0 (l : List ByteArray) (hl : l.length ≤ 1048576) : ∀ (d k i : Nat) (acc : List ByteArray), i ≤ l.length → l.length - i = d → d < k → acc.length = l.length → acc.take i = l.take i → laws_toStringS.l0 k l acc i = some l := by
  intro d
  induction d with
  | zero =>
    intro k i acc h1 h2 hk ha ht
    obtain ⟨k, rfl⟩ : ∃ m, k = m + 1 := ⟨k - 1, by omega⟩
    rw [laws_toStringS.l0, if_neg (by omega)]
    rw [List.take_of_length_le (by omega), List.take_of_length_le (by omega)] at ht
    rw [ht]
  | succ d ih =>
    intro k i acc h1 h2 hk ha ht
    obtain ⟨k, rfl⟩ : ∃ m, k = m + 1 := ⟨k - 1, by omega⟩
    obtain ⟨u, hd, hu, hm⟩ := rds_drop l i (by omega)
    rw [laws_toStringS.l0, if_pos (by omega), if_pos (by omega), if_pos (by omega), hu, Int.toNat_natCast, w64s (n := l.length) (by omega) (by omega)]
    refine ih k (i + 1) _ (by omega) (by omega) (by omega) (by simpa using ha) ?_
    have hlt : i < acc.length := by omega
    have hlt2 : i < l.length := by omega
    have eu : l[i] = u := by
      have := List.drop_eq_getElem_cons hlt2
      rw [hd] at this
      exact (List.cons.inj this).1.symm
    rw [List.take_succ_eq_append_getElem (by simpa using hlt), List.take_succ_eq_append_getElem hlt2, List.take_set_of_le (by omega), ht, List.getElem_set_self, eu]
theorem tostrs (l : List ByteArray) (hl : l.length ≤ 1048576) (k : Nat) (hk : l.length < k) : laws_toStringS.f k l = some l := by
  unfold laws_toStringS.f
  rw [if_pos (by omega), if_pos (by omega)]
  exact tostrs_l0 l hl l.length k 0 _ (by omega) (by omega) hk (by simp) (by simp)
theorem eqstrs_l0 (l : List ByteArray) (hl : l.length ≤ 1048576) : ∀ (d k i : Nat), i ≤ l.length → l.length - i = d → d < k → laws_eqStringS.l0 k l l i = some true := by
  intro d
  induction d with
  | zero =>
    intro k i h1 h2 hk
    obtain ⟨k, rfl⟩ : ∃ m, k = m + 1 := ⟨k - 1, by omega⟩
    rw [laws_eqStringS.l0, if_neg (by omega)]
  | succ d ih =>
    intro k i h1 h2 hk
    obtain ⟨k, rfl⟩ : ∃ m, k = m + 1 := ⟨k - 1, by omega⟩
    rw [laws_eqStringS.l0, if_pos (by omega), if_pos (by omega), if_pos (by omega), if_pos rfl, w64s (n := l.length) (by omega) (by omega)]
    exact ih k (i + 1) (by omega) (by omega) (by omega)
theorem eqstrs (l : List ByteArray) (hl : l.length ≤ 1048576) (k : Nat) (hk : l.length < k) : laws_eqStringS.f k l l = some true := by
  unfold laws_eqStringS.f
  rw [if_pos rfl]
  exact eqstrs_l0 l hl l.length k 0 (by omega) (by omega) hk

/-! ## section isuser -/
def userB (s : ByteArray) : Bool := decide (1 ≤ s.size ∧ s.size ≤ 40)
theorem iuser (s : ByteArray) : impl_isUser.f s = some (userB s) := by
  unfold impl_isUser.f userB
  split
  · congr 1; rw [decide_eq_decide]; omega
  · congr 1; symm; rw [decide_eq_false_iff_not]; omega
theorem suser (s : ByteArray) : spec_l2User.f s = some (userB s) := by
  unfold spec_l2User.f userB
  split
  · congr 1; rw [decide_eq_decide]; omega
  · congr 1; symm; rw [decide_eq_false_iff_not]; omega

/-! ## section usersok -/
/-- users are right: at most 400, each of 1 to 40 bytes -/
def usersB (l : List ByteArray) : Bool := decide (l.length ≤ 400) && l.all userB
theorem iuo_l0 (l : List ByteArray) (hl : l.length ≤ 1048576) : ∀ (d k i : Nat), i ≤ l.length → l.length - i = d → d < k → impl_UsersOk.l0 k l l.length i = some ((l.drop i).all userB) := by
  intro d
  induction d with
  | zero =>
    intro k i h1 h2 hk
    obtain ⟨k, rfl⟩ : ∃ m, k = m + 1 := ⟨k - 1, by omega⟩
    rw [impl_UsersOk.l0, if_neg (by omega), List.drop_eq_nil_of_le (by omega)]; rfl
  | succ d ih =>
    intro k i h1 h2 hk
    obtain ⟨k, rfl⟩ : ∃ m, k = m + 1 := ⟨k - 1, by omega⟩
    obtain ⟨u, hd, hu, hm⟩ := rds_drop l i (by omega)
    rw [impl_UsersOk.l0, if_pos (by omega), if_pos (by omega), if_pos (by omega), hu, iuser, hd]
    simp only [Option.bind_some, List.all_cons]
    cases userB u
    · rfl
    · rw [if_pos rfl, w64s (n := l.length) (by omega) (by omega), ih k (i + 1) (by omega) (by omega) (by omega)]; rfl
theorem iuo (l : List ByteArray) (hl : l.length ≤ 1048576) (k : Nat) (hk : l.length < k) : impl_UsersOk.f k l = some (usersB l) := by
  unfold impl_UsersOk.f usersB
  by_cases c : l.length ≤ 400
  · rw [if_neg (by omega)]
    have h := iuo_l0 l hl l.length k 0 (by omega) (by omega) hk
    simpa [c] using h
  · rw [if_pos (by omega)]; simp [c]
theorem suo_l0 (l : List ByteArray) (hl : l.length ≤ 1048576) : ∀ (d k i : Nat), i ≤ l.length → l.length - i = d → d < k → spec_UsersOk.l0 k l i = some ((l.drop i).all userB) := by
  intro d
  induction d with
  | zero =>
    intro k i h1 h2 hk
    obtain ⟨k, rfl⟩ : ∃ m, k = m + 1 := ⟨k - 1, by omega⟩
    rw [spec_UsersOk.l0, if_neg (by omega), List.drop_eq_nil_of_le (by omega)]; rfl
  | succ d ih =>
    intro k i h1 h2 hk
    obtain ⟨k, rfl⟩ : ∃ m, k = m + 1 := ⟨k - 1, by omega⟩
    obtain ⟨u, hd, hu, hm⟩ := rds_drop l i (by omega)
    rw [spec_UsersOk.l0, if_pos (by omega), if_pos (by omega), hu, suser, hd]
    simp only [Option.bind_some, List.all_cons]
    cases userB u
    · rfl
    · rw [if_pos rfl, w64s (n := l.length) (by omega) (by omega), ih k (i + 1) (by omega) (by omega) (by omega)]; rfl
theorem suo (l : List ByteArray) (hl : l.length ≤ 1048576) (k : Nat) (hk : l.length < k) : spec_UsersOk.f k l = some (usersB l) := by
  unfold spec_UsersOk.f usersB
  by_cases c : l.length ≤ 400
  · rw [if_neg (by omega)]
    have h := suo_l0 l hl l.length k 0 (by omega) (by omega) hk
    simpa [c] using h
  · rw [if_pos (by omega)]; simp [c]

/-! ## section within -/
def inB (n lo hi : Int) : Bool := decide (lo ≤ n ∧ n ≤ hi)
theorem iwithin (n lo hi : Int) : impl_within.f n lo hi = some (inB n lo hi) := by
  unfold impl_within.f inB
  split
  · congr 1; rw [decide_eq_decide]; omega
  · congr 1; symm; rw [decide_eq_false_iff_not]; omega
theorem swithin (n lo hi : Int) : spec_l1In.f n lo hi = some (inB n lo hi) := by
  unfold spec_l1In.f inB
  split
  · congr 1; rw [decide_eq_decide]; omega
  · congr 1; symm; rw [decide_eq_false_iff_not]; omega

/-! ## section bloomof -/
/-- one bit set in a list of bytes -/
def setB (l : List Int) (b : Nat) : List Int := l.set (b / 8) (Go.bits .or .u8 (rd l ((b / 8 : Nat) : Int)) (shl .u8 1 ((b % 8 : Nat) : Int)))
theorem setB_length (l : List Int) (b : Nat) : (setB l b).length = l.length := by simp [setB]
/-- the last d of a user's 'many' bits set -/
def addU (u : ByteArray) (many : Nat) : Nat → List Int → List Int
  | 0, l => l
  | d + 1, l => addU u many d (setB l (pl u (many - (d + 1)) (8 * l.length)))
theorem addU_length (u : ByteArray) (many : Nat) : ∀ (d : Nat) (l : List Int), (addU u many d l).length = l.length
  | 0, l => rfl
  | d + 1, l => by rw [addU, addU_length u many d, setB_length]
def addUs (many : Nat) : List ByteArray → List Int → List Int
  | [], l => l
  | u :: us, l => addUs many us (addU u many many l)
theorem addUs_length (many : Nat) : ∀ (us : List ByteArray) (l : List Int), (addUs many us l).length = l.length
  | [], l => rfl
  | u :: us, l => by rw [addUs, addUs_length many us, addU_length]
/-- how many bytes, how many bits for each user -/
def bfN (n per : Nat) : Nat := (max 64 (n * per) + 7) / 8
def bfP (per : Nat) : Nat := min (max 1 (per * 69 / 100)) 30
theorem bfN_bound (n per : Nat) (hn : n ≤ 400) (hp : per ≤ 20) : 8 ≤ bfN n per ∧ bfN n per ≤ 1000 := by
  have : n * per ≤ 400 * 20 := Nat.mul_le_mul hn hp
  unfold bfN; omega
theorem bfP_bound (per : Nat) : 1 ≤ bfP per ∧ bfP per ≤ 30 := by unfold bfP; omega
theorem mx64 (n per : Nat) (hn : n ≤ 400) (hp : per ≤ 20) : wrap64 (Int.tdiv (wrap64 ((mx 64 (wrap64 (((n * per : Nat) : Int)))) + 7)) 8) = ((bfN n per : Nat) : Int) := by
  have hb : n * per ≤ 400 * 20 := Nat.mul_le_mul hn hp
  unfold bfN
  generalize n * per = x at *
  have e1 : wrap64 (x : Int) = (x : Int) := by unfold wrap64; omega
  rw [e1]
  clear e1
  have e2 : mx 64 (x : Int) = ((max 64 x : Nat) : Int) := by unfold mx; split <;> omega
  rw [e2]
  clear e2
  have e3 : wrap64 (((max 64 x : Nat) : Int) + 7) = ((max 64 x + 7 : Nat) : Int) := by unfold wrap64; omega
  rw [e3]
  clear e3
  have e4 : Int.tdiv ((max 64 x + 7 : Nat) : Int) 8 = (((max 64 x + 7) / 8 : Nat) : Int) := by rw [Int.tdiv_eq_ediv_of_nonneg (by omega)]; omega
  rw [e4]
  clear e4
  unfold wrap64; omega
theorem pr_i (per : Nat) (hp : per ≤ 20) : mn (mx (wrap64 (Int.tdiv (wrap64 (69 * (per : Int))) 100)) 1) 30 = ((bfP per : Nat) : Int) := by
  have e1 : wrap64 (69 * (per : Int)) = ((per * 69 : Nat) : Int) := by unfold wrap64; omega
  rw [e1]; clear e1
  have e2 : Int.tdiv ((per * 69 : Nat) : Int) 100 = ((per * 69 / 100 : Nat) : Int) := by rw [Int.tdiv_eq_ediv_of_nonneg (by omega)]; omega
  rw [e2]; clear e2
  have e3 : wrap64 ((per * 69 / 100 : Nat) : Int) = ((per * 69 / 100 : Nat) : Int) := by unfold wrap64; omega
  rw [e3]; clear e3
  unfold bfP mn mx
  repeat' split
  all_goals omega
theorem ibo_l1 (users : List ByteArray) (nu q1 q2 : Int) (bs : ByteArray) (w : Nat) (many : Nat) (hm : many ≤ 100) (u : ByteArray) (L : Nat) (hL : 1 ≤ L) (hL2 : L ≤ 1000) : ∀ (d k i : Nat) (l : List Int), l.length = L → i ≤ many → many - i = d → d < k → impl_BloomOf.l1 k l users nu w (prb u many (8 * L)) many i q1 q2 many bs = impl_BloomOf.l0 (k - (d + 1)) (addU u many d l) users nu (wrap64 ((w : Int) + 1)) q1 q2 many bs := by
  intro d
  induction d with
  | zero =>
    intro k i l hl g1 g2 hk
    obtain ⟨k, rfl⟩ : ∃ m, k = m + 1 := ⟨k - 1, by omega⟩
    rw [impl_BloomOf.l1, if_neg (by omega)]; rfl
  | succ d ih =>
    intro k i l hl g1 g2 hk
    obtain ⟨k, rfl⟩ : ∃ m, k = m + 1 := ⟨k - 1, by omega⟩
    have hp := pl_lt u i (8 * L) (by omega)
    have hi : many - (d + 1) = i := by omega
    rw [impl_BloomOf.l1, if_pos (by omega), if_pos (by omega), prb_length, if_pos (by omega), rd_prb _ _ _ _ (by omega)]
    rw [addU, hi, hl]
    generalize hpl : pl u i (8 * L) = p at hp
    rw [td8 p (by omega), tm8, if_pos (by omega), if_pos (by omega), if_pos (by omega), w64s (n := many) (by omega) (by omega), Int.toNat_natCast]
    have hs : (setB l p).length = L := by rw [setB_length, hl]
    have h := ih k (i + 1) (setB l p) hs (by omega) (by omega) (by omega)
    rw [show k + 1 - (d + 1 + 1) = k - (d + 1) by omega]
    exact h
theorem ibo_l0 (users : List ByteArray) (hu : users.length ≤ 400) (hs : ∀ u ∈ users, u.size ≤ 1048576) (q1 q2 : Int) (bs : ByteArray) (many : Nat) (hm : many ≤ 100) (L : Nat) (hL : 1 ≤ L) (hL2 : L ≤ 1000) : ∀ (d k i : Nat) (l : List Int), l.length = L → i ≤ users.length → users.length - i = d → 200 * d + 1048800 < k → impl_BloomOf.l0 k l users users.length i q1 q2 many bs = some (q1, q2, (many : Int), strOfNums (addUs many (users.drop i) l), true) := by
  intro d
  induction d with
  | zero =>
    intro k i l hl g1 g2 hk
    obtain ⟨k, rfl⟩ : ∃ m, k = m + 1 := ⟨k - 1, by omega⟩
    rw [impl_BloomOf.l0, if_neg (by omega), List.drop_eq_nil_of_le (by omega)]; rfl
  | succ d ih =>
    intro k i l hl g1 g2 hk
    obtain ⟨k, rfl⟩ : ∃ m, k = m + 1 := ⟨k - 1, by omega⟩
    obtain ⟨u, hd, hu', hmem⟩ := rds_drop users i (by omega)
    have hsu := hs u hmem
    rw [impl_BloomOf.l0, if_pos (by omega), if_pos (by omega), if_pos (by omega), hu', hl, iprb k u (by omega) (by omega) many L hm hL (by omega)]
    simp only [Option.bind_some]
    rw [prb_length]
    have h1 := ibo_l1 users users.length q1 q2 bs i many hm u L hL hL2 many k 0 l hl (by omega) (by omega) (by omega)
    rw [show ((0 : Nat) : Int) = 0 from rfl] at h1
    rw [h1, w64s (n := users.length) (by omega) (by omega), hd, addUs]
    exact ih (k - (many + 1)) (i + 1) (addU u many many l) (by rw [addU_length, hl]) (by omega) (by omega) (by omega)
/-- what BloomOf makes -/
def boR (users : List ByteArray) (per : Int) : Int × Int × Int × ByteArray × Bool :=
  if usersB users = true ∧ inB per 1 20 = true then (1, 0, ((bfP per.toNat : Nat) : Int), strOfNums (addUs (bfP per.toNat) users (List.replicate (bfN users.length per.toNat) 0)), true) else (0, 0, 0, (⟨#[]⟩ : ByteArray), false)
theorem ibo (k : Nat) (users : List ByteArray) (hl : users.length ≤ 1048576) (hs : ∀ u ∈ users, u.size ≤ 1048576) (per : Int) (hk : 1200000 < k) : impl_BloomOf.f k users per = some (boR users per) := by
  obtain ⟨k, rfl⟩ : ∃ m, k = m + 1 := ⟨k - 1, by omega⟩
  have jt : impl_BloomOf.j0 (k + 1) users per true = some (0, 0, 0, (⟨#[]⟩ : ByteArray), false) := by rw [impl_BloomOf.j0, if_pos rfl]
  unfold impl_BloomOf.f boR
  rw [iuo users hl _ (by omega), iwithin]
  simp only [Option.bind_some]
  by_cases g : usersB users = true
  · have h400 : users.length ≤ 400 := by simp only [usersB, Bool.and_eq_true, decide_eq_true_eq] at g; exact g.1
    by_cases hp : inB per 1 20 = true
    · have hp' : 1 ≤ per ∧ per ≤ 20 := by simpa [inB] using hp
      obtain ⟨n, rfl⟩ := Int.eq_ofNat_of_zero_le (show 0 ≤ per by omega)
      have hb := bfN_bound users.length n h400 (by omega)
      have hq := bfP_bound n
      rw [if_pos g, if_pos ⟨g, hp⟩, hp, impl_BloomOf.j0, if_neg (by decide)]
      rw [show ((n : Int) * (users.length : Int)) = ((users.length * n : Nat) : Int) by push_cast; exact Int.mul_comm _ _]
      rw [mx64 users.length n h400 (by omega), if_pos (by omega), if_pos (by omega), pr_i n (by omega), Int.toNat_natCast, Int.toNat_natCast]
      have h := ibo_l0 users h400 hs 1 0 (⟨#[]⟩ : ByteArray) (bfP n) (by omega) (bfN users.length n) (by omega) (by omega) users.length k 0 (List.replicate (bfN users.length n) 0) (by simp) (by omega) (by omega) (by omega)
      simpa using h
    · have hp' : inB per 1 20 = false := by simpa using hp
      rw [if_pos g, if_neg (fun h => hp h.2), hp', Bool.not_false, jt]
  · rw [if_neg g, if_neg (fun h => g h.1), jt]

/-! ## section placespec -/
theorem spl (k : Nat) (u : ByteArray) (hu : u.size ≤ 140737488351232) (hk : u.size < k) (i m : Nat) (hi : i ≤ 100) (hm : 0 < m) : spec_l3Place.f k u (i : Int) (m : Int) = some ((pl u i m : Nat) : Int) := by
  unfold spec_l3Place.f
  rw [shash 0 u hu k hk]
  simp only [Option.bind_some]
  rw [if_neg (by omega), hG_val]
  have e : IntKind.u64.wrap (i : Int) = (i : Int) := by rw [u64w]; omega
  rw [e, pl_val]

/-! ## section bloomofspec -/
theorem pr_s (per : Nat) (hp : per ≤ 20) : mn (mx 1 (wrap64 (Int.tdiv (wrap64 ((per : Int) * 69)) 100))) 30 = ((bfP per : Nat) : Int) := by
  have e1 : wrap64 ((per : Int) * 69) = ((per * 69 : Nat) : Int) := by unfold wrap64; omega
  rw [e1]; clear e1
  have e2 : Int.tdiv ((per * 69 : Nat) : Int) 100 = ((per * 69 / 100 : Nat) : Int) := by rw [Int.tdiv_eq_ediv_of_nonneg (by omega)]; omega
  rw [e2]; clear e2
  have e3 : wrap64 ((per * 69 / 100 : Nat) : Int) = ((per * 69 / 100 : Nat) : Int) := by unfold wrap64; omega
  rw [e3]; clear e3
  unfold bfP mn mx
  repeat' split
  all_goals omega
theorem sbo_l1 (users : List ByteArray) (hus : users.length ≤ 400) (w : Nat) (hw : w < users.length) (u : ByteArray) (hu : rdOf ByteArray.empty users (w : Int) = u) (hsu : u.size ≤ 1048576) (many : Nat) (hm : many ≤ 100) (L : Nat) (hL : 1 ≤ L) (hL2 : L ≤ 1000) : ∀ (d k i : Nat) (l : List Int), l.length = L → i ≤ many → many - i = d → d + 1048600 < k → spec_BloomOf.l1 k users L many l w i = spec_BloomOf.l0 (k - (d + 1)) users L many (addU u many d l) (wrap64 ((w : Int) + 1)) := by
  intro d
  induction d with
  | zero =>
    intro k i l hl g1 g2 hk
    obtain ⟨k, rfl⟩ : ∃ m, k = m + 1 := ⟨k - 1, by omega⟩
    rw [spec_BloomOf.l1, if_neg (by omega)]; rfl
  | succ d ih =>
    intro k i l hl g1 g2 hk
    obtain ⟨k, rfl⟩ : ∃ m, k = m + 1 := ⟨k - 1, by omega⟩
    have hp := pl_lt u i (8 * L) (by omega)
    have hi : many - (d + 1) = i := by omega
    have e8 : IntKind.u64.wrap (wrap64 (8 * (L : Int))) = ((8 * L : Nat) : Int) := by
      have : wrap64 (8 * (L : Int)) = ((8 * L : Nat) : Int) := by unfold wrap64; omega
      rw [this, u64w]; omega
    rw [spec_BloomOf.l1, if_pos (by clear e8; omega), if_pos (by clear e8; omega), if_pos (by clear e8; omega), e8, hu, spl k u (by clear e8; omega) (by clear e8; omega) i _ (by clear e8; omega) (by clear e8; omega)]
    clear e8
    simp only [Option.bind_some]
    rw [addU, hi, hl]
    generalize hpl : pl u i (8 * L) = p at hp
    rw [td8 p (by omega), tm8, if_pos (by omega), if_pos (by omega), if_pos (by omega), w64s (n := many) (by omega) (by omega), Int.toNat_natCast]
    have hs : (setB l p).length = L := by rw [setB_length, hl]
    have h := ih k (i + 1) (setB l p) hs (by omega) (by omega) (by omega)
    rw [show k + 1 - (d + 1 + 1) = k - (d + 1) by omega]
    exact h
theorem sbo_l0 (users : List ByteArray) (hu : users.length ≤ 400) (hs : ∀ u ∈ users, u.size ≤ 1048576) (many : Nat) (hm : many ≤ 100) (L : Nat) (hL : 1 ≤ L) (hL2 : L ≤ 1000) : ∀ (d k i : Nat) (l : List Int), l.length = L → i ≤ users.length → users.length - i = d → 200 * d + 1048800 < k → spec_BloomOf.l0 k users L many l i = some (1, 0, (many : Int), strOfNums (addUs many (users.drop i) l), true) := by
  intro d
  induction d with
  | zero =>
    intro k i l hl g1 g2 hk
    obtain ⟨k, rfl⟩ : ∃ m, k = m + 1 := ⟨k - 1, by omega⟩
    rw [spec_BloomOf.l0, if_neg (by omega), List.drop_eq_nil_of_le (by omega)]; rfl
  | succ d ih =>
    intro k i l hl g1 g2 hk
    obtain ⟨k, rfl⟩ : ∃ m, k = m + 1 := ⟨k - 1, by omega⟩
    obtain ⟨u, hd, hu', hmem⟩ := rds_drop users i (by omega)
    have hsu := hs u hmem
    have h1 := sbo_l1 users hu i (by omega) u hu' hsu many hm L hL hL2 many k 0 l hl (by omega) (by omega) (by omega)
    rw [spec_BloomOf.l0, if_pos (by omega), show (0 : Int) = ((0 : Nat) : Int) from rfl, h1, w64s (n := users.length) (by omega) (by omega), hd, addUs]
    exact ih (k - (many + 1)) (i + 1) (addU u many many l) (by rw [addU_length, hl]) (by omega) (by omega) (by omega)
theorem sbo (k : Nat) (users : List ByteArray) (hl : users.length ≤ 1048576) (hs : ∀ u ∈ users, u.size ≤ 1048576) (per : Int) (hk : 1200000 < k) : spec_BloomOf.f k users per = some (boR users per) := by
  obtain ⟨k, rfl⟩ : ∃ m, k = m + 1 := ⟨k - 1, by omega⟩
  have jt : spec_BloomOf.j0 (k + 1) users per true = some (0, 0, 0, (⟨#[]⟩ : ByteArray), false) := by rw [spec_BloomOf.j0, if_pos rfl]
  unfold spec_BloomOf.f boR
  rw [suo users hl _ (by omega), swithin]
  simp only [Option.bind_some]
  by_cases g : usersB users = true
  · have h400 : users.length ≤ 400 := by simp only [usersB, Bool.and_eq_true, decide_eq_true_eq] at g; exact g.1
    by_cases hp : inB per 1 20 = true
    · have hp' : 1 ≤ per ∧ per ≤ 20 := by simpa [inB] using hp
      obtain ⟨n, rfl⟩ := Int.eq_ofNat_of_zero_le (show 0 ≤ per by omega)
      have hb := bfN_bound users.length n h400 (by omega)
      have hq := bfP_bound n
      rw [if_pos g, if_pos ⟨g, hp⟩, hp, spec_BloomOf.j0, if_neg (by decide)]
      rw [← Int.natCast_mul users.length n]
      rw [mx64 users.length n h400 (by omega), if_pos (by omega), if_pos (by omega), pr_s n (by omega), Int.toNat_natCast, Int.toNat_natCast]
      have h := sbo_l0 users h400 hs (bfP n) (by omega) (bfN users.length n) (by omega) (by omega) users.length k 0 (List.replicate (bfN users.length n) 0) (by simp) (by omega) (by omega) (by omega)
      simpa using h
    · have hp' : inB per 1 20 = false := by simpa using hp
      rw [if_pos g, if_neg (fun h => hp h.2), hp', Bool.not_false, jt]
  · rw [if_neg g, if_neg (fun h => g h.1), jt]

theorem FnExactBloomOf : laws_FnExactBloomOf.Pure := by
  intro l per ⟨hl, hs⟩ _
  refine ⟨1300000, ?_⟩
  unfold laws_FnExactBloomOf.f
  obtain ⟨r, hr, hb⟩ := szstrs l hl hs 1300000 (by omega)
  rw [hr]
  simp only [Option.bind_some]
  by_cases c : r < 0
  · rw [if_pos c]
  · obtain ⟨h1, h2⟩ := hb c
    rw [if_neg c, tostrs l h1 _ (by omega)]
    simp only [Option.bind_some]
    rw [sbo _ l h1 h2 per (by omega), ibo _ l h1 h2 per (by omega)]
    simp only [Option.bind_some]
    have e : ∀ a b c s, laws_eqFilter.f a b c s a b c s = some true := fun a b c s => by simp [laws_eqFilter.f]
    rw [e]
    simp only [Option.bind_some]
    rw [if_pos trivial, laws_FnExactBloomOf.j0, if_neg (by simp), tostrs l h1 _ (by omega)]
    simp only [Option.bind_some]
    rw [eqstrs l h1 _ (by omega)]
    rfl

end Go.Proofs.Ytfcjacncllmapad.Pure
