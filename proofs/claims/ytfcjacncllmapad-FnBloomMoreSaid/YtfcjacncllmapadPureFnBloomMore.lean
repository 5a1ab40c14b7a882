/- With more users a filter of as many bits says no less often that one may be there: at every code. No condition. -/
import Derived.Test.YtfcjacncllmapadQFnBloomMorex
namespace Go.Proofs.Ytfcjacncllmapad.Pure
open Go.RowKit Go.Proofs.Ytfcjacncllmapad.QFnBloomMore Go.Proofs.YtfcjacncllmapadW.PrintWords Go.Proofs.YtfcjacncllmapadW.PrintLast Go.Proofs.YtfcjacncllmapadW.PrintMore
set_option linter.unusedVariables false
set_option linter.unusedSimpArgs false

/-! ## section base -/
/-- an unsigned kind's number that fits is not wrapped -/
theorem wrapU (k : IntKind) (hs : k.signed = false) (n : Nat) (h : n < 2 ^ k.bits) : k.wrap (n : Int) = n := by
  unfold IntKind.wrap
  rw [Int.emod_eq_of_lt (by omega) (by exact_mod_cast h)]
  simp [hs]
/-- bits of unsigned numbers are those of natural numbers -/
theorem b_or (k : IntKind) (hs : k.signed = false) (a b : Nat) (ha : a < 2 ^ k.bits) (hb : b < 2 ^ k.bits) : Go.bits .or k a b = ((a ||| b : Nat) : Int) := by
  simp only [Go.bits, BitVec.ofInt_natCast, BitVec.toNat_or, BitVec.toNat_ofNat, Nat.mod_eq_of_lt ha, Nat.mod_eq_of_lt hb]
  exact wrapU k hs _ (Nat.or_lt_two_pow ha hb)
theorem b_xor (k : IntKind) (hs : k.signed = false) (a b : Nat) (ha : a < 2 ^ k.bits) (hb : b < 2 ^ k.bits) : Go.bits .xor k a b = ((a ^^^ b : Nat) : Int) := by
  simp only [Go.bits, BitVec.ofInt_natCast, BitVec.toNat_xor, BitVec.toNat_ofNat, Nat.mod_eq_of_lt ha, Nat.mod_eq_of_lt hb]
  exact wrapU k hs _ (Nat.xor_lt_two_pow ha hb)
theorem b_and (k : IntKind) (hs : k.signed = false) (a b : Nat) (ha : a < 2 ^ k.bits) (hb : b < 2 ^ k.bits) : Go.bits .and k a b = ((a &&& b : Nat) : Int) := by
  simp only [Go.bits, BitVec.ofInt_natCast, BitVec.toNat_and, BitVec.toNat_ofNat, Nat.mod_eq_of_lt ha, Nat.mod_eq_of_lt hb]
  exact wrapU k hs _ (Nat.and_lt_two_pow _ hb)
theorem b_or8 (a b : Nat) (ha : a < 256) (hb : b < 256) : Go.bits .or .u8 a b = ((a ||| b : Nat) : Int) := b_or .u8 rfl a b ha hb
theorem u64w (x : Int) : IntKind.u64.wrap x = x % 18446744073709551616 := by simp [IntKind.wrap, IntKind.bits, IntKind.signed]

/-! ## section bytes -/
/-- the bytes of a text, as natural numbers -/
def nb (s : ByteArray) : List Nat := s.data.toList.map UInt8.toNat
theorem nb_length (s : ByteArray) : (nb s).length = s.size := by rw [nb, List.length_map, Array.length_toList]; rfl
theorem nb_lt (s : ByteArray) : ∀ b ∈ nb s, b < 256 := by
  intro b hb
  simp only [nb, List.mem_map] at hb
  obtain ⟨u, _, rfl⟩ := hb
  exact u.toNat_lt
theorem bt_nb (s : ByteArray) (i : Nat) (h : i < s.size) : bt s i = (((nb s)[i]'(by rw [nb_length]; exact h) : Nat) : Int) := by
  simp only [bt, Int.toNat_natCast, h, nb]
  simp
  rfl
theorem nb_drop (s : ByteArray) (i : Nat) (h : i < s.size) : ∃ b, (nb s).drop i = b :: (nb s).drop (i + 1) ∧ bt s i = (b : Int) ∧ b < 256 := by
  have hl : i < (nb s).length := by rw [nb_length]; exact h
  exact ⟨(nb s)[i], List.drop_eq_getElem_cons hl, bt_nb s i h, nb_lt s _ (List.getElem_mem hl)⟩
theorem nb_end (s : ByteArray) (i : Nat) (h : s.size ≤ i) : (nb s).drop i = [] := List.drop_eq_nil_of_le (by rw [nb_length]; exact h)
theorem w64 {x : Int} (h0 : -9223372036854775808 ≤ x) (h1 : x < 9223372036854775808) : wrap64 x = x := by unfold wrap64; omega
theorem w64s {i n : Nat} (h : i < n) (hn : n ≤ 140737488351232) : wrap64 ((i : Int) + 1) = ((i + 1 : Nat) : Int) := by rw [w64] <;> omega
theorem bits_range (k : IntKind) (hs : k.signed = false) (op : BinOp) (x y : Int) : 0 ≤ Go.bits op k x y ∧ Go.bits op k x y < 2 ^ k.bits := by
  have hp : (0 : Int) < 2 ^ k.bits := by exact_mod_cast Nat.two_pow_pos k.bits
  unfold Go.bits IntKind.wrap
  simp only [hs, Bool.false_and]
  exact ⟨Int.emod_nonneg _ (by omega), Int.emod_lt_of_pos _ hp⟩

/-! ## section hash -/
theorem ish_l0 (s : ByteArray) : ∀ (k : Nat) (h : Int) (i : Int), 0 ≤ i → impl_Hash.l0 k s h s.size i = spec_Hash.l0 k s h i := by
  intro k
  induction k with
  | zero => intros; rfl
  | succ k ih =>
    intro h i h0
    rw [impl_Hash.l0, spec_Hash.l0]
    by_cases c : i < (s.size : Int)
    · rw [if_pos c, if_pos c, if_pos h0, if_pos h0, if_pos c]
      by_cases c2 : 0 ≤ wrap64 (i + 1)
      · rw [ih _ _ c2]
      · cases k with
        | zero => rfl
        | succ k =>
          rw [impl_Hash.l0, spec_Hash.l0, if_neg c2, if_neg c2]
    · rw [if_neg c, if_neg c]
theorem sh_l0 (s : ByteArray) (hs : s.size ≤ 140737488351232) : ∀ (d k i : Nat) (h : Int), i ≤ s.size → s.size - i = d → d < k → ∃ r, spec_Hash.l0 k s h i = some r ∧ 0 ≤ r ∧ r < 18446744073709551616 := by
  intro d
  induction d with
  | zero =>
    intro k i h h1 h2 hk
    obtain ⟨k, rfl⟩ : ∃ m, k = m + 1 := ⟨k - 1, by omega⟩
    rw [spec_Hash.l0, if_neg (by omega)]
    refine ⟨_, rfl, ?_⟩
    exact bits_range .u64 rfl .xor _ _
  | succ d ih =>
    intro k i h h1 h2 hk
    obtain ⟨k, rfl⟩ : ∃ m, k = m + 1 := ⟨k - 1, by omega⟩
    rw [spec_Hash.l0, if_pos (by omega), if_pos (by omega), w64s (n := s.size) (by omega) hs]
    exact ih k (i + 1) _ (by omega) (by omega) (by omega)
/-- the hash of a text, as a natural number -/
def hsh (seed : Int) (s : ByteArray) : Nat := ((spec_Hash.f (s.size + 1) seed s).getD 0).toNat
theorem shash (seed : Int) (s : ByteArray) (hs : s.size ≤ 140737488351232) (k : Nat) (hk : s.size < k) : spec_Hash.f k seed s = some (hsh seed s : Int) := by
  obtain ⟨r, hr, h0, h1⟩ := sh_l0 s hs s.size (s.size + 1) 0 (Go.bits .xor .u64 14695981039346656037 (IntKind.u64.wrap ((IntKind.u64.wrap (seed)) * 11400714819323198485))) (by omega) (by omega) (by omega)
  have e : spec_Hash.f (s.size + 1) seed s = some r := hr
  rw [hsh, e]
  simp only [Option.getD_some]
  rw [Int.toNat_of_nonneg h0]
  exact at_rounds (fun j => spec_Hash.mono seed s j) hk e
theorem hsh_lt (seed : Int) (s : ByteArray) (hs : s.size ≤ 140737488351232) : hsh seed s < 18446744073709551616 := by
  obtain ⟨r, hr, h0, h1⟩ := sh_l0 s hs s.size (s.size + 1) 0 (Go.bits .xor .u64 14695981039346656037 (IntKind.u64.wrap ((IntKind.u64.wrap (seed)) * 11400714819323198485))) (by omega) (by omega) (by omega)
  have e : spec_Hash.f (s.size + 1) seed s = some r := hr
  rw [hsh, e]
  simp only [Option.getD_some]
  omega
theorem ihash (seed : Int) (s : ByteArray) (hs : s.size ≤ 140737488351232) (k : Nat) (hk : s.size < k) : impl_Hash.f k seed s = some (hsh seed s : Int) := by
  rw [← shash seed s hs k hk]
  exact ish_l0 s k _ 0 (by omega)

/-! ## section place -/
/-- the other number of a user -/
def hG (u : ByteArray) : Nat := (Go.bits .or .u64 ((hsh 0 u : Int) / 8589934592) (IntKind.u64.wrap ((hsh 0 u : Int) * 2147483648))).toNat
theorem hG_val (u : ByteArray) : Go.bits .or .u64 ((hsh 0 u : Int) / 8589934592) (IntKind.u64.wrap ((hsh 0 u : Int) * 2147483648)) = (hG u : Int) := by
  have h := bits_range .u64 rfl .or ((hsh 0 u : Int) / 8589934592) (IntKind.u64.wrap ((hsh 0 u : Int) * 2147483648))
  unfold hG; rw [Int.toNat_of_nonneg h.1]
/-- the number of a user's bit i among m -/
def pl (u : ByteArray) (i m : Nat) : Nat := (hsh 0 u + i * hG u % 18446744073709551616) % 18446744073709551616 % m
theorem pl_lt (u : ByteArray) (i m : Nat) (h : 0 < m) : pl u i m < m := Nat.mod_lt _ h
theorem u64n (n : Nat) : IntKind.u64.wrap (n : Int) = ((n % 18446744073709551616 : Nat) : Int) := by rw [u64w]; omega
theorem pl_val (u : ByteArray) (i m : Nat) : Int.tmod (IntKind.u64.wrap ((hsh 0 u : Int) + IntKind.u64.wrap ((i : Int) * (hG u : Int)))) (m : Int) = ((pl u i m : Nat) : Int) := by
  rw [← Int.natCast_mul, u64n, ← Int.natCast_add, u64n]
  rw [Int.tmod_eq_emod_of_nonneg (by omega)]
  exact (Int.natCast_emod _ _).symm
theorem shr8 (x : Int) (b : Nat) (hb : b < 8) : shr .u8 x (b : Int) = x / 2 ^ b := by
  unfold shr
  rw [Int.toNat_natCast, Nat.min_eq_left (by show b ≤ 8; omega)]
theorem td8 (b : Nat) (h : b < 100000) : IntKind.u64.wrap (Int.tdiv (b : Int) 8) = ((b / 8 : Nat) : Int) := by
  rw [Int.tdiv_eq_ediv_of_nonneg (by omega), u64w]; omega
theorem tm8 (b : Nat) : Int.tmod (b : Int) 8 = ((b % 8 : Nat) : Int) := by
  rw [Int.tmod_eq_emod_of_nonneg (by omega)]; omega

/-! ## section probes -/
/-- the numbers of the bits of a user -/
def prb (u : ByteArray) (many m : Nat) : List Int := (List.range many).map fun i => ((pl u i m : Nat) : Int)
theorem prb_length (u : ByteArray) (many m : Nat) : (prb u many m).length = many := by simp [prb]
theorem prb_succ (u : ByteArray) (i m : Nat) : prb u (i + 1) m = prb u i m ++ [((pl u i m : Nat) : Int)] := by simp [prb, List.range_succ]
theorem iprb_l0 (u : ByteArray) (n : Nat) (hn : 1 ≤ n) (hn2 : n ≤ 10000) (many : Nat) (hm : many ≤ 100) : ∀ (d k i : Nat), i ≤ many → many - i = d → d < k → impl_probes.l0 k n (hsh 0 u) (hG u) (prb u i (8 * n)) many i = some (prb u many (8 * n)) := by
  have e8 : IntKind.u64.wrap (8 * (IntKind.u64.wrap (n : Int))) = ((8 * n : Nat) : Int) := by rw [u64w, u64w]; omega
  intro d
  induction d with
  | zero =>
    intro k i h1 h2 hk
    obtain ⟨k, rfl⟩ : ∃ m, k = m + 1 := ⟨k - 1, by omega⟩
    rw [impl_probes.l0, if_neg (by clear e8; omega), show i = many by clear e8; omega]
  | succ d ih =>
    intro k i h1 h2 hk
    obtain ⟨k, rfl⟩ : ∃ m, k = m + 1 := ⟨k - 1, by clear e8; omega⟩
    rw [impl_probes.l0, if_pos (by clear e8; omega), e8, if_neg (by clear e8; omega), prb_length, if_pos (by clear e8; omega), pl_val]
    have ei : IntKind.u64.wrap ((i : Int) + 1) = ((i + 1 : Nat) : Int) := by clear e8; rw [u64w]; omega
    rw [ei, ← prb_succ]
    clear ei
    exact ih k (i + 1) (by clear e8; omega) (by clear e8; omega) (by clear e8; omega)
theorem iprb (k : Nat) (u : ByteArray) (hu : u.size ≤ 140737488351232) (hk : u.size + 101 < k) (many n : Nat) (hm : many ≤ 100) (hn : 1 ≤ n) (hn2 : n ≤ 10000) : impl_probes.f k u (many : Int) (n : Int) = some (prb u many (8 * n)) := by
  unfold impl_probes.f
  rw [ihash 0 u hu k (by omega)]
  simp only [Option.bind_some]
  rw [hG_val]
  have e : IntKind.u64.wrap (many : Int) = (many : Int) := by rw [u64w]; omega
  rw [e]
  clear e
  exact iprb_l0 u n hn hn2 many hm many k 0 (by omega) (by omega) (by omega)
theorem rd_prb (u : ByteArray) (many m i : Nat) (h : i < many) : rd (prb u many m) (i : Int) = ((pl u i m : Nat) : Int) := by
  unfold rd
  rw [Int.toNat_natCast, List.getD_eq_getElem?_getD]
  simp [prb, h]

/-! ## section strs -/
theorem rds_drop (l : List ByteArray) (i : Nat) (h : i < l.length) : ∃ u, l.drop i = u :: l.drop (i + 1) ∧ rdOf ByteArray.empty l (i : Int) = u ∧ u ∈ l := by
  refine ⟨l[i], List.drop_eq_getElem_cons h, ?_, List.getElem_mem h⟩
  unfold rdOf
  rw [Int.toNat_natCast, List.getD_eq_getElem?_getD, List.getElem?_eq_getElem h]; rfl

/-! ## section isuser -/
def userB (s : ByteArray) : Bool := decide (1 ≤ s.size ∧ s.size ≤ 40)
theorem iuser (s : ByteArray) : impl_isUser.f s = some (userB s) := by
  unfold impl_isUser.f userB
  split
  · congr 1; rw [decide_eq_decide]; omega
  · congr 1; symm; rw [decide_eq_false_iff_not]; omega
theorem suser (s : ByteArray) : spec_l2User.f s = some (userB s) := by
  unfold spec_l2User.f userB
  split
  · congr 1; rw [decide_eq_decide]; omega
  · congr 1; symm; rw [decide_eq_false_iff_not]; omega

/-! ## section usersok -/
/-- users are right: at most 400, each of 1 to 40 bytes -/
def usersB (l : List ByteArray) : Bool := decide (l.length ≤ 400) && l.all userB
theorem iuo_l0 (l : List ByteArray) (hl : l.length ≤ 1048576) : ∀ (d k i : Nat), i ≤ l.length → l.length - i = d → d < k → impl_UsersOk.l0 k l l.length i = some ((l.drop i).all userB) := by
  intro d
  induction d with
  | zero =>
    intro k i h1 h2 hk
    obtain ⟨k, rfl⟩ : ∃ m, k = m + 1 := ⟨k - 1, by omega⟩
    rw [impl_UsersOk.l0, if_neg (by omega), List.drop_eq_nil_of_le (by omega)]; rfl
  | succ d ih =>
    intro k i h1 h2 hk
    obtain ⟨k, rfl⟩ : ∃ m, k = m + 1 := ⟨k - 1, by omega⟩
    obtain ⟨u, hd, hu, hm⟩ := rds_drop l i (by omega)
    rw [impl_UsersOk.l0, if_pos (by omega), if_pos (by omega), if_pos (by omega), hu, iuser, hd]
    simp only [Option.bind_some, List.all_cons]
    cases userB u
    · rfl
    · rw [if_pos rfl, w64s (n := l.length) (by omega) (by omega), ih k (i + 1) (by omega) (by omega) (by omega)]; rfl
theorem iuo (l : List ByteArray) (hl : l.length ≤ 1048576) (k : Nat) (hk : l.length < k) : impl_UsersOk.f k l = some (usersB l) := by
  unfold impl_UsersOk.f usersB
  by_cases c : l.length ≤ 400
  · rw [if_neg (by omega)]
    have h := iuo_l0 l hl l.length k 0 (by omega) (by omega) hk
    simpa [c] using h
  · rw [if_pos (by omega)]; simp [c]
theorem suo_l0 (l : List ByteArray) (hl : l.length ≤ 1048576) : ∀ (d k i : Nat), i ≤ l.length → l.length - i = d → d < k → spec_UsersOk.l0 k l i = some ((l.drop i).all userB) := by
  intro d
  induction d with
  | zero =>
    intro k i h1 h2 hk
    obtain ⟨k, rfl⟩ : ∃ m, k = m + 1 := ⟨k - 1, by omega⟩
    rw [spec_UsersOk.l0, if_neg (by omega), List.drop_eq_nil_of_le (by omega)]; rfl
  | succ d ih =>
    intro k i h1 h2 hk
    obtain ⟨k, rfl⟩ : ∃ m, k = m + 1 := ⟨k - 1, by omega⟩
    obtain ⟨u, hd, hu, hm⟩ := rds_drop l i (by omega)
    rw [spec_UsersOk.l0, if_pos (by omega), if_pos (by omega), hu, suser, hd]
    simp only [Option.bind_some, List.all_cons]
    cases userB u
    · rfl
    · rw [if_pos rfl, w64s (n := l.length) (by omega) (by omega), ih k (i + 1) (by omega) (by omega) (by omega)]; rfl
theorem suo (l : List ByteArray) (hl : l.length ≤ 1048576) (k : Nat) (hk : l.length < k) : spec_UsersOk.f k l = some (usersB l) := by
  unfold spec_UsersOk.f usersB
  by_cases c : l.length ≤ 400
  · rw [if_neg (by omega)]
    have h := suo_l0 l hl l.length k 0 (by omega) (by omega) hk
    simpa [c] using h
  · rw [if_pos (by omega)]; simp [c]

/-! ## section within -/
def inB (n lo hi : Int) : Bool := decide (lo ≤ n ∧ n ≤ hi)
theorem iwithin (n lo hi : Int) : impl_within.f n lo hi = some (inB n lo hi) := by
  unfold impl_within.f inB
  split
  · congr 1; rw [decide_eq_decide]; omega
  · congr 1; symm; rw [decide_eq_false_iff_not]; omega
theorem swithin (n lo hi : Int) : spec_l1In.f n lo hi = some (inB n lo hi) := by
  unfold spec_l1In.f inB
  split
  · congr 1; rw [decide_eq_decide]; omega
  · congr 1; symm; rw [decide_eq_false_iff_not]; omega

/-! ## section bloomof -/
/-- one bit set in a list of bytes -/
def setB (l : List Int) (b : Nat) : List Int := l.set (b / 8) (Go.bits .or .u8 (rd l ((b / 8 : Nat) : Int)) (shl .u8 1 ((b % 8 : Nat) : Int)))
theorem setB_length (l : List Int) (b : Nat) : (setB l b).length = l.length := by simp [setB]
/-- the last d of a user's 'many' bits set -/
def addU (u : ByteArray) (many : Nat) : Nat → List Int → List Int
  | 0, l => l
  | d + 1, l => addU u many d (setB l (pl u (many - (d + 1)) (8 * l.length)))
theorem addU_length (u : ByteArray) (many : Nat) : ∀ (d : Nat) (l : List Int), (addU u many d l).length = l.length
  | 0, l => rfl
  | d + 1, l => by rw [addU, addU_length u many d, setB_length]
def addUs (many : Nat) : List ByteArray → List Int → List Int
  | [], l => l
  | u :: us, l => addUs many us (addU u many many l)
theorem addUs_length (many : Nat) : ∀ (us : List ByteArray) (l : List Int), (addUs many us l).length = l.length
  | [], l => rfl
  | u :: us, l => by rw [addUs, addUs_length many us, addU_length]
/-- how many bytes, how many bits for each user -/
def bfN (n per : Nat) : Nat := (max 64 (n * per) + 7) / 8
def bfP (per : Nat) : Nat := min (max 1 (per * 69 / 100)) 30
theorem bfN_bound (n per : Nat) (hn : n ≤ 400) (hp : per ≤ 20) : 8 ≤ bfN n per ∧ bfN n per ≤ 1000 := by
  have : n * per ≤ 400 * 20 := Nat.mul_le_mul hn hp
  unfold bfN; omega
theorem bfP_bound (per : Nat) : 1 ≤ bfP per ∧ bfP per ≤ 30 := by unfold bfP; omega
theorem mx64 (n per : Nat) (hn : n ≤ 400) (hp : per ≤ 20) : wrap64 (Int.tdiv (wrap64 ((mx 64 (wrap64 (((n * per : Nat) : Int)))) + 7)) 8) = ((bfN n per : Nat) : Int) := by
  have hb : n * per ≤ 400 * 20 := Nat.mul_le_mul hn hp
  unfold bfN
  generalize n * per = x at *
  have e1 : wrap64 (x : Int) = (x : Int) := by unfold wrap64; omega
  rw [e1]
  clear e1
  have e2 : mx 64 (x : Int) = ((max 64 x : Nat) : Int) := by unfold mx; split <;> omega
  rw [e2]
  clear e2
  have e3 : wrap64 (((max 64 x : Nat) : Int) + 7) = ((max 64 x + 7 : Nat) : Int) := by unfold wrap64; omega
  rw [e3]
  clear e3
  have e4 : Int.tdiv ((max 64 x + 7 : Nat) : Int) 8 = (((max 64 x + 7) / 8 : Nat) : Int) := by rw [Int.tdiv_eq_ediv_of_nonneg (by omega)]; omega
  rw [e4]
  clear e4
  unfold wrap64; omega
theorem pr_i (per : Nat) (hp : per ≤ 20) : mn (mx (wrap64 (Int.tdiv (wrap64 (69 * (per : Int))) 100)) 1) 30 = ((bfP per : Nat) : Int) := by
  have e1 : wrap64 (69 * (per : Int)) = ((per * 69 : Nat) : Int) := by unfold wrap64; omega
  rw [e1]; clear e1
  have e2 : Int.tdiv ((per * 69 : Nat) : Int) 100 = ((per * 69 / 100 : Nat) : Int) := by rw [Int.tdiv_eq_ediv_of_nonneg (by omega)]; omega
  rw [e2]; clear e2
  have e3 : wrap64 ((per * 69 / 100 : Nat) : Int) = ((per * 69 / 100 : Nat) : Int) := by unfold wrap64; omega
  rw [e3]; clear e3
  unfold bfP mn mx
  repeat' split
  all_goals omega
theorem ibo_l1 (users : List ByteArray) (nu q1 q2 : Int) (bs : ByteArray) (w : Nat) (many : Nat) (hm : many ≤ 100) (u : ByteArray) (L : Nat) (hL : 1 ≤ L) (hL2 : L ≤ 1000) : ∀ (d k i : Nat) (l : List Int), l.length = L → i ≤ many → many - i = d → d < k → impl_BloomOf.l1 k l users nu w (prb u many (8 * L)) many i q1 q2 many bs = impl_BloomOf.l0 (k - (d + 1)) (addU u many d l) users nu (wrap64 ((w : Int) + 1)) q1 q2 many bs := by
  intro d
  induction d with
  | zero =>
    intro k i l hl g1 g2 hk
    obtain ⟨k, rfl⟩ : ∃ m, k = m + 1 := ⟨k - 1, by omega⟩
    rw [impl_BloomOf.l1, if_neg (by omega)]; rfl
  | succ d ih =>
    intro k i l hl g1 g2 hk
    obtain ⟨k, rfl⟩ : ∃ m, k = m + 1 := ⟨k - 1, by omega⟩
    have hp := pl_lt u i (8 * L) (by omega)
    have hi : many - (d + 1) = i := by omega
    rw [impl_BloomOf.l1, if_pos (by omega), if_pos (by omega), prb_length, if_pos (by omega), rd_prb _ _ _ _ (by omega)]
    rw [addU, hi, hl]
    generalize hpl : pl u i (8 * L) = p at hp
    rw [td8 p (by omega), tm8, if_pos (by omega), if_pos (by omega), if_pos (by omega), w64s (n := many) (by omega) (by omega), Int.toNat_natCast]
    have hs : (setB l p).length = L := by rw [setB_length, hl]
    have h := ih k (i + 1) (setB l p) hs (by omega) (by omega) (by omega)
    rw [show k + 1 - (d + 1 + 1) = k - (d + 1) by omega]
    exact h
theorem ibo_l0 (users : List ByteArray) (hu : users.length ≤ 400) (hs : ∀ u ∈ users, u.size ≤ 1048576) (q1 q2 : Int) (bs : ByteArray) (many : Nat) (hm : many ≤ 100) (L : Nat) (hL : 1 ≤ L) (hL2 : L ≤ 1000) : ∀ (d k i : Nat) (l : List Int), l.length = L → i ≤ users.length → users.length - i = d → 200 * d + 1048800 < k → impl_BloomOf.l0 k l users users.length i q1 q2 many bs = some (q1, q2, (many : Int), strOfNums (addUs many (users.drop i) l), true) := by
  intro d
  induction d with
  | zero =>
    intro k i l hl g1 g2 hk
    obtain ⟨k, rfl⟩ : ∃ m, k = m + 1 := ⟨k - 1, by omega⟩
    rw [impl_BloomOf.l0, if_neg (by omega), List.drop_eq_nil_of_le (by omega)]; rfl
  | succ d ih =>
    intro k i l hl g1 g2 hk
    obtain ⟨k, rfl⟩ : ∃ m, k = m + 1 := ⟨k - 1, by omega⟩
    obtain ⟨u, hd, hu', hmem⟩ := rds_drop users i (by omega)
    have hsu := hs u hmem
    rw [impl_BloomOf.l0, if_pos (by omega), if_pos (by omega), if_pos (by omega), hu', hl, iprb k u (by omega) (by omega) many L hm hL (by omega)]
    simp only [Option.bind_some]
    rw [prb_length]
    have h1 := ibo_l1 users users.length q1 q2 bs i many hm u L hL hL2 many k 0 l hl (by omega) (by omega) (by omega)
    rw [show ((0 : Nat) : Int) = 0 from rfl] at h1
    rw [h1, w64s (n := users.length) (by omega) (by omega), hd, addUs]
    exact ih (k - (many + 1)) (i + 1) (addU u many many l) (by rw [addU_length, hl]) (by omega) (by omega) (by omega)
/-- what BloomOf makes -/
def boR (users : List ByteArray) (per : Int) : Int × Int × Int × ByteArray × Bool :=
  if usersB users = true ∧ inB per 1 20 = true then (1, 0, ((bfP per.toNat : Nat) : Int), strOfNums (addUs (bfP per.toNat) users (List.replicate (bfN users.length per.toNat) 0)), true) else (0, 0, 0, (⟨#[]⟩ : ByteArray), false)
theorem ibo (k : Nat) (users : List ByteArray) (hl : users.length ≤ 1048576) (hs : ∀ u ∈ users, u.size ≤ 1048576) (per : Int) (hk : 1200000 < k) : impl_BloomOf.f k users per = some (boR users per) := by
  obtain ⟨k, rfl⟩ : ∃ m, k = m + 1 := ⟨k - 1, by omega⟩
  have jt : impl_BloomOf.j0 (k + 1) users per true = some (0, 0, 0, (⟨#[]⟩ : ByteArray), false) := by rw [impl_BloomOf.j0, if_pos rfl]
  unfold impl_BloomOf.f boR
  rw [iuo users hl _ (by omega), iwithin]
  simp only [Option.bind_some]
  by_cases g : usersB users = true
  · have h400 : users.length ≤ 400 := by simp only [usersB, Bool.and_eq_true, decide_eq_true_eq] at g; exact g.1
    by_cases hp : inB per 1 20 = true
    · have hp' : 1 ≤ per ∧ per ≤ 20 := by simpa [inB] using hp
      obtain ⟨n, rfl⟩ := Int.eq_ofNat_of_zero_le (show 0 ≤ per by omega)
      have hb := bfN_bound users.length n h400 (by omega)
      have hq := bfP_bound n
      rw [if_pos g, if_pos ⟨g, hp⟩, hp, impl_BloomOf.j0, if_neg (by decide)]
      rw [show ((n : Int) * (users.length : Int)) = ((users.length * n : Nat) : Int) by push_cast; exact Int.mul_comm _ _]
      rw [mx64 users.length n h400 (by omega), if_pos (by omega), if_pos (by omega), pr_i n (by omega), Int.toNat_natCast, Int.toNat_natCast]
      have h := ibo_l0 users h400 hs 1 0 (⟨#[]⟩ : ByteArray) (bfP n) (by omega) (bfN users.length n) (by omega) (by omega) users.length k 0 (List.replicate (bfN users.length n) 0) (by simp) (by omega) (by omega) (by omega)
      simpa using h
    · have hp' : inB per 1 20 = false := by simpa using hp
      rw [if_pos g, if_neg (fun h => hp h.2), hp', Bool.not_false, jt]
  · rw [if_neg g, if_neg (fun h => g h.1), jt]

/-! ## section filterok -/
/-- a filter is right -/
def fltB (a b c : Int) (s : ByteArray) : Bool :=
  if a = 0 then (a == 0 && (b == 0 && (c == 0 && (s.toList == ([] : List UInt8))))) else if a = 1 then decide (b = 0) && (inB c 1 30 && inB s.size 1 1000) else if a = 2 then decide (c = 0) && (inB b 0 3 && (inB s.size 20 600 && (nb s).all (fun x => decide (x ≤ 127)))) else false
theorem ifo_l0 (s : ByteArray) (hs : s.size ≤ 1048576) (a b c : Int) : ∀ (d k i : Nat), i ≤ s.size → s.size - i = d → d < k → impl_FilterOk.l0 k s.size i a b c s = some (((nb s).drop i).all (fun x => decide (x ≤ 127))) := by
  intro d
  induction d with
  | zero =>
    intro k i h1 h2 hk
    obtain ⟨k, rfl⟩ : ∃ m, k = m + 1 := ⟨k - 1, by omega⟩
    rw [impl_FilterOk.l0, if_neg (by omega), nb_end s i (by omega)]; rfl
  | succ d ih =>
    intro k i h1 h2 hk
    obtain ⟨k, rfl⟩ : ∃ m, k = m + 1 := ⟨k - 1, by omega⟩
    obtain ⟨x, hd, hx, hl⟩ := nb_drop s i (by omega)
    rw [impl_FilterOk.l0, if_pos (by omega), if_pos (by omega), if_pos (by omega), hx, hd, w64s (n := s.size) (by omega) (by omega)]
    by_cases g : x ≤ 127
    · rw [if_neg (by omega), ih k (i + 1) (by omega) (by omega) (by omega)]; simp [g]
    · rw [if_pos (by omega)]; simp [g]
theorem ifo (a b c : Int) (s : ByteArray) (k : Nat) (hk : s.size + 2 < k) : impl_FilterOk.f k a b c s = some (fltB a b c s) := by
  obtain ⟨k, rfl⟩ : ∃ m, k = m + 1 := ⟨k - 1, by omega⟩
  unfold impl_FilterOk.f fltB
  by_cases h0 : a = 0
  · rw [if_pos h0, if_pos h0]
  · rw [if_neg h0, if_neg h0]
    by_cases h1 : a = 1
    · rw [if_pos h1, if_pos h1]
      by_cases hb : b = 0
      · rw [if_pos hb, iwithin, iwithin]
        simp only [Option.bind_some, hb, decide_true, Bool.true_and]
        cases inB c 1 30 <;> rfl
      · rw [if_neg hb]; simp [hb]
    · rw [if_neg h1, if_neg h1]
      by_cases h2 : a = 2
      · rw [if_pos h2, if_pos h2]
        have jt : impl_FilterOk.j0 (k + 1) true a b c s = some false := by rw [impl_FilterOk.j0, if_pos rfl]
        by_cases hc : c = 0
        · rw [if_pos hc, iwithin, iwithin]
          simp only [Option.bind_some, hc, decide_true, Bool.true_and]
          rw [hc] at jt
          by_cases hq : inB b 0 3 = true
          · rw [if_pos hq, hq, Bool.true_and]
            by_cases hr : inB (s.size : Int) 20 600 = true
            · have hsz : s.size ≤ 600 := by simp only [inB, decide_eq_true_eq] at hr; omega
              rw [hr, Bool.true_and, impl_FilterOk.j0, if_neg (by decide)]
              have h := ifo_l0 s (by omega) a b 0 s.size k 0 (by omega) (by omega) (by omega)
              simpa using h
            · have hr' : inB (s.size : Int) 20 600 = false := by simpa using hr
              rw [hr', Bool.not_false, jt]; rfl
          · have hq' : inB b 0 3 = false := by simpa using hq
            rw [if_neg hq, hq', jt]; rfl
        · rw [if_neg hc, jt]; simp [hc]
      · rw [if_neg h2, if_neg h2]
theorem flt_size {a b c : Int} {s : ByteArray} (h : fltB a b c s = true) : s.size ≤ 1000 := by
  unfold fltB at h
  split at h
  · simp only [Bool.and_eq_true, beq_iff_eq] at h
    have h' := h.2.2.2
    rw [ByteArray.toList_eq] at h'
    have : s.data.toList.length = s.size := by rw [Array.length_toList]; rfl
    rw [h'] at this
    simp at this
    omega
  · split at h
    · simp only [Bool.and_eq_true, inB, decide_eq_true_eq] at h; omega
    · split at h
      · simp only [Bool.and_eq_true, inB, decide_eq_true_eq] at h; omega
      · cases h

/-! ## section bloommay -/
/-- is a bit set -/
def bitB (s : ByteArray) (b : Nat) : Bool := decide ((nb s).getD (b / 8) 0 / 2 ^ (b % 8) % 2 = 1)
theorem bt_getD (s : ByteArray) (i : Nat) : bt s i = (((nb s).getD i 0 : Nat) : Int) := by
  rcases Nat.lt_or_ge i s.size with h | h
  · rw [bt_nb s i h, List.getD_eq_getElem?_getD, List.getElem?_eq_getElem (by rw [nb_length]; exact h)]; rfl
  · have e : bt s i = 0 := by simp only [bt, Int.toNat_natCast]; rw [dif_neg (by omega)]
    rw [e, List.getD_eq_getElem?_getD, List.getElem?_eq_none (by rw [nb_length]; exact h)]; rfl
theorem getD_lt (l : List Nat) (h : ∀ b ∈ l, b < 256) (i : Nat) : l.getD i 0 < 256 := by
  rw [List.getD_eq_getElem?_getD]
  cases hi : l[i]? with
  | none => simp
  | some b => simpa using h b (List.mem_of_getElem? hi)
theorem bit_shr (s : ByteArray) (b : Nat) : shr .u8 (bt s ((b / 8 : Nat) : Int)) ((b % 8 : Nat) : Int) = (((nb s).getD (b / 8) 0 / 2 ^ (b % 8) : Nat) : Int) := by
  rw [shr8 _ _ (Nat.mod_lt _ (by omega)), bt_getD]; push_cast; rfl
/-- what a filter of bits says of a user -/
def mayB (s : ByteArray) (u : ByteArray) (many : Nat) : Nat → Bool
  | 0 => true
  | d + 1 => bitB s (pl u (many - (d + 1)) (8 * s.size)) && mayB s u many d
theorem ibm_l0 (s u : ByteArray) (h1 : 1 ≤ s.size) (h2 : s.size ≤ 1000) (many : Nat) (hm : many ≤ 100) (a b c : Int) : ∀ (d k i : Nat), i ≤ many → many - i = d → d < k → impl_bloomMay.l0 k (prb u many (8 * s.size)) many i a b c s = some (mayB s u many d) := by
  intro d
  induction d with
  | zero =>
    intro k i g1 g2 hk
    obtain ⟨k, rfl⟩ : ∃ m, k = m + 1 := ⟨k - 1, by omega⟩
    rw [impl_bloomMay.l0, if_neg (by omega)]; rfl
  | succ d ih =>
    intro k i g1 g2 hk
    obtain ⟨k, rfl⟩ : ∃ m, k = m + 1 := ⟨k - 1, by omega⟩
    have hp := pl_lt u i (8 * s.size) (by omega)
    have hi : many - (d + 1) = i := by omega
    rw [impl_bloomMay.l0, if_pos (by omega), if_pos (by omega), prb_length, if_pos (by omega), rd_prb _ _ _ _ (by omega)]
    rw [mayB, hi]
    generalize pl u i (8 * s.size) = p at hp
    rw [td8 p (by omega), tm8, if_pos (by omega), if_pos (by omega), if_pos (by omega), bit_shr]
    unfold bitB
    have hx : (nb s).getD (p / 8) 0 / 2 ^ (p % 8) < 256 := Nat.lt_of_le_of_lt (Nat.div_le_self _ _) (getD_lt (nb s) (nb_lt s) _)
    generalize (nb s).getD (p / 8) 0 / 2 ^ (p % 8) = x at hx
    have ea : Go.bits .and .u8 (x : Int) 1 = ((x % 2 : Nat) : Int) := by
      rw [show (1 : Int) = ((1 : Nat) : Int) from rfl, b_and .u8 rfl _ _ hx (by decide), Nat.and_one_is_mod]
    rw [ea]
    clear ea
    by_cases g : x % 2 = 1
    · rw [if_neg (by omega), w64s (n := many) (by omega) (by omega), ih k (i + 1) (by omega) (by omega) (by omega)]; simp [g]
    · rw [if_pos (by omega)]; simp [g]
theorem ibm0 (k : Nat) (s u : ByteArray) (h1 : 1 ≤ s.size) (h2 : s.size ≤ 1000) (hu : u.size ≤ 140737488351232) (hk : u.size + 101 < k) (many : Nat) (hm : many ≤ 100) (a b : Int) : impl_bloomMay.f k a b (many : Int) s u = some (mayB s u many many) := by
  unfold impl_bloomMay.f
  rw [iprb k u hu hk many s.size hm h1 (by omega)]
  simp only [Option.bind_some]
  rw [prb_length]
  exact ibm_l0 s u h1 h2 many hm a b many many k 0 (by omega) (by omega) (by omega)
/-- what BloomMay says -/
def bmayB (a b c : Int) (s u : ByteArray) : Bool := !decide (a = 1) || (!fltB a b c s || mayB s u c.toNat c.toNat)
theorem flt_bloom {b c : Int} {s : ByteArray} (h : fltB 1 b c s = true) : b = 0 ∧ 1 ≤ c ∧ c ≤ 30 ∧ 1 ≤ s.size ∧ s.size ≤ 1000 := by
  unfold fltB at h
  rw [if_neg (by decide), if_pos rfl] at h
  simp only [Bool.and_eq_true, inB, decide_eq_true_eq] at h
  omega
theorem ibmay (k : Nat) (a b c : Int) (s u : ByteArray) (hs : s.size ≤ 1048576) (hu : u.size ≤ 1048576) (hk : 1048700 < k) : impl_BloomMay.f k a b c s u = some (bmayB a b c s u) := by
  unfold impl_BloomMay.f bmayB
  by_cases h : a = 1
  · subst h
    rw [if_pos rfl, ifo 1 b c s k (by omega)]
    simp only [Option.bind_some, decide_true, Bool.not_true, Bool.false_or]
    by_cases g : fltB 1 b c s = true
    · obtain ⟨_, c0, c1, s0, s1⟩ := flt_bloom g
      obtain ⟨m, rfl⟩ := Int.eq_ofNat_of_zero_le (show 0 ≤ c by omega)
      rw [if_pos g, ibm0 k s u s0 s1 (by omega) (by omega) m (by omega), g]
      simp
    · have g' : fltB 1 b c s = false := by simpa using g
      rw [if_neg g, g']; rfl
  · rw [if_neg h]; simp [h]

/-! ## section ba -/
theorem nb_append (a b : ByteArray) : nb (a ++ b) = nb a ++ nb b := by
  simp [nb, ByteArray.data_append]
theorem nb_extract (s : ByteArray) (i j : Nat) : nb (s.extract i j) = ((nb s).take j).drop i := by
  rw [List.drop_take]
  simp [nb, ByteArray.data_extract]
theorem nb_inj {a b : ByteArray} (h : nb a = nb b) : a = b := by
  have h1 : a.data.toList = b.data.toList := by
    have h2 : ∀ (l m : List UInt8), l.map UInt8.toNat = m.map UInt8.toNat → l = m := by
      intro l
      induction l with
      | nil => intro m h; cases m with
        | nil => rfl
        | cons y m => simp at h
      | cons x l ih => intro m h; cases m with
        | nil => simp at h
        | cons y m =>
          simp only [List.map_cons, List.cons.injEq] at h
          rw [UInt8.toNat_inj.1 h.1, ih m h.2]
    exact h2 _ _ h
  cases a; cases b; simp_all
theorem nb_nums (l : List Int) (h : ∀ x ∈ l, 0 ≤ x ∧ x < 256) : nb (strOfNums l) = l.map Int.toNat := by
  simp only [nb, strOfNums, List.map_map]
  apply List.map_congr_left
  intro x hx
  have := h x hx
  simp only [Function.comp]
  rw [UInt8.toNat_ofNat']
  exact Nat.mod_eq_of_lt (by omega)
theorem nb_empty : nb (⟨#[]⟩ : ByteArray) = [] := rfl
theorem bsize_append (a b : ByteArray) : (a ++ b).size = a.size + b.size := ByteArray.size_append

/-! ## section bitset -/
def okL (l : List Int) : Prop := ∀ x ∈ l, 0 ≤ x ∧ x < 256
def tb (l : List Int) (b : Nat) : Bool := (rd l ((b / 8 : Nat) : Int)).toNat.testBit (b % 8)
theorem rd_ok {l : List Int} (h : okL l) (i : Nat) : 0 ≤ rd l (i : Int) ∧ rd l (i : Int) < 256 := by
  unfold rd
  rw [Int.toNat_natCast, List.getD_eq_getElem?_getD]
  cases hi : l[i]? with
  | none => simp
  | some b => simpa using h b (List.mem_of_getElem? hi)
theorem shl8 (j : Nat) (hj : j < 8) : shl .u8 1 (j : Int) = ((2 ^ j : Nat) : Int) := by
  unfold shl
  rw [Int.toNat_natCast, Nat.min_eq_left (by show j ≤ 8; omega)]
  rw [show ((1 : Int) * 2 ^ j) = ((2 ^ j : Nat) : Int) by push_cast; rw [Int.one_mul]]
  exact wrapU .u8 rfl _ (Nat.pow_lt_pow_right (by omega) hj)
theorem setB_val {l : List Int} (h : okL l) (b : Nat) : Go.bits .or .u8 (rd l ((b / 8 : Nat) : Int)) (shl .u8 1 ((b % 8 : Nat) : Int)) = (((rd l ((b / 8 : Nat) : Int)).toNat ||| 2 ^ (b % 8) : Nat) : Int) := by
  have hr := rd_ok h (b / 8)
  rw [shl8 _ (Nat.mod_lt _ (by omega))]
  obtain ⟨x, hx⟩ := Int.eq_ofNat_of_zero_le hr.1
  rw [hx, Int.toNat_natCast]
  exact b_or .u8 rfl _ _ (by show x < 256; omega) (Nat.pow_lt_pow_right (by omega) (Nat.mod_lt _ (by omega)))
theorem rd_set (l : List Int) (i j : Nat) (v : Int) (hi : i < l.length) : rd (l.set i v) (j : Int) = if i = j then v else rd l (j : Int) := by
  unfold rd
  rw [Int.toNat_natCast, List.getD_eq_getElem?_getD, List.getD_eq_getElem?_getD, List.getElem?_set]
  split
  · rename_i e; subst e; simp [hi]
  · rfl
theorem setB_ok {l : List Int} (h : okL l) (b : Nat) : okL (setB l b) := by
  intro x hx
  unfold setB at hx
  rcases List.mem_or_eq_of_mem_set hx with hx | hx
  · exact h x hx
  · subst hx
    exact bits_range .u8 rfl .or _ _
theorem tb_new {l : List Int} (h : okL l) (b : Nat) (hb : b / 8 < l.length) : tb (setB l b) b = true := by
  unfold tb setB
  rw [rd_set _ _ _ _ hb, if_pos rfl, setB_val h, Int.toNat_natCast, Nat.testBit_or, Nat.testBit_two_pow_self, Bool.or_true]
theorem tb_keep {l : List Int} (h : okL l) (b b' : Nat) (hb : b / 8 < l.length) (ht : tb l b' = true) : tb (setB l b) b' = true := by
  unfold tb setB at *
  rw [rd_set _ _ _ _ hb]
  split
  · rename_i e
    rw [setB_val h, Int.toNat_natCast, Nat.testBit_or, e, ht, Bool.true_or]
  · exact ht
theorem pl_in (u : ByteArray) (i L : Nat) (hL : 1 ≤ L) : pl u i (8 * L) / 8 < L := by have := pl_lt u i (8 * L) (by omega); omega
theorem addU_ok (u : ByteArray) (many : Nat) : ∀ (d : Nat) (l : List Int), okL l → okL (addU u many d l)
  | 0, l, h => h
  | d + 1, l, h => by rw [addU]; exact addU_ok u many d _ (setB_ok h _)
theorem addU_keep (u : ByteArray) (many b : Nat) : ∀ (d : Nat) (l : List Int), okL l → 1 ≤ l.length → tb l b = true → tb (addU u many d l) b = true
  | 0, l, _, _, ht => ht
  | d + 1, l, h, hl, ht => by
    rw [addU]
    exact addU_keep u many b d _ (setB_ok h _) (by rw [setB_length]; exact hl) (tb_keep h _ _ (pl_in _ _ _ hl) ht)
theorem addU_new (u : ByteArray) (many : Nat) : ∀ (d : Nat) (l : List Int), okL l → 1 ≤ l.length → ∀ i, many - d ≤ i → i < many → d ≤ many → tb (addU u many d l) (pl u i (8 * l.length)) = true
  | 0, l, _, _, i, h1, h2, _ => by omega
  | d + 1, l, h, hl, i, h1, h2, h3 => by
    rw [addU]
    by_cases e : i = many - (d + 1)
    · subst e
      exact addU_keep u many _ d _ (setB_ok h _) (by rw [setB_length]; exact hl) (tb_new h _ (pl_in _ _ _ hl))
    · have := addU_new u many d (setB l (pl u (many - (d + 1)) (8 * l.length))) (setB_ok h _) (by rw [setB_length]; exact hl) i (by omega) h2 (by omega)
      rwa [setB_length] at this
theorem addUs_ok (many : Nat) : ∀ (us : List ByteArray) (l : List Int), okL l → okL (addUs many us l)
  | [], l, h => h
  | u :: us, l, h => by rw [addUs]; exact addUs_ok many us _ (addU_ok u many many l h)
theorem addUs_keep (many b : Nat) : ∀ (us : List ByteArray) (l : List Int), okL l → 1 ≤ l.length → tb l b = true → tb (addUs many us l) b = true
  | [], l, _, _, ht => ht
  | u :: us, l, h, hl, ht => by
    rw [addUs]
    exact addUs_keep many b us _ (addU_ok u many many l h) (by rw [addU_length]; exact hl) (addU_keep u many b many l h hl ht)
theorem addUs_new (many : Nat) : ∀ (us : List ByteArray) (l : List Int), okL l → 1 ≤ l.length → ∀ u ∈ us, ∀ i, i < many → tb (addUs many us l) (pl u i (8 * l.length)) = true
  | [], l, _, _, u, hu, _, _ => by simp at hu
  | v :: us, l, h, hl, u, hu, i, hi => by
    rw [addUs]
    rcases List.mem_cons.1 hu with rfl | hu
    · exact addUs_keep many _ us _ (addU_ok u many many l h) (by rw [addU_length]; exact hl) (addU_new u many many l h hl i (by omega) hi (Nat.le_refl _))
    · have := addUs_new many us (addU v many many l) (addU_ok v many many l h) (by rw [addU_length]; exact hl) u hu i hi
      rwa [addU_length] at this
theorem zeros_ok (n : Nat) : okL (List.replicate n 0) := by
  intro x hx; rw [List.eq_of_mem_replicate hx]; omega
theorem strOfNums_sz (l : List Int) : (strOfNums l).size = l.length := by simp [strOfNums, ByteArray.size]
theorem bitB_tb {l : List Int} (h : okL l) (b : Nat) : bitB (strOfNums l) b = tb l b := by
  unfold bitB tb
  rw [nb_nums l h, Nat.testBit_eq_decide_div_mod_eq]
  have e : (l.map Int.toNat).getD (b / 8) 0 = (rd l ((b / 8 : Nat) : Int)).toNat := by
    unfold rd
    rw [Int.toNat_natCast, List.getD_eq_getElem?_getD, List.getD_eq_getElem?_getD, List.getElem?_map]
    cases l[b / 8]? <;> rfl
  rw [e]
theorem mayB_iff (s u : ByteArray) (many : Nat) : ∀ d, d ≤ many → (mayB s u many d = true ↔ ∀ i, many - d ≤ i → i < many → bitB s (pl u i (8 * s.size)) = true) := by
  intro d
  induction d with
  | zero => intro _; simp only [mayB, true_iff]; intro i h1 h2; omega
  | succ d ih =>
    intro hd
    rw [mayB, Bool.and_eq_true, ih (by omega)]
    constructor
    · rintro ⟨a, b⟩ i h1 h2
      by_cases e : i = many - (d + 1)
      · subst e; exact a
      · exact b i (by omega) h2
    · intro h
      exact ⟨h _ (Nat.le_refl _) (by omega), fun i h1 h2 => h i (by omega) h2⟩

/-! ## section placespec -/
theorem spl (k : Nat) (u : ByteArray) (hu : u.size ≤ 140737488351232) (hk : u.size < k) (i m : Nat) (hi : i ≤ 100) (hm : 0 < m) : spec_l3Place.f k u (i : Int) (m : Int) = some ((pl u i m : Nat) : Int) := by
  unfold spec_l3Place.f
  rw [shash 0 u hu k hk]
  simp only [Option.bind_some]
  rw [if_neg (by omega), hG_val]
  have e : IntKind.u64.wrap (i : Int) = (i : Int) := by rw [u64w]; omega
  rw [e, pl_val]

/-! ## section bloomofspec -/
theorem pr_s (per : Nat) (hp : per ≤ 20) : mn (mx 1 (wrap64 (Int.tdiv (wrap64 ((per : Int) * 69)) 100))) 30 = ((bfP per : Nat) : Int) := by
  have e1 : wrap64 ((per : Int) * 69) = ((per * 69 : Nat) : Int) := by unfold wrap64; omega
  rw [e1]; clear e1
  have e2 : Int.tdiv ((per * 69 : Nat) : Int) 100 = ((per * 69 / 100 : Nat) : Int) := by rw [Int.tdiv_eq_ediv_of_nonneg (by omega)]; omega
  rw [e2]; clear e2
  have e3 : wrap64 ((per * 69 / 100 : Nat) : Int) = ((per * 69 / 100 : Nat) : Int) := by unfold wrap64; omega
  rw [e3]; clear e3
  unfold bfP mn mx
  repeat' split
  all_goals omega
theorem sbo_l1 (users : List ByteArray) (hus : users.length ≤ 400) (w : Nat) (hw : w < users.length) (u : ByteArray) (hu : rdOf ByteArray.empty users (w : Int) = u) (hsu : u.size ≤ 1048576) (many : Nat) (hm : many ≤ 100) (L : Nat) (hL : 1 ≤ L) (hL2 : L ≤ 1000) : ∀ (d k i : Nat) (l : List Int), l.length = L → i ≤ many → many - i = d → d + 1048600 < k → spec_BloomOf.l1 k users L many l w i = spec_BloomOf.l0 (k - (d + 1)) users L many (addU u many d l) (wrap64 ((w : Int) + 1)) := by
  intro d
  induction d with
  | zero =>
    intro k i l hl g1 g2 hk
    obtain ⟨k, rfl⟩ : ∃ m, k = m + 1 := ⟨k - 1, by omega⟩
    rw [spec_BloomOf.l1, if_neg (by omega)]; rfl
  | succ d ih =>
    intro k i l hl g1 g2 hk
    obtain ⟨k, rfl⟩ : ∃ m, k = m + 1 := ⟨k - 1, by omega⟩
    have hp := pl_lt u i (8 * L) (by omega)
    have hi : many - (d + 1) = i := by omega
    have e8 : IntKind.u64.wrap (wrap64 (8 * (L : Int))) = ((8 * L : Nat) : Int) := by
      have : wrap64 (8 * (L : Int)) = ((8 * L : Nat) : Int) := by unfold wrap64; omega
      rw [this, u64w]; omega
    rw [spec_BloomOf.l1, if_pos (by clear e8; omega), if_pos (by clear e8; omega), if_pos (by clear e8; omega), e8, hu, spl k u (by clear e8; omega) (by clear e8; omega) i _ (by clear e8; omega) (by clear e8; omega)]
    clear e8
    simp only [Option.bind_some]
    rw [addU, hi, hl]
    generalize hpl : pl u i (8 * L) = p at hp
    rw [td8 p (by omega), tm8, if_pos (by omega), if_pos (by omega), if_pos (by omega), w64s (n := many) (by omega) (by omega), Int.toNat_natCast]
    have hs : (setB l p).length = L := by rw [setB_length, hl]
    have h := ih k (i + 1) (setB l p) hs (by omega) (by omega) (by omega)
    rw [show k + 1 - (d + 1 + 1) = k - (d + 1) by omega]
    exact h
theorem sbo_l0 (users : List ByteArray) (hu : users.length ≤ 400) (hs : ∀ u ∈ users, u.size ≤ 1048576) (many : Nat) (hm : many ≤ 100) (L : Nat) (hL : 1 ≤ L) (hL2 : L ≤ 1000) : ∀ (d k i : Nat) (l : List Int), l.length = L → i ≤ users.length → users.length - i = d → 200 * d + 1048800 < k → spec_BloomOf.l0 k users L many l i = some (1, 0, (many : Int), strOfNums (addUs many (users.drop i) l), true) := by
  intro d
  induction d with
  | zero =>
    intro k i l hl g1 g2 hk
    obtain ⟨k, rfl⟩ : ∃ m, k = m + 1 := ⟨k - 1, by omega⟩
    rw [spec_BloomOf.l0, if_neg (by omega), List.drop_eq_nil_of_le (by omega)]; rfl
  | succ d ih =>
    intro k i l hl g1 g2 hk
    obtain ⟨k, rfl⟩ : ∃ m, k = m + 1 := ⟨k - 1, by omega⟩
    obtain ⟨u, hd, hu', hmem⟩ := rds_drop users i (by omega)
    have hsu := hs u hmem
    have h1 := sbo_l1 users hu i (by omega) u hu' hsu many hm L hL hL2 many k 0 l hl (by omega) (by omega) (by omega)
    rw [spec_BloomOf.l0, if_pos (by omega), show (0 : Int) = ((0 : Nat) : Int) from rfl, h1, w64s (n := users.length) (by omega) (by omega), hd, addUs]
    exact ih (k - (many + 1)) (i + 1) (addU u many many l) (by rw [addU_length, hl]) (by omega) (by omega) (by omega)
theorem sbo (k : Nat) (users : List ByteArray) (hl : users.length ≤ 1048576) (hs : ∀ u ∈ users, u.size ≤ 1048576) (per : Int) (hk : 1200000 < k) : spec_BloomOf.f k users per = some (boR users per) := by
  obtain ⟨k, rfl⟩ : ∃ m, k = m + 1 := ⟨k - 1, by omega⟩
  have jt : spec_BloomOf.j0 (k + 1) users per true = some (0, 0, 0, (⟨#[]⟩ : ByteArray), false) := by rw [spec_BloomOf.j0, if_pos rfl]
  unfold spec_BloomOf.f boR
  rw [suo users hl _ (by omega), swithin]
  simp only [Option.bind_some]
  by_cases g : usersB users = true
  · have h400 : users.length ≤ 400 := by simp only [usersB, Bool.and_eq_true, decide_eq_true_eq] at g; exact g.1
    by_cases hp : inB per 1 20 = true
    · have hp' : 1 ≤ per ∧ per ≤ 20 := by simpa [inB] using hp
      obtain ⟨n, rfl⟩ := Int.eq_ofNat_of_zero_le (show 0 ≤ per by omega)
      have hb := bfN_bound users.length n h400 (by omega)
      have hq := bfP_bound n
      rw [if_pos g, if_pos ⟨g, hp⟩, hp, spec_BloomOf.j0, if_neg (by decide)]
      rw [← Int.natCast_mul users.length n]
      rw [mx64 users.length n h400 (by omega), if_pos (by omega), if_pos (by omega), pr_s n (by omega), Int.toNat_natCast, Int.toNat_natCast]
      have h := sbo_l0 users h400 hs (bfP n) (by omega) (bfN users.length n) (by omega) (by omega) users.length k 0 (List.replicate (bfN users.length n) 0) (by simp) (by omega) (by omega) (by omega)
      simpa using h
    · have hp' : inB per 1 20 = false := by simpa using hp
      rw [if_pos g, if_neg (fun h => hp h.2), hp', Bool.not_false, jt]
  · rw [if_neg g, if_neg (fun h => g h.1), jt]

/-! ## section draw -/
/-- the code that things are drawn from: each cell is a byte -/
def isCode (l : List Int) : Prop := l.length ≤ 1048576 ∧ ∀ x ∈ l, 0 ≤ x ∧ x ≤ 255
theorem code_of {l : List Int} (h : ¬ ((l.length : Int) > 1048576)) (hw : ∀ x ∈ l, (Lit.int .u8 x).wf = true) : isCode l := by
  refine ⟨by omega, fun x hx => ?_⟩
  have := hw x hx
  simp [Lit.wf, IntKind.min, IntKind.max, IntKind.bits, IntKind.signed] at this
  omega
def posOk (l : List Int) (p : Int) : Prop := 0 ≤ p ∧ p ≤ l.length
theorem rd_code {l : List Int} (h : isCode l) (i : Int) : 0 ≤ rd l i ∧ rd l i ≤ 255 := by
  unfold rd
  rw [List.getD_eq_getElem?_getD]
  cases hi : l[i.toNat]? with
  | none => simp
  | some b => simpa using h.2 b (List.mem_of_getElem? hi)
theorem dnext {l : List Int} (h : isCode l) {p : Int} (hp : posOk l p) : ∃ v q, spec_l1Rd_next.f l p = some (v, q) ∧ 0 ≤ v ∧ v ≤ 255 ∧ posOk l q := by
  have hl := h.1
  obtain ⟨h0, h1⟩ := hp
  unfold spec_l1Rd_next.f
  by_cases c : p ≥ (l.length : Int)
  · rw [if_pos c]
    exact ⟨0, p, rfl, by omega, by omega, h0, h1⟩
  · have e1 : wrap64 (p + 1) = p + 1 := by unfold wrap64; omega
    have e2 : wrap64 (p + 1 - 1) = p := by unfold wrap64; omega
    have hr := rd_code h p
    have e3 : wrap64 (rd l p) = rd l p := by unfold wrap64; omega
    rw [if_neg c, e1, e2, if_pos h0, if_pos (by omega), e3]
    exact ⟨_, _, rfl, hr.1, hr.2, by omega, by omega⟩
theorem dbelow {l : List Int} (h : isCode l) {p : Int} (hp : posOk l p) {n : Int} (hn : 1 ≤ n) : ∃ v q, spec_l1Rd_below.f l p n = some (v, q) ∧ 0 ≤ v ∧ v < n ∧ posOk l q := by
  unfold spec_l1Rd_below.f
  by_cases c : n ≤ 1
  · rw [if_pos c]
    exact ⟨0, p, rfl, by omega, by omega, hp⟩
  · rw [if_neg c]
    obtain ⟨v, q, e, h0, h1, hq⟩ := dnext h hp
    by_cases c2 : n ≤ 256
    · rw [if_pos c2, e]
      simp only [Option.bind_some]
      rw [if_neg (by omega)]
      refine ⟨_, _, rfl, ?_, ?_, hq⟩
      · rw [Int.tmod_eq_emod_of_nonneg h0]; exact Int.emod_nonneg _ (by omega)
      · rw [Int.tmod_eq_emod_of_nonneg h0]; exact Int.emod_lt_of_pos _ (by omega)
    · rw [if_neg c2, e]
      simp only [Option.bind_some]
      obtain ⟨v2, q2, e2, h2, h3, hq2⟩ := dnext h hq
      rw [e2]
      simp only [Option.bind_some]
      rw [if_neg (by omega)]
      have ew : wrap64 (wrap64 (v * 256) + v2) = v * 256 + v2 := by unfold wrap64; omega
      rw [ew]
      refine ⟨_, _, rfl, ?_, ?_, hq2⟩
      · rw [Int.tmod_eq_emod_of_nonneg (by omega)]; exact Int.emod_nonneg _ (by omega)
      · rw [Int.tmod_eq_emod_of_nonneg (by omega)]; exact Int.emod_lt_of_pos _ (by omega)
theorem posOk0 (l : List Int) : posOk l 0 := ⟨Int.le_refl _, by omega⟩

/-! ## section drawuser -/
theorem duser {l : List Int} (h : isCode l) {p : Int} (hp : posOk l p) : ∃ s q, spec_l1Rd_user.f l p = some (s, q) ∧ 1 ≤ s.size ∧ s.size ≤ 4 ∧ posOk l q := by
  unfold spec_l1Rd_user.f
  simp only [Option.bind_some]
  obtain ⟨v, r, e2, hv0, hv1, hr⟩ := dbelow h hp (n := 10) (by omega)
  rw [e2]
  simp only [Option.bind_some]
  rw [if_pos hv0, if_pos (by simpa using hv1)]
  obtain ⟨n, rfl⟩ := Int.eq_ofNat_of_zero_le hv0
  have hn : n < 10 := by omega
  have key : ∀ n, n < 10 → 1 ≤ (rdOf ByteArray.empty ([(⟨#[97]⟩ : ByteArray), (⟨#[98]⟩ : ByteArray), (⟨#[97, 98]⟩ : ByteArray), (⟨#[97, 98, 99]⟩ : ByteArray), (⟨#[97, 98, 100]⟩ : ByteArray), (⟨#[107, 101, 121]⟩ : ByteArray), (⟨#[107, 101, 121, 49]⟩ : ByteArray), (⟨#[107, 101, 121, 50]⟩ : ByteArray), (⟨#[122, 122]⟩ : ByteArray), (⟨#[97, 0]⟩ : ByteArray)] : List ByteArray) ((n : Nat) : Int)).size ∧ (rdOf ByteArray.empty ([(⟨#[97]⟩ : ByteArray), (⟨#[98]⟩ : ByteArray), (⟨#[97, 98]⟩ : ByteArray), (⟨#[97, 98, 99]⟩ : ByteArray), (⟨#[97, 98, 100]⟩ : ByteArray), (⟨#[107, 101, 121]⟩ : ByteArray), (⟨#[107, 101, 121, 49]⟩ : ByteArray), (⟨#[107, 101, 121, 50]⟩ : ByteArray), (⟨#[122, 122]⟩ : ByteArray), (⟨#[97, 0]⟩ : ByteArray)] : List ByteArray) ((n : Nat) : Int)).size ≤ 4 := by decide +kernel
  have := key n hn
  exact ⟨_, _, rfl, this.1, this.2, hr⟩

/-! ## section drawonce -/
theorem donce {l : List Int} (h : isCode l) {p : Int} (hp : posOk l p) {n : Int} (hn : 1 ≤ n) : ∃ v q, spec_l1Rd_once.f l p n = some (v, q) ∧ posOk l q := by
  unfold spec_l1Rd_once.f
  obtain ⟨v, q, e, _, _, hq⟩ := dbelow h hp hn
  rw [e]
  exact ⟨_, _, rfl, hq⟩

/-! ## section putsize -/
theorem strOfNums_size (l : List Int) : (strOfNums l).size = l.length := by simp [strOfNums, ByteArray.size]

/-! ## section drawbytes -/
theorem dbytes_l0 {l : List Int} (h : isCode l) : ∀ (d k : Nat) (acc : List Int) (p : Int), d < k → acc.length + d < 140737488355328 → (∀ x ∈ acc, 0 ≤ x ∧ x < 256) → posOk l p → ∃ zs q, spec_l1Rd_bytes.l0 k acc d l p = some (strOfNums zs, q) ∧ zs.length = acc.length + d ∧ (∀ x ∈ zs, 0 ≤ x ∧ x < 256) ∧ posOk l q := by
  intro d
  induction d with
  | zero =>
    intro k acc p hk hl ha hp
    obtain ⟨k, rfl⟩ : ∃ m, k = m + 1 := ⟨k - 1, by omega⟩
    rw [spec_l1Rd_bytes.l0, if_neg (by omega)]
    exact ⟨acc, p, rfl, by omega, ha, hp⟩
  | succ d ih =>
    intro k acc p hk hl ha hp
    obtain ⟨k, rfl⟩ : ∃ m, k = m + 1 := ⟨k - 1, by omega⟩
    obtain ⟨v, q, e, v0, v1, hq⟩ := dbelow h hp (n := 256) (by omega)
    have ed : wrap64 (((d + 1 : Nat) : Int) - 1) = (d : Int) := by unfold wrap64; omega
    rw [spec_l1Rd_bytes.l0, if_pos (by omega), e]
    simp only [Option.bind_some]
    rw [if_pos (by omega), ed]
    obtain ⟨zs, r, e2, hz, hb, hr⟩ := ih k (acc ++ [v % 256]) q (by omega) (by simp; omega) (by
      intro x hx
      rcases List.mem_append.1 hx with hx | hx
      · exact ha x hx
      · simp at hx; omega) hq
    exact ⟨zs, r, e2, by rw [hz]; simp; omega, hb, hr⟩
/-- some bytes are drawn: at most 'most' -/
theorem dbytes {l : List Int} (h : isCode l) {p : Int} (hp : posOk l p) {most k : Nat} (hm : most ≤ 1000) (hk : most < k) : ∃ s q, spec_l1Rd_bytes.f k l p (most : Int) = some (s, q) ∧ s.size ≤ most ∧ posOk l q := by
  unfold spec_l1Rd_bytes.f
  have em : wrap64 ((most : Int) + 1) = (most : Int) + 1 := by unfold wrap64; omega
  rw [em]
  obtain ⟨v, q, e, v0, v1, hq⟩ := dbelow h hp (n := (most : Int) + 1) (by omega)
  rw [e]
  simp only [Option.bind_some]
  obtain ⟨d, rfl⟩ := Int.eq_ofNat_of_zero_le v0
  obtain ⟨zs, r, e2, hz, _, hr⟩ := dbytes_l0 h d k [] q (by omega) (by simp; omega) (by simp) hq
  exact ⟨_, r, e2, by rw [strOfNums_size, hz]; simp; omega, hr⟩

/-! ## section drawusers -/
theorem dusers_l0 {l : List Int} (h : isCode l) : ∀ (d k : Nat) (acc : List ByteArray) (p : Int), d + 46 < k → acc.length + d < 1000000 → (∀ u ∈ acc, u.size ≤ 44) → posOk l p → ∃ us q, spec_l1Rd_users.l0 k acc d l p = some (us, q) ∧ us.length ≤ acc.length + d + 1 ∧ (∀ u ∈ us, u.size ≤ 44) ∧ posOk l q := by
  intro d
  induction d with
  | zero =>
    intro k acc p hk hl ha hp
    obtain ⟨k, rfl⟩ : ∃ m, k = m + 1 := ⟨k - 1, by omega⟩
    rw [spec_l1Rd_users.l0, if_neg (by omega)]
    obtain ⟨b, q, e, hq⟩ := donce h hp (n := 24) (by omega)
    rw [e]; simp only [Option.bind_some]
    split
    · obtain ⟨v, q5, e5, hv, hq5⟩ := dbytes h hq (most := 44) (k := k) (by omega) (by omega)
      simp only [Int.cast_ofNat_Int] at e5
      rw [e5]; simp only [Option.bind_some]
      rw [if_pos (by omega)]
      refine ⟨_, _, rfl, by simp, ?_, hq5⟩
      intro u hu
      rcases List.mem_append.1 hu with hu | hu
      · exact ha u hu
      · simp at hu; subst hu; exact hv
    · exact ⟨_, _, rfl, by omega, ha, hq⟩
  | succ d ih =>
    intro k acc p hk hl ha hp
    obtain ⟨k, rfl⟩ : ∃ m, k = m + 1 := ⟨k - 1, by omega⟩
    obtain ⟨b, q, e, hq⟩ := donce h hp (n := 3) (by omega)
    have ed : wrap64 (((d + 1 : Nat) : Int) - 1) = (d : Int) := by unfold wrap64; omega
    rw [spec_l1Rd_users.l0, if_pos (by omega), e]
    simp only [Option.bind_some]
    split
    · obtain ⟨v, q5, e5, hv, hq5⟩ := dbytes h hq (most := 3) (k := k) (by omega) (by omega)
      simp only [Int.cast_ofNat_Int] at e5
      rw [e5]; simp only [Option.bind_some]
      have h1 : (⟨#[107]⟩ : ByteArray).size = 1 := rfl
      rw [if_pos (by omega), if_pos (by omega), ed]
      obtain ⟨us, r, e6, h6, h7, h8⟩ := ih k (acc ++ [(⟨#[107]⟩ : ByteArray) ++ v]) q5 (by omega) (by simp; omega) (by
        intro u hu
        rcases List.mem_append.1 hu with hu | hu
        · exact ha u hu
        · simp at hu; subst hu; rw [bsize_append]; omega) hq5
      exact ⟨us, r, e6, by simp at h6; omega, h7, h8⟩
    · obtain ⟨v, q5, e5, hv, hv2, hq5⟩ := duser h hq
      rw [e5]; simp only [Option.bind_some]
      rw [if_pos (by omega), ed]
      obtain ⟨us, r, e6, h6, h7, h8⟩ := ih k (acc ++ [v]) q5 (by omega) (by simp; omega) (by
        intro u hu
        rcases List.mem_append.1 hu with hu | hu
        · exact ha u hu
        · simp at hu; subst hu; omega) hq5
      exact ⟨us, r, e6, by simp at h6; omega, h7, h8⟩
theorem dusers {l : List Int} (h : isCode l) {p : Int} (hp : posOk l p) {most k : Nat} (hm : most ≤ 1000) (hk : most + 46 < k) : ∃ us q, spec_l1Rd_users.f k l p (most : Int) = some (us, q) ∧ us.length ≤ most + 1 ∧ (∀ u ∈ us, u.size ≤ 44) ∧ posOk l q := by
  unfold spec_l1Rd_users.f
  have em : wrap64 ((most : Int) + 1) = (most : Int) + 1 := by unfold wrap64; omega
  rw [em]
  obtain ⟨v, q, e, v0, v1, hq⟩ := dbelow h hp (n := (most : Int) + 1) (by omega)
  rw [e]; simp only [Option.bind_some]
  obtain ⟨d, rfl⟩ := Int.eq_ofNat_of_zero_le v0
  obtain ⟨us, r, e2, h2, h3, h4⟩ := dusers_l0 h d k [] q (by omega) (by simp; omega) (by simp) hq
  exact ⟨us, r, e2, by simp at h2; omega, h3, h4⟩

/-! ## section drawword -/
theorem dword_l0 {l : List Int} (h : isCode l) : ∀ (d k i : Nat) (x p : Int), i ≤ 8 → 8 - i = d → d < k → 0 ≤ x → x < 18446744073709551616 → posOk l p → ∃ v q, spec_l1Rd_word.l0 k x i l p = some (v, q) ∧ 0 ≤ v ∧ v < 18446744073709551616 ∧ posOk l q := by
  intro d
  induction d with
  | zero =>
    intro k i x p h1 h2 hk hx0 hx1 hp
    obtain ⟨k, rfl⟩ : ∃ m, k = m + 1 := ⟨k - 1, by omega⟩
    rw [spec_l1Rd_word.l0, if_neg (by omega)]
    exact ⟨_, _, rfl, hx0, hx1, hp⟩
  | succ d ih =>
    intro k i x p h1 h2 hk hx0 hx1 hp
    obtain ⟨k, rfl⟩ : ∃ m, k = m + 1 := ⟨k - 1, by omega⟩
    obtain ⟨v, q, e, _, _, hq⟩ := dnext h hp
    have ei : wrap64 ((i : Int) + 1) = ((i + 1 : Nat) : Int) := by unfold wrap64; omega
    rw [spec_l1Rd_word.l0, if_pos (by omega), e]
    simp only [Option.bind_some]
    rw [ei]
    have hb := bits_range .u64 rfl .or (IntKind.u64.wrap (x * 256)) (IntKind.u64.wrap v)
    exact ih k (i + 1) _ q (by omega) (by omega) (by omega) hb.1 hb.2 hq
theorem dword {l : List Int} (h : isCode l) {p : Int} (hp : posOk l p) {k : Nat} (hk : 9 ≤ k) : ∃ v q, spec_l1Rd_word.f k l p = some (v, q) ∧ 0 ≤ v ∧ v < 18446744073709551616 ∧ posOk l q := by
  unfold spec_l1Rd_word.f
  exact dword_l0 h 8 k 0 0 p (by omega) (by omega) (by omega) (by omega) (by omega) hp

/-! ## section drawnear -/
theorem dnear {l : List Int} (h : isCode l) {p : Int} (hp : posOk l p) {k : Nat} (hk : 9 ≤ k) {lo hi : Int} (h0 : 0 ≤ lo) (h1 : lo ≤ hi) (h2 : hi ≤ 1000000000000000) : ∃ v q, spec_l1Rd_near.f k l p lo hi = some (v, q) ∧ lo ≤ v ∧ v ≤ hi ∧ posOk l q := by
  unfold spec_l1Rd_near.f
  obtain ⟨v, q, e, _, _, hq⟩ := dbelow h hp (n := 8) (by omega)
  rw [e]
  simp only [Option.bind_some]
  by_cases c0 : v = 0
  · rw [if_pos c0]; exact ⟨_, _, rfl, by omega, by omega, hq⟩
  · rw [if_neg c0]
    by_cases c1 : v = 1
    · rw [if_pos c1]; exact ⟨_, _, rfl, by omega, by omega, hq⟩
    · rw [if_neg c1, if_neg (by omega)]
      obtain ⟨x, r, e2, hx0, hx1, hr⟩ := dword h hq hk
      rw [e2]
      simp only [Option.bind_some]
      have ew : IntKind.u64.wrap (wrap64 ((wrap64 (hi - lo)) + 1)) = hi - lo + 1 := by
        have e3 : wrap64 (hi - lo) = hi - lo := by unfold wrap64; omega
        have e4 : wrap64 (hi - lo + 1) = hi - lo + 1 := by unfold wrap64; omega
        rw [e3, e4, u64w]; omega
      rw [ew, if_neg (by omega)]
      have hm : 0 ≤ Int.tmod (x / 2) (hi - lo + 1) ∧ Int.tmod (x / 2) (hi - lo + 1) < hi - lo + 1 := by
        rw [Int.tmod_eq_emod_of_nonneg (by omega)]
        exact ⟨Int.emod_nonneg _ (by omega), Int.emod_lt_of_pos _ (by omega)⟩
      have ez : wrap64 (lo + (wrap64 (Int.tmod (x / 2) (hi - lo + 1)))) = lo + Int.tmod (x / 2) (hi - lo + 1) := by
        have e5 : wrap64 (Int.tmod (x / 2) (hi - lo + 1)) = Int.tmod (x / 2) (hi - lo + 1) := by unfold wrap64; omega
        rw [e5]; unfold wrap64; omega
      rw [ez]
      exact ⟨_, _, rfl, by omega, by omega, hr⟩

/-! ## section drawoff -/
def i64r (v : Int) : Prop := -9223372036854775808 ≤ v ∧ v ≤ 9223372036854775807
theorem doff {l : List Int} (h : isCode l) {p : Int} (hp : posOk l p) {k : Nat} (hk : 9 ≤ k) {lo hi : Int} (h0 : 0 ≤ lo) (h1 : lo ≤ hi) (h2 : hi ≤ 1000000000000000) : ∃ v q, spec_l1Rd_off.f k l p lo hi = some (v, q) ∧ i64r v ∧ posOk l q := by
  unfold spec_l1Rd_off.f
  obtain ⟨b, q, e, hq⟩ := donce h hp (n := 24) (by omega)
  rw [e]
  simp only [Option.bind_some]
  by_cases c : b = true
  · rw [if_pos c]
    obtain ⟨v, r, e2, hv0, hv1, hr⟩ := dbelow h hq (n := 4) (by omega)
    rw [e2]
    simp only [Option.bind_some]
    rw [if_pos hv0, if_pos (by simpa using hv1)]
    have e3 : wrap64 (lo - 1) = lo - 1 := by unfold wrap64; omega
    have e4 : wrap64 (hi + 1) = hi + 1 := by unfold wrap64; omega
    rw [e3, e4]
    refine ⟨_, _, rfl, ?_, hr⟩
    obtain ⟨n, rfl⟩ := Int.eq_ofNat_of_zero_le hv0
    have hn : n < 4 := by omega
    unfold rd i64r
    rw [Int.toNat_natCast]
    match n, hn with
    | 0, _ => simp; omega
    | 1, _ => simp; omega
    | 2, _ => simp
    | 3, _ => simp
  · rw [if_neg c]
    obtain ⟨v, r, e2, a, b, hr⟩ := dnear h hq hk h0 h1 h2
    rw [e2]
    exact ⟨_, _, rfl, ⟨by omega, by omega⟩, hr⟩

theorem addUs_append (many : Nat) : ∀ (xs ys : List ByteArray) (l : List Int), addUs many (xs ++ ys) l = addUs many ys (addUs many xs l)
  | [], _, _ => rfl
  | x :: xs, ys, l => by rw [List.cons_append, addUs, addUs, addUs_append many xs ys]
theorem usersB_take {us : List ByteArray} (h : usersB us = true) (n : Nat) : usersB (us.take n) = true := by
  simp only [usersB, Bool.and_eq_true, decide_eq_true_eq, List.all_eq_true] at h ⊢
  exact ⟨by rw [List.length_take]; omega, fun x hx => h.2 x (List.mem_of_mem_take hx)⟩
theorem flt_made {P N : Nat} (h1 : 1 ≤ P ∧ P ≤ 30) (h2 : 8 ≤ N ∧ N ≤ 1000) {s : ByteArray} (hs : s.size = N) : fltB 1 0 (P : Int) s = true := by
  unfold fltB
  rw [if_neg (by decide), if_pos rfl]
  simp only [inB, Bool.and_eq_true, decide_eq_true_eq]
  refine ⟨trivial, ⟨?_, ?_⟩, ?_, ?_⟩ <;> omega
theorem may_more (many : Nat) (xs ys : List ByteArray) (u : ByteArray) (N : Nat) (hN : 8 ≤ N) (h : mayB (strOfNums (addUs many xs (List.replicate N 0))) u many many = true) : mayB (strOfNums (addUs many (xs ++ ys) (List.replicate N 0))) u many many = true := by
  have hz := zeros_ok N
  have hB := addUs_ok many xs _ hz
  have hlB : (addUs many xs (List.replicate N 0)).length = N := by rw [addUs_length]; simp
  rw [addUs_append]
  generalize addUs many xs (List.replicate N 0) = L at h hB hlB
  have hlA : (addUs many ys L).length = N := by rw [addUs_length, hlB]
  have hA := addUs_ok many ys L hB
  rw [mayB_iff _ _ _ _ (Nat.le_refl _)] at h ⊢
  intro i h1 h2
  have := h i h1 h2
  rw [bitB_tb hB, strOfNums_sz, hlB] at this
  rw [bitB_tb hA, strOfNums_sz, hlA]
  exact addUs_keep many _ ys L hB (by omega) this
theorem draw_ask {l : List Int} (h : isCode l) (k : Nat) (hk : 1300000 < k) : ∃ a b c s u, spec_DrawBloomMay.f k l = some (a, b, c, s, u) ∧ u.size ≤ 4 := by
  unfold spec_DrawBloomMay.f spec_l1Open.f
  simp only [Option.bind_some]
  obtain ⟨us, q, e1, h1, h2, hq⟩ := dusers h (posOk0 l) (most := 12) (k := k) (by omega) (by omega)
  simp only [Int.cast_ofNat_Int] at e1
  rw [e1]; simp only [Option.bind_some]
  obtain ⟨v, q1, e2, v0, v1, hq1⟩ := dnear h hq (k := k) (by omega) (lo := 0) (hi := 19) (by omega) (by omega) (by omega)
  rw [e2]; simp only [Option.bind_some]
  rw [sbo _ us (by omega) (fun u hu => by have := h2 u hu; omega) (wrap64 (1 + v)) (by omega)]
  simp only [Option.bind_some]
  obtain ⟨b, q2, e3, hq2⟩ := donce h hq1 (n := 12) (by omega)
  rw [e3]; simp only [Option.bind_some]
  by_cases c : b = true
  · rw [if_pos c]
    obtain ⟨w, q3, e4, _, hq3⟩ := doff h hq2 (k := k) (by omega) (lo := 1) (hi := 30) (by omega) (by omega) (by omega)
    rw [e4]; simp only [Option.bind_some]
    obtain ⟨u, q4, e5, _, hu, _⟩ := duser h hq3
    rw [e5]; simp only [Option.bind_some]
    exact ⟨_, _, _, _, _, rfl, hu⟩
  · rw [if_neg c]
    obtain ⟨u, q4, e5, _, hu, _⟩ := duser h hq2
    rw [e5]; simp only [Option.bind_some]
    exact ⟨_, _, _, _, _, rfl, hu⟩
theorem FnBloomMore : laws_FnBloomMore.Pure := by
  intro l _ _ hw
  obtain ⟨k, hk⟩ : ∃ k : Nat, 1400000 = k := ⟨_, rfl⟩
  refine ⟨k, ?_⟩
  unfold laws_FnBloomMore.f laws_big.f
  simp only [Option.bind_some]
  by_cases hb : (l.length : Int) > 1048576
  · rw [if_pos (by simpa using hb)]
  · have hc := code_of hb hw
    rw [if_neg (by simpa using hb)]
    obtain ⟨x, e, hu1, hu2⟩ : ∃ x, spec_DrawBloomOf.f k l = some x ∧ x.1.length ≤ 13 ∧ ∀ u ∈ x.1, u.size ≤ 44 := by
      unfold spec_DrawBloomOf.f spec_l1Open.f
      simp only [Option.bind_some]
      obtain ⟨us, q, e1, h1, h2, hq⟩ := dusers hc (posOk0 l) (most := 12) (k := k) (by omega) (by omega)
      simp only [Int.cast_ofNat_Int] at e1
      rw [e1]; simp only [Option.bind_some]
      obtain ⟨per, q2, e2, _, hq2⟩ := doff hc hq (k := k) (by omega) (lo := 1) (hi := 20) (by omega) (by omega) (by omega)
      rw [e2]
      exact ⟨(us, per), rfl, h1, h2⟩
    obtain ⟨y, ea, hu⟩ : ∃ y, spec_DrawBloomMay.f k l = some y ∧ y.2.2.2.2.size ≤ 4 := by
      obtain ⟨a0, b0, c0, s0, u, ea, hu⟩ := draw_ask hc k (by omega)
      exact ⟨_, ea, hu⟩
    rw [e, Option.bind_some, ea, Option.bind_some]
    clear e ea
    generalize x.1 = us at hu1 hu2 ⊢
    generalize x.2 = per
    generalize y.2.2.2.2 = u at hu ⊢
    have hs : ∀ u ∈ us, u.size ≤ 1048576 := fun u hu => by have := hu2 u hu; omega
    have hK : l.length % (us.length + 1) ≤ us.length := by have := Nat.mod_lt l.length (show 0 < us.length + 1 by omega); omega
    have ew : wrap64 ((us.length : Int) + 1) = ((us.length + 1 : Nat) : Int) := w64s (n := 100) (by omega) (by omega)
    have em : (l.length : Int) % ((us.length + 1 : Nat) : Int) = ((l.length % (us.length + 1) : Nat) : Int) := (Int.natCast_emod _ _).symm
    rw [ew, em, if_neg (show ¬ ((us.length + 1 : Nat) : Int) = 0 by clear ew em; omega)]
    clear ew em
    generalize l.length % (us.length + 1) = K at hK
    rw [ibo _ us (by omega) hs per (by omega)]
    simp only [Option.bind_some]
    rw [if_pos (by omega), if_pos (by omega), Int.toNat_natCast, ibo _ (us.take K) (by rw [List.length_take]; omega) (fun u hu => hs u (List.mem_of_mem_take hu)) per (by omega), sbo _ us (by omega) hs per (by omega)]
    simp only [Option.bind_some]
    rw [if_neg (by simp)]
    by_cases g : usersB us = true ∧ inB per 1 20 = true
    · have g2 : usersB (us.take K) = true ∧ inB per 1 20 = true := ⟨usersB_take g.1 K, g.2⟩
      have hp : 1 ≤ per ∧ per ≤ 20 := by have := g.2; simpa [inB] using this
      obtain ⟨n, rfl⟩ := Int.eq_ofNat_of_zero_le (show 0 ≤ per by omega)
      unfold boR
      rw [if_pos g, if_pos g2]
      simp only [Int.toNat_natCast, Bool.not_true]
      obtain ⟨k, rfl⟩ : ∃ j, k = j + 1 := ⟨k - 1, by omega⟩
      rw [if_pos trivial, laws_FnBloomMore.j0, if_neg (by decide), if_pos rfl]
      have hP := bfP_bound n
      have hN := bfN_bound us.length n (by omega) (by omega)
      have hM := bfN_bound (us.take K).length n (by rw [List.length_take]; omega) (by omega)
      have z1 : (strOfNums (addUs (bfP n) us (List.replicate (bfN us.length n) 0))).size = bfN us.length n := by rw [strOfNums_sz, addUs_length]; simp
      have z2 : (strOfNums (addUs (bfP n) (us.take K) (List.replicate (bfN (us.take K).length n) 0))).size = bfN (us.take K).length n := by rw [strOfNums_sz, addUs_length]; simp
      rw [z1, z2]
      by_cases q : ((bfN us.length n : Nat) : Int) = ((bfN (us.take K).length n : Nat) : Int)
      · have q' : bfN us.length n = bfN (us.take K).length n := by omega
        rw [if_pos q]
        have m1 := ibmay k 1 0 ((bfP n : Nat) : Int) _ u (show (strOfNums (addUs (bfP n) (us.take K) (List.replicate (bfN (us.take K).length n) 0))).size ≤ 1048576 by omega) (by omega) (by omega)
        have m2 := ibmay k 1 0 ((bfP n : Nat) : Int) _ u (show (strOfNums (addUs (bfP n) us (List.replicate (bfN us.length n) 0))).size ≤ 1048576 by omega) (by omega) (by omega)
        rw [m1]
        simp only [Option.bind_some]
        by_cases w : bmayB 1 0 ((bfP n : Nat) : Int) (strOfNums (addUs (bfP n) (us.take K) (List.replicate (bfN (us.take K).length n) 0))) u = true
        · rw [if_pos w, m2]
          simp only [Option.bind_some]
          unfold bmayB at w ⊢
          rw [flt_made hP hM z2] at w
          rw [flt_made hP hN z1]
          simp only [decide_true, Bool.not_true, Bool.false_or, Int.toNat_natCast] at w ⊢
          rw [← q'] at w
          have := may_more (bfP n) (us.take K) (us.drop K) u _ hN.1 w
          rw [List.take_append_drop] at this
          rw [this]
        · rw [if_neg w]
      · rw [if_neg q]
    · unfold boR
      rw [if_neg g]
      simp only
      obtain ⟨k, rfl⟩ : ∃ j, k = j + 1 := ⟨k - 1, by omega⟩
      rw [if_neg (by decide), laws_FnBloomMore.j0, if_neg (by decide), if_neg (by decide)]

end Go.Proofs.Ytfcjacncllmapad.Pure
