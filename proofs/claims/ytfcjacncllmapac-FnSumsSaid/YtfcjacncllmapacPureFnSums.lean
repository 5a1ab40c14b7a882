/- Bytes with one bit turned over have another sum: at every code. No condition. -/
import Derived.Test.YtfcjacncllmapacQFnSumsx
namespace Go.Proofs.Ytfcjacncllmapac.Pure
open Go.RowKit Go.Proofs.Ytfcjacncllmapac.QFnSums Go.Proofs.YtfcjacncllmapacW.PrintWords Go.Proofs.YtfcjacncllmapacW.PrintLast Go.Proofs.YtfcjacncllmapacW.PrintMore
set_option linter.unusedVariables false
set_option linter.unusedSimpArgs false

/-! ## section base -/
/-- an unsigned kind's number that fits is not wrapped -/
theorem wrapU (k : IntKind) (hs : k.signed = false) (n : Nat) (h : n < 2 ^ k.bits) : k.wrap (n : Int) = n := by
  unfold IntKind.wrap
  rw [Int.emod_eq_of_lt (by omega) (by exact_mod_cast h)]
  simp [hs]
/-- bits of unsigned numbers are those of natural numbers -/
theorem b_or (k : IntKind) (hs : k.signed = false) (a b : Nat) (ha : a < 2 ^ k.bits) (hb : b < 2 ^ k.bits) : Go.bits .or k a b = ((a ||| b : Nat) : Int) := by
  simp only [Go.bits, BitVec.ofInt_natCast, BitVec.toNat_or, BitVec.toNat_ofNat, Nat.mod_eq_of_lt ha, Nat.mod_eq_of_lt hb]
  exact wrapU k hs _ (Nat.or_lt_two_pow ha hb)
theorem b_xor (k : IntKind) (hs : k.signed = false) (a b : Nat) (ha : a < 2 ^ k.bits) (hb : b < 2 ^ k.bits) : Go.bits .xor k a b = ((a ^^^ b : Nat) : Int) := by
  simp only [Go.bits, BitVec.ofInt_natCast, BitVec.toNat_xor, BitVec.toNat_ofNat, Nat.mod_eq_of_lt ha, Nat.mod_eq_of_lt hb]
  exact wrapU k hs _ (Nat.xor_lt_two_pow ha hb)
theorem b_and (k : IntKind) (hs : k.signed = false) (a b : Nat) (ha : a < 2 ^ k.bits) (hb : b < 2 ^ k.bits) : Go.bits .and k a b = ((a &&& b : Nat) : Int) := by
  simp only [Go.bits, BitVec.ofInt_natCast, BitVec.toNat_and, BitVec.toNat_ofNat, Nat.mod_eq_of_lt ha, Nat.mod_eq_of_lt hb]
  exact wrapU k hs _ (Nat.and_lt_two_pow _ hb)
theorem b_or8 (a b : Nat) (ha : a < 256) (hb : b < 256) : Go.bits .or .u8 a b = ((a ||| b : Nat) : Int) := b_or .u8 rfl a b ha hb
theorem u64w (x : Int) : IntKind.u64.wrap x = x % 18446744073709551616 := by simp [IntKind.wrap, IntKind.bits, IntKind.signed]

/-! ## section bytes -/
/-- the bytes of a text, as natural numbers -/
def nb (s : ByteArray) : List Nat := s.data.toList.map UInt8.toNat
theorem nb_length (s : ByteArray) : (nb s).length = s.size := by rw [nb, List.length_map, Array.length_toList]; rfl
theorem nb_lt (s : ByteArray) : ∀ b ∈ nb s, b < 256 := by
  intro b hb
  simp only [nb, List.mem_map] at hb
  obtain ⟨u, _, rfl⟩ := hb
  exact u.toNat_lt
theorem bt_nb (s : ByteArray) (i : Nat) (h : i < s.size) : bt s i = (((nb s)[i]'(by rw [nb_length]; exact h) : Nat) : Int) := by
  simp only [bt, Int.toNat_natCast, h, nb]
  simp
  rfl
theorem nb_drop (s : ByteArray) (i : Nat) (h : i < s.size) : ∃ b, (nb s).drop i = b :: (nb s).drop (i + 1) ∧ bt s i = (b : Int) ∧ b < 256 := by
  have hl : i < (nb s).length := by rw [nb_length]; exact h
  exact ⟨(nb s)[i], List.drop_eq_getElem_cons hl, bt_nb s i h, nb_lt s _ (List.getElem_mem hl)⟩
theorem nb_end (s : ByteArray) (i : Nat) (h : s.size ≤ i) : (nb s).drop i = [] := List.drop_eq_nil_of_le (by rw [nb_length]; exact h)
theorem w64 {x : Int} (h0 : -9223372036854775808 ≤ x) (h1 : x < 9223372036854775808) : wrap64 x = x := by unfold wrap64; omega
theorem w64s {i n : Nat} (h : i < n) (hn : n ≤ 140737488351232) : wrap64 ((i : Int) + 1) = ((i + 1 : Nat) : Int) := by rw [w64] <;> omega
theorem bits_range (k : IntKind) (hs : k.signed = false) (op : BinOp) (x y : Int) : 0 ≤ Go.bits op k x y ∧ Go.bits op k x y < 2 ^ k.bits := by
  have hp : (0 : Int) < 2 ^ k.bits := by exact_mod_cast Nat.two_pow_pos k.bits
  unfold Go.bits IntKind.wrap
  simp only [hs, Bool.false_and]
  exact ⟨Int.emod_nonneg _ (by omega), Int.emod_lt_of_pos _ hp⟩

/-! ## section crc -/
def cbit (x : Nat) : Nat := if x % 2 = 1 then (x / 2) ^^^ 2197175160 else x / 2
def cbits : Nat → Nat → Nat
  | 0, x => x
  | n + 1, x => cbits n (cbit x)
def cbyte (x b : Nat) : Nat := cbits 8 (x ^^^ b)
def crcL : List Nat → Nat → Nat
  | [], x => x
  | b :: l, x => crcL l (cbyte x b)
/-- the sum of a list of bytes -/
def crcN (l : List Nat) : Nat := crcL l 4294967295 ^^^ 4294967295
theorem cbit_lt {x : Nat} (h : x < 4294967296) : cbit x < 4294967296 := by
  unfold cbit; split
  · exact Nat.xor_lt_two_pow (n := 32) (by omega) (by omega)
  · omega
theorem cbits_lt : ∀ (n : Nat) {x : Nat}, x < 4294967296 → cbits n x < 4294967296
  | 0, _, h => h
  | n + 1, _, h => cbits_lt n (cbit_lt h)
theorem xor_byte {x b : Nat} (h : x < 4294967296) (hb : b < 256) : x ^^^ b < 4294967296 := Nat.xor_lt_two_pow (n := 32) h (by omega)
theorem cbyte_lt {x b : Nat} (h : x < 4294967296) (hb : b < 256) : cbyte x b < 4294967296 := cbits_lt 8 (xor_byte h hb)
theorem crcL_lt : ∀ (l : List Nat) {x : Nat}, (∀ b ∈ l, b < 256) → x < 4294967296 → crcL l x < 4294967296
  | [], _, _, h => h
  | b :: l, _, hl, h => crcL_lt l (fun c hc => hl c (List.mem_cons_of_mem _ hc)) (cbyte_lt h (hl b List.mem_cons_self))
theorem crcN_lt (l : List Nat) (hl : ∀ b ∈ l, b < 256) : crcN l < 4294967296 := Nat.xor_lt_two_pow (n := 32) (crcL_lt l hl (by omega)) (by omega)
theorem cbit_odd {x : Nat} (h : x < 4294967296) (ho : x % 2 = 1) : Go.bits .xor .u32 ((x : Int) / 2) 2197175160 = (cbit x : Int) := by
  rw [show ((x : Int) / 2) = ((x / 2 : Nat) : Int) by omega, show (2197175160 : Int) = ((2197175160 : Nat) : Int) from rfl, b_xor .u32 rfl _ _ (by show _ < 4294967296; omega) (by decide), cbit, if_pos ho]
theorem cbit_even {x : Nat} (ho : ¬ x % 2 = 1) : ((x : Int) / 2) = (cbit x : Int) := by rw [cbit, if_neg ho]; omega
theorem icrc_l1 (s : ByteArray) : ∀ (d j k i x : Nat), j ≤ 8 → 8 - j = d → x < 4294967296 → impl_Crc.l1 (k + d + 1) s x s.size i j = impl_Crc.l0 k s (cbits d x : Nat) s.size (wrap64 ((i : Int) + 1)) := by
  intro d
  induction d with
  | zero =>
    intro j k i x h1 h2 hx
    rw [impl_Crc.l1, if_neg (by omega)]; rfl
  | succ d ih =>
    intro j k i x h1 h2 hx
    have e : wrap64 ((j : Int) + 1) = ((j + 1 : Nat) : Int) := by rw [w64] <;> omega
    have a : Go.bits .and .u32 (x : Int) 1 = ((x % 2 : Nat) : Int) := by
      rw [show (1 : Int) = ((1 : Nat) : Int) from rfl, b_and .u32 rfl _ _ hx (by decide), Nat.and_one_is_mod]
    rw [show k + (d + 1) + 1 = (k + d + 1) + 1 by omega, impl_Crc.l1, if_pos (by omega), a, e]
    by_cases o : x % 2 = 1
    · rw [if_pos (by omega), cbit_odd hx o, ih (j + 1) k i _ (by omega) (by omega) (cbit_lt hx)]; rfl
    · rw [if_neg (by omega), cbit_even o, ih (j + 1) k i _ (by omega) (by omega) (cbit_lt hx)]; rfl
theorem icrc_l0 (s : ByteArray) (hs : s.size ≤ 140737488351232) : ∀ (d k i x : Nat), i ≤ s.size → s.size - i = d → 10 * d < k → x < 4294967296 → impl_Crc.l0 k s x s.size i = some ((crcL ((nb s).drop i) x ^^^ 4294967295 : Nat) : Int) := by
  intro d
  induction d with
  | zero =>
    intro k i x h1 h2 hk hx
    obtain ⟨k, rfl⟩ : ∃ m, k = m + 1 := ⟨k - 1, by omega⟩
    rw [impl_Crc.l0, if_neg (by omega), nb_end s i (by omega)]
    rw [show (4294967295 : Int) = ((4294967295 : Nat) : Int) from rfl, b_xor .u32 rfl _ _ (by decide) hx, Nat.xor_comm]; rfl
  | succ d ih =>
    intro k i x h1 h2 hk hx
    obtain ⟨k, rfl⟩ : ∃ m, k = m + 8 + 1 + 1 := ⟨k - 10, by omega⟩
    obtain ⟨b, hd, hb, hl⟩ := nb_drop s i (by omega)
    rw [impl_Crc.l0, if_pos (by omega), if_pos (by omega), if_pos (by omega), hb, hd, show ((b : Int) % 4294967296) = b by omega, b_xor .u32 rfl _ _ hx (by show _ < 4294967296; omega)]
    rw [show (0 : Int) = ((0 : Nat) : Int) from rfl, icrc_l1 s 8 0 k i _ (by omega) (by omega) (xor_byte hx hl), w64s (n := s.size) (by omega) hs]
    rw [ih k (i + 1) _ (by omega) (by omega) (by omega) (cbits_lt 8 (xor_byte hx hl))]; rfl
theorem icrc (s : ByteArray) (hs : s.size ≤ 140737488351232) (k : Nat) (hk : 10 * s.size < k) : impl_Crc.f k s = some (crcN (nb s) : Int) := by
  unfold impl_Crc.f
  have h := icrc_l0 s hs s.size k 0 4294967295 (by omega) (by omega) hk (by omega)
  simpa [crcN] using h

/-! ## section ba -/
theorem nb_append (a b : ByteArray) : nb (a ++ b) = nb a ++ nb b := by
  simp [nb, ByteArray.data_append]
theorem nb_extract (s : ByteArray) (i j : Nat) : nb (s.extract i j) = ((nb s).take j).drop i := by
  rw [List.drop_take]
  simp [nb, ByteArray.data_extract]
theorem nb_inj {a b : ByteArray} (h : nb a = nb b) : a = b := by
  have h1 : a.data.toList = b.data.toList := by
    have h2 : ∀ (l m : List UInt8), l.map UInt8.toNat = m.map UInt8.toNat → l = m := by
      intro l
      induction l with
      | nil => intro m h; cases m with
        | nil => rfl
        | cons y m => simp at h
      | cons x l ih => intro m h; cases m with
        | nil => simp at h
        | cons y m =>
          simp only [List.map_cons, List.cons.injEq] at h
          rw [UInt8.toNat_inj.1 h.1, ih m h.2]
    exact h2 _ _ h
  cases a; cases b; simp_all
theorem nb_nums (l : List Int) (h : ∀ x ∈ l, 0 ≤ x ∧ x < 256) : nb (strOfNums l) = l.map Int.toNat := by
  simp only [nb, strOfNums, List.map_map]
  apply List.map_congr_left
  intro x hx
  have := h x hx
  simp only [Function.comp]
  rw [UInt8.toNat_ofNat']
  exact Nat.mod_eq_of_lt (by omega)
theorem nb_empty : nb (⟨#[]⟩ : ByteArray) = [] := rfl
theorem bsize_append (a b : ByteArray) : (a ++ b).size = a.size + b.size := ByteArray.size_append

/-! ## section crcflip -/
theorem xor_cancel {a b c : Nat} (h : a ^^^ c = b ^^^ c) : a = b := by
  have := congrArg (· ^^^ c) h
  simpa [Nat.xor_assoc] using this
theorem xor_cancel' {a b c : Nat} (h : c ^^^ a = c ^^^ b) : a = b := by
  rw [Nat.xor_comm c a, Nat.xor_comm c b] at h; exact xor_cancel h
theorem cbit_inj {x y : Nat} (hx : x < 4294967296) (hy : y < 4294967296) (h : cbit x = cbit y) : x = y := by
  have key : ∀ {u v : Nat}, u < 4294967296 → v < 4294967296 → u % 2 = 1 → ¬ v % 2 = 1 → cbit u = cbit v → False := by
    intro u v hu hv h1 h2 he
    rw [cbit, if_pos h1, cbit, if_neg h2] at he
    have h3 := congrArg (fun z => Nat.testBit z 31) he
    simp only [Nat.testBit_xor] at h3
    rw [Nat.testBit_lt_two_pow (x := u / 2) (i := 31) (by omega), Nat.testBit_lt_two_pow (x := v / 2) (i := 31) (by omega)] at h3
    exact absurd h3 (by decide)
  by_cases cx : x % 2 = 1
  · by_cases cy : y % 2 = 1
    · rw [cbit, if_pos cx, cbit, if_pos cy] at h
      have := xor_cancel h
      omega
    · exact (key hx hy cx cy h).elim
  · by_cases cy : y % 2 = 1
    · exact (key hy hx cy cx h.symm).elim
    · rw [cbit, if_neg cx, cbit, if_neg cy] at h
      omega
theorem cbits_inj : ∀ (n : Nat) {x y : Nat}, x < 4294967296 → y < 4294967296 → cbits n x = cbits n y → x = y
  | 0, x, y, _, _, h => h
  | n + 1, x, y, hx, hy, h => cbit_inj hx hy (cbits_inj n (cbit_lt hx) (cbit_lt hy) h)
theorem crcL_inj : ∀ (l : List Nat) {x y : Nat}, (∀ b ∈ l, b < 256) → x < 4294967296 → y < 4294967296 → crcL l x = crcL l y → x = y
  | [], x, y, _, _, _, h => h
  | b :: l, x, y, hl, hx, hy, h => by
    have hb := hl b (List.mem_cons_self ..)
    have h2 := crcL_inj l (fun c hc => hl c (List.mem_cons_of_mem _ hc)) (cbyte_lt hx hb) (cbyte_lt hy hb) h
    exact xor_cancel (cbits_inj 8 (xor_byte hx hb) (xor_byte hy hb) h2)
theorem crcL_append : ∀ (l m : List Nat) (x : Nat), crcL (l ++ m) x = crcL m (crcL l x)
  | [], m, x => rfl
  | b :: l, m, x => crcL_append l m (cbyte x b)
theorem crcL_diff (l m : List Nat) (b c : Nat) (hl : ∀ z ∈ l, z < 256) (hm : ∀ z ∈ m, z < 256) (hb : b < 256) (hc : c < 256) (hne : b ≠ c) {x : Nat} (hx : x < 4294967296) : crcL (l ++ b :: m) x ≠ crcL (l ++ c :: m) x := by
  intro h
  rw [crcL_append, crcL_append] at h
  have h1 : crcL l x < 4294967296 := crcL_lt l hl hx
  have h2 : cbyte (crcL l x) b = cbyte (crcL l x) c := crcL_inj m hm (cbyte_lt h1 hb) (cbyte_lt h1 hc) h
  exact hne (xor_cancel' (cbits_inj 8 (xor_byte h1 hb) (xor_byte h1 hc) h2))
theorem crcN_set (l : List Nat) (hl : ∀ z ∈ l, z < 256) (i : Nat) (hi : i < l.length) (c : Nat) (hc : c < 256) (hne : l[i] ≠ c) : crcN (l.set i c) ≠ crcN l := by
  intro h
  have h' : crcL (l.set i c) 4294967295 = crcL l 4294967295 := xor_cancel h
  have e : l = l.take i ++ l[i] :: l.drop (i + 1) := by
    rw [List.getElem_cons_drop, List.take_append_drop]
  have e2 : l.set i c = l.take i ++ c :: l.drop (i + 1) := List.set_eq_take_append_cons_drop .. |>.trans (if_pos hi)
  rw [e2] at h'
  rw [congrArg (fun z => crcL z 4294967295) e] at h'
  exact crcL_diff (l.take i) (l.drop (i + 1)) l[i] c (fun z hz => hl z (List.mem_of_mem_take hz)) (fun z hz => hl z (List.mem_of_mem_drop hz)) (hl _ (List.getElem_mem hi)) hc hne (by omega) h'.symm
theorem flip_lt {b j : Nat} (hb : b < 256) (hj : j < 8) : b ^^^ 2 ^ j < 256 := Nat.xor_lt_two_pow (n := 8) hb (Nat.pow_lt_pow_right (by omega) hj)
theorem flip_ne (b j : Nat) : b ≠ b ^^^ 2 ^ j := by
  intro h
  have h2 : b ^^^ 0 = b ^^^ 2 ^ j := by rw [Nat.xor_zero]; exact h
  have := xor_cancel' h2
  have hp : 0 < 2 ^ j := Nat.two_pow_pos j
  omega
theorem shl8 : ∀ j : Nat, j < 8 → shl .u8 1 (IntKind.u64.wrap (j : Int)) = ((2 ^ j : Nat) : Int) := by decide
theorem bytesOf_nb (s : ByteArray) : bytesOf s = (nb s).map (fun n : Nat => (n : Int)) := by
  simp only [bytesOf, nb, List.map_map]; rfl
/-- a text with one bit turned over -/
theorem nb_flip (s : ByteArray) (i j : Nat) (hi : i < s.size) (hj : j < 8) : nb (strOfNums ((bytesOf s).set i (Go.bits .xor .u8 (rd (bytesOf s) (i : Int)) (shl .u8 1 (IntKind.u64.wrap (j : Int)))))) = (nb s).set i ((nb s)[i]'(by rw [nb_length]; exact hi) ^^^ 2 ^ j) := by
  have hb := nb_lt s _ (List.getElem_mem (l := nb s) (n := i) (by rw [nb_length]; exact hi))
  rw [rd_bytesOf, bt_nb s i hi, shl8 j hj, b_xor .u8 rfl _ _ hb (Nat.pow_lt_pow_right (by omega) hj), bytesOf_nb]
  generalize (nb s)[i]'(by rw [nb_length]; exact hi) = b at hb
  rw [show (((b ^^^ 2 ^ j : Nat) : Int)) = (fun n : Nat => (n : Int)) (b ^^^ 2 ^ j) from rfl, ← List.map_set, nb_nums]
  · rw [List.map_map, show (Int.toNat ∘ fun n : Nat => (n : Int)) = id from by funext n; simp, List.map_id]
  · intro x hx
    obtain ⟨n, hn, rfl⟩ := List.mem_map.1 hx
    rcases List.mem_or_eq_of_mem_set hn with h | h
    · have := nb_lt s n h; show 0 ≤ (n : Int) ∧ (n : Int) < 256; omega
    · have := flip_lt hb hj; show 0 ≤ (n : Int) ∧ (n : Int) < 256; omega
theorem flip_size (s : ByteArray) (i j : Nat) (hi : i < s.size) (hj : j < 8) : (strOfNums ((bytesOf s).set i (Go.bits .xor .u8 (rd (bytesOf s) (i : Int)) (shl .u8 1 (IntKind.u64.wrap (j : Int)))))).size = s.size := by
  rw [← nb_length, nb_flip s i j hi hj, List.length_set, nb_length]

/-! ## section crcspec -/
theorem scrc_l1 (s : ByteArray) : ∀ (d j k i x : Nat), j ≤ 8 → 8 - j = d → x < 4294967296 → spec_Crc.l1 (k + d + 1) s x i j = spec_Crc.l0 k s (cbits d x : Nat) (wrap64 ((i : Int) + 1)) := by
  intro d
  induction d with
  | zero =>
    intro j k i x h1 h2 hx
    rw [spec_Crc.l1, if_neg (by omega)]; rfl
  | succ d ih =>
    intro j k i x h1 h2 hx
    have e : wrap64 ((j : Int) + 1) = ((j + 1 : Nat) : Int) := by rw [w64] <;> omega
    have a : Int.tmod (x : Int) 2 = ((x % 2 : Nat) : Int) := by rw [Int.tmod_eq_emod_of_nonneg (by omega)]; omega
    rw [show k + (d + 1) + 1 = (k + d + 1) + 1 by omega, spec_Crc.l1, if_pos (by omega), a, e]
    by_cases o : x % 2 = 1
    · rw [if_pos (by omega), cbit_odd hx o, ih (j + 1) k i _ (by omega) (by omega) (cbit_lt hx)]; rfl
    · rw [if_neg (by omega), cbit_even o, ih (j + 1) k i _ (by omega) (by omega) (cbit_lt hx)]; rfl
theorem scrc_l0 (s : ByteArray) (hs : s.size ≤ 140737488351232) : ∀ (d k i x : Nat), i ≤ s.size → s.size - i = d → 10 * d < k → x < 4294967296 → spec_Crc.l0 k s x i = some ((crcL ((nb s).drop i) x ^^^ 4294967295 : Nat) : Int) := by
  intro d
  induction d with
  | zero =>
    intro k i x h1 h2 hk hx
    obtain ⟨k, rfl⟩ : ∃ m, k = m + 1 := ⟨k - 1, by omega⟩
    rw [spec_Crc.l0, if_neg (by omega), nb_end s i (by omega)]
    rw [show (4294967295 : Int) = ((4294967295 : Nat) : Int) from rfl, b_xor .u32 rfl _ _ hx (by decide)]; rfl
  | succ d ih =>
    intro k i x h1 h2 hk hx
    obtain ⟨k, rfl⟩ : ∃ m, k = m + 8 + 1 + 1 := ⟨k - 10, by omega⟩
    obtain ⟨b, hd, hb, hl⟩ := nb_drop s i (by omega)
    rw [spec_Crc.l0, if_pos (by omega), if_pos (by omega), hb, hd, show ((b : Int) % 4294967296) = b by omega, b_xor .u32 rfl _ _ hx (by show _ < 4294967296; omega)]
    rw [show (0 : Int) = ((0 : Nat) : Int) from rfl, scrc_l1 s 8 0 k i _ (by omega) (by omega) (xor_byte hx hl), w64s (n := s.size) (by omega) hs]
    rw [ih k (i + 1) _ (by omega) (by omega) (by omega) (cbits_lt 8 (xor_byte hx hl))]; rfl
theorem scrc (s : ByteArray) (hs : s.size ≤ 140737488351232) (k : Nat) (hk : 10 * s.size < k) : spec_Crc.f k s = some (crcN (nb s) : Int) := by
  unfold spec_Crc.f
  have h := scrc_l0 s hs s.size k 0 4294967295 (by omega) (by omega) hk (by omega)
  simpa [crcN] using h

/-! ## section draw -/
/-- the code that things are drawn from: each cell is a byte -/
def isCode (l : List Int) : Prop := l.length ≤ 1048576 ∧ ∀ x ∈ l, 0 ≤ x ∧ x ≤ 255
theorem code_of {l : List Int} (h : ¬ ((l.length : Int) > 1048576)) (hw : ∀ x ∈ l, (Lit.int .u8 x).wf = true) : isCode l := by
  refine ⟨by omega, fun x hx => ?_⟩
  have := hw x hx
  simp [Lit.wf, IntKind.min, IntKind.max, IntKind.bits, IntKind.signed] at this
  omega
def posOk (l : List Int) (p : Int) : Prop := 0 ≤ p ∧ p ≤ l.length
theorem rd_code {l : List Int} (h : isCode l) (i : Int) : 0 ≤ rd l i ∧ rd l i ≤ 255 := by
  unfold rd
  rw [List.getD_eq_getElem?_getD]
  cases hi : l[i.toNat]? with
  | none => simp
  | some b => simpa using h.2 b (List.mem_of_getElem? hi)
theorem dnext {l : List Int} (h : isCode l) {p : Int} (hp : posOk l p) : ∃ v q, spec_l1Rd_next.f l p = some (v, q) ∧ 0 ≤ v ∧ v ≤ 255 ∧ posOk l q := by
  have hl := h.1
  obtain ⟨h0, h1⟩ := hp
  unfold spec_l1Rd_next.f
  by_cases c : p ≥ (l.length : Int)
  · rw [if_pos c]
    exact ⟨0, p, rfl, by omega, by omega, h0, h1⟩
  · have e1 : wrap64 (p + 1) = p + 1 := by unfold wrap64; omega
    have e2 : wrap64 (p + 1 - 1) = p := by unfold wrap64; omega
    have hr := rd_code h p
    have e3 : wrap64 (rd l p) = rd l p := by unfold wrap64; omega
    rw [if_neg c, e1, e2, if_pos h0, if_pos (by omega), e3]
    exact ⟨_, _, rfl, hr.1, hr.2, by omega, by omega⟩
theorem dbelow {l : List Int} (h : isCode l) {p : Int} (hp : posOk l p) {n : Int} (hn : 1 ≤ n) : ∃ v q, spec_l1Rd_below.f l p n = some (v, q) ∧ 0 ≤ v ∧ v < n ∧ posOk l q := by
  unfold spec_l1Rd_below.f
  by_cases c : n ≤ 1
  · rw [if_pos c]
    exact ⟨0, p, rfl, by omega, by omega, hp⟩
  · rw [if_neg c]
    obtain ⟨v, q, e, h0, h1, hq⟩ := dnext h hp
    by_cases c2 : n ≤ 256
    · rw [if_pos c2, e]
      simp only [Option.bind_some]
      rw [if_neg (by omega)]
      refine ⟨_, _, rfl, ?_, ?_, hq⟩
      · rw [Int.tmod_eq_emod_of_nonneg h0]; exact Int.emod_nonneg _ (by omega)
      · rw [Int.tmod_eq_emod_of_nonneg h0]; exact Int.emod_lt_of_pos _ (by omega)
    · rw [if_neg c2, e]
      simp only [Option.bind_some]
      obtain ⟨v2, q2, e2, h2, h3, hq2⟩ := dnext h hq
      rw [e2]
      simp only [Option.bind_some]
      rw [if_neg (by omega)]
      have ew : wrap64 (wrap64 (v * 256) + v2) = v * 256 + v2 := by unfold wrap64; omega
      rw [ew]
      refine ⟨_, _, rfl, ?_, ?_, hq2⟩
      · rw [Int.tmod_eq_emod_of_nonneg (by omega)]; exact Int.emod_nonneg _ (by omega)
      · rw [Int.tmod_eq_emod_of_nonneg (by omega)]; exact Int.emod_lt_of_pos _ (by omega)
theorem posOk0 (l : List Int) : posOk l 0 := ⟨Int.le_refl _, by omega⟩

/-! ## section putsize -/
theorem strOfNums_size (l : List Int) : (strOfNums l).size = l.length := by simp [strOfNums, ByteArray.size]

/-! ## section drawbytes -/
theorem dbytes_l0 {l : List Int} (h : isCode l) : ∀ (d k : Nat) (acc : List Int) (p : Int), d < k → acc.length + d < 140737488355328 → (∀ x ∈ acc, 0 ≤ x ∧ x < 256) → posOk l p → ∃ zs q, spec_l1Rd_bytes.l0 k acc d l p = some (strOfNums zs, q) ∧ zs.length = acc.length + d ∧ (∀ x ∈ zs, 0 ≤ x ∧ x < 256) ∧ posOk l q := by
  intro d
  induction d with
  | zero =>
    intro k acc p hk hl ha hp
    obtain ⟨k, rfl⟩ : ∃ m, k = m + 1 := ⟨k - 1, by omega⟩
    rw [spec_l1Rd_bytes.l0, if_neg (by omega)]
    exact ⟨acc, p, rfl, by omega, ha, hp⟩
  | succ d ih =>
    intro k acc p hk hl ha hp
    obtain ⟨k, rfl⟩ : ∃ m, k = m + 1 := ⟨k - 1, by omega⟩
    obtain ⟨v, q, e, v0, v1, hq⟩ := dbelow h hp (n := 256) (by omega)
    have ed : wrap64 (((d + 1 : Nat) : Int) - 1) = (d : Int) := by unfold wrap64; omega
    rw [spec_l1Rd_bytes.l0, if_pos (by omega), e]
    simp only [Option.bind_some]
    rw [if_pos (by omega), ed]
    obtain ⟨zs, r, e2, hz, hb, hr⟩ := ih k (acc ++ [v % 256]) q (by omega) (by simp; omega) (by
      intro x hx
      rcases List.mem_append.1 hx with hx | hx
      · exact ha x hx
      · simp at hx; omega) hq
    exact ⟨zs, r, e2, by rw [hz]; simp; omega, hb, hr⟩
/-- some bytes are drawn: at most 'most' -/
theorem dbytes {l : List Int} (h : isCode l) {p : Int} (hp : posOk l p) {most k : Nat} (hm : most ≤ 1000) (hk : most < k) : ∃ s q, spec_l1Rd_bytes.f k l p (most : Int) = some (s, q) ∧ s.size ≤ most ∧ posOk l q := by
  unfold spec_l1Rd_bytes.f
  have em : wrap64 ((most : Int) + 1) = (most : Int) + 1 := by unfold wrap64; omega
  rw [em]
  obtain ⟨v, q, e, v0, v1, hq⟩ := dbelow h hp (n := (most : Int) + 1) (by omega)
  rw [e]
  simp only [Option.bind_some]
  obtain ⟨d, rfl⟩ := Int.eq_ofNat_of_zero_le v0
  obtain ⟨zs, r, e2, hz, _, hr⟩ := dbytes_l0 h d k [] q (by omega) (by simp; omega) (by simp) hq
  exact ⟨_, r, e2, by rw [strOfNums_size, hz]; simp; omega, hr⟩

theorem sums_l1 (s : ByteArray) (hs : s.size ≤ 1000) (i : Nat) (hi : i < s.size) : ∀ (d k j : Nat), j ≤ 8 → 8 - j = d → d + 20000 < k → laws_FnSums.l1 k s (crcN (nb s) : Int) i j = laws_FnSums.l0 (k - d - 1) s (crcN (nb s) : Int) ((i + 1 : Nat) : Int) := by
  intro d
  induction d with
  | zero =>
    intro k j h1 h2 hk
    obtain ⟨k, rfl⟩ : ∃ m, k = m + 1 := ⟨k - 1, by omega⟩
    rw [laws_FnSums.l1, if_neg (by omega), w64s (n := s.size) hi (by omega)]
    rfl
  | succ d ih =>
    intro k j h1 h2 hk
    obtain ⟨k, rfl⟩ : ∃ m, k = m + 1 := ⟨k - 1, by omega⟩
    have hw : IntKind.u64.wrap (j : Int) = (j : Int) := by rw [u64w]; omega
    have h0 : (0 : Int) ≤ IntKind.u64.wrap (j : Int) := by rw [hw]; omega
    clear hw
    rw [laws_FnSums.l1, if_pos (by omega), if_pos (by omega)]
    simp only [Option.bind_some]
    rw [if_pos (by omega), if_pos (by rw [bytesOf_length]; omega), if_pos h0, Int.toNat_natCast, icrc _ (by rw [flip_size s i j hi (by omega)]; omega) k (by rw [flip_size s i j hi (by omega)]; omega), nb_flip s i j hi (by omega)]
    simp only [Option.bind_some]
    have hne := crcN_set (nb s) (nb_lt s) i (by rw [nb_length]; exact hi) _ (flip_lt (j := j) (nb_lt s _ (List.getElem_mem (l := nb s) (n := i) (by rw [nb_length]; exact hi))) (by omega)) (flip_ne _ j)
    rw [if_neg (by omega), w64s (n := 8) (by omega) (by omega), ih k (j + 1) (by omega) (by omega) (by omega)]
    congr 1; omega
theorem sums_l0 (s : ByteArray) (hs : s.size ≤ 1000) : ∀ (d k i : Nat), i ≤ s.size → s.size - i = d → 20 * d + 20010 < k → laws_FnSums.l0 k s (crcN (nb s) : Int) i = some true := by
  intro d
  induction d with
  | zero =>
    intro k i h1 h2 hk
    obtain ⟨k, rfl⟩ : ∃ m, k = m + 1 + 1 := ⟨k - 2, by omega⟩
    rw [laws_FnSums.l0, if_neg (by omega), laws_FnSums.j2, if_neg (by decide)]
  | succ d ih =>
    intro k i h1 h2 hk
    obtain ⟨k, rfl⟩ : ∃ m, k = m + 1 + 1 := ⟨k - 2, by omega⟩
    rw [laws_FnSums.l0, if_pos (by omega), laws_FnSums.j2]
    by_cases c : i < 30
    · rw [if_pos (decide_eq_true (by omega))]
      have := sums_l1 s hs i (by omega) 8 k 0 (by omega) (by omega) (by omega)
      refine Eq.trans this ?_
      exact ih _ (i + 1) (by omega) (by omega) (by omega)
    · rw [if_neg (by rw [decide_eq_true_eq]; omega)]
theorem FnSums : laws_FnSums.Pure := by
  intro l _ _ hw
  refine ⟨100001, ?_⟩
  unfold laws_FnSums.f laws_big.f
  simp only [Option.bind_some]
  by_cases hb : (l.length : Int) > 1048576
  · rw [if_pos (by simpa using hb)]
  · have hc := code_of hb hw
    rw [if_neg (by simpa using hb)]
    unfold spec_DrawCrc.f spec_l1Open.f
    simp only [Option.bind_some]
    obtain ⟨s, q, e, hs, hq⟩ := dbytes hc (posOk0 l) (most := 20) (k := 100001) (by omega) (by omega)
    simp only [Int.cast_ofNat_Int] at e
    rw [e]; simp only [Option.bind_some]
    rw [icrc s (by omega) _ (by omega), scrc s (by omega) _ (by omega)]
    simp only [Option.bind_some]
    rw [if_pos trivial, icrc (⟨#[49, 50, 51, 52, 53, 54, 55, 56, 57]⟩ : ByteArray) (by decide) _ (by decide)]
    simp only [Option.bind_some]
    have hv : crcN (nb (⟨#[49, 50, 51, 52, 53, 54, 55, 56, 57]⟩ : ByteArray)) = 3808858755 := by decide +kernel
    rw [hv, show ((((3808858755 : Nat) : Int) != 3808858755)) = false by decide, laws_FnSums.j0, if_neg (by decide)]
    exact sums_l0 s (by omega) s.size _ 0 (by omega) (by omega) (by omega)

end Go.Proofs.Ytfcjacncllmapac.Pure
