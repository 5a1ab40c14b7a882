/- The program's ReadLog returns what the reference's ReadLog returns, for every text: no condition; and the list it returns is its caller's own. -/
import Derived.Test.YtfcjacncllmapacQFnExactReadLogx
namespace Go.Proofs.Ytfcjacncllmapac.Pure
open Go.RowKit Go.Proofs.Ytfcjacncllmapac.QFnExactReadLog Go.Proofs.YtfcjacncllmapacW.PrintWords Go.Proofs.YtfcjacncllmapacW.PrintLast Go.Proofs.YtfcjacncllmapacW.PrintMore
set_option linter.unusedVariables false
set_option linter.unusedSimpArgs false

/-! ## section base -/
/-- an unsigned kind's number that fits is not wrapped -/
theorem wrapU (k : IntKind) (hs : k.signed = false) (n : Nat) (h : n < 2 ^ k.bits) : k.wrap (n : Int) = n := by
  unfold IntKind.wrap
  rw [Int.emod_eq_of_lt (by omega) (by exact_mod_cast h)]
  simp [hs]
/-- bits of unsigned numbers are those of natural numbers -/
theorem b_or (k : IntKind) (hs : k.signed = false) (a b : Nat) (ha : a < 2 ^ k.bits) (hb : b < 2 ^ k.bits) : Go.bits .or k a b = ((a ||| b : Nat) : Int) := by
  simp only [Go.bits, BitVec.ofInt_natCast, BitVec.toNat_or, BitVec.toNat_ofNat, Nat.mod_eq_of_lt ha, Nat.mod_eq_of_lt hb]
  exact wrapU k hs _ (Nat.or_lt_two_pow ha hb)
theorem b_xor (k : IntKind) (hs : k.signed = false) (a b : Nat) (ha : a < 2 ^ k.bits) (hb : b < 2 ^ k.bits) : Go.bits .xor k a b = ((a ^^^ b : Nat) : Int) := by
  simp only [Go.bits, BitVec.ofInt_natCast, BitVec.toNat_xor, BitVec.toNat_ofNat, Nat.mod_eq_of_lt ha, Nat.mod_eq_of_lt hb]
  exact wrapU k hs _ (Nat.xor_lt_two_pow ha hb)
theorem b_and (k : IntKind) (hs : k.signed = false) (a b : Nat) (ha : a < 2 ^ k.bits) (hb : b < 2 ^ k.bits) : Go.bits .and k a b = ((a &&& b : Nat) : Int) := by
  simp only [Go.bits, BitVec.ofInt_natCast, BitVec.toNat_and, BitVec.toNat_ofNat, Nat.mod_eq_of_lt ha, Nat.mod_eq_of_lt hb]
  exact wrapU k hs _ (Nat.and_lt_two_pow _ hb)
theorem b_or8 (a b : Nat) (ha : a < 256) (hb : b < 256) : Go.bits .or .u8 a b = ((a ||| b : Nat) : Int) := b_or .u8 rfl a b ha hb
theorem u64w (x : Int) : IntKind.u64.wrap x = x % 18446744073709551616 := by simp [IntKind.wrap, IntKind.bits, IntKind.signed]

/-! ## section bytes -/
/-- the bytes of a text, as natural numbers -/
def nb (s : ByteArray) : List Nat := s.data.toList.map UInt8.toNat
theorem nb_length (s : ByteArray) : (nb s).length = s.size := by rw [nb, List.length_map, Array.length_toList]; rfl
theorem nb_lt (s : ByteArray) : ∀ b ∈ nb s, b < 256 := by
  intro b hb
  simp only [nb, List.mem_map] at hb
  obtain ⟨u, _, rfl⟩ := hb
  exact u.toNat_lt
theorem bt_nb (s : ByteArray) (i : Nat) (h : i < s.size) : bt s i = (((nb s)[i]'(by rw [nb_length]; exact h) : Nat) : Int) := by
  simp only [bt, Int.toNat_natCast, h, nb]
  simp
  rfl
theorem nb_drop (s : ByteArray) (i : Nat) (h : i < s.size) : ∃ b, (nb s).drop i = b :: (nb s).drop (i + 1) ∧ bt s i = (b : Int) ∧ b < 256 := by
  have hl : i < (nb s).length := by rw [nb_length]; exact h
  exact ⟨(nb s)[i], List.drop_eq_getElem_cons hl, bt_nb s i h, nb_lt s _ (List.getElem_mem hl)⟩
theorem nb_end (s : ByteArray) (i : Nat) (h : s.size ≤ i) : (nb s).drop i = [] := List.drop_eq_nil_of_le (by rw [nb_length]; exact h)
theorem w64 {x : Int} (h0 : -9223372036854775808 ≤ x) (h1 : x < 9223372036854775808) : wrap64 x = x := by unfold wrap64; omega
theorem w64s {i n : Nat} (h : i < n) (hn : n ≤ 140737488351232) : wrap64 ((i : Int) + 1) = ((i + 1 : Nat) : Int) := by rw [w64] <;> omega
theorem bits_range (k : IntKind) (hs : k.signed = false) (op : BinOp) (x y : Int) : 0 ≤ Go.bits op k x y ∧ Go.bits op k x y < 2 ^ k.bits := by
  have hp : (0 : Int) < 2 ^ k.bits := by exact_mod_cast Nat.two_pow_pos k.bits
  unfold Go.bits IntKind.wrap
  simp only [hs, Bool.false_and]
  exact ⟨Int.emod_nonneg _ (by omega), Int.emod_lt_of_pos _ hp⟩

/-! ## section takefixed -/
/-- the number of four bytes -/
def tfN (s : ByteArray) : Nat := (nb s).getD 0 0 + 256 * (nb s).getD 1 0 + 65536 * (nb s).getD 2 0 + 16777216 * (nb s).getD 3 0
theorem getD_lt (l : List Nat) (h : ∀ b ∈ l, b < 256) (i : Nat) : l.getD i 0 < 256 := by
  rw [List.getD_eq_getElem?_getD]
  cases hi : l[i]? with
  | none => simp
  | some b => simpa using h b (List.mem_of_getElem? hi)
theorem tfN_lt (s : ByteArray) : tfN s < 4294967296 := by
  have h := getD_lt (nb s) (nb_lt s)
  have h0 := h 0; have h1 := h 1; have h2 := h 2; have h3 := h 3
  unfold tfN; omega
theorem bt_getD (s : ByteArray) (i : Nat) : bt s i = (((nb s).getD i 0 : Nat) : Int) := by
  rcases Nat.lt_or_ge i s.size with h | h
  · rw [bt_nb s i h, List.getD_eq_getElem?_getD, List.getElem?_eq_getElem (by rw [nb_length]; exact h)]; rfl
  · have e : bt s i = 0 := by simp only [bt, Int.toNat_natCast]; rw [dif_neg (by omega)]
    rw [e, List.getD_eq_getElem?_getD, List.getElem?_eq_none (by rw [nb_length]; exact h)]; rfl
theorem or4 {a b c d : Nat} (ha : a < 256) (hb : b < 256) (hc : c < 256) (hd : d < 256) :
    Go.bits .or .u32 (Go.bits .or .u32 (Go.bits .or .u32 ((a : Int) % 4294967296) ((((b : Int) % 4294967296) * 256) % 4294967296)) ((((c : Int) % 4294967296) * 65536) % 4294967296)) ((((d : Int) % 4294967296) * 16777216) % 4294967296) = ((a + 256 * b + 65536 * c + 16777216 * d : Nat) : Int) := by
  have e0 : ((a : Int) % 4294967296) = ((a : Nat) : Int) := by omega
  have e1 : ((((b : Int) % 4294967296) * 256) % 4294967296) = ((2 ^ 8 * b : Nat) : Int) := by omega
  have e2 : ((((c : Int) % 4294967296) * 65536) % 4294967296) = ((2 ^ 16 * c : Nat) : Int) := by omega
  have e3 : ((((d : Int) % 4294967296) * 16777216) % 4294967296) = ((2 ^ 24 * d : Nat) : Int) := by omega
  rw [e0, e1, e2, e3]
  clear e0 e1 e2 e3
  rw [b_or .u32 rfl _ _ (by show _ < 4294967296; omega) (by show _ < 4294967296; omega), Nat.or_comm a, ← Nat.two_pow_add_eq_or_of_lt (by omega) b]
  rw [b_or .u32 rfl _ _ (by show _ < 4294967296; omega) (by show _ < 4294967296; omega), Nat.or_comm _ (2 ^ 16 * c), ← Nat.two_pow_add_eq_or_of_lt (by omega) c]
  rw [b_or .u32 rfl _ _ (by show _ < 4294967296; omega) (by show _ < 4294967296; omega), Nat.or_comm _ (2 ^ 24 * d), ← Nat.two_pow_add_eq_or_of_lt (by omega) d]
  congr 1; omega
def tfR (s : ByteArray) : Int × ByteArray × Bool := if s.size < 4 then (0, (⟨#[]⟩ : ByteArray), false) else ((tfN s : Int), s.extract 4 s.size, true)
theorem tf_val (s : ByteArray) : Go.bits .or .u32 (Go.bits .or .u32 (Go.bits .or .u32 ((bt s 0) % 4294967296) ((((bt s 1) % 4294967296) * 256) % 4294967296)) ((((bt s 2) % 4294967296) * 65536) % 4294967296)) ((((bt s 3) % 4294967296) * 16777216) % 4294967296) = (tfN s : Int) := by
  have h := getD_lt (nb s) (nb_lt s)
  rw [show (0 : Int) = ((0 : Nat) : Int) from rfl, show (1 : Int) = ((1 : Nat) : Int) from rfl, show (2 : Int) = ((2 : Nat) : Int) from rfl, show (3 : Int) = ((3 : Nat) : Int) from rfl, bt_getD, bt_getD, bt_getD, bt_getD]
  rw [or4 (h 0) (h 1) (h 2) (h 3)]; rfl
theorem itf (s : ByteArray) : impl_TakeFixed.f s = some (tfR s) := by
  unfold impl_TakeFixed.f tfR
  by_cases h : s.size < 4
  · rw [if_pos (by omega), if_pos h]
  · rw [if_neg (by omega), if_neg h, if_pos (by omega), if_pos (by omega), if_pos (by omega), if_pos (by omega), if_pos (by omega), tf_val]

/-! ## section crc -/
def cbit (x : Nat) : Nat := if x % 2 = 1 then (x / 2) ^^^ 2197175160 else x / 2
def cbits : Nat → Nat → Nat
  | 0, x => x
  | n + 1, x => cbits n (cbit x)
def cbyte (x b : Nat) : Nat := cbits 8 (x ^^^ b)
def crcL : List Nat → Nat → Nat
  | [], x => x
  | b :: l, x => crcL l (cbyte x b)
/-- the sum of a list of bytes -/
def crcN (l : List Nat) : Nat := crcL l 4294967295 ^^^ 4294967295
theorem cbit_lt {x : Nat} (h : x < 4294967296) : cbit x < 4294967296 := by
  unfold cbit; split
  · exact Nat.xor_lt_two_pow (n := 32) (by omega) (by omega)
  · omega
theorem cbits_lt : ∀ (n : Nat) {x : Nat}, x < 4294967296 → cbits n x < 4294967296
  | 0, _, h => h
  | n + 1, _, h => cbits_lt n (cbit_lt h)
theorem xor_byte {x b : Nat} (h : x < 4294967296) (hb : b < 256) : x ^^^ b < 4294967296 := Nat.xor_lt_two_pow (n := 32) h (by omega)
theorem cbyte_lt {x b : Nat} (h : x < 4294967296) (hb : b < 256) : cbyte x b < 4294967296 := cbits_lt 8 (xor_byte h hb)
theorem crcL_lt : ∀ (l : List Nat) {x : Nat}, (∀ b ∈ l, b < 256) → x < 4294967296 → crcL l x < 4294967296
  | [], _, _, h => h
  | b :: l, _, hl, h => crcL_lt l (fun c hc => hl c (List.mem_cons_of_mem _ hc)) (cbyte_lt h (hl b List.mem_cons_self))
theorem crcN_lt (l : List Nat) (hl : ∀ b ∈ l, b < 256) : crcN l < 4294967296 := Nat.xor_lt_two_pow (n := 32) (crcL_lt l hl (by omega)) (by omega)
theorem cbit_odd {x : Nat} (h : x < 4294967296) (ho : x % 2 = 1) : Go.bits .xor .u32 ((x : Int) / 2) 2197175160 = (cbit x : Int) := by
  rw [show ((x : Int) / 2) = ((x / 2 : Nat) : Int) by omega, show (2197175160 : Int) = ((2197175160 : Nat) : Int) from rfl, b_xor .u32 rfl _ _ (by show _ < 4294967296; omega) (by decide), cbit, if_pos ho]
theorem cbit_even {x : Nat} (ho : ¬ x % 2 = 1) : ((x : Int) / 2) = (cbit x : Int) := by rw [cbit, if_neg ho]; omega
theorem icrc_l1 (s : ByteArray) : ∀ (d j k i x : Nat), j ≤ 8 → 8 - j = d → x < 4294967296 → impl_Crc.l1 (k + d + 1) s x s.size i j = impl_Crc.l0 k s (cbits d x : Nat) s.size (wrap64 ((i : Int) + 1)) := by
  intro d
  induction d with
  | zero =>
    intro j k i x h1 h2 hx
    rw [impl_Crc.l1, if_neg (by omega)]; rfl
  | succ d ih =>
    intro j k i x h1 h2 hx
    have e : wrap64 ((j : Int) + 1) = ((j + 1 : Nat) : Int) := by rw [w64] <;> omega
    have a : Go.bits .and .u32 (x : Int) 1 = ((x % 2 : Nat) : Int) := by
      rw [show (1 : Int) = ((1 : Nat) : Int) from rfl, b_and .u32 rfl _ _ hx (by decide), Nat.and_one_is_mod]
    rw [show k + (d + 1) + 1 = (k + d + 1) + 1 by omega, impl_Crc.l1, if_pos (by omega), a, e]
    by_cases o : x % 2 = 1
    · rw [if_pos (by omega), cbit_odd hx o, ih (j + 1) k i _ (by omega) (by omega) (cbit_lt hx)]; rfl
    · rw [if_neg (by omega), cbit_even o, ih (j + 1) k i _ (by omega) (by omega) (cbit_lt hx)]; rfl
theorem icrc_l0 (s : ByteArray) (hs : s.size ≤ 140737488351232) : ∀ (d k i x : Nat), i ≤ s.size → s.size - i = d → 10 * d < k → x < 4294967296 → impl_Crc.l0 k s x s.size i = some ((crcL ((nb s).drop i) x ^^^ 4294967295 : Nat) : Int) := by
  intro d
  induction d with
  | zero =>
    intro k i x h1 h2 hk hx
    obtain ⟨k, rfl⟩ : ∃ m, k = m + 1 := ⟨k - 1, by omega⟩
    rw [impl_Crc.l0, if_neg (by omega), nb_end s i (by omega)]
    rw [show (4294967295 : Int) = ((4294967295 : Nat) : Int) from rfl, b_xor .u32 rfl _ _ (by decide) hx, Nat.xor_comm]; rfl
  | succ d ih =>
    intro k i x h1 h2 hk hx
    obtain ⟨k, rfl⟩ : ∃ m, k = m + 8 + 1 + 1 := ⟨k - 10, by omega⟩
    obtain ⟨b, hd, hb, hl⟩ := nb_drop s i (by omega)
    rw [impl_Crc.l0, if_pos (by omega), if_pos (by omega), if_pos (by omega), hb, hd, show ((b : Int) % 4294967296) = b by omega, b_xor .u32 rfl _ _ hx (by show _ < 4294967296; omega)]
    rw [show (0 : Int) = ((0 : Nat) : Int) from rfl, icrc_l1 s 8 0 k i _ (by omega) (by omega) (xor_byte hx hl), w64s (n := s.size) (by omega) hs]
    rw [ih k (i + 1) _ (by omega) (by omega) (by omega) (cbits_lt 8 (xor_byte hx hl))]; rfl
theorem icrc (s : ByteArray) (hs : s.size ≤ 140737488351232) (k : Nat) (hk : 10 * s.size < k) : impl_Crc.f k s = some (crcN (nb s) : Int) := by
  unfold impl_Crc.f
  have h := icrc_l0 s hs s.size k 0 4294967295 (by omega) (by omega) hk (by omega)
  simpa [crcN] using h

/-! ## section ba -/
theorem nb_append (a b : ByteArray) : nb (a ++ b) = nb a ++ nb b := by
  simp [nb, ByteArray.data_append]
theorem nb_extract (s : ByteArray) (i j : Nat) : nb (s.extract i j) = ((nb s).take j).drop i := by
  rw [List.drop_take]
  simp [nb, ByteArray.data_extract]
theorem nb_inj {a b : ByteArray} (h : nb a = nb b) : a = b := by
  have h1 : a.data.toList = b.data.toList := by
    have h2 : ∀ (l m : List UInt8), l.map UInt8.toNat = m.map UInt8.toNat → l = m := by
      intro l
      induction l with
      | nil => intro m h; cases m with
        | nil => rfl
        | cons y m => simp at h
      | cons x l ih => intro m h; cases m with
        | nil => simp at h
        | cons y m =>
          simp only [List.map_cons, List.cons.injEq] at h
          rw [UInt8.toNat_inj.1 h.1, ih m h.2]
    exact h2 _ _ h
  cases a; cases b; simp_all
theorem nb_nums (l : List Int) (h : ∀ x ∈ l, 0 ≤ x ∧ x < 256) : nb (strOfNums l) = l.map Int.toNat := by
  simp only [nb, strOfNums, List.map_map]
  apply List.map_congr_left
  intro x hx
  have := h x hx
  simp only [Function.comp]
  rw [UInt8.toNat_ofNat']
  exact Nat.mod_eq_of_lt (by omega)
theorem nb_empty : nb (⟨#[]⟩ : ByteArray) = [] := rfl
theorem bsize_append (a b : ByteArray) : (a ++ b).size = a.size + b.size := ByteArray.size_append

/-! ## section zeros -/
theorem nb_zeros (n : Nat) : nb (strOfNums (List.replicate n 0)) = List.replicate n 0 := by
  rw [nb_nums]
  · simp
  · intro x hx; rw [List.eq_of_mem_replicate hx]; omega
theorem zeros_size (n : Nat) : (strOfNums (List.replicate n 0)).size = n := by simp [strOfNums, ByteArray.size]
theorem two_size (a b : Int) : (strOfNums [a, b]).size = 2 := by simp [strOfNums, ByteArray.size]
theorem toList_nil (s : ByteArray) : s.toList = ([] : List UInt8) ↔ s.size = 0 := by
  rw [ByteArray.toList_eq]
  have h : s.data.toList.length = s.size := by rw [Array.length_toList]; rfl
  constructor
  · intro e; rw [e] at h; simpa using h.symm
  · intro e; exact List.eq_nil_of_length_eq_zero (by omega)

/-! ## section rl -/
theorem toList_nb (a b : ByteArray) : a.toList = b.toList ↔ nb a = nb b := by
  constructor
  · intro h
    rw [ByteArray.toList_eq, ByteArray.toList_eq] at h
    unfold nb; rw [h]
  · intro h; rw [nb_inj h]
/-- the marks that let a fragment's kind stand: its block's bytes, its length, its kind, whether a record is open -/
def kok (left size kind : Nat) (o : Bool) : Bool := (kind == 1 && !o) || (kind == 2 && !o && size + 6 == left) || (kind == 3 && o && size + 6 == left) || (kind == 4 && o && size != 0)
/-- whether the bytes at a place are a fragment -/
def fok (d : ByteArray) (at_ left : Nat) : Bool := decide (at_ + 6 ≤ d.size) && decide ((nb d).getD (at_ + 4) 0 + 6 ≤ left) && decide (at_ + 6 + (nb d).getD (at_ + 4) 0 ≤ d.size) && decide (crcN (nb (d.extract (at_ + 4) (at_ + 6 + (nb d).getD (at_ + 4) 0))) = tfN (d.extract at_ (at_ + 4)))
/-- the reader: so many steps, the bytes, the records, the end of them, the place, whether a record is open, its bytes -/
def rl : Nat → ByteArray → List ByteArray → Nat → Nat → Bool → ByteArray → List ByteArray × Int
  | 0, _, out, good, _, _, _ => (out, good)
  | n + 1, d, out, good, at_, o, part =>
    if out.length < 500 then
      if 64 - at_ % 64 ≤ 6 then
        if ((nb d).drop at_).take (64 - at_ % 64) = List.replicate (64 - at_ % 64) 0 then rl n d out good (at_ + (64 - at_ % 64)) o part else (out, good)
      else if fok d at_ (64 - at_ % 64) = true then
        if kok (64 - at_ % 64) ((nb d).getD (at_ + 4) 0) ((nb d).getD (at_ + 5) 0) o = true then
          if part.size + (nb d).getD (at_ + 4) 0 > 8000 then (out, good)
          else if (nb d).getD (at_ + 5) 0 = 1 ∨ (nb d).getD (at_ + 5) 0 = 4 then
            rl n d (out ++ [part ++ d.extract (at_ + 6) (at_ + 6 + (nb d).getD (at_ + 4) 0)]) (at_ + 6 + (nb d).getD (at_ + 4) 0) (at_ + 6 + (nb d).getD (at_ + 4) 0) false ⟨#[]⟩
          else rl n d out good (at_ + 6 + (nb d).getD (at_ + 4) 0) true (part ++ d.extract (at_ + 6) (at_ + 6 + (nb d).getD (at_ + 4) 0))
        else (out, good)
      else (out, good)
    else (out, good)
theorem rl_length : ∀ (n : Nat) (d : ByteArray) (out : List ByteArray) (good at_ : Nat) (o : Bool) (part : ByteArray), out.length ≤ 500 → (rl n d out good at_ o part).1.length ≤ 500 := by
  intro n
  induction n with
  | zero => intro d out good at_ o part h; exact h
  | succ n ih =>
    intro d out good at_ o part h
    rw [rl]
    repeat' split
    all_goals first | exact h | (apply ih; first | exact h | (simp only [List.length_append, List.length_cons, List.length_nil]; omega))
theorem getD_cut (l : List Nat) (a i j : Nat) (h : a + i < j) : ((l.take j).drop a).getD i 0 = l.getD (a + i) 0 := by
  rw [List.getD_eq_getElem?_getD, List.getD_eq_getElem?_getD, List.getElem?_drop, List.getElem?_take_of_lt h]
theorem tfN_cut (d : ByteArray) (a j : Nat) (h : a + 4 ≤ j) : tfN (d.extract a j) = tfN (d.extract a (a + 4)) := by
  unfold tfN
  rw [nb_extract, nb_extract]
  rw [getD_cut _ _ 0 j (by omega), getD_cut _ _ 1 j (by omega), getD_cut _ _ 2 j (by omega), getD_cut _ _ 3 j (by omega), getD_cut _ _ 0 (a + 4) (by omega), getD_cut _ _ 1 (a + 4) (by omega), getD_cut _ _ 2 (a + 4) (by omega), getD_cut _ _ 3 (a + 4) (by omega)]
theorem wad (a b : Nat) (h : a + b < 9223372036854775808) : wrap64 ((a : Int) + (b : Int)) = ((a + b : Nat) : Int) := by rw [w64] <;> omega
theorem rl_left (n : Nat) : wrap64 (64 - (Int.tmod (n : Int) 64)) = ((64 - n % 64 : Nat) : Int) := by
  rw [Int.tmod_eq_emod_of_nonneg (by omega)]; unfold wrap64; omega
theorem wsub6 (left : Nat) (h : 7 ≤ left) (h2 : left ≤ 64) : wrap64 ((left : Int) - 6) = ((left - 6 : Nat) : Int) := by rw [w64] <;> omega
theorem wbt (d : ByteArray) (i : Nat) : wrap64 (bt d i) = (((nb d).getD i 0 : Nat) : Int) := by
  rw [bt_getD]
  have := getD_lt (nb d) (nb_lt d) i
  rw [w64] <;> omega

/-! ## section crcspec -/
theorem scrc_l1 (s : ByteArray) : ∀ (d j k i x : Nat), j ≤ 8 → 8 - j = d → x < 4294967296 → spec_Crc.l1 (k + d + 1) s x i j = spec_Crc.l0 k s (cbits d x : Nat) (wrap64 ((i : Int) + 1)) := by
  intro d
  induction d with
  | zero =>
    intro j k i x h1 h2 hx
    rw [spec_Crc.l1, if_neg (by omega)]; rfl
  | succ d ih =>
    intro j k i x h1 h2 hx
    have e : wrap64 ((j : Int) + 1) = ((j + 1 : Nat) : Int) := by rw [w64] <;> omega
    have a : Int.tmod (x : Int) 2 = ((x % 2 : Nat) : Int) := by rw [Int.tmod_eq_emod_of_nonneg (by omega)]; omega
    rw [show k + (d + 1) + 1 = (k + d + 1) + 1 by omega, spec_Crc.l1, if_pos (by omega), a, e]
    by_cases o : x % 2 = 1
    · rw [if_pos (by omega), cbit_odd hx o, ih (j + 1) k i _ (by omega) (by omega) (cbit_lt hx)]; rfl
    · rw [if_neg (by omega), cbit_even o, ih (j + 1) k i _ (by omega) (by omega) (cbit_lt hx)]; rfl
theorem scrc_l0 (s : ByteArray) (hs : s.size ≤ 140737488351232) : ∀ (d k i x : Nat), i ≤ s.size → s.size - i = d → 10 * d < k → x < 4294967296 → spec_Crc.l0 k s x i = some ((crcL ((nb s).drop i) x ^^^ 4294967295 : Nat) : Int) := by
  intro d
  induction d with
  | zero =>
    intro k i x h1 h2 hk hx
    obtain ⟨k, rfl⟩ : ∃ m, k = m + 1 := ⟨k - 1, by omega⟩
    rw [spec_Crc.l0, if_neg (by omega), nb_end s i (by omega)]
    rw [show (4294967295 : Int) = ((4294967295 : Nat) : Int) from rfl, b_xor .u32 rfl _ _ hx (by decide)]; rfl
  | succ d ih =>
    intro k i x h1 h2 hk hx
    obtain ⟨k, rfl⟩ : ∃ m, k = m + 8 + 1 + 1 := ⟨k - 10, by omega⟩
    obtain ⟨b, hd, hb, hl⟩ := nb_drop s i (by omega)
    rw [spec_Crc.l0, if_pos (by omega), if_pos (by omega), hb, hd, show ((b : Int) % 4294967296) = b by omega, b_xor .u32 rfl _ _ hx (by show _ < 4294967296; omega)]
    rw [show (0 : Int) = ((0 : Nat) : Int) from rfl, scrc_l1 s 8 0 k i _ (by omega) (by omega) (xor_byte hx hl), w64s (n := s.size) (by omega) hs]
    rw [ih k (i + 1) _ (by omega) (by omega) (by omega) (cbits_lt 8 (xor_byte hx hl))]; rfl
theorem scrc (s : ByteArray) (hs : s.size ≤ 140737488351232) (k : Nat) (hk : 10 * s.size < k) : spec_Crc.f k s = some (crcN (nb s) : Int) := by
  unfold spec_Crc.f
  have h := scrc_l0 s hs s.size k 0 4294967295 (by omega) (by omega) hk (by omega)
  simpa [crcN] using h

/-! ## section takefixedspec -/
theorem stf (s : ByteArray) : spec_TakeFixed.f s = some (tfR s) := by
  unfold spec_TakeFixed.f tfR
  by_cases h : s.size < 4
  · rw [if_pos (by omega), if_pos h]
  · rw [if_neg (by omega), if_neg h, if_pos (by omega), if_pos (by omega), if_pos (by omega), if_pos (by omega), if_pos (by omega), tf_val]

/-! ## section rlspec -/
theorem srl_j4 (k : Nat) (d : ByteArray) (out : List ByteArray) (good : Int) (at_ : Nat) (part : ByteArray) (size : Nat) (last : Bool)
    (ha : at_ + 6 + size ≤ d.size) (hd : d.size ≤ 1048576) (hp : part.size ≤ 8000) (ho : out.length < 500) :
    spec_ReadLog.j4 (k + 1) d out good at_ part size last false = if part.size + size > 8000 then some (out, good) else if last = true then spec_ReadLog.l0 k d (out ++ [part ++ d.extract (at_ + 6) (at_ + 6 + size)]) ((at_ + 6 + size : Nat) : Int) ((at_ + 6 + size : Nat) : Int) false ⟨#[]⟩ else spec_ReadLog.l0 k d out good ((at_ + 6 + size : Nat) : Int) true (part ++ d.extract (at_ + 6) (at_ + 6 + size)) := by
  have e6 : wrap64 ((at_ : Int) + 6) = ((at_ + 6 : Nat) : Int) := wad at_ 6 (by omega)
  have es : wrap64 (((at_ + 6 : Nat) : Int) + (size : Int)) = ((at_ + 6 + size : Nat) : Int) := wad _ _ (by omega)
  have hx : (d.extract (at_ + 6) (at_ + 6 + size)).size = size := by rw [ByteArray.size_extract]; omega
  rw [spec_ReadLog.j4, if_neg (by decide), e6, es, Int.toNat_natCast, Int.toNat_natCast, bsize_append, hx]
  clear e6 es
  rw [if_pos (by omega), if_pos (by omega), if_pos (by omega), if_pos (by omega)]
  by_cases c : part.size + size > 8000
  · rw [if_pos (by omega), if_pos c]
  · rw [if_neg (by omega), if_neg c]
    cases last
    · rw [if_neg (by decide), if_neg (by decide)]; rfl
    · rw [if_pos rfl, if_pos rfl, if_pos (by omega)]; rfl
theorem srl_j4' (k : Nat) (d : ByteArray) (out : List ByteArray) (good at_ : Int) (part : ByteArray) (size : Int) (last : Bool) : spec_ReadLog.j4 (k + 1) d out good at_ part size last true = some (out, good) := by
  rw [spec_ReadLog.j4, if_pos rfl]
theorem srl_j1 (k : Nat) (d : ByteArray) (out : List ByteArray) (good : Int) (at_ : Nat) (o : Bool) (part : ByteArray) (left size kind : Nat)
    (h7 : 7 ≤ left) (h64 : left ≤ 64) (hs : size + 6 ≤ left) (ha : at_ + 6 + size ≤ d.size) (hd : d.size ≤ 1048576) (hp : part.size ≤ 8000) (ho : out.length < 500) :
    spec_ReadLog.j1 (k + 1 + 1 + 1 + 1) d out good at_ o part left size kind false = if kok left size kind o = true then
      if part.size + size > 8000 then some (out, good) else if kind = 1 ∨ kind = 4 then spec_ReadLog.l0 k d (out ++ [part ++ d.extract (at_ + 6) (at_ + 6 + size)]) ((at_ + 6 + size : Nat) : Int) ((at_ + 6 + size : Nat) : Int) false ⟨#[]⟩ else spec_ReadLog.l0 k d out good ((at_ + 6 + size : Nat) : Int) true (part ++ d.extract (at_ + 6) (at_ + 6 + size))
    else some (out, good) := by
  have h4 := srl_j4 k d out good at_ part size
  have e : ((size : Int) < ((left - 6 : Nat) : Int)) ↔ size + 6 ≠ left := by omega
  rw [spec_ReadLog.j1, if_neg (by decide)]
  rcases (by omega : kind = 0 ∨ kind = 1 ∨ kind = 2 ∨ kind = 3 ∨ kind = 4 ∨ 5 ≤ kind) with rfl | rfl | rfl | rfl | rfl | h5
  · simp [spec_ReadLog.j2, spec_ReadLog.j3, srl_j4', kok]
  · cases o
    · simp [spec_ReadLog.j2, spec_ReadLog.j3, kok, h4 true ha hd hp ho]
    · simp [spec_ReadLog.j2, spec_ReadLog.j3, srl_j4', kok]
  · cases o
    · by_cases c : size + 6 = left
      · have c' : ¬ ((size : Int) < ((left - 6 : Nat) : Int)) := fun x => e.1 x c
        simp [spec_ReadLog.j2, spec_ReadLog.j3, kok, wsub6 left h7 h64, c', h4 false ha hd hp ho, c]
      · have c' := e.2 c
        simp [spec_ReadLog.j2, spec_ReadLog.j3, kok, wsub6 left h7 h64, c', srl_j4', c]
    · simp [spec_ReadLog.j2, spec_ReadLog.j3, srl_j4', kok]
  · cases o
    · simp [spec_ReadLog.j2, spec_ReadLog.j3, srl_j4', kok]
    · by_cases c : size + 6 = left
      · have c' : ¬ ((size : Int) < ((left - 6 : Nat) : Int)) := fun x => e.1 x c
        simp [spec_ReadLog.j2, spec_ReadLog.j3, kok, wsub6 left h7 h64, c', h4 false ha hd hp ho, c]
      · have c' := e.2 c
        simp [spec_ReadLog.j2, spec_ReadLog.j3, kok, wsub6 left h7 h64, c', srl_j4', c]
  · cases o
    · simp [spec_ReadLog.j2, spec_ReadLog.j3, srl_j4', kok]
    · by_cases c : size = 0
      · subst c; simp [spec_ReadLog.j2, spec_ReadLog.j3, kok, srl_j4']
      · have c' : ((size : Int) == 0) = false := by rw [beq_eq_false_iff_ne]; omega
        simp [spec_ReadLog.j2, spec_ReadLog.j3, kok, c, c', h4 true ha hd hp ho]
  · have a1 : ¬ ((kind : Int) = 1) := by omega
    have a2 : ¬ ((kind : Int) = 2) := by omega
    have a4 : ¬ ((kind : Int) = 4) := by omega
    have a5 : (kind : Int) > 4 := by omega
    have a6 : ¬ ((kind : Int) < 1) := by omega
    have a7 : kok left size kind o = false := by
      have b1 : kind ≠ 1 := by omega
      have b2 : kind ≠ 2 := by omega
      have b3 : kind ≠ 3 := by omega
      have b4 : kind ≠ 4 := by omega
      simp [kok, b1, b2, b3, b4]
    rw [if_neg a1, spec_ReadLog.j2, if_neg a1, spec_ReadLog.j3, if_neg a6, if_pos a5, srl_j4', a7]; rfl
theorem srl : ∀ (n k : Nat) (d : ByteArray) (out : List ByteArray) (good at_ : Nat) (o : Bool) (part : ByteArray), at_ ≤ d.size → d.size - at_ < n → 10 * n + 700 ≤ k → d.size ≤ 1048576 → part.size ≤ 8000 → spec_ReadLog.l0 k d out good at_ o part = some (rl n d out good at_ o part) := by
  intro n
  induction n with
  | zero => intro k d out good at_ o part h1 h2; omega
  | succ n ih =>
    intro k d out good at_ o part h1 h2 hk hd hp
    obtain ⟨k, rfl⟩ : ∃ j, k = j + 1 + 1 + 1 + 1 + 1 := ⟨k - 5, by omega⟩
    rw [spec_ReadLog.l0, rl]
    by_cases ho : out.length < 500
    · rw [if_pos (by omega), if_pos ho, rl_left]
      have hl : 64 - at_ % 64 ≤ 64 ∧ 1 ≤ 64 - at_ % 64 := by omega
      generalize 64 - at_ % 64 = left at hl
      by_cases c : left ≤ 6
      · rw [if_pos (by omega), if_pos c, wad at_ left (by omega)]
        by_cases c2 : at_ + left > d.size
        · rw [if_pos (by omega), if_neg]
          intro e
          have := congrArg List.length e
          rw [List.length_take, List.length_drop, nb_length, List.length_replicate] at this
          omega
        · rw [if_neg (by omega), if_pos (by omega), if_pos (by omega), if_pos (by omega), if_pos (by omega), if_pos (by omega), Int.toNat_natCast, Int.toNat_natCast, Int.toNat_natCast]
          have e : ((d.extract at_ (at_ + left)).toList = (strOfNums (List.replicate left 0)).toList) ↔ ((nb d).drop at_).take left = List.replicate left 0 := by
            rw [toList_nb, nb_extract, nb_zeros, List.drop_take, Nat.add_sub_cancel_left]
          by_cases c3 : ((nb d).drop at_).take left = List.replicate left 0
          · rw [if_pos (e.2 c3), if_pos c3]
            exact ih _ d out good _ o part (by omega) (by omega) (by omega) hd hp
          · rw [if_neg (fun x => c3 (e.1 x)), if_neg c3]
      · have e6 : wrap64 ((at_ : Int) + 6) = ((at_ + 6 : Nat) : Int) := wad at_ 6 (by omega)
        rw [if_neg (by omega), if_neg c, e6]
        clear e6
        by_cases c2 : at_ + 6 > d.size
        · rw [if_pos (by omega), if_neg]
          unfold fok; rw [decide_eq_false (by omega)]; simp
        · have e4 : wrap64 ((at_ : Int) + 4) = ((at_ + 4 : Nat) : Int) := wad at_ 4 (by omega)
          have e5 : wrap64 ((at_ : Int) + 5) = ((at_ + 5 : Nat) : Int) := wad at_ 5 (by omega)
          rw [if_neg (by omega), e4, e5]
          clear e4 e5
          rw [if_pos (by omega), if_pos (by omega), if_pos (by omega), stf]
          simp only [Option.bind_some]
          rw [if_pos (by omega), if_pos (by omega), if_pos (by omega), if_pos (by omega), wbt, Int.toNat_natCast, Int.toNat_natCast, bt_getD, wsub6 left (by omega) (by omega)]
          unfold fok
          have hsz := getD_lt (nb d) (nb_lt d) (at_ + 4)
          generalize (nb d).getD (at_ + 4) 0 = size at hsz
          generalize (nb d).getD (at_ + 5) 0 = kind
          rw [decide_eq_true (by omega : at_ + 6 ≤ d.size), Bool.true_and]
          by_cases c3 : size + 6 ≤ left
          · rw [if_neg (by omega), wad (at_ + 6) size (by omega), decide_eq_true c3, Bool.true_and]
            by_cases c4 : at_ + 6 + size ≤ d.size
            · rw [if_neg (by omega), if_pos (by omega), if_pos (by omega), Int.toNat_natCast, scrc _ (by rw [ByteArray.size_extract]; omega) _ (by rw [ByteArray.size_extract]; omega), decide_eq_true c4, Bool.true_and]
              simp only [Option.bind_some]
              have et : (tfR (d.extract at_ (at_ + 4))).1 = (tfN (d.extract at_ (at_ + 4)) : Int) := by
                unfold tfR; rw [if_neg (by rw [ByteArray.size_extract]; omega)]
              rw [et]
              by_cases c5 : crcN (nb (d.extract (at_ + 4) (at_ + 6 + size))) = tfN (d.extract at_ (at_ + 4))
              · rw [decide_eq_true c5, if_pos rfl, show (((crcN (nb (d.extract (at_ + 4) (at_ + 6 + size))) : Nat) : Int) != ((tfN (d.extract at_ (at_ + 4)) : Nat) : Int)) = false by rw [c5]; exact bne_self_eq_false ..]
                rw [srl_j1 k d out good at_ o part left size kind (by omega) (by omega) (by omega) c4 hd hp ho]
                by_cases c6 : kok left size kind o = true
                · rw [if_pos c6, if_pos c6]
                  by_cases c7 : part.size + size > 8000
                  · rw [if_pos c7, if_pos c7]
                  · rw [if_neg c7, if_neg c7]
                    by_cases c8 : kind = 1 ∨ kind = 4
                    · rw [if_pos c8, if_pos c8]
                      exact ih k d _ _ _ false _ (by omega) (by omega) (by omega) hd (by show 0 ≤ 8000; omega)
                    · rw [if_neg c8, if_neg c8]
                      exact ih k d _ _ _ true _ (by omega) (by omega) (by omega) hd (by rw [bsize_append, ByteArray.size_extract]; omega)
                · rw [if_neg c6, if_neg c6]
              · rw [decide_eq_false c5, if_neg (by decide), show (((crcN (nb (d.extract (at_ + 4) (at_ + 6 + size))) : Nat) : Int) != ((tfN (d.extract at_ (at_ + 4)) : Nat) : Int)) = true by rw [bne_iff_ne]; omega, spec_ReadLog.j1, if_pos rfl]
            · rw [if_pos (by omega), decide_eq_false c4, spec_ReadLog.j1, if_pos rfl]; rfl
          · rw [if_pos (by omega), decide_eq_false c3, spec_ReadLog.j1, if_pos rfl]; rfl
    · rw [if_neg (by omega), if_neg ho]

/-! ## section rlimpl -/
theorem irl_pad (d : ByteArray) (out : List ByteArray) (good : Int) (part : ByteArray) (o : Bool) (left : Nat) (hd : d.size ≤ 1048576) (hl : left ≤ 6) : ∀ (c k at_ : Nat), c ≤ left → at_ ≤ d.size →
    impl_ReadLog.l1 (k + c + 1) d out good part o at_ left ((left - c : Nat) : Int) = if ((nb d).drop at_).take c = List.replicate c 0 then impl_ReadLog.l0 k d out good part o ((at_ + c : Nat) : Int) else some (out, good) := by
  intro c
  induction c with
  | zero =>
    intro k at_ h1 h2
    rw [impl_ReadLog.l1, if_neg (by omega), if_pos (by simp)]
    simp
  | succ c ih =>
    intro k at_ h1 h2
    rw [show k + (c + 1) + 1 = k + c + 1 + 1 by omega, impl_ReadLog.l1, if_pos (by omega)]
    by_cases e : at_ ≥ d.size
    · rw [if_pos (by omega), if_neg]
      intro x
      have := congrArg List.length x
      rw [List.length_take, List.length_drop, nb_length, List.length_replicate] at this
      omega
    · rw [if_neg (by omega), if_pos (by omega), if_pos (by omega)]
      obtain ⟨b, hb, hbt, hlt⟩ := nb_drop d at_ (by omega)
      rw [hbt, hb, List.take_succ_cons, List.replicate_succ]
      by_cases z : b = 0
      · have ea : wrap64 ((at_ : Int) + 1) = ((at_ + 1 : Nat) : Int) := wad at_ 1 (by omega)
        have el : wrap64 (((left - (c + 1) : Nat) : Int) + 1) = ((left - c : Nat) : Int) := by rw [w64] <;> omega
        rw [if_pos (by omega), ea, el, ih k (at_ + 1) (by omega) (by omega), z]
        clear ea el
        by_cases y : ((nb d).drop (at_ + 1)).take c = List.replicate c 0
        · rw [if_pos y, if_pos (by rw [y]), show at_ + 1 + c = at_ + (c + 1) by omega]
        · rw [if_neg y, if_neg (by intro x; exact y (List.cons.inj x).2)]
      · rw [if_neg (by omega), if_neg (by intro x; exact z (List.cons.inj x).1)]
theorem irl_j4 (k : Nat) (d : ByteArray) (out : List ByteArray) (good : Int) (at_ : Nat) (part : ByteArray) (size : Nat) (more : Bool)
    (ha : at_ + 6 + size ≤ d.size) (hd : d.size ≤ 1048576) (hp : part.size ≤ 8000) (ho : out.length < 500) :
    impl_ReadLog.j4 (k + 1) d out good part at_ size more (decide (wrap64 ((part.size : Int) + (size : Int)) > 8000)) = if part.size + size > 8000 then some (out, good) else if more = true then impl_ReadLog.l0 k d out good (part ++ d.extract (at_ + 6) (at_ + 6 + size)) true ((at_ + 6 + size : Nat) : Int) else impl_ReadLog.l0 k d (out ++ [part ++ d.extract (at_ + 6) (at_ + 6 + size)]) ((at_ + 6 + size : Nat) : Int) ⟨#[]⟩ false ((at_ + 6 + size : Nat) : Int) := by
  have e6 : wrap64 ((at_ : Int) + 6) = ((at_ + 6 : Nat) : Int) := wad at_ 6 (by omega)
  have es : wrap64 (((at_ + 6 : Nat) : Int) + (size : Int)) = ((at_ + 6 + size : Nat) : Int) := wad _ _ (by omega)
  have et : wrap64 ((at_ : Int) + wrap64 (6 + (size : Int))) = ((at_ + 6 + size : Nat) : Int) := by
    rw [show wrap64 (6 + (size : Int)) = ((6 + size : Nat) : Int) from wad 6 size (by omega), wad at_ (6 + size) (by omega), Nat.add_assoc]
  have hx : (d.extract (at_ + 6) (at_ + 6 + size)).size = size := by rw [ByteArray.size_extract]; omega
  have ep : wrap64 ((part.size : Int) + (size : Int)) = ((part.size + size : Nat) : Int) := wad _ _ (by omega)
  rw [ep, impl_ReadLog.j4, e6, es, et, Int.toNat_natCast, Int.toNat_natCast, hx]
  clear ep e6 es et
  by_cases c : part.size + size > 8000
  · rw [if_pos (decide_eq_true (by omega)), if_pos c]
  · rw [if_neg (by rw [decide_eq_true_eq]; omega), if_neg c, if_pos (by omega), if_pos (by omega), if_pos (by omega), if_pos (by omega)]
    cases more
    · rw [if_neg (by decide), if_pos (by omega), if_neg (by decide)]
    · rw [if_pos rfl, if_pos rfl]
theorem irl_j4' (k : Nat) (d : ByteArray) (out : List ByteArray) (good at_ : Int) (part : ByteArray) (size : Int) (more : Bool) : impl_ReadLog.j4 (k + 1) d out good part at_ size more true = some (out, good) := by
  rw [impl_ReadLog.j4, if_pos rfl]
theorem irl_j2 (k : Nat) (d : ByteArray) (out : List ByteArray) (good : Int) (at_ : Nat) (o : Bool) (part : ByteArray) (left size kind : Nat)
    (h7 : 7 ≤ left) (h64 : left ≤ 64) (hs : size + 6 ≤ left) (ha : at_ + 6 + size ≤ d.size) (hd : d.size ≤ 1048576) (hp : part.size ≤ 8000) (ho : out.length < 500) (h1 : 1 ≤ kind) (h4 : kind ≤ 4) :
    impl_ReadLog.j2 (k + 1 + 1 + 1) d out good part o at_ left size kind false = if kok left size kind o = true then
      if part.size + size > 8000 then some (out, good) else if kind = 1 ∨ kind = 4 then impl_ReadLog.l0 k d (out ++ [part ++ d.extract (at_ + 6) (at_ + 6 + size)]) ((at_ + 6 + size : Nat) : Int) ⟨#[]⟩ false ((at_ + 6 + size : Nat) : Int) else impl_ReadLog.l0 k d out good (part ++ d.extract (at_ + 6) (at_ + 6 + size)) true ((at_ + 6 + size : Nat) : Int)
    else some (out, good) := by
  have j4 := irl_j4 k d out good at_ part size
  have e6' : wrap64 (6 + (size : Int)) = 6 + (size : Int) := by rw [w64] <;> omega
  have c1 : size + 6 = left → 6 + (size : Int) = (left : Int) := by omega
  have c2 : ¬ size + 6 = left → ¬ 6 + (size : Int) = (left : Int) := by omega
  generalize hq : decide (wrap64 ((part.size : Int) + (size : Int)) > 8000) = q at j4
  rcases (by omega : kind = 1 ∨ kind = 2 ∨ kind = 3 ∨ kind = 4) with rfl | rfl | rfl | rfl
  · cases o
    · refine Eq.trans (b := impl_ReadLog.j4 (k + 1) d out good part at_ size false q) ?_ (Eq.trans (j4 false ha hd hp ho) ?_)
      · simp only [impl_ReadLog.j2, impl_ReadLog.j3, hq]; simp
      · simp [kok]
    · simp [impl_ReadLog.j2, impl_ReadLog.j3, irl_j4', kok]
  · cases o
    · by_cases c : size + 6 = left
      · refine Eq.trans (b := impl_ReadLog.j4 (k + 1) d out good part at_ size true q) ?_ (Eq.trans (j4 true ha hd hp ho) ?_)
        · simp only [impl_ReadLog.j2, impl_ReadLog.j3, hq, e6']; simp [c1 c]
        · simp [kok, c]
      · refine Eq.trans (b := impl_ReadLog.j4 (k + 1) d out good part at_ size true true) ?_ (Eq.trans (irl_j4' ..) ?_)
        · simp only [impl_ReadLog.j2, impl_ReadLog.j3, hq, e6']; simp [c2 c]
        · simp [kok, c]
    · simp [impl_ReadLog.j2, impl_ReadLog.j3, irl_j4', kok]
  · cases o
    · simp [impl_ReadLog.j2, impl_ReadLog.j3, irl_j4', kok]
    · by_cases c : size + 6 = left
      · refine Eq.trans (b := impl_ReadLog.j4 (k + 1) d out good part at_ size true q) ?_ (Eq.trans (j4 true ha hd hp ho) ?_)
        · simp only [impl_ReadLog.j2, impl_ReadLog.j3, hq, e6']; simp [c1 c]
        · simp [kok, c]
      · refine Eq.trans (b := impl_ReadLog.j4 (k + 1) d out good part at_ size true true) ?_ (Eq.trans (irl_j4' ..) ?_)
        · simp only [impl_ReadLog.j2, impl_ReadLog.j3, hq, e6']; simp [c2 c]
        · simp [kok, c]
  · cases o
    · simp [impl_ReadLog.j2, impl_ReadLog.j3, irl_j4', kok]
    · by_cases c : size = 0
      · refine Eq.trans (b := impl_ReadLog.j4 (k + 1) d out good part at_ size false true) ?_ (Eq.trans (irl_j4' ..) ?_)
        · simp only [impl_ReadLog.j2, impl_ReadLog.j3, hq, e6']; simp [c]
        · simp [kok, c]
      · refine Eq.trans (b := impl_ReadLog.j4 (k + 1) d out good part at_ size false q) ?_ (Eq.trans (j4 false ha hd hp ho) ?_)
        · simp only [impl_ReadLog.j2, impl_ReadLog.j3, hq, e6']; simp [c]
        · simp [kok, c]
theorem irl : ∀ (n k : Nat) (d : ByteArray) (out : List ByteArray) (good at_ : Nat) (o : Bool) (part : ByteArray), at_ ≤ d.size → d.size - at_ < n → 10 * n + 700 ≤ k → d.size ≤ 1048576 → part.size ≤ 8000 → impl_ReadLog.l0 k d out good part o at_ = some (rl n d out good at_ o part) := by
  intro n
  induction n with
  | zero => intro k d out good at_ o part h1 h2; omega
  | succ n ih =>
    intro k d out good at_ o part h1 h2 hk hd hp
    obtain ⟨k, rfl⟩ : ∃ j, k = j + 1 + 1 + 1 + 1 := ⟨k - 4, by omega⟩
    rw [impl_ReadLog.l0, rl]
    by_cases ho : out.length < 500
    · rw [if_pos (by omega), if_pos ho, rl_left]
      have hl : 64 - at_ % 64 ≤ 64 ∧ 1 ≤ 64 - at_ % 64 := by omega
      generalize 64 - at_ % 64 = left at hl
      by_cases c : left ≤ 6
      · rw [if_pos (by omega), if_pos c]
        have hp' := irl_pad d out good part o left hd c left (k + 3 - left - 1) at_ (by omega) h1
        rw [show k + 3 - left - 1 + left + 1 = k + 1 + 1 + 1 by omega, Nat.sub_self] at hp'
        refine Eq.trans hp' ?_
        by_cases c3 : ((nb d).drop at_).take left = List.replicate left 0
        · rw [if_pos c3, if_pos c3]
          have hle : at_ + left ≤ d.size := by
            have := congrArg List.length c3
            rw [List.length_take, List.length_drop, nb_length, List.length_replicate] at this
            omega
          exact ih _ d out good _ o part hle (by omega) (by omega) hd hp
        · rw [if_neg c3, if_neg c3]
      · have e6 : wrap64 ((at_ : Int) + 6) = ((at_ + 6 : Nat) : Int) := wad at_ 6 (by omega)
        rw [if_neg (by omega), if_neg c, e6]
        clear e6
        by_cases c2 : at_ + 6 > d.size
        · rw [if_pos (by omega), if_neg]
          unfold fok; rw [decide_eq_false (by omega)]; simp
        · have e4 : wrap64 ((at_ : Int) + 4) = ((at_ + 4 : Nat) : Int) := wad at_ 4 (by omega)
          have e5 : wrap64 ((at_ : Int) + 5) = ((at_ + 5 : Nat) : Int) := wad at_ 5 (by omega)
          rw [if_neg (by omega), e4, e5]
          clear e4 e5
          rw [if_pos (by omega), if_pos (by omega), itf]
          simp only [Option.bind_some]
          rw [if_pos (by omega), if_pos (by omega), if_pos (by omega), if_pos (by omega), wbt, Int.toNat_natCast, Int.toNat_natCast, bt_getD]
          unfold fok
          have hsz := getD_lt (nb d) (nb_lt d) (at_ + 4)
          generalize (nb d).getD (at_ + 4) 0 = size at hsz
          generalize (nb d).getD (at_ + 5) 0 = kind
          rw [decide_eq_true (by omega : at_ + 6 ≤ d.size), Bool.true_and, show wrap64 (6 + (size : Int)) = ((6 + size : Nat) : Int) from wad 6 size (by omega)]
          by_cases c3 : size + 6 ≤ left
          · rw [if_neg (by omega), wad (at_ + 6) size (by omega), decide_eq_true c3, Bool.true_and]
            by_cases c4 : at_ + 6 + size ≤ d.size
            · rw [if_neg (by omega), if_pos (by omega), if_pos (by omega), Int.toNat_natCast, icrc _ (by rw [ByteArray.size_extract]; omega) _ (by rw [ByteArray.size_extract]; omega), decide_eq_true c4, Bool.true_and]
              simp only [Option.bind_some]
              have et : (tfR (d.extract at_ d.size)).1 = (tfN (d.extract at_ (at_ + 4)) : Int) := by
                unfold tfR; rw [if_neg (by rw [ByteArray.size_extract]; omega), tfN_cut _ _ _ (by omega)]
              rw [et]
              by_cases c5 : crcN (nb (d.extract (at_ + 4) (at_ + 6 + size))) = tfN (d.extract at_ (at_ + 4))
              · rw [decide_eq_true c5, if_pos rfl, c5, if_pos rfl]
                by_cases k1 : kind < 1
                · rw [if_pos (by omega), impl_ReadLog.j2, if_pos rfl, if_neg]
                  have : kind = 0 := by omega
                  subst this; simp [kok]
                · rw [if_neg (by omega)]
                  by_cases k4 : kind > 4
                  · rw [decide_eq_true (by omega : (kind : Int) > 4), impl_ReadLog.j2, if_pos rfl, if_neg]
                    have b1 : kind ≠ 1 := by omega
                    have b2 : kind ≠ 2 := by omega
                    have b3 : kind ≠ 3 := by omega
                    have b4 : kind ≠ 4 := by omega
                    simp [kok, b1, b2, b3, b4]
                  · rw [decide_eq_false (by omega : ¬ (kind : Int) > 4)]
                    rw [irl_j2 k d out good at_ o part left size kind (by omega) (by omega) (by omega) c4 hd hp ho (by omega) (by omega)]
                    by_cases c6 : kok left size kind o = true
                    · rw [if_pos c6, if_pos c6]
                      by_cases c7 : part.size + size > 8000
                      · rw [if_pos c7, if_pos c7]
                      · rw [if_neg c7, if_neg c7]
                        by_cases c8 : kind = 1 ∨ kind = 4
                        · rw [if_pos c8, if_pos c8]
                          exact ih k d _ _ _ false _ (by omega) (by omega) (by omega) hd (by show 0 ≤ 8000; omega)
                        · rw [if_neg c8, if_neg c8]
                          exact ih k d _ _ _ true _ (by omega) (by omega) (by omega) hd (by rw [bsize_append, ByteArray.size_extract]; omega)
                    · rw [if_neg c6, if_neg c6]
              · rw [decide_eq_false c5, if_neg (by omega), if_neg (by decide), impl_ReadLog.j2, if_pos rfl]
            · rw [if_pos (by omega), decide_eq_false c4, impl_ReadLog.j2, if_pos rfl]; rfl
          · rw [if_pos (by omega), decide_eq_false c3, impl_ReadLog.j2, if_pos rfl]; rfl
    · rw [if_neg (by omega), if_neg ho]

/-! ## section strs -/
theorem rds_drop (l : List ByteArray) (i : Nat) (h : i < l.length) : ∃ u, l.drop i = u :: l.drop (i + 1) ∧ rdOf ByteArray.empty l (i : Int) = u ∧ u ∈ l := by
  refine ⟨l[i], List.drop_eq_getElem_cons h, ?_, List.getElem_mem h⟩
  unfold rdOf
  rw [Int.toNat_natCast, List.getD_eq_getElem?_getD, List.getElem?_eq_getElem h]; rfl

/-! ## section marktext -/
theorem mark_l0 : ∀ (m n : Nat) (x : ByteArray), n ≤ m → n ≤ 2000 → x.size + n ≤ 4000 → ∃ t, ∀ k, n + 1 ≤ k → laws_markText.l0 k n x = some t := by
  intro m
  induction m with
  | zero =>
    intro n x h h2 hx
    refine ⟨(⟨#[109]⟩ : ByteArray) ++ x, fun k hk => ?_⟩
    · obtain ⟨k, rfl⟩ : ∃ j, k = j + 1 := ⟨k - 1, by omega⟩
      rw [laws_markText.l0, if_neg (by omega), if_pos (by omega)]
  | succ m ih =>
    intro n x h h2 hx
    by_cases z : n = 0
    · exact ih n x (by omega) h2 hx
    · have e : wrap64 (Int.tdiv (n : Int) 10) = ((n / 10 : Nat) : Int) := by
        rw [Int.tdiv_eq_ediv_of_nonneg (by omega)]; unfold wrap64; omega
      obtain ⟨t, ht⟩ := ih (n / 10) (strOfNums [(wrap64 (48 + (Int.tmod (n : Int) 10))) % 256] ++ x) (by omega) (by omega)
        (by rw [ByteArray.size_append]; have : (strOfNums [(wrap64 (48 + (Int.tmod (n : Int) 10))) % 256]).size = 1 := by simp [strOfNums, ByteArray.size]
            omega)
      refine ⟨t, fun k hk => ?_⟩
      obtain ⟨k, rfl⟩ : ∃ j, k = j + 1 := ⟨k - 1, by omega⟩
      have h1 : (strOfNums [(wrap64 (48 + (Int.tmod (n : Int) 10))) % 256]).size = 1 := by simp [strOfNums, ByteArray.size]
      rw [laws_markText.l0, if_pos (by omega), e]
      simp only [Option.bind_some]
      rw [if_pos (by rw [h1]; omega)]
      exact ht k (by omega)
theorem markT : ∃ T : Nat → ByteArray, ∀ n : Nat, n ≤ 2000 → ∀ k, 2001 ≤ k → laws_markText.f k n = some (T n) := by
  have h : ∀ n : Nat, ∃ t : ByteArray, n ≤ 2000 → ∀ k, 2001 ≤ k → laws_markText.f k n = some t := by
    intro n
    by_cases c : n ≤ 2000
    · by_cases z : n = 0
      · subst z; exact ⟨_, fun _ k _ => by unfold laws_markText.f; rw [if_pos (by omega)]⟩
      · obtain ⟨t, ht⟩ := mark_l0 n n (⟨#[]⟩ : ByteArray) (Nat.le_refl _) c (by show 0 + n ≤ _; omega)
        refine ⟨t, fun _ k hk => ?_⟩
        unfold laws_markText.f
        rw [if_neg (by omega), ht k (by omega)]
    · exact ⟨⟨#[]⟩, fun x => absurd x c⟩
  exact ⟨fun n => Classical.choose (h n), fun n => Classical.choose_spec (h n)⟩

/-! ## section markstrs -/
theorem marks_l0 (T : Nat → ByteArray) (hT : ∀ n : Nat, n ≤ 2000 → ∀ k, 2001 ≤ k → laws_markText.f k n = some (T n)) : ∀ (d k i : Nat) (l : List ByteArray), i ≤ l.length → l.length - i = d → l.length ≤ 1000 → d + 2001 < k →
    ∃ l', laws_markStringS.l0 k l ((i + 1 : Nat) : Int) i = some (((l.length + 1 : Nat) : Int), l') ∧ l'.length = l.length ∧ (∀ j, i ≤ j → j < l.length → l'[j]? = some (T (j + 1))) ∧ ∀ j, j < i → l'[j]? = l[j]? := by
  intro d
  induction d with
  | zero =>
    intro k i l h1 h2 hl hk
    obtain ⟨k, rfl⟩ : ∃ m, k = m + 1 := ⟨k - 1, by omega⟩
    refine ⟨l, ?_, rfl, fun j a b => absurd b (by omega), fun j _ => rfl⟩
    rw [laws_markStringS.l0, if_neg (by omega), show i = l.length by omega]
  | succ d ih =>
    intro k i l h1 h2 hl hk
    obtain ⟨k, rfl⟩ : ∃ m, k = m + 1 := ⟨k - 1, by omega⟩
    obtain ⟨l', e, hlen, hge, hlt⟩ := ih k (i + 1) (l.set i (T (i + 1))) (by rw [List.length_set]; omega) (by rw [List.length_set]; omega) (by rw [List.length_set]; omega) (by omega)
    rw [List.length_set] at e hlen hge
    refine ⟨l', ?_, hlen, ?_, ?_⟩
    · rw [laws_markStringS.l0, if_pos (by omega), hT (i + 1) (by omega) k (by omega)]
      simp only [Option.bind_some]
      rw [if_pos (by omega), Int.toNat_natCast, show wrap64 (((i + 1 : Nat) : Int) + 1) = ((i + 1 + 1 : Nat) : Int) from by rw [w64] <;> omega, w64s (n := l.length) (by omega) (by omega)]
      exact e
    · intro j a b
      by_cases c : j = i
      · subst c
        rw [hlt j (by omega), List.getElem?_set_self (by omega)]
      · exact hge j (by omega) b
    · intro j a
      rw [hlt j (by omega), List.getElem?_set_ne (by omega)]
theorem held_l0 (T : Nat → ByteArray) (hT : ∀ n : Nat, n ≤ 2000 → ∀ k, 2001 ≤ k → laws_markText.f k n = some (T n)) (l : List ByteArray) (hl : l.length ≤ 1000) (hm : ∀ j, j < l.length → l[j]? = some (T (j + 1))) : ∀ (d k i : Nat), i ≤ l.length → l.length - i = d → d + 2001 < k →
    laws_heldStringS.l0 k l ((i + 1 : Nat) : Int) i = some ((l.length + 1 : Nat) : Int) := by
  intro d
  induction d with
  | zero =>
    intro k i h1 h2 hk
    obtain ⟨k, rfl⟩ : ∃ m, k = m + 1 := ⟨k - 1, by omega⟩
    rw [laws_heldStringS.l0, if_neg (by omega), show i = l.length by omega]
  | succ d ih =>
    intro k i h1 h2 hk
    obtain ⟨k, rfl⟩ : ∃ m, k = m + 1 := ⟨k - 1, by omega⟩
    rw [laws_heldStringS.l0, if_pos (by omega), if_pos (by omega), hT (i + 1) (by omega) k (by omega)]
    simp only [Option.bind_some]
    have er : rdOf ByteArray.empty l (i : Int) = T (i + 1) := by
      unfold rdOf; rw [Int.toNat_natCast, List.getD_eq_getElem?_getD, hm i (by omega)]; rfl
    rw [er, if_pos rfl, show wrap64 (((i + 1 : Nat) : Int) + 1) = ((i + 1 + 1 : Nat) : Int) from by rw [w64] <;> omega, w64s (n := l.length) (by omega) (by omega)]
    exact ih k (i + 1) (by omega) (by omega) (by omega)
theorem markstrs (l : List ByteArray) (hl : l.length ≤ 1000) : ∃ l', (∀ k, 4000 ≤ k → laws_markStringS.f k l 1 = some (((l.length + 1 : Nat) : Int), l')) ∧ ∀ k, 4000 ≤ k → laws_heldStringS.f k l' 1 = some ((l.length + 1 : Nat) : Int) := by
  obtain ⟨T, hT⟩ := markT
  refine ⟨(List.range l.length).map (fun j => T (j + 1)), fun k hk => ?_, fun k hk => ?_⟩
  · obtain ⟨l', e, hlen, hge, _⟩ := marks_l0 T hT l.length k 0 l (by omega) (by omega) hl (by omega)
    have : l' = (List.range l.length).map (fun j => T (j + 1)) := by
      apply List.ext_getElem?
      intro j
      by_cases c : j < l.length
      · rw [hge j (by omega) c, List.getElem?_map, List.getElem?_range c]; rfl
      · rw [List.getElem?_eq_none (by omega), List.getElem?_eq_none (by simp; omega)]
    rw [← this]; exact e
  · have hlen : ((List.range l.length).map (fun j => T (j + 1))).length = l.length := by simp
    have h := held_l0 T hT ((List.range l.length).map (fun j => T (j + 1))) (by omega) (by
      intro j c
      rw [hlen] at c
      rw [List.getElem?_map, List.getElem?_range c]; rfl) l.length k 0 (by omega) (by omega) (by omega)
    rw [hlen] at h
    exact h

/-! ## section eqstrs -/
theorem eqstrs_l0 (l : List ByteArray) (hl : l.length ≤ 1048576) : ∀ (d k i : Nat), i ≤ l.length → l.length - i = d → d < k → laws_eqStringS.l0 k l l i = some true := by
  intro d
  induction d with
  | zero =>
    intro k i h1 h2 hk
    obtain ⟨k, rfl⟩ : ∃ m, k = m + 1 := ⟨k - 1, by omega⟩
    rw [laws_eqStringS.l0, if_neg (by omega)]
  | succ d ih =>
    intro k i h1 h2 hk
    obtain ⟨k, rfl⟩ : ∃ m, k = m + 1 := ⟨k - 1, by omega⟩
    rw [laws_eqStringS.l0, if_pos (by omega), if_pos (by omega), if_pos (by omega), if_pos rfl, w64s (n := l.length) (by omega) (by omega)]
    exact ih k (i + 1) (by omega) (by omega) (by omega)
theorem eqstrs (l : List ByteArray) (hl : l.length ≤ 1048576) (k : Nat) (hk : l.length < k) : laws_eqStringS.f k l l = some true := by
  unfold laws_eqStringS.f
  rw [if_pos rfl]
  exact eqstrs_l0 l hl l.length k 0 (by omega) (by omega) hk

theorem FnExactReadLog : laws_FnExactReadLog.Pure := by
  intro a _
  unfold laws_FnExactReadLog.f
  by_cases h : (a.size : Int) > 1048576
  · exact ⟨0, by rw [if_pos h]⟩
  · refine ⟨20000000 + 1 + 1, ?_⟩
    have hl := rl_length (a.size + 1) a [] 0 0 false ⟨#[]⟩ (by simp)
    have hs : ∀ k, 10 * (a.size + 1) + 700 ≤ k → spec_ReadLog.f k a = some (rl (a.size + 1) a [] 0 0 false ⟨#[]⟩) := fun k hk => srl (a.size + 1) k a [] 0 0 false ⟨#[]⟩ (by omega) (by omega) hk (by omega) (by show 0 ≤ 8000; omega)
    have hi : ∀ k, 10 * (a.size + 1) + 700 ≤ k → impl_ReadLog.f k a = some (rl (a.size + 1) a [] 0 0 false ⟨#[]⟩) := fun k hk => irl (a.size + 1) k a [] 0 0 false ⟨#[]⟩ (by omega) (by omega) hk (by omega) (by show 0 ≤ 8000; omega)
    generalize rl (a.size + 1) a [] 0 0 false ⟨#[]⟩ = r at hl hs hi
    obtain ⟨l', hm, hh⟩ := markstrs r.1 (by omega)
    rw [if_neg h, hs _ (by omega), hi _ (by omega)]
    simp only [Option.bind_some]
    rw [eqstrs r.1 (by omega) _ (by omega)]
    simp only [Option.bind_some]
    rw [if_pos trivial, bne_self_eq_false, laws_FnExactReadLog.j0, if_neg (by decide), hm _ (by omega)]
    simp only [Option.bind_some]
    rw [hh _ (by omega)]
    simp only [Option.bind_some]
    rw [if_neg (by omega), if_pos trivial, hi _ (by omega)]
    simp only [Option.bind_some]
    rw [eqstrs r.1 (by omega) _ (by omega)]
    simp only [Option.bind_some]
    rw [if_pos trivial, bne_self_eq_false, laws_FnExactReadLog.j1, if_neg (by decide), hh _ (by omega)]
    simp only [Option.bind_some]
    rw [if_neg (by omega), if_pos trivial]

end Go.Proofs.Ytfcjacncllmapac.Pure
