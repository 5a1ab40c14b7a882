/- With a bit turned over in what a log says (but not in a length) no record comes back that was not written: at every code. No condition. -/
import Derived.Test.YtfcjacncllmapagQFnLogHurtx
namespace Go.Proofs.Ytfcjacncllmapag.Pure
open Go.RowKit Go.Proofs.Ytfcjacncllmapag.QFnLogHurt Go.Proofs.YtfcjacncllmapagW.PrintWords Go.Proofs.YtfcjacncllmapagW.PrintLast Go.Proofs.YtfcjacncllmapagW.PrintMore
set_option linter.unusedVariables false
set_option linter.unusedSimpArgs false

/-! ## section base -/
/-- an unsigned kind's number that fits is not wrapped -/
theorem wrapU (k : IntKind) (hs : k.signed = false) (n : Nat) (h : n < 2 ^ k.bits) : k.wrap (n : Int) = n := by
  unfold IntKind.wrap
  rw [Int.emod_eq_of_lt (by omega) (by exact_mod_cast h)]
  simp [hs]
/-- bits of unsigned numbers are those of natural numbers -/
theorem b_or (k : IntKind) (hs : k.signed = false) (a b : Nat) (ha : a < 2 ^ k.bits) (hb : b < 2 ^ k.bits) : Go.bits .or k a b = ((a ||| b : Nat) : Int) := by
  simp only [Go.bits, BitVec.ofInt_natCast, BitVec.toNat_or, BitVec.toNat_ofNat, Nat.mod_eq_of_lt ha, Nat.mod_eq_of_lt hb]
  exact wrapU k hs _ (Nat.or_lt_two_pow ha hb)
theorem b_xor (k : IntKind) (hs : k.signed = false) (a b : Nat) (ha : a < 2 ^ k.bits) (hb : b < 2 ^ k.bits) : Go.bits .xor k a b = ((a ^^^ b : Nat) : Int) := by
  simp only [Go.bits, BitVec.ofInt_natCast, BitVec.toNat_xor, BitVec.toNat_ofNat, Nat.mod_eq_of_lt ha, Nat.mod_eq_of_lt hb]
  exact wrapU k hs _ (Nat.xor_lt_two_pow ha hb)
theorem b_and (k : IntKind) (hs : k.signed = false) (a b : Nat) (ha : a < 2 ^ k.bits) (hb : b < 2 ^ k.bits) : Go.bits .and k a b = ((a &&& b : Nat) : Int) := by
  simp only [Go.bits, BitVec.ofInt_natCast, BitVec.toNat_and, BitVec.toNat_ofNat, Nat.mod_eq_of_lt ha, Nat.mod_eq_of_lt hb]
  exact wrapU k hs _ (Nat.and_lt_two_pow _ hb)
theorem b_or8 (a b : Nat) (ha : a < 256) (hb : b < 256) : Go.bits .or .u8 a b = ((a ||| b : Nat) : Int) := b_or .u8 rfl a b ha hb
theorem u64w (x : Int) : IntKind.u64.wrap x = x % 18446744073709551616 := by simp [IntKind.wrap, IntKind.bits, IntKind.signed]

/-! ## section bytes -/
/-- the bytes of a text, as natural numbers -/
def nb (s : ByteArray) : List Nat := s.data.toList.map UInt8.toNat
theorem nb_length (s : ByteArray) : (nb s).length = s.size := by rw [nb, List.length_map, Array.length_toList]; rfl
theorem nb_lt (s : ByteArray) : ∀ b ∈ nb s, b < 256 := by
  intro b hb
  simp only [nb, List.mem_map] at hb
  obtain ⟨u, _, rfl⟩ := hb
  exact u.toNat_lt
theorem bt_nb (s : ByteArray) (i : Nat) (h : i < s.size) : bt s i = (((nb s)[i]'(by rw [nb_length]; exact h) : Nat) : Int) := by
  simp only [bt, Int.toNat_natCast, h, nb]
  simp
  rfl
theorem nb_drop (s : ByteArray) (i : Nat) (h : i < s.size) : ∃ b, (nb s).drop i = b :: (nb s).drop (i + 1) ∧ bt s i = (b : Int) ∧ b < 256 := by
  have hl : i < (nb s).length := by rw [nb_length]; exact h
  exact ⟨(nb s)[i], List.drop_eq_getElem_cons hl, bt_nb s i h, nb_lt s _ (List.getElem_mem hl)⟩
theorem nb_end (s : ByteArray) (i : Nat) (h : s.size ≤ i) : (nb s).drop i = [] := List.drop_eq_nil_of_le (by rw [nb_length]; exact h)
theorem w64 {x : Int} (h0 : -9223372036854775808 ≤ x) (h1 : x < 9223372036854775808) : wrap64 x = x := by unfold wrap64; omega
theorem w64s {i n : Nat} (h : i < n) (hn : n ≤ 140737488351232) : wrap64 ((i : Int) + 1) = ((i + 1 : Nat) : Int) := by rw [w64] <;> omega
theorem bits_range (k : IntKind) (hs : k.signed = false) (op : BinOp) (x y : Int) : 0 ≤ Go.bits op k x y ∧ Go.bits op k x y < 2 ^ k.bits := by
  have hp : (0 : Int) < 2 ^ k.bits := by exact_mod_cast Nat.two_pow_pos k.bits
  unfold Go.bits IntKind.wrap
  simp only [hs, Bool.false_and]
  exact ⟨Int.emod_nonneg _ (by omega), Int.emod_lt_of_pos _ hp⟩

/-! ## section takefixed -/
/-- the number of four bytes -/
def tfN (s : ByteArray) : Nat := (nb s).getD 0 0 + 256 * (nb s).getD 1 0 + 65536 * (nb s).getD 2 0 + 16777216 * (nb s).getD 3 0
theorem getD_lt (l : List Nat) (h : ∀ b ∈ l, b < 256) (i : Nat) : l.getD i 0 < 256 := by
  rw [List.getD_eq_getElem?_getD]
  cases hi : l[i]? with
  | none => simp
  | some b => simpa using h b (List.mem_of_getElem? hi)
theorem tfN_lt (s : ByteArray) : tfN s < 4294967296 := by
  have h := getD_lt (nb s) (nb_lt s)
  have h0 := h 0; have h1 := h 1; have h2 := h 2; have h3 := h 3
  unfold tfN; omega
theorem bt_getD (s : ByteArray) (i : Nat) : bt s i = (((nb s).getD i 0 : Nat) : Int) := by
  rcases Nat.lt_or_ge i s.size with h | h
  · rw [bt_nb s i h, List.getD_eq_getElem?_getD, List.getElem?_eq_getElem (by rw [nb_length]; exact h)]; rfl
  · have e : bt s i = 0 := by simp only [bt, Int.toNat_natCast]; rw [dif_neg (by omega)]
    rw [e, List.getD_eq_getElem?_getD, List.getElem?_eq_none (by rw [nb_length]; exact h)]; rfl
theorem or4 {a b c d : Nat} (ha : a < 256) (hb : b < 256) (hc : c < 256) (hd : d < 256) :
    Go.bits .or .u32 (Go.bits .or .u32 (Go.bits .or .u32 ((a : Int) % 4294967296) ((((b : Int) % 4294967296) * 256) % 4294967296)) ((((c : Int) % 4294967296) * 65536) % 4294967296)) ((((d : Int) % 4294967296) * 16777216) % 4294967296) = ((a + 256 * b + 65536 * c + 16777216 * d : Nat) : Int) := by
  have e0 : ((a : Int) % 4294967296) = ((a : Nat) : Int) := by omega
  have e1 : ((((b : Int) % 4294967296) * 256) % 4294967296) = ((2 ^ 8 * b : Nat) : Int) := by omega
  have e2 : ((((c : Int) % 4294967296) * 65536) % 4294967296) = ((2 ^ 16 * c : Nat) : Int) := by omega
  have e3 : ((((d : Int) % 4294967296) * 16777216) % 4294967296) = ((2 ^ 24 * d : Nat) : Int) := by omega
  rw [e0, e1, e2, e3]
  clear e0 e1 e2 e3
  rw [b_or .u32 rfl _ _ (by show _ < 4294967296; omega) (by show _ < 4294967296; omega), Nat.or_comm a, ← Nat.two_pow_add_eq_or_of_lt (by omega) b]
  rw [b_or .u32 rfl _ _ (by show _ < 4294967296; omega) (by show _ < 4294967296; omega), Nat.or_comm _ (2 ^ 16 * c), ← Nat.two_pow_add_eq_or_of_lt (by omega) c]
  rw [b_or .u32 rfl _ _ (by show _ < 4294967296; omega) (by show _ < 4294967296; omega), Nat.or_comm _ (2 ^ 24 * d), ← Nat.two_pow_add_eq_or_of_lt (by omega) d]
  congr 1; omega
def tfR (s : ByteArray) : Int × ByteArray × Bool := if s.size < 4 then (0, (⟨#[]⟩ : ByteArray), false) else ((tfN s : Int), s.extract 4 s.size, true)
theorem tf_val (s : ByteArray) : Go.bits .or .u32 (Go.bits .or .u32 (Go.bits .or .u32 ((bt s 0) % 4294967296) ((((bt s 1) % 4294967296) * 256) % 4294967296)) ((((bt s 2) % 4294967296) * 65536) % 4294967296)) ((((bt s 3) % 4294967296) * 16777216) % 4294967296) = (tfN s : Int) := by
  have h := getD_lt (nb s) (nb_lt s)
  rw [show (0 : Int) = ((0 : Nat) : Int) from rfl, show (1 : Int) = ((1 : Nat) : Int) from rfl, show (2 : Int) = ((2 : Nat) : Int) from rfl, show (3 : Int) = ((3 : Nat) : Int) from rfl, bt_getD, bt_getD, bt_getD, bt_getD]
  rw [or4 (h 0) (h 1) (h 2) (h 3)]; rfl
theorem itf (s : ByteArray) : impl_TakeFixed.f s = some (tfR s) := by
  unfold impl_TakeFixed.f tfR
  by_cases h : s.size < 4
  · rw [if_pos (by omega), if_pos h]
  · rw [if_neg (by omega), if_neg h, if_pos (by omega), if_pos (by omega), if_pos (by omega), if_pos (by omega), if_pos (by omega), tf_val]

/-! ## section crc -/
def cbit (x : Nat) : Nat := if x % 2 = 1 then (x / 2) ^^^ 2197175160 else x / 2
def cbits : Nat → Nat → Nat
  | 0, x => x
  | n + 1, x => cbits n (cbit x)
def cbyte (x b : Nat) : Nat := cbits 8 (x ^^^ b)
def crcL : List Nat → Nat → Nat
  | [], x => x
  | b :: l, x => crcL l (cbyte x b)
/-- the sum of a list of bytes -/
def crcN (l : List Nat) : Nat := crcL l 4294967295 ^^^ 4294967295
theorem cbit_lt {x : Nat} (h : x < 4294967296) : cbit x < 4294967296 := by
  unfold cbit; split
  · exact Nat.xor_lt_two_pow (n := 32) (by omega) (by omega)
  · omega
theorem cbits_lt : ∀ (n : Nat) {x : Nat}, x < 4294967296 → cbits n x < 4294967296
  | 0, _, h => h
  | n + 1, _, h => cbits_lt n (cbit_lt h)
theorem xor_byte {x b : Nat} (h : x < 4294967296) (hb : b < 256) : x ^^^ b < 4294967296 := Nat.xor_lt_two_pow (n := 32) h (by omega)
theorem cbyte_lt {x b : Nat} (h : x < 4294967296) (hb : b < 256) : cbyte x b < 4294967296 := cbits_lt 8 (xor_byte h hb)
theorem crcL_lt : ∀ (l : List Nat) {x : Nat}, (∀ b ∈ l, b < 256) → x < 4294967296 → crcL l x < 4294967296
  | [], _, _, h => h
  | b :: l, _, hl, h => crcL_lt l (fun c hc => hl c (List.mem_cons_of_mem _ hc)) (cbyte_lt h (hl b List.mem_cons_self))
theorem crcN_lt (l : List Nat) (hl : ∀ b ∈ l, b < 256) : crcN l < 4294967296 := Nat.xor_lt_two_pow (n := 32) (crcL_lt l hl (by omega)) (by omega)
theorem cbit_odd {x : Nat} (h : x < 4294967296) (ho : x % 2 = 1) : Go.bits .xor .u32 ((x : Int) / 2) 2197175160 = (cbit x : Int) := by
  rw [show ((x : Int) / 2) = ((x / 2 : Nat) : Int) by omega, show (2197175160 : Int) = ((2197175160 : Nat) : Int) from rfl, b_xor .u32 rfl _ _ (by show _ < 4294967296; omega) (by decide), cbit, if_pos ho]
theorem cbit_even {x : Nat} (ho : ¬ x % 2 = 1) : ((x : Int) / 2) = (cbit x : Int) := by rw [cbit, if_neg ho]; omega
theorem icrc_l1 (s : ByteArray) : ∀ (d j k i x : Nat), j ≤ 8 → 8 - j = d → x < 4294967296 → impl_Crc.l1 (k + d + 1) s x s.size i j = impl_Crc.l0 k s (cbits d x : Nat) s.size (wrap64 ((i : Int) + 1)) := by
  intro d
  induction d with
  | zero =>
    intro j k i x h1 h2 hx
    rw [impl_Crc.l1, if_neg (by omega)]; rfl
  | succ d ih =>
    intro j k i x h1 h2 hx
    have e : wrap64 ((j : Int) + 1) = ((j + 1 : Nat) : Int) := by rw [w64] <;> omega
    have a : Go.bits .and .u32 (x : Int) 1 = ((x % 2 : Nat) : Int) := by
      rw [show (1 : Int) = ((1 : Nat) : Int) from rfl, b_and .u32 rfl _ _ hx (by decide), Nat.and_one_is_mod]
    rw [show k + (d + 1) + 1 = (k + d + 1) + 1 by omega, impl_Crc.l1, if_pos (by omega), a, e]
    by_cases o : x % 2 = 1
    · rw [if_pos (by omega), cbit_odd hx o, ih (j + 1) k i _ (by omega) (by omega) (cbit_lt hx)]; rfl
    · rw [if_neg (by omega), cbit_even o, ih (j + 1) k i _ (by omega) (by omega) (cbit_lt hx)]; rfl
theorem icrc_l0 (s : ByteArray) (hs : s.size ≤ 140737488351232) : ∀ (d k i x : Nat), i ≤ s.size → s.size - i = d → 10 * d < k → x < 4294967296 → impl_Crc.l0 k s x s.size i = some ((crcL ((nb s).drop i) x ^^^ 4294967295 : Nat) : Int) := by
  intro d
  induction d with
  | zero =>
    intro k i x h1 h2 hk hx
    obtain ⟨k, rfl⟩ : ∃ m, k = m + 1 := ⟨k - 1, by omega⟩
    rw [impl_Crc.l0, if_neg (by omega), nb_end s i (by omega)]
    rw [show (4294967295 : Int) = ((4294967295 : Nat) : Int) from rfl, b_xor .u32 rfl _ _ (by decide) hx, Nat.xor_comm]; rfl
  | succ d ih =>
    intro k i x h1 h2 hk hx
    obtain ⟨k, rfl⟩ : ∃ m, k = m + 8 + 1 + 1 := ⟨k - 10, by omega⟩
    obtain ⟨b, hd, hb, hl⟩ := nb_drop s i (by omega)
    rw [impl_Crc.l0, if_pos (by omega), if_pos (by omega), if_pos (by omega), hb, hd, show ((b : Int) % 4294967296) = b by omega, b_xor .u32 rfl _ _ hx (by show _ < 4294967296; omega)]
    rw [show (0 : Int) = ((0 : Nat) : Int) from rfl, icrc_l1 s 8 0 k i _ (by omega) (by omega) (xor_byte hx hl), w64s (n := s.size) (by omega) hs]
    rw [ih k (i + 1) _ (by omega) (by omega) (by omega) (cbits_lt 8 (xor_byte hx hl))]; rfl
theorem icrc (s : ByteArray) (hs : s.size ≤ 140737488351232) (k : Nat) (hk : 10 * s.size < k) : impl_Crc.f k s = some (crcN (nb s) : Int) := by
  unfold impl_Crc.f
  have h := icrc_l0 s hs s.size k 0 4294967295 (by omega) (by omega) hk (by omega)
  simpa [crcN] using h

/-! ## section ba -/
theorem nb_append (a b : ByteArray) : nb (a ++ b) = nb a ++ nb b := by
  simp [nb, ByteArray.data_append]
theorem nb_extract (s : ByteArray) (i j : Nat) : nb (s.extract i j) = ((nb s).take j).drop i := by
  rw [List.drop_take]
  simp [nb, ByteArray.data_extract]
theorem nb_inj {a b : ByteArray} (h : nb a = nb b) : a = b := by
  have h1 : a.data.toList = b.data.toList := by
    have h2 : ∀ (l m : List UInt8), l.map UInt8.toNat = m.map UInt8.toNat → l = m := by
      intro l
      induction l with
      | nil => intro m h; cases m with
        | nil => rfl
        | cons y m => simp at h
      | cons x l ih => intro m h; cases m with
        | nil => simp at h
        | cons y m =>
          simp only [List.map_cons, List.cons.injEq] at h
          rw [UInt8.toNat_inj.1 h.1, ih m h.2]
    exact h2 _ _ h
  cases a; cases b; simp_all
theorem nb_nums (l : List Int) (h : ∀ x ∈ l, 0 ≤ x ∧ x < 256) : nb (strOfNums l) = l.map Int.toNat := by
  simp only [nb, strOfNums, List.map_map]
  apply List.map_congr_left
  intro x hx
  have := h x hx
  simp only [Function.comp]
  rw [UInt8.toNat_ofNat']
  exact Nat.mod_eq_of_lt (by omega)
theorem nb_empty : nb (⟨#[]⟩ : ByteArray) = [] := rfl
theorem bsize_append (a b : ByteArray) : (a ++ b).size = a.size + b.size := ByteArray.size_append

/-! ## section zeros -/
theorem nb_zeros (n : Nat) : nb (strOfNums (List.replicate n 0)) = List.replicate n 0 := by
  rw [nb_nums]
  · simp
  · intro x hx; rw [List.eq_of_mem_replicate hx]; omega
theorem zeros_size (n : Nat) : (strOfNums (List.replicate n 0)).size = n := by simp [strOfNums, ByteArray.size]
theorem two_size (a b : Int) : (strOfNums [a, b]).size = 2 := by simp [strOfNums, ByteArray.size]
theorem toList_nil (s : ByteArray) : s.toList = ([] : List UInt8) ↔ s.size = 0 := by
  rw [ByteArray.toList_eq]
  have h : s.data.toList.length = s.size := by rw [Array.length_toList]; rfl
  constructor
  · intro e; rw [e] at h; simpa using h.symm
  · intro e; exact List.eq_nil_of_length_eq_zero (by omega)

/-! ## section rl -/
theorem toList_nb (a b : ByteArray) : a.toList = b.toList ↔ nb a = nb b := by
  constructor
  · intro h
    rw [ByteArray.toList_eq, ByteArray.toList_eq] at h
    unfold nb; rw [h]
  · intro h; rw [nb_inj h]
/-- the marks that let a fragment's kind stand: its block's bytes, its length, its kind, whether a record is open -/
def kok (left size kind : Nat) (o : Bool) : Bool := (kind == 1 && !o) || (kind == 2 && !o && size + 6 == left) || (kind == 3 && o && size + 6 == left) || (kind == 4 && o && size != 0)
/-- whether the bytes at a place are a fragment -/
def fok (d : ByteArray) (at_ left : Nat) : Bool := decide (at_ + 6 ≤ d.size) && decide ((nb d).getD (at_ + 4) 0 + 6 ≤ left) && decide (at_ + 6 + (nb d).getD (at_ + 4) 0 ≤ d.size) && decide (crcN (nb (d.extract (at_ + 4) (at_ + 6 + (nb d).getD (at_ + 4) 0))) = tfN (d.extract at_ (at_ + 4)))
/-- the reader: so many steps, the bytes, the records, the end of them, the place, whether a record is open, its bytes -/
def rl : Nat → ByteArray → List ByteArray → Nat → Nat → Bool → ByteArray → List ByteArray × Int
  | 0, _, out, good, _, _, _ => (out, good)
  | n + 1, d, out, good, at_, o, part =>
    if out.length < 500 then
      if 64 - at_ % 64 ≤ 6 then
        if ((nb d).drop at_).take (64 - at_ % 64) = List.replicate (64 - at_ % 64) 0 then rl n d out good (at_ + (64 - at_ % 64)) o part else (out, good)
      else if fok d at_ (64 - at_ % 64) = true then
        if kok (64 - at_ % 64) ((nb d).getD (at_ + 4) 0) ((nb d).getD (at_ + 5) 0) o = true then
          if part.size + (nb d).getD (at_ + 4) 0 > 8000 then (out, good)
          else if (nb d).getD (at_ + 5) 0 = 1 ∨ (nb d).getD (at_ + 5) 0 = 4 then
            rl n d (out ++ [part ++ d.extract (at_ + 6) (at_ + 6 + (nb d).getD (at_ + 4) 0)]) (at_ + 6 + (nb d).getD (at_ + 4) 0) (at_ + 6 + (nb d).getD (at_ + 4) 0) false ⟨#[]⟩
          else rl n d out good (at_ + 6 + (nb d).getD (at_ + 4) 0) true (part ++ d.extract (at_ + 6) (at_ + 6 + (nb d).getD (at_ + 4) 0))
        else (out, good)
      else (out, good)
    else (out, good)
theorem rl_length : ∀ (n : Nat) (d : ByteArray) (out : List ByteArray) (good at_ : Nat) (o : Bool) (part : ByteArray), out.length ≤ 500 → (rl n d out good at_ o part).1.length ≤ 500 := by
  intro n
  induction n with
  | zero => intro d out good at_ o part h; exact h
  | succ n ih =>
    intro d out good at_ o part h
    rw [rl]
    repeat' split
    all_goals first | exact h | (apply ih; first | exact h | (simp only [List.length_append, List.length_cons, List.length_nil]; omega))
theorem getD_cut (l : List Nat) (a i j : Nat) (h : a + i < j) : ((l.take j).drop a).getD i 0 = l.getD (a + i) 0 := by
  rw [List.getD_eq_getElem?_getD, List.getD_eq_getElem?_getD, List.getElem?_drop, List.getElem?_take_of_lt h]
theorem tfN_cut (d : ByteArray) (a j : Nat) (h : a + 4 ≤ j) : tfN (d.extract a j) = tfN (d.extract a (a + 4)) := by
  unfold tfN
  rw [nb_extract, nb_extract]
  rw [getD_cut _ _ 0 j (by omega), getD_cut _ _ 1 j (by omega), getD_cut _ _ 2 j (by omega), getD_cut _ _ 3 j (by omega), getD_cut _ _ 0 (a + 4) (by omega), getD_cut _ _ 1 (a + 4) (by omega), getD_cut _ _ 2 (a + 4) (by omega), getD_cut _ _ 3 (a + 4) (by omega)]
theorem wad (a b : Nat) (h : a + b < 9223372036854775808) : wrap64 ((a : Int) + (b : Int)) = ((a + b : Nat) : Int) := by rw [w64] <;> omega
theorem rl_left (n : Nat) : wrap64 (64 - (Int.tmod (n : Int) 64)) = ((64 - n % 64 : Nat) : Int) := by
  rw [Int.tmod_eq_emod_of_nonneg (by omega)]; unfold wrap64; omega
theorem wsub6 (left : Nat) (h : 7 ≤ left) (h2 : left ≤ 64) : wrap64 ((left : Int) - 6) = ((left - 6 : Nat) : Int) := by rw [w64] <;> omega
theorem wbt (d : ByteArray) (i : Nat) : wrap64 (bt d i) = (((nb d).getD i 0 : Nat) : Int) := by
  rw [bt_getD]
  have := getD_lt (nb d) (nb_lt d) i
  rw [w64] <;> omega

/-! ## section putfixed -/
/-- the four bytes of a number -/
def fxd (x : Int) : ByteArray := strOfNums ([x % 256, (x / 256) % 256, (x / 65536) % 256, (x / 16777216) % 256] : List Int)
theorem ipf (x : Int) : impl_PutFixed.f x = some (fxd x) := rfl
theorem fxd_size (x : Int) : (fxd x).size = 4 := by simp [fxd, strOfNums, ByteArray.size]
def fixL (x : Nat) : List Nat := [x % 256, x / 256 % 256, x / 65536 % 256, x / 16777216 % 256]
theorem nb_fxd (x : Nat) : nb (fxd (x : Int)) = fixL x := by
  unfold fxd
  rw [nb_nums]
  · simp only [List.map_cons, List.map_nil, fixL]
    congr 1 <;> first | omega | (congr 1 <;> first | omega | (congr 1 <;> first | omega | (congr 1; omega)))
  · intro y hy
    simp only [List.mem_cons, List.not_mem_nil, or_false] at hy
    rcases hy with rfl | rfl | rfl | rfl <;> omega

/-! ## section frag -/
/-- one fragment of a log: its sum, its length, its kind, its bytes -/
def frag (kind : Nat) (d : List Nat) : List Nat := fixL (crcN (d.length :: kind :: d)) ++ d.length :: kind :: d
theorem frag_length (kind : Nat) (d : List Nat) : (frag kind d).length = d.length + 6 := by simp [frag, fixL] <;> omega
/-- a record's fragments, the first of them in a block with 'left' bytes -/
def wlF (left : Nat) (first : Bool) (r : List Nat) : List Nat :=
  if h : r.length ≤ left - 6 ∨ left ≤ 6 then frag (if first = true then 1 else 4) r
  else frag (if first = true then 2 else 3) (r.take (left - 6)) ++ wlF 64 false (r.drop (left - 6))
termination_by r.length
decreasing_by simp only [List.length_drop]; omega
theorem wlF_last {left : Nat} {first : Bool} {r : List Nat} (h : r.length ≤ left - 6) : wlF left first r = frag (if first = true then 1 else 4) r := by rw [wlF, dif_pos (.inl h)]
theorem wlF_more {left : Nat} {first : Bool} {r : List Nat} (h : left - 6 < r.length) (h7 : 7 ≤ left) : wlF left first r = frag (if first = true then 2 else 3) (r.take (left - 6)) ++ wlF 64 false (r.drop (left - 6)) := by rw [wlF, dif_neg (by omega)]
/-- what is put behind a log of so many bytes for a record -/
def wlN (at_ : Nat) (r : List Nat) : List Nat := if 64 - at_ % 64 ≤ 6 then List.replicate (64 - at_ % 64) 0 ++ wlF 64 true r else wlF (64 - at_ % 64) true r
theorem nb_own (x : ByteArray) (n kind : Nat) (hn : n ≤ x.size) (h58 : n ≤ 58) (hk : kind < 256) : nb (strOfNums [(n : Int) % 256, (kind : Int)] ++ x.extract 0 n) = n :: kind :: (nb x).take n := by
  rw [nb_append, nb_nums]
  · rw [nb_extract, List.drop_zero]
    simp only [List.map_cons, List.map_nil, List.cons_append, List.nil_append]
    rw [show ((n : Int) % 256).toNat = n by omega, Int.toNat_natCast]
  · intro y hy
    simp only [List.mem_cons, List.not_mem_nil, or_false] at hy
    rcases hy with rfl | rfl <;> omega
theorem wl_min (left size : Nat) (h7 : 7 ≤ left) (h64 : left ≤ 64) : mn (wrap64 ((left : Int) - 6)) (size : Int) = ((min (left - 6) size : Nat) : Int) := by
  have e : wrap64 ((left : Int) - 6) = ((left - 6 : Nat) : Int) := by unfold wrap64; omega
  rw [e]; unfold mn; split <;> omega

/-! ## section cat -/
/-- the log of some records, behind a log -/
def cat : List (List Nat) → List Nat → List Nat
  | [], a => a
  | r :: rs, a => cat rs (a ++ wlN a.length r)
theorem cat_snoc : ∀ (rs : List (List Nat)) (a r : List Nat), cat (rs ++ [r]) a = cat rs a ++ wlN (cat rs a).length r := by
  intro rs
  induction rs with
  | nil => intro a r; rfl
  | cons x rs ih => intro a r; exact ih _ r
theorem cat_ge : ∀ (rs : List (List Nat)) (a : List Nat), ∃ b, cat rs a = a ++ b := by
  intro rs
  induction rs with
  | nil => intro a; exact ⟨[], by simp [cat]⟩
  | cons x rs ih => intro a; obtain ⟨b, hb⟩ := ih (a ++ wlN a.length x); exact ⟨wlN a.length x ++ b, by rw [cat, hb, List.append_assoc]⟩
theorem fixL_tf (b0 b1 b2 b3 : Nat) (h0 : b0 < 256) (h1 : b1 < 256) (h2 : b2 < 256) (h3 : b3 < 256) : fixL (b0 + 256 * b1 + 65536 * b2 + 16777216 * b3) = [b0, b1, b2, b3] := by
  simp only [fixL, List.cons.injEq, and_true]
  refine ⟨?_, ?_, ?_, ?_⟩ <;> omega
theorem take4 (l : List Nat) (h : 4 ≤ l.length) : l.take 4 = [l.getD 0 0, l.getD 1 0, l.getD 2 0, l.getD 3 0] := by
  match l, h with
  | a :: b :: c :: d :: r, _ => rfl
theorem fixL_tfN (s : ByteArray) (h : s.size = 4) : fixL (tfN s) = nb s := by
  have g := getD_lt (nb s) (nb_lt s)
  unfold tfN
  rw [fixL_tf _ _ _ _ (g 0) (g 1) (g 2) (g 3), ← take4 (nb s) (by rw [nb_length]; omega), List.take_of_length_le (by rw [nb_length]; omega)]
theorem fok_frag (d : ByteArray) (at_ left : Nat) (h : fok d at_ left = true) : at_ + 6 + (nb d).getD (at_ + 4) 0 ≤ d.size ∧ (nb d).getD (at_ + 4) 0 + 6 ≤ left ∧
    (nb d).take (at_ + 6 + (nb d).getD (at_ + 4) 0) = (nb d).take at_ ++ frag ((nb d).getD (at_ + 5) 0) (nb (d.extract (at_ + 6) (at_ + 6 + (nb d).getD (at_ + 4) 0))) := by
  unfold fok at h
  simp only [Bool.and_eq_true, decide_eq_true_eq] at h
  obtain ⟨⟨⟨h1, h2⟩, h3⟩, h4⟩ := h
  refine ⟨h3, h2, ?_⟩
  generalize hs : (nb d).getD (at_ + 4) 0 = size at h2 h3 h4
  generalize hk : (nb d).getD (at_ + 5) 0 = kind
  have hlen := nb_length d
  have e1 : nb (d.extract (at_ + 4) (at_ + 6 + size)) = size :: kind :: nb (d.extract (at_ + 6) (at_ + 6 + size)) := by
    rw [nb_extract, nb_extract]
    have l4 : at_ + 4 < ((nb d).take (at_ + 6 + size)).length := by rw [List.length_take]; omega
    have l5 : at_ + 5 < ((nb d).take (at_ + 6 + size)).length := by rw [List.length_take]; omega
    rw [List.drop_eq_getElem_cons l4, List.drop_eq_getElem_cons (i := at_ + 4 + 1) (by omega), List.getElem_take, List.getElem_take]
    rw [List.getD_eq_getElem?_getD, List.getElem?_eq_getElem (by omega)] at hs hk
    simp only [Option.getD_some] at hs hk
    rw [hs, show (nb d)[at_ + 4 + 1] = kind from hk]
  have e2 : frag kind (nb (d.extract (at_ + 6) (at_ + 6 + size))) = nb (d.extract at_ (at_ + 4)) ++ nb (d.extract (at_ + 4) (at_ + 6 + size)) := by
    unfold frag
    have hl : (nb (d.extract (at_ + 6) (at_ + 6 + size))).length = size := by rw [nb_length, ByteArray.size_extract]; omega
    rw [hl, ← e1, h4, fixL_tfN _ (by rw [ByteArray.size_extract]; omega)]
  rw [e2, nb_extract, nb_extract, List.drop_take, List.drop_take, show at_ + 6 + size - (at_ + 4) = size + 2 by omega, show at_ + 4 - at_ = 4 by omega, ← List.append_assoc,
    ← List.take_add, ← List.take_add, show at_ + 4 + (size + 2) = at_ + 6 + size by omega]
theorem wlN_right (good : Nat) (r : List Nat) (h : ¬ 64 - good % 64 ≤ 6) : wlN good r = wlF (64 - good % 64) true r := by unfold wlN; rw [if_neg h]
theorem wlN_pad (good : Nat) (r : List Nat) (h : 64 - good % 64 ≤ 6) : wlN good r = List.replicate (64 - good % 64) 0 ++ wlF 64 true r := by unfold wlN; rw [if_pos h]
/-- what holds of the reader's state at each step: what was read is the log of the records, and of the one that is open -/
def rlI (d : ByteArray) (out : List ByteArray) (good at_ : Nat) (o : Bool) (part : ByteArray) : Prop :=
  at_ ≤ d.size ∧ good ≤ at_ ∧ cat (out.map nb) [] = (nb d).take good ∧ (∀ r ∈ out, r.size ≤ 8000) ∧
  (o = false → part.size = 0 ∧ (64 - at_ % 64 ≤ 6 → at_ = good) ∧ (¬ 64 - at_ % 64 ≤ 6 → ∀ r, (nb d).take at_ ++ wlF (64 - at_ % 64) true r = (nb d).take good ++ wlN good r)) ∧
  (o = true → at_ % 64 = 0 ∧ ∀ r, r ≠ [] → (nb d).take at_ ++ wlF 64 false r = (nb d).take good ++ wlN good (nb part ++ r))
theorem kok_cases {left size kind : Nat} {o : Bool} (h : kok left size kind o = true) : (kind = 1 ∧ o = false) ∨ (kind = 2 ∧ o = false ∧ size + 6 = left) ∨ (kind = 3 ∧ o = true ∧ size + 6 = left) ∨ (kind = 4 ∧ o = true ∧ size ≠ 0) := by
  simp only [kok, Bool.or_eq_true, Bool.and_eq_true, beq_iff_eq, bne_iff_ne, Bool.not_eq_true'] at h
  rcases h with ((h | h) | h) | h
  · exact .inl ⟨h.1, h.2⟩
  · exact .inr (.inl ⟨h.1.1, h.1.2, h.2⟩)
  · exact .inr (.inr (.inl ⟨h.1.1, h.1.2, h.2⟩))
  · exact .inr (.inr (.inr ⟨h.1.1, h.1.2, h.2⟩))
theorem rlI_new {d : ByteArray} {out : List ByteArray} {good at_ at2 : Nat} {o : Bool} {part p2 : ByteArray} (h : rlI d out good at_ o part) (h2 : at2 ≤ d.size) (hge : at_ ≤ at2) (hp : p2.size ≤ 8000)
    (e : (nb d).take at2 = (nb d).take good ++ wlN good (nb p2)) : rlI d (out ++ [p2]) at2 at2 false ⟨#[]⟩ := by
  obtain ⟨h0, h1, hc, hs, _, _⟩ := h
  refine ⟨h2, Nat.le_refl _, ?_, ?_, fun _ => ⟨rfl, fun _ => rfl, fun hn r => by rw [wlN_right _ _ hn]⟩, fun x => by cases x⟩
  · rw [List.map_append, List.map_cons, List.map_nil, cat_snoc, hc, e, List.length_take, nb_length, Nat.min_eq_left (by omega)]
  · intro r hr
    rcases List.mem_append.1 hr with hr | hr
    · exact hs r hr
    · rw [List.mem_singleton.1 hr]; exact hp
theorem take_own (x r : List Nat) (n : Nat) (h : n = x.length) : (x ++ r).take n = x := by subst h; exact List.take_left
theorem drop_own (x r : List Nat) (n : Nat) (h : n = x.length) : (x ++ r).drop n = r := by subst h; exact List.drop_left
theorem rlI_step (d : ByteArray) (out : List ByteArray) (good at_ : Nat) (o : Bool) (part : ByteArray) (h : rlI d out good at_ o part) (hl : ¬ 64 - at_ % 64 ≤ 6) (hf : fok d at_ (64 - at_ % 64) = true)
    (hk : kok (64 - at_ % 64) ((nb d).getD (at_ + 4) 0) ((nb d).getD (at_ + 5) 0) o = true) (hp : ¬ part.size + (nb d).getD (at_ + 4) 0 > 8000) :
    if (nb d).getD (at_ + 5) 0 = 1 ∨ (nb d).getD (at_ + 5) 0 = 4 then
      rlI d (out ++ [part ++ d.extract (at_ + 6) (at_ + 6 + (nb d).getD (at_ + 4) 0)]) (at_ + 6 + (nb d).getD (at_ + 4) 0) (at_ + 6 + (nb d).getD (at_ + 4) 0) false ⟨#[]⟩
    else rlI d out good (at_ + 6 + (nb d).getD (at_ + 4) 0) true (part ++ d.extract (at_ + 6) (at_ + 6 + (nb d).getD (at_ + 4) 0)) := by
  obtain ⟨h3, h2, he⟩ := fok_frag d at_ _ hf
  generalize (nb d).getD (at_ + 5) 0 = kind at *
  generalize (nb d).getD (at_ + 4) 0 = size at *
  have hx : (d.extract (at_ + 6) (at_ + 6 + size)).size = size := by rw [ByteArray.size_extract]; omega
  generalize d.extract (at_ + 6) (at_ + 6 + size) = x at *
  have hxl : (nb x).length = size := by rw [nb_length, hx]
  have hnew := rlI_new (p2 := part ++ x) (at2 := at_ + 6 + size) h h3 (by omega) (by rw [bsize_append, hx]; omega)
  obtain ⟨h0, h1, hc, hs, hF, hT⟩ := h
  rcases kok_cases hk with ⟨rfl, rfl⟩ | ⟨rfl, rfl, e⟩ | ⟨rfl, rfl, e⟩ | ⟨rfl, rfl, e⟩
  · rw [if_pos (.inl rfl)]
    obtain ⟨hp0, _, hw⟩ := hF rfl
    apply hnew
    have hz : nb part = [] := List.eq_nil_of_length_eq_zero (by rw [nb_length]; omega)
    rw [nb_append, hz, List.nil_append, ← hw hl, he, wlF_last (by rw [hxl]; omega), if_pos rfl]
  · rw [if_neg (by decide)]
    obtain ⟨hp0, _, hw⟩ := hF rfl
    have hz : nb part = [] := List.eq_nil_of_length_eq_zero (by rw [nb_length]; omega)
    refine ⟨h3, by omega, hc, hs, fun x => (by cases x), fun _ => ⟨by omega, fun r hr => ?_⟩⟩
    have hrl : 1 ≤ r.length := List.length_pos_iff.2 hr
    rw [nb_append, hz, List.nil_append, ← hw hl, he, wlF_more (left := 64 - at_ % 64) (first := true) (r := nb x ++ r) (by rw [List.length_append, hxl]; omega) (by omega), if_pos rfl, take_own (nb x) r _ (by rw [hxl]; omega), drop_own (nb x) r _ (by rw [hxl]; omega), List.append_assoc]
  · rw [if_neg (by decide)]
    obtain ⟨hm, hw⟩ := hT rfl
    refine ⟨h3, by omega, hc, hs, fun x => (by cases x), fun _ => ⟨by omega, fun r hr => ?_⟩⟩
    have hrl : 1 ≤ r.length := List.length_pos_iff.2 hr
    rw [nb_append, List.append_assoc, ← hw (nb x ++ r) (by intro z; have := congrArg List.length z; rw [List.length_append, List.length_nil] at this; omega), he, wlF_more (left := 64) (first := false) (r := nb x ++ r) (by rw [List.length_append, hxl]; omega) (by omega), if_neg (by decide), take_own (nb x) r _ (by rw [hxl]; omega), drop_own (nb x) r _ (by rw [hxl]; omega), List.append_assoc]
  · rw [if_pos (.inr rfl)]
    obtain ⟨hm, hw⟩ := hT rfl
    apply hnew
    rw [nb_append, ← hw (nb x) (by intro z; rw [z] at hxl; simp at hxl; omega), he, wlF_last (by rw [hxl]; omega), if_neg (by decide)]
theorem rl_cat : ∀ (n : Nat) (d : ByteArray) (out : List ByteArray) (good at_ : Nat) (o : Bool) (part : ByteArray), rlI d out good at_ o part →
    ∃ g : Nat, (rl n d out good at_ o part).2 = (g : Int) ∧ g ≤ d.size ∧ cat ((rl n d out good at_ o part).1.map nb) [] = (nb d).take g ∧ ∀ r ∈ (rl n d out good at_ o part).1, r.size ≤ 8000 := by
  intro n
  induction n with
  | zero => intro d out good at_ o part h; exact ⟨good, rfl, by have := h.1; have := h.2.1; omega, h.2.2.1, h.2.2.2.1⟩
  | succ n ih =>
    intro d out good at_ o part h
    have stop : ∃ g : Nat, ((out, (good : Int)) : List ByteArray × Int).2 = (g : Int) ∧ g ≤ d.size ∧ cat (((out, (good : Int)) : List ByteArray × Int).1.map nb) [] = (nb d).take g ∧ ∀ r ∈ ((out, (good : Int)) : List ByteArray × Int).1, r.size ≤ 8000 := ⟨good, rfl, by have := h.1; have := h.2.1; omega, h.2.2.1, h.2.2.2.1⟩
    rw [rl]
    by_cases ho : out.length < 500
    · rw [if_pos ho]
      by_cases c : 64 - at_ % 64 ≤ 6
      · rw [if_pos c]
        by_cases c3 : ((nb d).drop at_).take (64 - at_ % 64) = List.replicate (64 - at_ % 64) 0
        · rw [if_pos c3]
          have hle : at_ + (64 - at_ % 64) ≤ d.size := by
            have := congrArg List.length c3
            rw [List.length_take, List.length_drop, nb_length, List.length_replicate] at this
            omega
          apply ih
          obtain ⟨h0, h1, hc, hs, hF, hT⟩ := h
          cases o
          · obtain ⟨hp0, hg, _⟩ := hF rfl
            have hg := hg c
            refine ⟨hle, by omega, hc, hs, fun _ => ⟨hp0, fun x => by omega, fun _ r => ?_⟩, fun x => by cases x⟩
            subst hg
            rw [show 64 - (at_ + (64 - at_ % 64)) % 64 = 64 by omega, wlN_pad _ _ c, ← c3, List.take_add, List.append_assoc]
          · have := (hT rfl).1; omega
        · rw [if_neg c3]; exact stop
      · rw [if_neg c]
        by_cases hf : fok d at_ (64 - at_ % 64) = true
        · rw [if_pos hf]
          by_cases hk : kok (64 - at_ % 64) ((nb d).getD (at_ + 4) 0) ((nb d).getD (at_ + 5) 0) o = true
          · rw [if_pos hk]
            by_cases hp : part.size + (nb d).getD (at_ + 4) 0 > 8000
            · rw [if_pos hp]; exact stop
            · rw [if_neg hp]
              have hst := rlI_step d out good at_ o part h c hf hk hp
              by_cases c8 : (nb d).getD (at_ + 5) 0 = 1 ∨ (nb d).getD (at_ + 5) 0 = 4
              · rw [if_pos c8] at hst ⊢; exact ih _ _ _ _ _ _ hst
              · rw [if_neg c8] at hst ⊢; exact ih _ _ _ _ _ _ hst
          · rw [if_neg hk]; exact stop
        · rw [if_neg hf]; exact stop
    · rw [if_neg ho]; exact stop
theorem rlI_zero (d : ByteArray) : rlI d [] 0 0 false ⟨#[]⟩ := by
  refine ⟨Nat.zero_le _, Nat.le_refl _, ?_, fun r hr => (by cases hr), fun _ => ⟨rfl, fun _ => rfl, fun hn r => by rw [wlN_right _ _ hn]⟩, fun x => by cases x⟩
  simp [cat]
theorem wlF_len : ∀ (m : Nat) (r : List Nat), r.length ≤ m → (wlF 64 false r).length * 58 ≤ 64 * r.length + 348 := by
  intro m
  induction m with
  | zero => intro r h; rw [wlF_last (by omega), frag_length]; omega
  | succ m ih =>
    intro r h
    by_cases c : r.length ≤ 64 - 6
    · rw [wlF_last c, frag_length]; omega
    · rw [wlF_more (by omega) (by omega), List.length_append, frag_length, List.length_take]
      have := ih (r.drop (64 - 6)) (by rw [List.length_drop]; omega)
      rw [List.length_drop] at this
      omega
theorem wlF_len' (left : Nat) (first : Bool) (r : List Nat) (h7 : 7 ≤ left) (h64 : left ≤ 64) : (wlF left first r).length * 58 ≤ 64 * r.length + 4060 := by
  by_cases c : r.length ≤ left - 6
  · rw [wlF_last c, frag_length]; omega
  · rw [wlF_more (by omega) (by omega), List.length_append, frag_length, List.length_take]
    have := wlF_len _ (r.drop (left - 6)) (Nat.le_refl _)
    rw [List.length_drop] at this
    omega
theorem wlN_len (a : Nat) (r : List Nat) : (wlN a r).length * 58 ≤ 64 * r.length + 4408 := by
  unfold wlN
  by_cases c : 64 - a % 64 ≤ 6
  · rw [if_pos c, List.length_append, List.length_replicate]
    have := wlF_len' 64 true r (by omega) (by omega)
    omega
  · rw [if_neg c]
    have := wlF_len' (64 - a % 64) true r (by omega) (by omega)
    omega

/-! ## section rlback -/
theorem rl_ext : ∀ (n : Nat) (d : ByteArray) (out : List ByteArray) (good at_ : Nat) (o : Bool) (part : ByteArray), out <+: (rl n d out good at_ o part).1 := by
  intro n
  induction n with
  | zero => intro d out good at_ o part; exact List.prefix_refl _
  | succ n ih =>
    intro d out good at_ o part
    rw [rl]
    repeat' split
    all_goals first | exact List.prefix_refl _ | exact ih _ _ _ _ _ _ | exact (List.prefix_append _ _).trans (ih _ _ _ _ _ _)
theorem rl_count : ∀ (n : Nat) (d : ByteArray) (out : List ByteArray) (good at_ : Nat) (o : Bool) (part : ByteArray), at_ ≤ d.size → 6 * (rl n d out good at_ o part).1.length ≤ 6 * out.length + (d.size - at_) := by
  intro n
  induction n with
  | zero => intro d out good at_ o part h; show 6 * out.length ≤ _; omega
  | succ n ih =>
    intro d out good at_ o part h
    rw [rl]
    have stop : 6 * ((out, (good : Int)) : List ByteArray × Int).1.length ≤ 6 * out.length + (d.size - at_) := by show 6 * out.length ≤ _; omega
    by_cases ho : out.length < 500
    · rw [if_pos ho]
      by_cases c : 64 - at_ % 64 ≤ 6
      · rw [if_pos c]
        by_cases c3 : ((nb d).drop at_).take (64 - at_ % 64) = List.replicate (64 - at_ % 64) 0
        · rw [if_pos c3]
          have hle : at_ + (64 - at_ % 64) ≤ d.size := by
            have := congrArg List.length c3
            rw [List.length_take, List.length_drop, nb_length, List.length_replicate] at this
            omega
          have := ih d out good (at_ + (64 - at_ % 64)) o part hle
          omega
        · rw [if_neg c3]; exact stop
      · rw [if_neg c]
        by_cases hf : fok d at_ (64 - at_ % 64) = true
        · rw [if_pos hf]
          obtain ⟨h3, h2, _⟩ := fok_frag d at_ _ hf
          by_cases hk : kok (64 - at_ % 64) ((nb d).getD (at_ + 4) 0) ((nb d).getD (at_ + 5) 0) o = true
          · rw [if_pos hk]
            by_cases hp : part.size + (nb d).getD (at_ + 4) 0 > 8000
            · rw [if_pos hp]; exact stop
            · rw [if_neg hp]
              by_cases c8 : (nb d).getD (at_ + 5) 0 = 1 ∨ (nb d).getD (at_ + 5) 0 = 4
              · rw [if_pos c8]
                have := ih d (out ++ [part ++ d.extract (at_ + 6) (at_ + 6 + (nb d).getD (at_ + 4) 0)]) (at_ + 6 + (nb d).getD (at_ + 4) 0) (at_ + 6 + (nb d).getD (at_ + 4) 0) false ⟨#[]⟩ h3
                rw [List.length_append, List.length_singleton] at this
                omega
              · rw [if_neg c8]
                have := ih d out good (at_ + 6 + (nb d).getD (at_ + 4) 0) true (part ++ d.extract (at_ + 6) (at_ + 6 + (nb d).getD (at_ + 4) 0)) h3
                omega
          · rw [if_neg hk]; exact stop
        · rw [if_neg hf]; exact stop
    · rw [if_neg ho]; exact stop
theorem getD_take (l : List Nat) (c i : Nat) (h : i < c) : (l.take c).getD i 0 = l.getD i 0 := by
  rw [List.getD_eq_getElem?_getD, List.getD_eq_getElem?_getD, List.getElem?_take_of_lt h]
theorem nb_cut (d : ByteArray) (c : Nat) : nb (d.extract 0 c) = (nb d).take c := by rw [nb_extract, List.drop_zero]
theorem cut_cut (d : ByteArray) (c a b : Nat) (h : b ≤ c) : (d.extract 0 c).extract a b = d.extract a b := by
  apply nb_inj
  rw [nb_extract, nb_cut, nb_extract, List.take_take, Nat.min_eq_left h]
theorem fok_cut (d : ByteArray) (c at_ left : Nat) (h : fok (d.extract 0 c) at_ left = true) : fok d at_ left = true ∧ (nb (d.extract 0 c)).getD (at_ + 4) 0 = (nb d).getD (at_ + 4) 0 ∧ (nb (d.extract 0 c)).getD (at_ + 5) 0 = (nb d).getD (at_ + 5) 0 ∧
    (d.extract 0 c).extract (at_ + 6) (at_ + 6 + (nb d).getD (at_ + 4) 0) = d.extract (at_ + 6) (at_ + 6 + (nb d).getD (at_ + 4) 0) := by
  unfold fok at h ⊢
  simp only [Bool.and_eq_true, decide_eq_true_eq] at h ⊢
  have hs : (d.extract 0 c).size = min c d.size := by rw [ByteArray.size_extract]; omega
  rw [hs] at h
  obtain ⟨⟨⟨h1, h2⟩, h3⟩, h4⟩ := h
  have e4 : (nb (d.extract 0 c)).getD (at_ + 4) 0 = (nb d).getD (at_ + 4) 0 := by rw [nb_cut, getD_take _ _ _ (by omega)]
  have e5 : (nb (d.extract 0 c)).getD (at_ + 5) 0 = (nb d).getD (at_ + 5) 0 := by rw [nb_cut, getD_take _ _ _ (by omega)]
  rw [e4] at h2 h3 h4
  rw [cut_cut _ _ _ _ (by omega), cut_cut _ _ _ _ (by omega)] at h4
  exact ⟨⟨⟨⟨by omega, h2⟩, by omega⟩, h4⟩, e4, e5, cut_cut _ _ _ _ (by omega)⟩
theorem rl_pre : ∀ (n : Nat) (d : ByteArray) (c : Nat) (out : List ByteArray) (good at_ : Nat) (o : Bool) (part : ByteArray), (rl n (d.extract 0 c) out good at_ o part).1 <+: (rl n d out good at_ o part).1 := by
  intro n
  induction n with
  | zero => intro d c out good at_ o part; exact List.prefix_refl _
  | succ n ih =>
    intro d c out good at_ o part
    have stop : ((out, (good : Int)) : List ByteArray × Int).1 <+: (rl (n + 1) d out good at_ o part).1 := rl_ext _ _ _ _ _ _ _
    rw [rl]
    by_cases ho : out.length < 500
    · rw [if_pos ho]
      by_cases c1 : 64 - at_ % 64 ≤ 6
      · rw [if_pos c1]
        by_cases c3 : ((nb (d.extract 0 c)).drop at_).take (64 - at_ % 64) = List.replicate (64 - at_ % 64) 0
        · rw [if_pos c3]
          have c4 : ((nb d).drop at_).take (64 - at_ % 64) = List.replicate (64 - at_ % 64) 0 := by
            have hl := congrArg List.length c3
            rw [List.length_take, List.length_drop, nb_length, List.length_replicate, ByteArray.size_extract] at hl
            rw [← c3, nb_cut, List.drop_take, List.take_take, Nat.min_eq_left (by omega)]
          rw [rl, if_pos ho, if_pos c1, if_pos c4]
          exact ih _ _ _ _ _ _ _
        · rw [if_neg c3]; exact stop
      · rw [if_neg c1]
        by_cases hf : fok (d.extract 0 c) at_ (64 - at_ % 64) = true
        · rw [if_pos hf]
          obtain ⟨hf2, e4, e5, ex⟩ := fok_cut d c at_ _ hf
          rw [e4, e5, ex]
          by_cases hk : kok (64 - at_ % 64) ((nb d).getD (at_ + 4) 0) ((nb d).getD (at_ + 5) 0) o = true
          · rw [if_pos hk]
            by_cases hp : part.size + (nb d).getD (at_ + 4) 0 > 8000
            · rw [if_pos hp]; exact stop
            · rw [if_neg hp, rl, if_pos ho, if_neg c1, if_pos hf2, if_pos hk, if_neg hp]
              by_cases c8 : (nb d).getD (at_ + 5) 0 = 1 ∨ (nb d).getD (at_ + 5) 0 = 4
              · rw [if_pos c8, if_pos c8]; exact ih _ _ _ _ _ _ _
              · rw [if_neg c8, if_neg c8]; exact ih _ _ _ _ _ _ _
          · rw [if_neg hk]; exact stop
        · rw [if_neg hf]; exact stop
    · rw [if_neg ho]; exact stop
theorem tfN_fix (s : ByteArray) (c : Nat) (hc : c < 4294967296) (h : nb s = fixL c) : tfN s = c := by
  unfold tfN
  rw [h]
  simp only [fixL, List.getD_cons_zero, List.getD_cons_succ]
  omega
theorem cut_mid (Q x rest : List Nat) (a b : Nat) (ha : a = Q.length) (hb : b = Q.length + x.length) : ((Q ++ (x ++ rest)).take b).drop a = x := by
  subst ha hb
  rw [← List.append_assoc, List.take_append_of_le_length (by rw [List.length_append]; omega), List.take_of_length_le (by rw [List.length_append]; omega), List.drop_left]
theorem getD_mid (Q : List Nat) (b : Nat) (rest : List Nat) (i : Nat) (h : i = Q.length) : (Q ++ b :: rest).getD i 0 = b := by
  subst h
  rw [List.getD_eq_getElem?_getD, List.getElem?_append_right (Nat.le_refl _), Nat.sub_self]; rfl
theorem rl_frag (d : ByteArray) (Q x rest : List Nat) (kind at_ left : Nat) (h : nb d = Q ++ (frag kind x ++ rest)) (hQ : Q.length = at_) (hl : x.length + 6 ≤ left) (h64 : left ≤ 64) (hk : kind < 256) :
    fok d at_ left = true ∧ (nb d).getD (at_ + 4) 0 = x.length ∧ (nb d).getD (at_ + 5) 0 = kind ∧ nb (d.extract (at_ + 6) (at_ + 6 + x.length)) = x ∧ at_ + 6 + x.length ≤ d.size := by
  have hsz : at_ + 6 + x.length ≤ d.size := by
    have := congrArg List.length h
    rw [nb_length, List.length_append, List.length_append, frag_length] at this
    omega
  have hlt := nb_lt d
  generalize hc : crcN (x.length :: kind :: x) = c
  have hc32 : c < 4294967296 := by
    rw [← hc]
    apply crcN_lt
    intro b hb
    rcases List.mem_cons.1 hb with rfl | hb
    · omega
    · rcases List.mem_cons.1 hb with rfl | hb
      · omega
      · apply hlt; rw [h]; simp [frag, hb]
  have e : frag kind x = fixL c ++ (x.length :: kind :: x) := by unfold frag; rw [hc]
  have fl : (fixL c).length = 4 := rfl
  have e1 : nb d = (Q ++ fixL c) ++ ((x.length :: kind :: x) ++ rest) := by rw [h, e]; simp only [List.append_assoc]
  have e2 : nb d = Q ++ (fixL c ++ ((x.length :: kind :: x) ++ rest)) := by rw [h, e]; simp only [List.append_assoc]
  have e3 : nb d = (Q ++ fixL c ++ [x.length]) ++ kind :: (x ++ rest) := by rw [e1]; simp only [List.append_assoc, List.cons_append, List.nil_append]
  have e4 : nb d = (Q ++ fixL c ++ [x.length, kind]) ++ (x ++ rest) := by rw [e1]; simp only [List.append_assoc, List.cons_append, List.nil_append]
  have g4 : (nb d).getD (at_ + 4) 0 = x.length := by
    rw [e1, List.cons_append]; exact getD_mid _ _ _ _ (by rw [List.length_append, fl, hQ])
  have g5 : (nb d).getD (at_ + 5) 0 = kind := by
    rw [e3]; exact getD_mid _ _ _ _ (by rw [List.length_append, List.length_append, fl, hQ, List.length_singleton])
  have gx : nb (d.extract (at_ + 6) (at_ + 6 + x.length)) = x := by
    rw [nb_extract, e4]
    have : (Q ++ fixL c ++ [x.length, kind]).length = at_ + 6 := by rw [List.length_append, List.length_append, fl, hQ]; rfl
    exact cut_mid _ _ _ _ _ this.symm (by rw [this])
  refine ⟨?_, g4, g5, gx, hsz⟩
  unfold fok
  rw [g4, decide_eq_true (by omega : at_ + 6 ≤ d.size), decide_eq_true hl, decide_eq_true hsz]
  simp only [Bool.true_and, decide_eq_true_eq]
  have s1 : nb (d.extract (at_ + 4) (at_ + 6 + x.length)) = x.length :: kind :: x := by
    rw [nb_extract, e1]
    exact cut_mid _ _ _ _ _ (by rw [List.length_append, fl, hQ]) (by rw [List.length_append, fl, hQ, List.length_cons, List.length_cons]; omega)
  have s2 : nb (d.extract at_ (at_ + 4)) = fixL c := by
    rw [nb_extract, e2]
    exact cut_mid _ _ _ _ _ hQ.symm (by rw [fl, hQ])
  rw [s1, hc, tfN_fix _ c hc32 s2]
theorem rl_rec (d : ByteArray) (out : List ByteArray) (good : Nat) (ho : out.length < 500) : ∀ (m n at_ left : Nat) (first : Bool) (part : ByteArray) (r Q rest : List Nat), r.length ≤ m → nb d = Q ++ (wlF left first r ++ rest) → Q.length = at_ → 64 - at_ % 64 = left → 7 ≤ left → (first = false → r ≠ []) → part.size + r.length ≤ 8000 → d.size - at_ < n →
    ∃ n' p2, rl n d out good at_ (!first) part = rl n' d (out ++ [p2]) (at_ + (wlF left first r).length) (at_ + (wlF left first r).length) false ⟨#[]⟩ ∧ nb p2 = nb part ++ r ∧ d.size - (at_ + (wlF left first r).length) < n' := by
  intro m
  induction m with
  | zero =>
    intro n at_ left first part r Q rest hm h hQ hl h7 hf hp hn
    obtain ⟨n, rfl⟩ : ∃ j, n = j + 1 := ⟨n - 1, by omega⟩
    have hr : r = [] := List.eq_nil_of_length_eq_zero (by omega)
    cases first
    · exact absurd hr (hf rfl)
    · rw [wlF_last (by omega), if_pos rfl] at h ⊢
      obtain ⟨k1, k2, k3, k4, k5⟩ := rl_frag d Q r rest 1 at_ left h hQ (by omega) (by omega) (by omega)
      refine ⟨n, part ++ d.extract (at_ + 6) (at_ + 6 + r.length), ?_, by rw [nb_append, k4], by rw [frag_length]; omega⟩
      rw [rl, hl, if_pos ho, if_neg (by omega), if_pos k1, k2, k3, if_pos (by simp [kok]), if_neg (by omega), if_pos (.inl rfl), frag_length, show at_ + (r.length + 6) = at_ + 6 + r.length by omega]
  | succ m ih =>
    intro n at_ left first part r Q rest hm h hQ hl h7 hf hp hn
    obtain ⟨n, rfl⟩ : ∃ j, n = j + 1 := ⟨n - 1, by omega⟩
    by_cases c : r.length ≤ left - 6
    · rw [wlF_last c] at h ⊢
      obtain ⟨k1, k2, k3, k4, k5⟩ := rl_frag d Q r rest (if first = true then 1 else 4) at_ left h hQ (by omega) (by omega) (by split <;> omega)
      refine ⟨n, part ++ d.extract (at_ + 6) (at_ + 6 + r.length), ?_, by rw [nb_append, k4], by rw [frag_length]; omega⟩
      have hkok : kok left r.length (if first = true then 1 else 4) (!first) = true := by
        cases first
        · have : r.length ≠ 0 := fun z => hf rfl (List.eq_nil_of_length_eq_zero z)
          simp [kok]
          intro z; exact this (by rw [z]; rfl)
        · simp [kok]
      rw [rl, hl, if_pos ho, if_neg (by omega), if_pos k1, k2, k3, if_pos hkok, if_neg (by omega), if_pos (by cases first <;> simp), frag_length, show at_ + (r.length + 6) = at_ + 6 + r.length by omega]
    · rw [wlF_more (by omega) h7] at h ⊢
      have htl : (r.take (left - 6)).length = left - 6 := by rw [List.length_take]; omega
      obtain ⟨k1, k2, k3, k4, k5⟩ := rl_frag d Q (r.take (left - 6)) (wlF 64 false (r.drop (left - 6)) ++ rest) (if first = true then 2 else 3) at_ left (by rw [h]; simp only [List.append_assoc]) hQ (by omega) (by omega) (by split <;> omega)
      rw [htl] at k2 k4 k5
      have hkok : kok left (left - 6) (if first = true then 2 else 3) (!first) = true := by
        have : left - 6 + 6 = left := by omega
        cases first <;> simp [kok, this]
      have hxs : (d.extract (at_ + 6) (at_ + 6 + (left - 6))).size = left - 6 := by rw [ByteArray.size_extract]; omega
      obtain ⟨n', p2, e1, e2, e3⟩ := ih n (at_ + left) 64 false (part ++ d.extract (at_ + 6) (at_ + 6 + (left - 6))) (r.drop (left - 6)) (Q ++ frag (if first = true then 2 else 3) (r.take (left - 6))) rest
        (by rw [List.length_drop]; omega) (by rw [h]; simp only [List.append_assoc]) (by rw [List.length_append, frag_length, htl, hQ]; omega) (by omega) (by omega)
        (fun _ z => by have := congrArg List.length z; rw [List.length_drop, List.length_nil] at this; omega) (by rw [bsize_append, hxs, List.length_drop]; omega) (by omega)
      have el : at_ + (frag (if first = true then 2 else 3) (r.take (left - 6)) ++ wlF 64 false (r.drop (left - 6))).length = at_ + left + (wlF 64 false (r.drop (left - 6))).length := by rw [List.length_append, frag_length, htl]; omega
      refine ⟨n', p2, ?_, ?_, by rw [el]; exact e3⟩
      · rw [el, ← e1, rl, hl, if_pos ho, if_neg (by omega), if_pos k1, k2, k3, if_pos hkok, if_neg (by omega), if_neg (by cases first <;> simp), show at_ + 6 + (left - 6) = at_ + left by omega]
        rfl
      · rw [e2, nb_append, k4, List.append_assoc, List.take_append_drop]
theorem rl_all (d : ByteArray) : ∀ (rs out : List ByteArray) (n at_ : Nat) (Q : List Nat), cat (rs.map nb) Q = nb d → Q.length = at_ → out.length + rs.length ≤ 500 → (∀ r ∈ rs, r.size ≤ 8000) → d.size - at_ < n → rl n d out at_ at_ false ⟨#[]⟩ = (out ++ rs, (d.size : Int)) := by
  intro rs
  induction rs with
  | nil =>
    intro out n at_ Q h hQ hlen hs hn
    obtain ⟨n, rfl⟩ : ∃ j, n = j + 1 := ⟨n - 1, by omega⟩
    have e : at_ = d.size := by rw [← hQ, ← nb_length, ← h]; rfl
    rw [rl, List.append_nil]
    by_cases ho : out.length < 500
    · rw [if_pos ho]
      by_cases c : 64 - at_ % 64 ≤ 6
      · rw [if_pos c, if_neg, e]
        intro x
        have := congrArg List.length x
        rw [List.length_take, List.length_drop, nb_length, List.length_replicate] at this
        omega
      · rw [if_neg c, if_neg, e]
        unfold fok; rw [decide_eq_false (by omega)]; simp
    · rw [if_neg ho, e]
  | cons r rs ih =>
    intro out n at_ Q h hQ hlen hs hn
    rw [List.map_cons, cat, hQ] at h
    rw [List.length_cons] at hlen
    have ho : out.length < 500 := by omega
    obtain ⟨b, hb⟩ := cat_ge (rs.map nb) (Q ++ wlN at_ (nb r))
    have hd : nb d = Q ++ (wlN at_ (nb r) ++ b) := by rw [← h, hb, List.append_assoc]
    have hr8 := hs r (List.mem_cons_self ..)
    have fin : ∃ n', rl n d out at_ at_ false ⟨#[]⟩ = rl n' d (out ++ [r]) (at_ + (wlN at_ (nb r)).length) (at_ + (wlN at_ (nb r)).length) false ⟨#[]⟩ ∧ d.size - (at_ + (wlN at_ (nb r)).length) < n' := by
      by_cases c : 64 - at_ % 64 ≤ 6
      · rw [wlN_pad _ _ c] at hd ⊢
        obtain ⟨n, rfl⟩ : ∃ j, n = j + 1 := ⟨n - 1, by omega⟩
        have hlz : (List.replicate (64 - at_ % 64) 0 : List Nat).length = 64 - at_ % 64 := List.length_replicate
        have c3 : ((nb d).drop at_).take (64 - at_ % 64) = List.replicate (64 - at_ % 64) 0 := by
          have := cut_mid Q (List.replicate (64 - at_ % 64) 0) (wlF 64 true (nb r) ++ b) at_ (at_ + (64 - at_ % 64)) hQ.symm (by rw [hlz, hQ])
          rw [← List.append_assoc (List.replicate (64 - at_ % 64) 0), ← hd, List.drop_take, Nat.add_sub_cancel_left] at this
          exact this
        have hle : at_ + (64 - at_ % 64) ≤ d.size := by
          have := congrArg List.length c3
          rw [List.length_take, List.length_drop, nb_length, List.length_replicate] at this
          omega
        obtain ⟨n', p2, e1, e2, e3⟩ := rl_rec d out at_ ho (nb r).length n (at_ + (64 - at_ % 64)) 64 true ⟨#[]⟩ (nb r) (Q ++ List.replicate (64 - at_ % 64) 0) b (Nat.le_refl _) (by rw [hd]; simp only [List.append_assoc]) (by rw [List.length_append, hlz, hQ]) (by omega) (by omega) (fun z => (by cases z)) (by rw [nb_length]; show 0 + _ ≤ _; omega) (by omega)
        have hp2 : p2 = r := by apply nb_inj; rw [e2, nb_empty, List.nil_append]
        subst hp2
        refine ⟨n', ?_, by rw [List.length_append, hlz]; omega⟩
        rw [rl, if_pos ho, if_pos c, if_pos c3, List.length_append, hlz, ← Nat.add_assoc]
        exact e1
      · rw [wlN_right _ _ c] at hd ⊢
        obtain ⟨n', p2, e1, e2, e3⟩ := rl_rec d out at_ ho (nb r).length n at_ (64 - at_ % 64) true ⟨#[]⟩ (nb r) Q b (Nat.le_refl _) hd hQ rfl (by omega) (fun z => (by cases z)) (by rw [nb_length]; show 0 + _ ≤ _; omega) hn
        have hp2 : p2 = r := by apply nb_inj; rw [e2, nb_empty, List.nil_append]
        subst hp2
        exact ⟨n', e1, e3⟩
    obtain ⟨n', e1, e3⟩ := fin
    rw [e1, ih (out ++ [r]) n' _ (Q ++ wlN at_ (nb r)) h (by rw [List.length_append, hQ]) (by rw [List.length_append, List.length_singleton]; omega) (fun x hx => hs x (List.mem_cons_of_mem _ hx)) e3, List.append_assoc]
    rfl

/-! ## section crcflip -/
theorem xor_cancel {a b c : Nat} (h : a ^^^ c = b ^^^ c) : a = b := by
  have := congrArg (· ^^^ c) h
  simpa [Nat.xor_assoc] using this
theorem xor_cancel' {a b c : Nat} (h : c ^^^ a = c ^^^ b) : a = b := by
  rw [Nat.xor_comm c a, Nat.xor_comm c b] at h; exact xor_cancel h
theorem cbit_inj {x y : Nat} (hx : x < 4294967296) (hy : y < 4294967296) (h : cbit x = cbit y) : x = y := by
  have key : ∀ {u v : Nat}, u < 4294967296 → v < 4294967296 → u % 2 = 1 → ¬ v % 2 = 1 → cbit u = cbit v → False := by
    intro u v hu hv h1 h2 he
    rw [cbit, if_pos h1, cbit, if_neg h2] at he
    have h3 := congrArg (fun z => Nat.testBit z 31) he
    simp only [Nat.testBit_xor] at h3
    rw [Nat.testBit_lt_two_pow (x := u / 2) (i := 31) (by omega), Nat.testBit_lt_two_pow (x := v / 2) (i := 31) (by omega)] at h3
    exact absurd h3 (by decide)
  by_cases cx : x % 2 = 1
  · by_cases cy : y % 2 = 1
    · rw [cbit, if_pos cx, cbit, if_pos cy] at h
      have := xor_cancel h
      omega
    · exact (key hx hy cx cy h).elim
  · by_cases cy : y % 2 = 1
    · exact (key hy hx cy cx h.symm).elim
    · rw [cbit, if_neg cx, cbit, if_neg cy] at h
      omega
theorem cbits_inj : ∀ (n : Nat) {x y : Nat}, x < 4294967296 → y < 4294967296 → cbits n x = cbits n y → x = y
  | 0, x, y, _, _, h => h
  | n + 1, x, y, hx, hy, h => cbit_inj hx hy (cbits_inj n (cbit_lt hx) (cbit_lt hy) h)
theorem crcL_inj : ∀ (l : List Nat) {x y : Nat}, (∀ b ∈ l, b < 256) → x < 4294967296 → y < 4294967296 → crcL l x = crcL l y → x = y
  | [], x, y, _, _, _, h => h
  | b :: l, x, y, hl, hx, hy, h => by
    have hb := hl b (List.mem_cons_self ..)
    have h2 := crcL_inj l (fun c hc => hl c (List.mem_cons_of_mem _ hc)) (cbyte_lt hx hb) (cbyte_lt hy hb) h
    exact xor_cancel (cbits_inj 8 (xor_byte hx hb) (xor_byte hy hb) h2)
theorem crcL_append : ∀ (l m : List Nat) (x : Nat), crcL (l ++ m) x = crcL m (crcL l x)
  | [], m, x => rfl
  | b :: l, m, x => crcL_append l m (cbyte x b)
theorem crcL_diff (l m : List Nat) (b c : Nat) (hl : ∀ z ∈ l, z < 256) (hm : ∀ z ∈ m, z < 256) (hb : b < 256) (hc : c < 256) (hne : b ≠ c) {x : Nat} (hx : x < 4294967296) : crcL (l ++ b :: m) x ≠ crcL (l ++ c :: m) x := by
  intro h
  rw [crcL_append, crcL_append] at h
  have h1 : crcL l x < 4294967296 := crcL_lt l hl hx
  have h2 : cbyte (crcL l x) b = cbyte (crcL l x) c := crcL_inj m hm (cbyte_lt h1 hb) (cbyte_lt h1 hc) h
  exact hne (xor_cancel' (cbits_inj 8 (xor_byte h1 hb) (xor_byte h1 hc) h2))
theorem crcN_set (l : List Nat) (hl : ∀ z ∈ l, z < 256) (i : Nat) (hi : i < l.length) (c : Nat) (hc : c < 256) (hne : l[i] ≠ c) : crcN (l.set i c) ≠ crcN l := by
  intro h
  have h' : crcL (l.set i c) 4294967295 = crcL l 4294967295 := xor_cancel h
  have e : l = l.take i ++ l[i] :: l.drop (i + 1) := by
    rw [List.getElem_cons_drop, List.take_append_drop]
  have e2 : l.set i c = l.take i ++ c :: l.drop (i + 1) := List.set_eq_take_append_cons_drop .. |>.trans (if_pos hi)
  rw [e2] at h'
  rw [congrArg (fun z => crcL z 4294967295) e] at h'
  exact crcL_diff (l.take i) (l.drop (i + 1)) l[i] c (fun z hz => hl z (List.mem_of_mem_take hz)) (fun z hz => hl z (List.mem_of_mem_drop hz)) (hl _ (List.getElem_mem hi)) hc hne (by omega) h'.symm
theorem flip_lt {b j : Nat} (hb : b < 256) (hj : j < 8) : b ^^^ 2 ^ j < 256 := Nat.xor_lt_two_pow (n := 8) hb (Nat.pow_lt_pow_right (by omega) hj)
theorem flip_ne (b j : Nat) : b ≠ b ^^^ 2 ^ j := by
  intro h
  have h2 : b ^^^ 0 = b ^^^ 2 ^ j := by rw [Nat.xor_zero]; exact h
  have := xor_cancel' h2
  have hp : 0 < 2 ^ j := Nat.two_pow_pos j
  omega
theorem shl8 : ∀ j : Nat, j < 8 → shl .u8 1 (IntKind.u64.wrap (j : Int)) = ((2 ^ j : Nat) : Int) := by decide
theorem bytesOf_nb (s : ByteArray) : bytesOf s = (nb s).map (fun n : Nat => (n : Int)) := by
  simp only [bytesOf, nb, List.map_map]; rfl
/-- a text with one bit turned over -/
theorem nb_flip (s : ByteArray) (i j : Nat) (hi : i < s.size) (hj : j < 8) : nb (strOfNums ((bytesOf s).set i (Go.bits .xor .u8 (rd (bytesOf s) (i : Int)) (shl .u8 1 (IntKind.u64.wrap (j : Int)))))) = (nb s).set i ((nb s)[i]'(by rw [nb_length]; exact hi) ^^^ 2 ^ j) := by
  have hb := nb_lt s _ (List.getElem_mem (l := nb s) (n := i) (by rw [nb_length]; exact hi))
  rw [rd_bytesOf, bt_nb s i hi, shl8 j hj, b_xor .u8 rfl _ _ hb (Nat.pow_lt_pow_right (by omega) hj), bytesOf_nb]
  generalize (nb s)[i]'(by rw [nb_length]; exact hi) = b at hb
  rw [show (((b ^^^ 2 ^ j : Nat) : Int)) = (fun n : Nat => (n : Int)) (b ^^^ 2 ^ j) from rfl, ← List.map_set, nb_nums]
  · rw [List.map_map, show (Int.toNat ∘ fun n : Nat => (n : Int)) = id from by funext n; simp, List.map_id]
  · intro x hx
    obtain ⟨n, hn, rfl⟩ := List.mem_map.1 hx
    rcases List.mem_or_eq_of_mem_set hn with h | h
    · have := nb_lt s n h; show 0 ≤ (n : Int) ∧ (n : Int) < 256; omega
    · have := flip_lt hb hj; show 0 ≤ (n : Int) ∧ (n : Int) < 256; omega
theorem flip_size (s : ByteArray) (i j : Nat) (hi : i < s.size) (hj : j < 8) : (strOfNums ((bytesOf s).set i (Go.bits .xor .u8 (rd (bytesOf s) (i : Int)) (shl .u8 1 (IntKind.u64.wrap (j : Int)))))).size = s.size := by
  rw [← nb_length, nb_flip s i j hi hj, List.length_set, nb_length]

/-! ## section hurt -/
theorem rl_good : ∀ (n : Nat) (d : ByteArray) (out : List ByteArray) (good at_ : Nat) (o : Bool) (part : ByteArray), (rl n d out good at_ o part).1.length = out.length → (rl n d out good at_ o part).2 = (good : Int) := by
  intro n
  induction n with
  | zero => intro d out good at_ o part _; rfl
  | succ n ih =>
    intro d out good at_ o part h
    rw [rl] at h ⊢
    by_cases ho : out.length < 500
    · rw [if_pos ho] at h ⊢
      by_cases c : 64 - at_ % 64 ≤ 6
      · rw [if_pos c] at h ⊢
        by_cases c3 : ((nb d).drop at_).take (64 - at_ % 64) = List.replicate (64 - at_ % 64) 0
        · rw [if_pos c3] at h ⊢; exact ih _ _ _ _ _ _ h
        · rw [if_neg c3] at h ⊢
      · rw [if_neg c] at h ⊢
        by_cases hf : fok d at_ (64 - at_ % 64) = true
        · rw [if_pos hf] at h ⊢
          by_cases hk : kok (64 - at_ % 64) ((nb d).getD (at_ + 4) 0) ((nb d).getD (at_ + 5) 0) o = true
          · rw [if_pos hk] at h ⊢
            by_cases hp : part.size + (nb d).getD (at_ + 4) 0 > 8000
            · rw [if_pos hp] at h ⊢
            · rw [if_neg hp] at h ⊢
              by_cases c8 : (nb d).getD (at_ + 5) 0 = 1 ∨ (nb d).getD (at_ + 5) 0 = 4
              · rw [if_pos c8] at h
                have := (rl_ext n d (out ++ [part ++ d.extract (at_ + 6) (at_ + 6 + (nb d).getD (at_ + 4) 0)]) (at_ + 6 + (nb d).getD (at_ + 4) 0) (at_ + 6 + (nb d).getD (at_ + 4) 0) false ⟨#[]⟩).length_le
                rw [h, List.length_append, List.length_singleton] at this
                omega
              · rw [if_neg c8] at h ⊢; exact ih _ _ _ _ _ _ h
          · rw [if_neg hk] at h ⊢
        · rw [if_neg hf] at h ⊢
    · rw [if_neg ho] at h ⊢
/-- one byte turned into another -/
def hurtAt (d e : ByteArray) (p c : Nat) : Prop := nb e = (nb d).set p c ∧ p < d.size ∧ (nb d).getD p 0 ≠ c ∧ c < 256
theorem hurt_size {d e : ByteArray} {p c : Nat} (h : hurtAt d e p c) : e.size = d.size := by rw [← nb_length, h.1, List.length_set, nb_length]
theorem hurt_getD {d e : ByteArray} {p c : Nat} (h : hurtAt d e p c) (i : Nat) (hi : i ≠ p) : (nb e).getD i 0 = (nb d).getD i 0 := by
  rw [h.1, List.getD_eq_getElem?_getD, List.getD_eq_getElem?_getD, List.getElem?_set_ne (Ne.symm hi)]
theorem hurt_same {d e : ByteArray} {p c : Nat} (h : hurtAt d e p c) (a b : Nat) (hp : p < a ∨ b ≤ p) : e.extract a b = d.extract a b := by
  apply nb_inj
  rw [nb_extract, nb_extract, h.1]
  apply List.ext_getElem?
  intro j
  rw [List.getElem?_drop, List.getElem?_drop]
  by_cases hj : a + j < b
  · rw [List.getElem?_take_of_lt hj, List.getElem?_take_of_lt hj, List.getElem?_set_ne (by omega)]
  · rw [List.getElem?_eq_none (by rw [List.length_take]; omega), List.getElem?_eq_none (by rw [List.length_take]; omega)]
theorem hurt_in {d e : ByteArray} {p c : Nat} (h : hurtAt d e p c) (a b : Nat) (hp : a ≤ p) (hb : p < b) : nb (e.extract a b) = (nb (d.extract a b)).set (p - a) c := by
  rw [nb_extract, nb_extract, h.1]
  apply List.ext_getElem?
  intro j
  have hl := nb_length d
  have hpl := h.2.1
  by_cases hj : p - a = j
  · subst hj
    rw [List.getElem?_set_self (by rw [List.length_drop, List.length_take]; omega), List.getElem?_drop, List.getElem?_take_of_lt (by omega), show a + (p - a) = p by omega, List.getElem?_set_self (by omega)]
  · rw [List.getElem?_set_ne hj, List.getElem?_drop, List.getElem?_drop]
    by_cases hj2 : a + j < b
    · rw [List.getElem?_take_of_lt hj2, List.getElem?_take_of_lt hj2, List.getElem?_set_ne (by omega)]
    · rw [List.getElem?_eq_none (by rw [List.length_take]; omega), List.getElem?_eq_none (by rw [List.length_take]; omega)]
theorem hurt_elem {d e : ByteArray} {p c : Nat} (h : hurtAt d e p c) (a b : Nat) (hp : a ≤ p) (hb : p < b) (hl : p - a < (nb (d.extract a b)).length) : (nb (d.extract a b))[p - a] ≠ c := by
  have hne := h.2.2.1
  intro hc
  apply hne
  have : (nb (d.extract a b))[p - a]? = some c := by rw [List.getElem?_eq_getElem hl, hc]
  rw [nb_extract, List.getElem?_drop, List.getElem?_take_of_lt (by omega), show a + (p - a) = p by omega] at this
  rw [List.getD_eq_getElem?_getD, this]; rfl
theorem fok_same {d e : ByteArray} {p c at_ left : Nat} (h : hurtAt d e p c) (hp : p < at_ ∨ at_ + 6 + (nb d).getD (at_ + 4) 0 ≤ p) : fok e at_ left = fok d at_ left := by
  unfold fok
  rw [hurt_getD h (at_ + 4) (by omega), hurt_size h, hurt_same h _ _ (by omega), hurt_same h _ _ (by omega)]
theorem fok_hurt {d e : ByteArray} {p c at_ left : Nat} (h : hurtAt d e p c) (hf : fok d at_ left = true) (h0 : at_ ≤ p) (h1 : p < at_ + 6 + (nb d).getD (at_ + 4) 0) (h4 : p ≠ at_ + 4) : fok e at_ left = false := by
  unfold fok at hf ⊢
  simp only [Bool.and_eq_true, decide_eq_true_eq] at hf
  obtain ⟨⟨⟨f1, f2⟩, f3⟩, f4⟩ := hf
  rw [hurt_getD h (at_ + 4) (by omega), hurt_size h]
  apply Bool.eq_false_iff.2
  intro hh
  simp only [Bool.and_eq_true, decide_eq_true_eq] at hh
  have g4 := hh.2
  by_cases hc : p < at_ + 4
  · rw [hurt_same h (at_ + 4) _ (by omega), f4] at g4
    have s1 : (d.extract at_ (at_ + 4)).size = 4 := by rw [ByteArray.size_extract]; omega
    have s2 : (e.extract at_ (at_ + 4)).size = 4 := by rw [ByteArray.size_extract, hurt_size h]; omega
    have e1 := fixL_tfN _ s1
    rw [g4, fixL_tfN _ s2, hurt_in h _ _ h0 hc] at e1
    have hl : p - at_ < (nb (d.extract at_ (at_ + 4))).length := by rw [nb_length, s1]; omega
    apply hurt_elem h at_ (at_ + 4) h0 hc hl
    have := congrArg (fun z => z[p - at_]?) e1
    simp only [List.getElem?_set_self hl, List.getElem?_eq_getElem hl, Option.some.injEq] at this
    exact this.symm
  · rw [hurt_same h at_ (at_ + 4) (by omega), ← f4, hurt_in h _ _ (by omega) h1] at g4
    have hl : p - (at_ + 4) < (nb (d.extract (at_ + 4) (at_ + 6 + (nb d).getD (at_ + 4) 0))).length := by rw [nb_length, ByteArray.size_extract]; omega
    exact crcN_set _ (nb_lt _) _ hl c h.2.2.2 (hurt_elem h _ _ (by omega) h1 hl) g4

/-! ## section strs -/
theorem rds_drop (l : List ByteArray) (i : Nat) (h : i < l.length) : ∃ u, l.drop i = u :: l.drop (i + 1) ∧ rdOf ByteArray.empty l (i : Int) = u ∧ u ∈ l := by
  refine ⟨l[i], List.drop_eq_getElem_cons h, ?_, List.getElem_mem h⟩
  unfold rdOf
  rw [Int.toNat_natCast, List.getD_eq_getElem?_getD, List.getElem?_eq_getElem h]; rfl

/-! ## section writelog -/
theorem wl_left (left n : Nat) (h7 : 7 ≤ left) (h64 : left ≤ 64) (hn2 : n ≤ left - 6) : wrap64 ((left : Int) - wrap64 (6 + (n : Int))) = ((left - (6 + n) : Nat) : Int) := by
  have e : wrap64 (6 + (n : Int)) = ((6 + n : Nat) : Int) := by unfold wrap64; omega
  rw [e]; clear e; unfold wrap64; omega
theorem iwl_j5 (k : Nat) (x1 x5 : ByteArray) (left n kind : Nat) (h7 : 7 ≤ left) (h64 : left ≤ 64) (hn : n ≤ x1.size) (hn2 : n ≤ left - 6) (hkd : kind < 256) (h5 : x5.size ≤ 1000000000) (hk : 700 ≤ k) :
    impl_WriteLog.j5 (k + 1) x1 x5 left n kind = impl_WriteLog.l0 k (x1.extract n x1.size) (x5 ++ (fxd (crcN (n :: kind :: (nb x1).take n) : Int) ++ (strOfNums [(n : Int) % 256, (kind : Int)] ++ x1.extract 0 n))) (if left = 6 + n then 64 else ((left - (6 + n) : Nat) : Int)) false := by
  have hx : (x1.extract 0 n).size = n := by rw [ByteArray.size_extract]; omega
  have e2 : (kind : Int) % 256 = kind := by omega
  rw [impl_WriteLog.j5]
  simp only [Option.bind_some]
  rw [if_pos (by omega), if_pos (by omega), Int.toNat_natCast, e2]
  have hs : (strOfNums [(n : Int) % 256, (kind : Int)] ++ x1.extract 0 n).size = n + 2 := by rw [bsize_append, two_size, hx]; omega
  rw [if_pos (by rw [two_size, hx]; omega), icrc _ (by omega) k (by omega), nb_own x1 n kind hn (by omega) hkd]
  simp only [Option.bind_some]
  rw [ipf]
  simp only [Option.bind_some]
  rw [if_pos (by rw [fxd_size, hs]; omega), if_pos (by rw [bsize_append, fxd_size, hs]; omega)]
  rw [wl_left left n h7 h64 hn2]
  by_cases c : left = 6 + n
  · rw [if_pos (by omega), if_pos c]
  · rw [if_neg (by omega), if_neg c]
theorem iwl_stop (k : Nat) (x1 x5 : ByteArray) (left : Int) (h : x1.size = 0) : impl_WriteLog.l0 (k + 2) x1 x5 left false = some x5 := by
  rw [impl_WriteLog.l0, if_neg (by decide), impl_WriteLog.j2]
  have : (x1.toList != ([] : List UInt8)) = false := by rw [bne_eq_false_iff_eq]; exact (toList_nil x1).2 h
  rw [this, if_neg (by decide)]
theorem iwl : ∀ (m k : Nat) (x1 x5 : ByteArray) (left : Nat) (first : Bool), x1.size ≤ m → 7 ≤ left → left ≤ 64 → x5.size + 64 * (m + 1) ≤ 1000000000 → 6 * (m + 1) + 720 ≤ k → ∃ out, impl_WriteLog.j2 k x1 x5 left first true = some out ∧ nb out = nb x5 ++ wlF left first (nb x1) := by
  intro m
  induction m with
  | zero =>
    intro k x1 x5 left first h1 h7 h64 h5 hk
    obtain ⟨k, rfl⟩ : ∃ j, k = j + 1 + 1 + 1 + 1 + 2 := ⟨k - 6, by omega⟩
    have hmin : min (left - 6) x1.size = 0 := by omega
    have hall : (((0 : Nat) : Int) == (x1.size : Int)) = true := by simp; omega
    have hg : ∀ kind, kind < 256 → impl_WriteLog.j5 (k + 2 + 1) x1 x5 left ((0 : Nat) : Int) (kind : Nat) = some (x5 ++ (fxd (crcN (0 :: kind :: (nb x1).take 0) : Int) ++ (strOfNums [((0 : Nat) : Int) % 256, (kind : Int)] ++ x1.extract 0 0))) := by
      intro kind hkd
      rw [iwl_j5 (k + 2) x1 x5 left 0 kind h7 h64 (by omega) (by omega) hkd (by omega) (by omega)]
      exact iwl_stop k _ _ _ (by rw [ByteArray.size_extract]; omega)
    have hnb : ∀ kind, kind < 256 → nb (x5 ++ (fxd (crcN (0 :: kind :: (nb x1).take 0) : Int) ++ (strOfNums [((0 : Nat) : Int) % 256, (kind : Int)] ++ x1.extract 0 0))) = nb x5 ++ frag kind (nb x1) := by
      intro kind hkd
      have hz : nb x1 = [] := List.eq_nil_of_length_eq_zero (by rw [nb_length]; omega)
      rw [nb_append, nb_append, nb_fxd, nb_own x1 0 kind (by omega) (by omega) hkd, hz]
      rfl
    rw [impl_WriteLog.j2, if_pos rfl, if_neg (by omega), impl_WriteLog.j3, wl_min left x1.size h7 h64, hmin, hall]
    rw [wlF_last (by rw [nb_length]; omega)]
    cases first
    · rw [if_neg (by decide), impl_WriteLog.j4, if_neg (by decide), if_neg (by decide), if_pos rfl]
      exact ⟨_, hg 4 (by omega), hnb 4 (by omega)⟩
    · rw [if_pos rfl, impl_WriteLog.j4, if_pos rfl]
      exact ⟨_, hg 1 (by omega), hnb 1 (by omega)⟩
  | succ m ih =>
    intro k x1 x5 left first h1 h7 h64 h5 hk
    obtain ⟨k, rfl⟩ : ∃ j, k = j + 1 + 1 + 1 + 1 + 2 := ⟨k - 6, by omega⟩
    rw [impl_WriteLog.j2, if_pos rfl, if_neg (by omega), impl_WriteLog.j3, wl_min left x1.size h7 h64]
    by_cases hall : x1.size ≤ left - 6
    · have hmin : min (left - 6) x1.size = x1.size := by omega
      have ha : (((x1.size : Nat) : Int) == (x1.size : Int)) = true := by simp
      have hg : ∀ kind, kind < 256 → impl_WriteLog.j5 (k + 2 + 1) x1 x5 left (x1.size : Nat) (kind : Nat) = some (x5 ++ (fxd (crcN (x1.size :: kind :: (nb x1).take x1.size) : Int) ++ (strOfNums [((x1.size : Nat) : Int) % 256, (kind : Int)] ++ x1.extract 0 x1.size))) := by
        intro kind hkd
        rw [iwl_j5 (k + 2) x1 x5 left x1.size kind h7 h64 (by omega) (by omega) hkd (by omega) (by omega)]
        exact iwl_stop k _ _ _ (by rw [ByteArray.size_extract]; omega)
      have hnb : ∀ kind, kind < 256 → nb (x5 ++ (fxd (crcN (x1.size :: kind :: (nb x1).take x1.size) : Int) ++ (strOfNums [((x1.size : Nat) : Int) % 256, (kind : Int)] ++ x1.extract 0 x1.size))) = nb x5 ++ frag kind (nb x1) := by
        intro kind hkd
        rw [nb_append, nb_append, nb_fxd, nb_own x1 x1.size kind (by omega) (by omega) hkd, List.take_of_length_le (by rw [nb_length]; exact Nat.le_refl _)]
        unfold frag
        rw [nb_length]
      rw [hmin, ha, wlF_last (by rw [nb_length]; omega)]
      cases first
      · rw [if_neg (by decide), impl_WriteLog.j4, if_neg (by decide), if_neg (by decide), if_pos rfl]
        exact ⟨_, hg 4 (by omega), hnb 4 (by omega)⟩
      · rw [if_pos rfl, impl_WriteLog.j4, if_pos rfl]
        exact ⟨_, hg 1 (by omega), hnb 1 (by omega)⟩
    · have hmin : min (left - 6) x1.size = left - 6 := by omega
      have ha : (((left - 6 : Nat) : Int) == (x1.size : Int)) = false := by rw [beq_eq_false_iff_ne]; omega
      have hs1 : (x1.extract (left - 6) x1.size).size = x1.size - (left - 6) := by rw [ByteArray.size_extract]; omega
      have hs2 : (x1.extract 0 (left - 6)).size = left - 6 := by rw [ByteArray.size_extract]; omega
      have hg : ∀ kind, kind < 256 → ∃ out, impl_WriteLog.j5 (k + 2 + 1) x1 x5 left ((left - 6 : Nat) : Int) (kind : Nat) = some out ∧ nb out = nb x5 ++ (frag kind ((nb x1).take (left - 6)) ++ wlF 64 false ((nb x1).drop (left - 6))) := by
        intro kind hkd
        rw [iwl_j5 (k + 2) x1 x5 left (left - 6) kind h7 h64 (by omega) (by omega) hkd (by omega) (by omega), if_pos (by omega)]
        have hne : ((x1.extract (left - 6) x1.size).toList != ([] : List UInt8)) = true := by
          rw [bne_iff_ne]; intro e; have := (toList_nil _).1 e; omega
        rw [impl_WriteLog.l0, if_neg (by decide), hne]
        obtain ⟨out, ho, hn⟩ := ih (k + 1) (x1.extract (left - 6) x1.size) (x5 ++ (fxd (crcN ((left - 6) :: kind :: (nb x1).take (left - 6)) : Int) ++ (strOfNums [((left - 6 : Nat) : Int) % 256, (kind : Int)] ++ x1.extract 0 (left - 6)))) 64 false (by omega) (by omega) (by omega)
          (by rw [bsize_append, bsize_append, bsize_append, fxd_size, two_size, hs2]; omega) (by omega)
        refine ⟨out, ho, ?_⟩
        rw [hn, nb_append, nb_append, nb_fxd, nb_own x1 (left - 6) kind (by omega) (by omega) hkd, nb_extract, List.take_of_length_le (i := x1.size) (by rw [nb_length]; exact Nat.le_refl _), List.append_assoc]
        congr 1
        unfold frag
        rw [List.length_take, nb_length, Nat.min_eq_left (by omega)]
      rw [hmin, ha, wlF_more (by rw [nb_length]; omega) h7]
      cases first
      · rw [if_neg (by decide), impl_WriteLog.j4, if_neg (by decide), if_neg (by decide), if_neg (by decide)]
        exact hg 3 (by omega)
      · rw [if_pos rfl, impl_WriteLog.j4, if_neg (by decide), if_pos rfl]
        exact hg 2 (by omega)
theorem iwlog (k : Nat) (a : Int) (s : ByteArray) (ha : 0 ≤ a) (hs : s.size ≤ 8000) (hk : 60000 ≤ k) : ∃ out, impl_WriteLog.f k a s = some out ∧ nb out = wlN a.toNat (nb s) := by
  obtain ⟨k, rfl⟩ : ∃ j, k = j + 1 + 1 := ⟨k - 2, by omega⟩
  obtain ⟨n, rfl⟩ := Int.eq_ofNat_of_zero_le ha
  unfold impl_WriteLog.f
  rw [if_neg (by omega), show decide ((s.size : Int) > 8000) = false by rw [decide_eq_false_iff_not]; omega, impl_WriteLog.j0, if_neg (by decide), impl_WriteLog.l0, if_pos rfl]
  have e : wrap64 (64 - (Int.tmod (n : Int) 64)) = ((64 - n % 64 : Nat) : Int) := by
    rw [Int.tmod_eq_emod_of_nonneg (by omega)]; unfold wrap64; omega
  rw [e, Int.toNat_natCast]
  clear e
  unfold wlN
  have hl : 64 - n % 64 ≤ 64 ∧ 1 ≤ 64 - n % 64 := by omega
  generalize 64 - n % 64 = left at hl
  by_cases c : left ≤ 6
  · obtain ⟨k, rfl⟩ : ∃ j, k = j + 1 := ⟨k - 1, by omega⟩
    rw [if_pos c]
    obtain ⟨out, ho, hn⟩ := iwl s.size (k + 1) s ((⟨#[]⟩ : ByteArray) ++ strOfNums (List.replicate left 0)) 64 true (Nat.le_refl _) (by omega) (by omega) (by rw [bsize_append, zeros_size]; show 0 + left + _ ≤ _; omega) (by omega)
    rw [impl_WriteLog.j2, if_pos rfl, if_neg (by omega)] at ho
    rw [impl_WriteLog.j2, if_pos rfl, if_pos (by omega), if_pos (by omega), if_pos (by omega), Int.toNat_natCast]
    simp only [Option.bind_some]
    rw [if_pos (by rw [zeros_size]; show 0 + left ≤ _; omega)]
    refine ⟨out, ho, ?_⟩
    rw [hn, nb_append, nb_zeros, nb_empty]; rfl
  · rw [if_neg c]
    obtain ⟨out, ho, hn⟩ := iwl s.size (k + 0) s (⟨#[]⟩ : ByteArray) left true (Nat.le_refl _) (by omega) (by omega) (by show 0 + _ ≤ _; omega) (by omega)
    refine ⟨out, ho, ?_⟩
    rw [hn, nb_empty]; rfl
theorem iwlog_bad (k : Nat) (a : Int) (s : ByteArray) (h : a < 0 ∨ 8000 < s.size) (hk : 1 ≤ k) : impl_WriteLog.f k a s = some (⟨#[]⟩ : ByteArray) := by
  obtain ⟨k, rfl⟩ : ∃ j, k = j + 1 := ⟨k - 1, by omega⟩
  unfold impl_WriteLog.f
  by_cases c : a < 0
  · rw [if_pos c, impl_WriteLog.j0, if_pos rfl]
  · rw [if_neg c, show decide ((s.size : Int) > 8000) = true by rw [decide_eq_true_eq]; omega, impl_WriteLog.j0, if_pos rfl]

/-! ## section catfn -/
theorem concat_l0 (l : List ByteArray) (hl : l.length ≤ 1048576) (hs : ∀ u ∈ l, u.size ≤ 8000) : ∀ (d k i : Nat) (acc : ByteArray), i ≤ l.length → l.length - i = d → d + 60000 < k → (cat ((l.drop i).map nb) (nb acc)).length ≤ 9223372036854775807 →
    ∃ out, laws_concat.l0 k l acc i = some out ∧ nb out = cat ((l.drop i).map nb) (nb acc) := by
  intro d
  induction d with
  | zero =>
    intro k i acc h1 h2 hk hc
    obtain ⟨k, rfl⟩ : ∃ m, k = m + 1 := ⟨k - 1, by omega⟩
    refine ⟨acc, ?_, ?_⟩
    · rw [laws_concat.l0, if_neg (by omega)]
    · rw [List.drop_eq_nil_of_le (by omega)]; rfl
  | succ d ih =>
    intro k i acc h1 h2 hk hc
    obtain ⟨k, rfl⟩ : ∃ m, k = m + 1 := ⟨k - 1, by omega⟩
    obtain ⟨u, hd, hu, hm⟩ := rds_drop l i (by omega)
    obtain ⟨t, ht, hn⟩ := iwlog k (acc.size : Int) u (by omega) (hs u hm) (by omega)
    rw [Int.toNat_natCast] at hn
    have e : cat ((l.drop i).map nb) (nb acc) = cat ((l.drop (i + 1)).map nb) (nb (acc ++ t)) := by
      rw [hd, List.map_cons, cat, nb_append, hn, nb_length]
    rw [e] at hc
    obtain ⟨b, hb⟩ := cat_ge ((l.drop (i + 1)).map nb) (nb (acc ++ t))
    have hsz : acc.size + t.size ≤ 9223372036854775807 := by
      rw [hb, List.length_append, nb_length, bsize_append] at hc; omega
    obtain ⟨out, ho, hno⟩ := ih k (i + 1) (acc ++ t) (by omega) (by omega) (by omega) hc
    refine ⟨out, ?_, by rw [hno, e]⟩
    rw [laws_concat.l0, if_pos (by omega), if_pos (by omega), hu, ht]
    simp only [Option.bind_some]
    rw [if_pos hsz, w64s (n := l.length) (by omega) (by omega)]
    exact ho
theorem concat (l : List ByteArray) (hl : l.length ≤ 1048576) (hs : ∀ u ∈ l, u.size ≤ 8000) (k : Nat) (hk : l.length + 60000 < k) (hc : (cat (l.map nb) []).length ≤ 9223372036854775807) : ∃ out, laws_concat.f k l = some out ∧ nb out = cat (l.map nb) [] := by
  have := concat_l0 l hl hs l.length k 0 ⟨#[]⟩ (by omega) (by omega) hk (by rw [List.drop_zero, nb_empty]; exact hc)
  rw [List.drop_zero, nb_empty] at this
  exact this
theorem sametexts_l0 (l : List ByteArray) (hl : l.length ≤ 1048576) : ∀ (d k i : Nat), i ≤ l.length → l.length - i = d → d < k → laws_sameTexts.l0 k l l i = some true := by
  intro d
  induction d with
  | zero =>
    intro k i h1 h2 hk
    obtain ⟨k, rfl⟩ : ∃ m, k = m + 1 := ⟨k - 1, by omega⟩
    rw [laws_sameTexts.l0, if_neg (by omega)]
  | succ d ih =>
    intro k i h1 h2 hk
    obtain ⟨k, rfl⟩ : ∃ m, k = m + 1 := ⟨k - 1, by omega⟩
    rw [laws_sameTexts.l0, if_pos (by omega), if_pos (by omega), if_pos (by omega), if_pos rfl, w64s (n := l.length) (by omega) (by omega)]
    exact ih k (i + 1) (by omega) (by omega) (by omega)
theorem sametexts (l : List ByteArray) (hl : l.length ≤ 1048576) (k : Nat) (hk : l.length < k) : laws_sameTexts.f k l l = some true := by
  unfold laws_sameTexts.f
  rw [if_pos rfl]
  exact sametexts_l0 l hl l.length k 0 (by omega) (by omega) hk

/-! ## section draw -/
/-- the code that things are drawn from: each cell is a byte -/
def isCode (l : List Int) : Prop := l.length ≤ 1048576 ∧ ∀ x ∈ l, 0 ≤ x ∧ x ≤ 255
theorem code_of {l : List Int} (h : ¬ ((l.length : Int) > 1048576)) (hw : ∀ x ∈ l, (Lit.int .u8 x).wf = true) : isCode l := by
  refine ⟨by omega, fun x hx => ?_⟩
  have := hw x hx
  simp [Lit.wf, IntKind.min, IntKind.max, IntKind.bits, IntKind.signed] at this
  omega
def posOk (l : List Int) (p : Int) : Prop := 0 ≤ p ∧ p ≤ l.length
theorem rd_code {l : List Int} (h : isCode l) (i : Int) : 0 ≤ rd l i ∧ rd l i ≤ 255 := by
  unfold rd
  rw [List.getD_eq_getElem?_getD]
  cases hi : l[i.toNat]? with
  | none => simp
  | some b => simpa using h.2 b (List.mem_of_getElem? hi)
theorem dnext {l : List Int} (h : isCode l) {p : Int} (hp : posOk l p) : ∃ v q, spec_l1Rd_next.f l p = some (v, q) ∧ 0 ≤ v ∧ v ≤ 255 ∧ posOk l q := by
  have hl := h.1
  obtain ⟨h0, h1⟩ := hp
  unfold spec_l1Rd_next.f
  by_cases c : p ≥ (l.length : Int)
  · rw [if_pos c]
    exact ⟨0, p, rfl, by omega, by omega, h0, h1⟩
  · have e1 : wrap64 (p + 1) = p + 1 := by unfold wrap64; omega
    have e2 : wrap64 (p + 1 - 1) = p := by unfold wrap64; omega
    have hr := rd_code h p
    have e3 : wrap64 (rd l p) = rd l p := by unfold wrap64; omega
    rw [if_neg c, e1, e2, if_pos h0, if_pos (by omega), e3]
    exact ⟨_, _, rfl, hr.1, hr.2, by omega, by omega⟩
theorem dbelow {l : List Int} (h : isCode l) {p : Int} (hp : posOk l p) {n : Int} (hn : 1 ≤ n) : ∃ v q, spec_l1Rd_below.f l p n = some (v, q) ∧ 0 ≤ v ∧ v < n ∧ posOk l q := by
  unfold spec_l1Rd_below.f
  by_cases c : n ≤ 1
  · rw [if_pos c]
    exact ⟨0, p, rfl, by omega, by omega, hp⟩
  · rw [if_neg c]
    obtain ⟨v, q, e, h0, h1, hq⟩ := dnext h hp
    by_cases c2 : n ≤ 256
    · rw [if_pos c2, e]
      simp only [Option.bind_some]
      rw [if_neg (by omega)]
      refine ⟨_, _, rfl, ?_, ?_, hq⟩
      · rw [Int.tmod_eq_emod_of_nonneg h0]; exact Int.emod_nonneg _ (by omega)
      · rw [Int.tmod_eq_emod_of_nonneg h0]; exact Int.emod_lt_of_pos _ (by omega)
    · rw [if_neg c2, e]
      simp only [Option.bind_some]
      obtain ⟨v2, q2, e2, h2, h3, hq2⟩ := dnext h hq
      rw [e2]
      simp only [Option.bind_some]
      rw [if_neg (by omega)]
      have ew : wrap64 (wrap64 (v * 256) + v2) = v * 256 + v2 := by unfold wrap64; omega
      rw [ew]
      refine ⟨_, _, rfl, ?_, ?_, hq2⟩
      · rw [Int.tmod_eq_emod_of_nonneg (by omega)]; exact Int.emod_nonneg _ (by omega)
      · rw [Int.tmod_eq_emod_of_nonneg (by omega)]; exact Int.emod_lt_of_pos _ (by omega)
theorem posOk0 (l : List Int) : posOk l 0 := ⟨Int.le_refl _, by omega⟩

/-! ## section putsize -/
theorem strOfNums_size (l : List Int) : (strOfNums l).size = l.length := by simp [strOfNums, ByteArray.size]

/-! ## section drawbytes -/
theorem dbytes_l0 {l : List Int} (h : isCode l) : ∀ (d k : Nat) (acc : List Int) (p : Int), d < k → acc.length + d < 140737488355328 → (∀ x ∈ acc, 0 ≤ x ∧ x < 256) → posOk l p → ∃ zs q, spec_l1Rd_bytes.l0 k acc d l p = some (strOfNums zs, q) ∧ zs.length = acc.length + d ∧ (∀ x ∈ zs, 0 ≤ x ∧ x < 256) ∧ posOk l q := by
  intro d
  induction d with
  | zero =>
    intro k acc p hk hl ha hp
    obtain ⟨k, rfl⟩ : ∃ m, k = m + 1 := ⟨k - 1, by omega⟩
    rw [spec_l1Rd_bytes.l0, if_neg (by omega)]
    exact ⟨acc, p, rfl, by omega, ha, hp⟩
  | succ d ih =>
    intro k acc p hk hl ha hp
    obtain ⟨k, rfl⟩ : ∃ m, k = m + 1 := ⟨k - 1, by omega⟩
    obtain ⟨v, q, e, v0, v1, hq⟩ := dbelow h hp (n := 256) (by omega)
    have ed : wrap64 (((d + 1 : Nat) : Int) - 1) = (d : Int) := by unfold wrap64; omega
    rw [spec_l1Rd_bytes.l0, if_pos (by omega), e]
    simp only [Option.bind_some]
    rw [if_pos (by omega), ed]
    obtain ⟨zs, r, e2, hz, hb, hr⟩ := ih k (acc ++ [v % 256]) q (by omega) (by simp; omega) (by
      intro x hx
      rcases List.mem_append.1 hx with hx | hx
      · exact ha x hx
      · simp at hx; omega) hq
    exact ⟨zs, r, e2, by rw [hz]; simp; omega, hb, hr⟩
/-- some bytes are drawn: at most 'most' -/
theorem dbytes {l : List Int} (h : isCode l) {p : Int} (hp : posOk l p) {most k : Nat} (hm : most ≤ 1000) (hk : most < k) : ∃ s q, spec_l1Rd_bytes.f k l p (most : Int) = some (s, q) ∧ s.size ≤ most ∧ posOk l q := by
  unfold spec_l1Rd_bytes.f
  have em : wrap64 ((most : Int) + 1) = (most : Int) + 1 := by unfold wrap64; omega
  rw [em]
  obtain ⟨v, q, e, v0, v1, hq⟩ := dbelow h hp (n := (most : Int) + 1) (by omega)
  rw [e]
  simp only [Option.bind_some]
  obtain ⟨d, rfl⟩ := Int.eq_ofNat_of_zero_le v0
  obtain ⟨zs, r, e2, hz, _, hr⟩ := dbytes_l0 h d k [] q (by omega) (by simp; omega) (by simp) hq
  exact ⟨_, r, e2, by rw [strOfNums_size, hz]; simp; omega, hr⟩

/-! ## section drawonce -/
theorem donce {l : List Int} (h : isCode l) {p : Int} (hp : posOk l p) {n : Int} (hn : 1 ≤ n) : ∃ v q, spec_l1Rd_once.f l p n = some (v, q) ∧ posOk l q := by
  unfold spec_l1Rd_once.f
  obtain ⟨v, q, e, _, _, hq⟩ := dbelow h hp hn
  rw [e]
  exact ⟨_, _, rfl, hq⟩

/-! ## section crcspec -/
theorem scrc_l1 (s : ByteArray) : ∀ (d j k i x : Nat), j ≤ 8 → 8 - j = d → x < 4294967296 → spec_Crc.l1 (k + d + 1) s x i j = spec_Crc.l0 k s (cbits d x : Nat) (wrap64 ((i : Int) + 1)) := by
  intro d
  induction d with
  | zero =>
    intro j k i x h1 h2 hx
    rw [spec_Crc.l1, if_neg (by omega)]; rfl
  | succ d ih =>
    intro j k i x h1 h2 hx
    have e : wrap64 ((j : Int) + 1) = ((j + 1 : Nat) : Int) := by rw [w64] <;> omega
    have a : Int.tmod (x : Int) 2 = ((x % 2 : Nat) : Int) := by rw [Int.tmod_eq_emod_of_nonneg (by omega)]; omega
    rw [show k + (d + 1) + 1 = (k + d + 1) + 1 by omega, spec_Crc.l1, if_pos (by omega), a, e]
    by_cases o : x % 2 = 1
    · rw [if_pos (by omega), cbit_odd hx o, ih (j + 1) k i _ (by omega) (by omega) (cbit_lt hx)]; rfl
    · rw [if_neg (by omega), cbit_even o, ih (j + 1) k i _ (by omega) (by omega) (cbit_lt hx)]; rfl
theorem scrc_l0 (s : ByteArray) (hs : s.size ≤ 140737488351232) : ∀ (d k i x : Nat), i ≤ s.size → s.size - i = d → 10 * d < k → x < 4294967296 → spec_Crc.l0 k s x i = some ((crcL ((nb s).drop i) x ^^^ 4294967295 : Nat) : Int) := by
  intro d
  induction d with
  | zero =>
    intro k i x h1 h2 hk hx
    obtain ⟨k, rfl⟩ : ∃ m, k = m + 1 := ⟨k - 1, by omega⟩
    rw [spec_Crc.l0, if_neg (by omega), nb_end s i (by omega)]
    rw [show (4294967295 : Int) = ((4294967295 : Nat) : Int) from rfl, b_xor .u32 rfl _ _ hx (by decide)]; rfl
  | succ d ih =>
    intro k i x h1 h2 hk hx
    obtain ⟨k, rfl⟩ : ∃ m, k = m + 8 + 1 + 1 := ⟨k - 10, by omega⟩
    obtain ⟨b, hd, hb, hl⟩ := nb_drop s i (by omega)
    rw [spec_Crc.l0, if_pos (by omega), if_pos (by omega), hb, hd, show ((b : Int) % 4294967296) = b by omega, b_xor .u32 rfl _ _ hx (by show _ < 4294967296; omega)]
    rw [show (0 : Int) = ((0 : Nat) : Int) from rfl, scrc_l1 s 8 0 k i _ (by omega) (by omega) (xor_byte hx hl), w64s (n := s.size) (by omega) hs]
    rw [ih k (i + 1) _ (by omega) (by omega) (by omega) (cbits_lt 8 (xor_byte hx hl))]; rfl
theorem scrc (s : ByteArray) (hs : s.size ≤ 140737488351232) (k : Nat) (hk : 10 * s.size < k) : spec_Crc.f k s = some (crcN (nb s) : Int) := by
  unfold spec_Crc.f
  have h := scrc_l0 s hs s.size k 0 4294967295 (by omega) (by omega) hk (by omega)
  simpa [crcN] using h

/-! ## section writelogspec -/
theorem spf (x : Int) : spec_PutFixed.f x = some (fxd x) := rfl
theorem swl_j3 (k : Nat) (x6 x5 : ByteArray) (n kind : Nat) (last : Bool) (hn : n ≤ x6.size) (hn2 : n ≤ 58) (hkd : kind < 256) (h5 : x5.size ≤ 1000000000) (hk : 700 ≤ k) :
    spec_WriteLog.j3 (k + 1) x5 x6 n last kind = if last = true then some ((x5 ++ fxd (crcN (n :: kind :: (nb x6).take n) : Int)) ++ (strOfNums [(n : Int) % 256, (kind : Int)] ++ x6.extract 0 n)) else spec_WriteLog.l0 k 0 ((x5 ++ fxd (crcN (n :: kind :: (nb x6).take n) : Int)) ++ (strOfNums [(n : Int) % 256, (kind : Int)] ++ x6.extract 0 n)) (x6.extract n x6.size) false := by
  have hx : (x6.extract 0 n).size = n := by rw [ByteArray.size_extract]; omega
  rw [spec_WriteLog.j3]
  simp only [Option.bind_some]
  rw [if_pos (by omega), if_pos (by omega), Int.toNat_natCast]
  have hs : (strOfNums [(n : Int) % 256, (kind : Int)] ++ x6.extract 0 n).size = n + 2 := by rw [bsize_append, two_size, hx]; omega
  rw [if_pos (by rw [two_size, hx]; omega), scrc _ (by omega) k (by omega), nb_own x6 n kind hn (by omega) hkd]
  simp only [Option.bind_some]
  rw [spf]
  simp only [Option.bind_some]
  rw [if_pos (by rw [fxd_size]; omega), if_pos (by rw [bsize_append, fxd_size, hs]; omega)]
theorem swl : ∀ (m k : Nat) (x6 x5 : ByteArray) (a : Nat) (first : Bool), x6.size ≤ m → a ≤ 57 → x5.size + 64 * (m + 1) ≤ 1000000000 → 6 * (m + 1) + 720 ≤ k → ∃ out, spec_WriteLog.l0 k a x5 x6 first = some out ∧ nb out = nb x5 ++ wlF (64 - a) first (nb x6) := by
  intro m
  induction m with
  | zero =>
    intro k x6 x5 a first h1 ha h5 hk
    obtain ⟨k, rfl⟩ : ∃ j, k = j + 1 + 1 + 1 := ⟨k - 3, by omega⟩
    have e : wrap64 (64 - (a : Int)) = ((64 - a : Nat) : Int) := by unfold wrap64; omega
    rw [spec_WriteLog.l0, e]
    clear e
    have hl : 7 ≤ 64 - a ∧ 64 - a ≤ 64 := by omega
    generalize 64 - a = left at hl
    have hmin : min (left - 6) x6.size = 0 := by omega
    have hall : (((0 : Nat) : Int) == (x6.size : Int)) = true := by simp; omega
    have hz : nb x6 = [] := List.eq_nil_of_length_eq_zero (by rw [nb_length]; omega)
    have hg : ∀ kind, kind < 256 → ∃ out, spec_WriteLog.j3 (k + 1) x5 x6 ((0 : Nat) : Int) true (kind : Nat) = some out ∧ nb out = nb x5 ++ frag kind (nb x6) := by
      intro kind hkd
      rw [swl_j3 k x6 x5 0 kind true (by omega) (by omega) hkd (by omega) (by omega), if_pos rfl]
      refine ⟨_, rfl, ?_⟩
      rw [nb_append, nb_append, nb_fxd, nb_own x6 0 kind (by omega) (by omega) hkd, hz, List.append_assoc]
      rfl
    rw [if_neg (by omega), wl_min left x6.size hl.1 hl.2, hmin, hall, wlF_last (by rw [nb_length]; omega)]
    cases first
    · rw [if_neg (by decide), spec_WriteLog.j2, if_neg (by decide), if_neg (by decide), if_pos rfl]
      exact hg 4 (by omega)
    · rw [if_pos rfl, spec_WriteLog.j2, if_pos rfl]
      exact hg 1 (by omega)
  | succ m ih =>
    intro k x6 x5 a first h1 ha h5 hk
    obtain ⟨k, rfl⟩ : ∃ j, k = j + 1 + 1 + 1 := ⟨k - 3, by omega⟩
    have e : wrap64 (64 - (a : Int)) = ((64 - a : Nat) : Int) := by unfold wrap64; omega
    rw [spec_WriteLog.l0, e]
    clear e
    have hl : 7 ≤ 64 - a ∧ 64 - a ≤ 64 := by omega
    generalize 64 - a = left at hl
    rw [if_neg (by omega), wl_min left x6.size hl.1 hl.2]
    by_cases hall : x6.size ≤ left - 6
    · have hmin : min (left - 6) x6.size = x6.size := by omega
      have hb : (((x6.size : Nat) : Int) == (x6.size : Int)) = true := by simp
      have hg : ∀ kind, kind < 256 → ∃ out, spec_WriteLog.j3 (k + 1) x5 x6 ((x6.size : Nat) : Int) true (kind : Nat) = some out ∧ nb out = nb x5 ++ frag kind (nb x6) := by
        intro kind hkd
        rw [swl_j3 k x6 x5 x6.size kind true (by omega) (by omega) hkd (by omega) (by omega), if_pos rfl]
        refine ⟨_, rfl, ?_⟩
        rw [nb_append, nb_append, nb_fxd, nb_own x6 x6.size kind (by omega) (by omega) hkd, List.take_of_length_le (by rw [nb_length]; exact Nat.le_refl _), List.append_assoc]
        unfold frag
        rw [nb_length]
      rw [hmin, hb, wlF_last (by rw [nb_length]; omega)]
      cases first
      · rw [if_neg (by decide), spec_WriteLog.j2, if_neg (by decide), if_neg (by decide), if_pos rfl]
        exact hg 4 (by omega)
      · rw [if_pos rfl, spec_WriteLog.j2, if_pos rfl]
        exact hg 1 (by omega)
    · have hmin : min (left - 6) x6.size = left - 6 := by omega
      have hb : (((left - 6 : Nat) : Int) == (x6.size : Int)) = false := by rw [beq_eq_false_iff_ne]; omega
      have hs1 : (x6.extract (left - 6) x6.size).size = x6.size - (left - 6) := by rw [ByteArray.size_extract]; omega
      have hs2 : (x6.extract 0 (left - 6)).size = left - 6 := by rw [ByteArray.size_extract]; omega
      have hg : ∀ kind, kind < 256 → ∃ out, spec_WriteLog.j3 (k + 1) x5 x6 ((left - 6 : Nat) : Int) false (kind : Nat) = some out ∧ nb out = nb x5 ++ (frag kind ((nb x6).take (left - 6)) ++ wlF 64 false ((nb x6).drop (left - 6))) := by
        intro kind hkd
        rw [swl_j3 k x6 x5 (left - 6) kind false (by omega) (by omega) hkd (by omega) (by omega), if_neg (by decide)]
        obtain ⟨out, ho, hn⟩ := ih k (x6.extract (left - 6) x6.size) ((x5 ++ fxd (crcN ((left - 6) :: kind :: (nb x6).take (left - 6)) : Int)) ++ (strOfNums [((left - 6 : Nat) : Int) % 256, (kind : Int)] ++ x6.extract 0 (left - 6))) 0 false (by omega) (by omega)
          (by rw [bsize_append, bsize_append, bsize_append, fxd_size, two_size, hs2]; omega) (by omega)
        refine ⟨out, ho, ?_⟩
        rw [hn, nb_append, nb_append, nb_fxd, nb_own x6 (left - 6) kind (by omega) (by omega) hkd, nb_extract, List.take_of_length_le (i := x6.size) (by rw [nb_length]; exact Nat.le_refl _), List.append_assoc, List.append_assoc]
        congr 1
        unfold frag
        rw [List.length_take, nb_length, Nat.min_eq_left (by omega), List.append_assoc]
      rw [hmin, hb, wlF_more (by rw [nb_length]; omega) hl.1]
      cases first
      · rw [if_neg (by decide), spec_WriteLog.j2, if_neg (by decide), if_neg (by decide), if_neg (by decide)]
        exact hg 3 (by omega)
      · rw [if_pos rfl, spec_WriteLog.j2, if_neg (by decide), if_pos rfl]
        exact hg 2 (by omega)
theorem swlog (k : Nat) (a : Int) (s : ByteArray) (ha : 0 ≤ a) (hs : s.size ≤ 8000) (hk : 60000 ≤ k) : ∃ out, spec_WriteLog.f k a s = some out ∧ nb out = wlN a.toNat (nb s) := by
  obtain ⟨k, rfl⟩ : ∃ j, k = j + 1 + 1 := ⟨k - 2, by omega⟩
  obtain ⟨n, rfl⟩ := Int.eq_ofNat_of_zero_le ha
  unfold spec_WriteLog.f
  rw [if_neg (by omega), show decide ((s.size : Int) > 8000) = false by rw [decide_eq_false_iff_not]; omega, spec_WriteLog.j0, if_neg (by decide)]
  have e : Int.tmod (n : Int) 64 = ((n % 64 : Nat) : Int) := by rw [Int.tmod_eq_emod_of_nonneg (by omega)]; omega
  rw [e, Int.toNat_natCast]
  clear e
  unfold wlN
  have hl : n % 64 < 64 := by omega
  generalize n % 64 = a at hl
  by_cases c : 64 - a ≤ 6
  · rw [if_pos c]
    obtain ⟨out, ho, hn⟩ := swl s.size k s ((⟨#[]⟩ : ByteArray) ++ strOfNums (List.replicate (64 - a) 0)) 0 true (Nat.le_refl _) (by omega) (by rw [bsize_append, zeros_size]; show 0 + _ + _ ≤ _; omega) (by omega)
    have e : wrap64 (64 - (a : Int)) = ((64 - a : Nat) : Int) := by unfold wrap64; omega
    rw [spec_WriteLog.l0, e]
    clear e
    rw [if_pos (by omega), if_pos (by omega), if_pos (by omega), Int.toNat_natCast]
    simp only [Option.bind_some]
    rw [if_pos (by rw [zeros_size]; show 0 + _ ≤ _; omega)]
    refine ⟨out, ho, ?_⟩
    rw [hn, nb_append, nb_zeros, nb_empty]; rfl
  · rw [if_neg c]
    obtain ⟨out, ho, hn⟩ := swl s.size (k + 1) s (⟨#[]⟩ : ByteArray) a true (Nat.le_refl _) (by omega) (by show 0 + _ ≤ _; omega) (by omega)
    refine ⟨out, ho, ?_⟩
    rw [hn, nb_empty]; rfl
theorem swlog_bad (k : Nat) (a : Int) (s : ByteArray) (h : a < 0 ∨ 8000 < s.size) (hk : 1 ≤ k) : spec_WriteLog.f k a s = some (⟨#[]⟩ : ByteArray) := by
  obtain ⟨k, rfl⟩ : ∃ j, k = j + 1 := ⟨k - 1, by omega⟩
  unfold spec_WriteLog.f
  by_cases c : a < 0
  · rw [if_pos c, spec_WriteLog.j0, if_pos rfl]
  · rw [if_neg c, show decide ((s.size : Int) > 8000) = true by rw [decide_eq_true_eq]; omega, spec_WriteLog.j0, if_pos rfl]

/-! ## section drawlog -/
theorem dlog_l0 {l : List Int} (h : isCode l) : ∀ (d k : Nat) (acc : ByteArray) (p : Int), d ≤ 10 → d + 60000 < k → acc.size + 200 * d ≤ 10000 → posOk l p → ∃ t q, spec_l1Rd_log.l0 k acc d l p = some (t, q) ∧ t.size ≤ acc.size + 200 * d ∧ posOk l q := by
  intro d
  induction d with
  | zero =>
    intro k acc p hd hk ha hp
    obtain ⟨k, rfl⟩ : ∃ m, k = m + 1 := ⟨k - 1, by omega⟩
    exact ⟨acc, p, by rw [spec_l1Rd_log.l0, if_neg (by omega)], by omega, hp⟩
  | succ d ih =>
    intro k acc p hd hk ha hp
    obtain ⟨k, rfl⟩ : ∃ m, k = m + 1 := ⟨k - 1, by omega⟩
    rw [spec_l1Rd_log.l0, if_pos (by omega)]
    obtain ⟨s, q, e, hs, hq⟩ := dbytes h hp (most := 9) (k := k) (by omega) (by omega)
    simp only [Int.cast_ofNat_Int] at e
    rw [e]; simp only [Option.bind_some]
    obtain ⟨b, q2, e2, hq2⟩ := donce h hq (n := 3) (by omega)
    rw [e2]; simp only [Option.bind_some]
    have ed : wrap64 (((d + 1 : Nat) : Int) - 1) = (d : Int) := by rw [w64] <;> omega
    rw [ed]
    have fin : ∀ (x : ByteArray) (q3 : Int), x.size ≤ 108 → posOk l q3 → ∃ t, spec_WriteLog.f k (acc.size : Int) x = some t ∧ acc.size + t.size ≤ 9223372036854775807 ∧ ∃ t' q', spec_l1Rd_log.l0 k (acc ++ t) d l q3 = some (t', q') ∧ t'.size ≤ acc.size + 200 * (d + 1) ∧ posOk l q' := by
      intro x q3 hx hq3
      obtain ⟨t, ht, hn⟩ := swlog k (acc.size : Int) x (by omega) (by omega) (by omega)
      have hl := wlN_len (acc.size : Int).toNat (nb x)
      rw [← hn, nb_length, nb_length] at hl
      obtain ⟨t', q', e', hs', hq'⟩ := ih k (acc ++ t) q3 (by omega) (by omega) (by rw [bsize_append]; omega) hq3
      rw [bsize_append] at hs'
      exact ⟨t, ht, by omega, t', q', e', by omega, hq'⟩
    by_cases c : b = true
    · rw [if_pos c]
      obtain ⟨v, q3, e3, v0, v1, hq3⟩ := dbelow h hq2 (n := 60) (by omega)
      rw [e3]; simp only [Option.bind_some]
      have ev : wrap64 (40 + v) = 40 + v := by rw [w64] <;> omega
      rw [ev, if_pos (by omega), if_pos (by omega)]
      have hz : (strOfNums (List.replicate (40 + v).toNat 0)).size = (40 + v).toNat := zeros_size _
      rw [hz, if_pos (by omega)]
      obtain ⟨t, ht, hb, t', q', e', hs', hq'⟩ := fin (s ++ strOfNums (List.replicate (40 + v).toNat 0)) q3 (by rw [bsize_append, hz]; omega) hq3
      rw [ht]; simp only [Option.bind_some]
      rw [if_pos hb]
      exact ⟨t', q', e', hs', hq'⟩
    · rw [if_neg c]
      obtain ⟨t, ht, hb, t', q', e', hs', hq'⟩ := fin s q2 (by omega) hq2
      rw [ht]; simp only [Option.bind_some]
      rw [if_pos hb]
      exact ⟨t', q', e', hs', hq'⟩
theorem dlog {l : List Int} (h : isCode l) {p : Int} (hp : posOk l p) {k : Nat} (hk : 60100 ≤ k) : ∃ t q, spec_l1Rd_log.f k l p = some (t, q) ∧ t.size ≤ 1000 ∧ posOk l q := by
  unfold spec_l1Rd_log.f
  obtain ⟨v, q, e, v0, v1, hq⟩ := dbelow h hp (n := 5) (by omega)
  rw [e]; simp only [Option.bind_some]
  obtain ⟨n, rfl⟩ := Int.eq_ofNat_of_zero_le v0
  obtain ⟨t, q', e', hs, hq'⟩ := dlog_l0 h n k ⟨#[]⟩ q (by omega) (by omega) (by rw [show (⟨#[]⟩ : ByteArray).size = 0 from rfl]; omega) hq
  exact ⟨t, q', e', by have : (⟨#[]⟩ : ByteArray).size = 0 := rfl
                       omega, hq'⟩
theorem drawlog {l : List Int} (h : isCode l) {k : Nat} (hk : 60100 ≤ k) : ∃ t, spec_DrawReadLog.f k l = some t ∧ t.size ≤ 1100 := by
  unfold spec_DrawReadLog.f spec_l1Open.f
  simp only [Option.bind_some]
  obtain ⟨t, q, e, ht, hq⟩ := dlog h (posOk0 l) hk
  rw [e]; simp only [Option.bind_some]
  obtain ⟨c, q2, e2, c0, c1, hq2⟩ := dbelow h hq (n := 5) (by omega)
  rw [e2]; simp only [Option.bind_some]
  by_cases h0 : c = 0
  · rw [if_pos h0]
    have ew : wrap64 ((t.size : Int) + 1) = (t.size : Int) + 1 := by rw [w64] <;> omega
    rw [ew]
    obtain ⟨v, q3, e3, v0, v1, hq3⟩ := dbelow h hq2 (n := (t.size : Int) + 1) (by omega)
    rw [e3]; simp only [Option.bind_some]
    rw [if_pos v0, if_pos (by omega)]
    exact ⟨_, rfl, by rw [ByteArray.size_extract]; omega⟩
  · rw [if_neg h0]
    by_cases h1 : c = 1
    · rw [if_pos h1]
      obtain ⟨s, q3, e3, hs, hq3⟩ := dbytes h hq2 (most := 9) (k := k) (by omega) (by omega)
      simp only [Int.cast_ofNat_Int] at e3
      rw [e3]; simp only [Option.bind_some]
      rw [if_pos (by omega)]
      exact ⟨_, rfl, by rw [bsize_append]; omega⟩
    · rw [if_neg h1]
      by_cases h2 : c = 2
      · rw [if_pos h2]
        by_cases hz : (t.size : Int) > 0
        · rw [if_pos hz]
          obtain ⟨v, q3, e3, v0, v1, hq3⟩ := dbelow h hq2 (n := (t.size : Int)) (by omega)
          rw [e3]; simp only [Option.bind_some]
          rw [if_pos v0, if_pos (by omega)]
          obtain ⟨s, q4, e4, hs, hq4⟩ := dbytes h hq3 (most := 1) (k := k) (by omega) (by omega)
          simp only [Int.cast_ofNat_Int] at e4
          rw [e4]; simp only [Option.bind_some]
          have ev : wrap64 (v + 1) = v + 1 := by rw [w64] <;> omega
          rw [ev]
          clear ev
          have s1 : (t.extract 0 v.toNat).size ≤ t.size := by rw [ByteArray.size_extract]; omega
          have s2 : (t.extract (v + 1).toNat t.size).size ≤ t.size - (v + 1).toNat := by rw [ByteArray.size_extract]; omega
          have s3 : (t.extract 0 v.toNat).size ≤ v.toNat := by rw [ByteArray.size_extract]; omega
          rw [if_pos (by omega), if_pos (by omega), if_pos (by omega), if_pos (by rw [bsize_append]; omega)]
          exact ⟨_, rfl, by rw [bsize_append, bsize_append]; omega⟩
        · rw [if_neg hz]; exact ⟨t, rfl, by omega⟩
      · rw [if_neg h2]; exact ⟨t, rfl, by omega⟩

/-! ## section takefixedspec -/
theorem stf (s : ByteArray) : spec_TakeFixed.f s = some (tfR s) := by
  unfold spec_TakeFixed.f tfR
  by_cases h : s.size < 4
  · rw [if_pos (by omega), if_pos h]
  · rw [if_neg (by omega), if_neg h, if_pos (by omega), if_pos (by omega), if_pos (by omega), if_pos (by omega), if_pos (by omega), tf_val]

/-! ## section rlspec -/
theorem srl_j4 (k : Nat) (d : ByteArray) (out : List ByteArray) (good : Int) (at_ : Nat) (part : ByteArray) (size : Nat) (last : Bool)
    (ha : at_ + 6 + size ≤ d.size) (hd : d.size ≤ 1048576) (hp : part.size ≤ 8000) (ho : out.length < 500) :
    spec_ReadLog.j4 (k + 1) d out good at_ part size last false = if part.size + size > 8000 then some (out, good) else if last = true then spec_ReadLog.l0 k d (out ++ [part ++ d.extract (at_ + 6) (at_ + 6 + size)]) ((at_ + 6 + size : Nat) : Int) ((at_ + 6 + size : Nat) : Int) false ⟨#[]⟩ else spec_ReadLog.l0 k d out good ((at_ + 6 + size : Nat) : Int) true (part ++ d.extract (at_ + 6) (at_ + 6 + size)) := by
  have e6 : wrap64 ((at_ : Int) + 6) = ((at_ + 6 : Nat) : Int) := wad at_ 6 (by omega)
  have es : wrap64 (((at_ + 6 : Nat) : Int) + (size : Int)) = ((at_ + 6 + size : Nat) : Int) := wad _ _ (by omega)
  have hx : (d.extract (at_ + 6) (at_ + 6 + size)).size = size := by rw [ByteArray.size_extract]; omega
  rw [spec_ReadLog.j4, if_neg (by decide), e6, es, Int.toNat_natCast, Int.toNat_natCast, bsize_append, hx]
  clear e6 es
  rw [if_pos (by omega), if_pos (by omega), if_pos (by omega), if_pos (by omega)]
  by_cases c : part.size + size > 8000
  · rw [if_pos (by omega), if_pos c]
  · rw [if_neg (by omega), if_neg c]
    cases last
    · rw [if_neg (by decide), if_neg (by decide)]; rfl
    · rw [if_pos rfl, if_pos rfl, if_pos (by omega)]; rfl
theorem srl_j4' (k : Nat) (d : ByteArray) (out : List ByteArray) (good at_ : Int) (part : ByteArray) (size : Int) (last : Bool) : spec_ReadLog.j4 (k + 1) d out good at_ part size last true = some (out, good) := by
  rw [spec_ReadLog.j4, if_pos rfl]
theorem srl_j1 (k : Nat) (d : ByteArray) (out : List ByteArray) (good : Int) (at_ : Nat) (o : Bool) (part : ByteArray) (left size kind : Nat)
    (h7 : 7 ≤ left) (h64 : left ≤ 64) (hs : size + 6 ≤ left) (ha : at_ + 6 + size ≤ d.size) (hd : d.size ≤ 1048576) (hp : part.size ≤ 8000) (ho : out.length < 500) :
    spec_ReadLog.j1 (k + 1 + 1 + 1 + 1) d out good at_ o part left size kind false = if kok left size kind o = true then
      if part.size + size > 8000 then some (out, good) else if kind = 1 ∨ kind = 4 then spec_ReadLog.l0 k d (out ++ [part ++ d.extract (at_ + 6) (at_ + 6 + size)]) ((at_ + 6 + size : Nat) : Int) ((at_ + 6 + size : Nat) : Int) false ⟨#[]⟩ else spec_ReadLog.l0 k d out good ((at_ + 6 + size : Nat) : Int) true (part ++ d.extract (at_ + 6) (at_ + 6 + size))
    else some (out, good) := by
  have h4 := srl_j4 k d out good at_ part size
  have e : ((size : Int) < ((left - 6 : Nat) : Int)) ↔ size + 6 ≠ left := by omega
  rw [spec_ReadLog.j1, if_neg (by decide)]
  rcases (by omega : kind = 0 ∨ kind = 1 ∨ kind = 2 ∨ kind = 3 ∨ kind = 4 ∨ 5 ≤ kind) with rfl | rfl | rfl | rfl | rfl | h5
  · simp [spec_ReadLog.j2, spec_ReadLog.j3, srl_j4', kok]
  · cases o
    · simp [spec_ReadLog.j2, spec_ReadLog.j3, kok, h4 true ha hd hp ho]
    · simp [spec_ReadLog.j2, spec_ReadLog.j3, srl_j4', kok]
  · cases o
    · by_cases c : size + 6 = left
      · have c' : ¬ ((size : Int) < ((left - 6 : Nat) : Int)) := fun x => e.1 x c
        simp [spec_ReadLog.j2, spec_ReadLog.j3, kok, wsub6 left h7 h64, c', h4 false ha hd hp ho, c]
      · have c' := e.2 c
        simp [spec_ReadLog.j2, spec_ReadLog.j3, kok, wsub6 left h7 h64, c', srl_j4', c]
    · simp [spec_ReadLog.j2, spec_ReadLog.j3, srl_j4', kok]
  · cases o
    · simp [spec_ReadLog.j2, spec_ReadLog.j3, srl_j4', kok]
    · by_cases c : size + 6 = left
      · have c' : ¬ ((size : Int) < ((left - 6 : Nat) : Int)) := fun x => e.1 x c
        simp [spec_ReadLog.j2, spec_ReadLog.j3, kok, wsub6 left h7 h64, c', h4 false ha hd hp ho, c]
      · have c' := e.2 c
        simp [spec_ReadLog.j2, spec_ReadLog.j3, kok, wsub6 left h7 h64, c', srl_j4', c]
  · cases o
    · simp [spec_ReadLog.j2, spec_ReadLog.j3, srl_j4', kok]
    · by_cases c : size = 0
      · subst c; simp [spec_ReadLog.j2, spec_ReadLog.j3, kok, srl_j4']
      · have c' : ((size : Int) == 0) = false := by rw [beq_eq_false_iff_ne]; omega
        simp [spec_ReadLog.j2, spec_ReadLog.j3, kok, c, c', h4 true ha hd hp ho]
  · have a1 : ¬ ((kind : Int) = 1) := by omega
    have a2 : ¬ ((kind : Int) = 2) := by omega
    have a4 : ¬ ((kind : Int) = 4) := by omega
    have a5 : (kind : Int) > 4 := by omega
    have a6 : ¬ ((kind : Int) < 1) := by omega
    have a7 : kok left size kind o = false := by
      have b1 : kind ≠ 1 := by omega
      have b2 : kind ≠ 2 := by omega
      have b3 : kind ≠ 3 := by omega
      have b4 : kind ≠ 4 := by omega
      simp [kok, b1, b2, b3, b4]
    rw [if_neg a1, spec_ReadLog.j2, if_neg a1, spec_ReadLog.j3, if_neg a6, if_pos a5, srl_j4', a7]; rfl
theorem srl : ∀ (n k : Nat) (d : ByteArray) (out : List ByteArray) (good at_ : Nat) (o : Bool) (part : ByteArray), at_ ≤ d.size → d.size - at_ < n → 10 * n + 700 ≤ k → d.size ≤ 1048576 → part.size ≤ 8000 → spec_ReadLog.l0 k d out good at_ o part = some (rl n d out good at_ o part) := by
  intro n
  induction n with
  | zero => intro k d out good at_ o part h1 h2; omega
  | succ n ih =>
    intro k d out good at_ o part h1 h2 hk hd hp
    obtain ⟨k, rfl⟩ : ∃ j, k = j + 1 + 1 + 1 + 1 + 1 := ⟨k - 5, by omega⟩
    rw [spec_ReadLog.l0, rl]
    by_cases ho : out.length < 500
    · rw [if_pos (by omega), if_pos ho, rl_left]
      have hl : 64 - at_ % 64 ≤ 64 ∧ 1 ≤ 64 - at_ % 64 := by omega
      generalize 64 - at_ % 64 = left at hl
      by_cases c : left ≤ 6
      · rw [if_pos (by omega), if_pos c, wad at_ left (by omega)]
        by_cases c2 : at_ + left > d.size
        · rw [if_pos (by omega), if_neg]
          intro e
          have := congrArg List.length e
          rw [List.length_take, List.length_drop, nb_length, List.length_replicate] at this
          omega
        · rw [if_neg (by omega), if_pos (by omega), if_pos (by omega), if_pos (by omega), if_pos (by omega), if_pos (by omega), Int.toNat_natCast, Int.toNat_natCast, Int.toNat_natCast]
          have e : ((d.extract at_ (at_ + left)).toList = (strOfNums (List.replicate left 0)).toList) ↔ ((nb d).drop at_).take left = List.replicate left 0 := by
            rw [toList_nb, nb_extract, nb_zeros, List.drop_take, Nat.add_sub_cancel_left]
          by_cases c3 : ((nb d).drop at_).take left = List.replicate left 0
          · rw [if_pos (e.2 c3), if_pos c3]
            exact ih _ d out good _ o part (by omega) (by omega) (by omega) hd hp
          · rw [if_neg (fun x => c3 (e.1 x)), if_neg c3]
      · have e6 : wrap64 ((at_ : Int) + 6) = ((at_ + 6 : Nat) : Int) := wad at_ 6 (by omega)
        rw [if_neg (by omega), if_neg c, e6]
        clear e6
        by_cases c2 : at_ + 6 > d.size
        · rw [if_pos (by omega), if_neg]
          unfold fok; rw [decide_eq_false (by omega)]; simp
        · have e4 : wrap64 ((at_ : Int) + 4) = ((at_ + 4 : Nat) : Int) := wad at_ 4 (by omega)
          have e5 : wrap64 ((at_ : Int) + 5) = ((at_ + 5 : Nat) : Int) := wad at_ 5 (by omega)
          rw [if_neg (by omega), e4, e5]
          clear e4 e5
          rw [if_pos (by omega), if_pos (by omega), if_pos (by omega), stf]
          simp only [Option.bind_some]
          rw [if_pos (by omega), if_pos (by omega), if_pos (by omega), if_pos (by omega), wbt, Int.toNat_natCast, Int.toNat_natCast, bt_getD, wsub6 left (by omega) (by omega)]
          unfold fok
          have hsz := getD_lt (nb d) (nb_lt d) (at_ + 4)
          generalize (nb d).getD (at_ + 4) 0 = size at hsz
          generalize (nb d).getD (at_ + 5) 0 = kind
          rw [decide_eq_true (by omega : at_ + 6 ≤ d.size), Bool.true_and]
          by_cases c3 : size + 6 ≤ left
          · rw [if_neg (by omega), wad (at_ + 6) size (by omega), decide_eq_true c3, Bool.true_and]
            by_cases c4 : at_ + 6 + size ≤ d.size
            · rw [if_neg (by omega), if_pos (by omega), if_pos (by omega), Int.toNat_natCast, scrc _ (by rw [ByteArray.size_extract]; omega) _ (by rw [ByteArray.size_extract]; omega), decide_eq_true c4, Bool.true_and]
              simp only [Option.bind_some]
              have et : (tfR (d.extract at_ (at_ + 4))).1 = (tfN (d.extract at_ (at_ + 4)) : Int) := by
                unfold tfR; rw [if_neg (by rw [ByteArray.size_extract]; omega)]
              rw [et]
              by_cases c5 : crcN (nb (d.extract (at_ + 4) (at_ + 6 + size))) = tfN (d.extract at_ (at_ + 4))
              · rw [decide_eq_true c5, if_pos rfl, show (((crcN (nb (d.extract (at_ + 4) (at_ + 6 + size))) : Nat) : Int) != ((tfN (d.extract at_ (at_ + 4)) : Nat) : Int)) = false by rw [c5]; exact bne_self_eq_false ..]
                rw [srl_j1 k d out good at_ o part left size kind (by omega) (by omega) (by omega) c4 hd hp ho]
                by_cases c6 : kok left size kind o = true
                · rw [if_pos c6, if_pos c6]
                  by_cases c7 : part.size + size > 8000
                  · rw [if_pos c7, if_pos c7]
                  · rw [if_neg c7, if_neg c7]
                    by_cases c8 : kind = 1 ∨ kind = 4
                    · rw [if_pos c8, if_pos c8]
                      exact ih k d _ _ _ false _ (by omega) (by omega) (by omega) hd (by show 0 ≤ 8000; omega)
                    · rw [if_neg c8, if_neg c8]
                      exact ih k d _ _ _ true _ (by omega) (by omega) (by omega) hd (by rw [bsize_append, ByteArray.size_extract]; omega)
                · rw [if_neg c6, if_neg c6]
              · rw [decide_eq_false c5, if_neg (by decide), show (((crcN (nb (d.extract (at_ + 4) (at_ + 6 + size))) : Nat) : Int) != ((tfN (d.extract at_ (at_ + 4)) : Nat) : Int)) = true by rw [bne_iff_ne]; omega, spec_ReadLog.j1, if_pos rfl]
            · rw [if_pos (by omega), decide_eq_false c4, spec_ReadLog.j1, if_pos rfl]; rfl
          · rw [if_pos (by omega), decide_eq_false c3, spec_ReadLog.j1, if_pos rfl]; rfl
    · rw [if_neg (by omega), if_neg ho]

/-! ## section rlimpl -/
theorem irl_pad (d : ByteArray) (out : List ByteArray) (good : Int) (part : ByteArray) (o : Bool) (left : Nat) (hd : d.size ≤ 1048576) (hl : left ≤ 6) : ∀ (c k at_ : Nat), c ≤ left → at_ ≤ d.size →
    impl_ReadLog.l1 (k + c + 1) d out good part o at_ left ((left - c : Nat) : Int) = if ((nb d).drop at_).take c = List.replicate c 0 then impl_ReadLog.l0 k d out good part o ((at_ + c : Nat) : Int) else some (out, good) := by
  intro c
  induction c with
  | zero =>
    intro k at_ h1 h2
    rw [impl_ReadLog.l1, if_neg (by omega), if_pos (by simp)]
    simp
  | succ c ih =>
    intro k at_ h1 h2
    rw [show k + (c + 1) + 1 = k + c + 1 + 1 by omega, impl_ReadLog.l1, if_pos (by omega)]
    by_cases e : at_ ≥ d.size
    · rw [if_pos (by omega), if_neg]
      intro x
      have := congrArg List.length x
      rw [List.length_take, List.length_drop, nb_length, List.length_replicate] at this
      omega
    · rw [if_neg (by omega), if_pos (by omega), if_pos (by omega)]
      obtain ⟨b, hb, hbt, hlt⟩ := nb_drop d at_ (by omega)
      rw [hbt, hb, List.take_succ_cons, List.replicate_succ]
      by_cases z : b = 0
      · have ea : wrap64 ((at_ : Int) + 1) = ((at_ + 1 : Nat) : Int) := wad at_ 1 (by omega)
        have el : wrap64 (((left - (c + 1) : Nat) : Int) + 1) = ((left - c : Nat) : Int) := by rw [w64] <;> omega
        rw [if_pos (by omega), ea, el, ih k (at_ + 1) (by omega) (by omega), z]
        clear ea el
        by_cases y : ((nb d).drop (at_ + 1)).take c = List.replicate c 0
        · rw [if_pos y, if_pos (by rw [y]), show at_ + 1 + c = at_ + (c + 1) by omega]
        · rw [if_neg y, if_neg (by intro x; exact y (List.cons.inj x).2)]
      · rw [if_neg (by omega), if_neg (by intro x; exact z (List.cons.inj x).1)]
theorem irl_j4 (k : Nat) (d : ByteArray) (out : List ByteArray) (good : Int) (at_ : Nat) (part : ByteArray) (size : Nat) (more : Bool)
    (ha : at_ + 6 + size ≤ d.size) (hd : d.size ≤ 1048576) (hp : part.size ≤ 8000) (ho : out.length < 500) :
    impl_ReadLog.j4 (k + 1) d out good part at_ size more (decide (wrap64 ((part.size : Int) + (size : Int)) > 8000)) = if part.size + size > 8000 then some (out, good) else if more = true then impl_ReadLog.l0 k d out good (part ++ d.extract (at_ + 6) (at_ + 6 + size)) true ((at_ + 6 + size : Nat) : Int) else impl_ReadLog.l0 k d (out ++ [part ++ d.extract (at_ + 6) (at_ + 6 + size)]) ((at_ + 6 + size : Nat) : Int) ⟨#[]⟩ false ((at_ + 6 + size : Nat) : Int) := by
  have e6 : wrap64 ((at_ : Int) + 6) = ((at_ + 6 : Nat) : Int) := wad at_ 6 (by omega)
  have es : wrap64 (((at_ + 6 : Nat) : Int) + (size : Int)) = ((at_ + 6 + size : Nat) : Int) := wad _ _ (by omega)
  have et : wrap64 ((at_ : Int) + wrap64 (6 + (size : Int))) = ((at_ + 6 + size : Nat) : Int) := by
    rw [show wrap64 (6 + (size : Int)) = ((6 + size : Nat) : Int) from wad 6 size (by omega), wad at_ (6 + size) (by omega), Nat.add_assoc]
  have hx : (d.extract (at_ + 6) (at_ + 6 + size)).size = size := by rw [ByteArray.size_extract]; omega
  have ep : wrap64 ((part.size : Int) + (size : Int)) = ((part.size + size : Nat) : Int) := wad _ _ (by omega)
  rw [ep, impl_ReadLog.j4, e6, es, et, Int.toNat_natCast, Int.toNat_natCast, hx]
  clear ep e6 es et
  by_cases c : part.size + size > 8000
  · rw [if_pos (decide_eq_true (by omega)), if_pos c]
  · rw [if_neg (by rw [decide_eq_true_eq]; omega), if_neg c, if_pos (by omega), if_pos (by omega), if_pos (by omega), if_pos (by omega)]
    cases more
    · rw [if_neg (by decide), if_pos (by omega), if_neg (by decide)]
    · rw [if_pos rfl, if_pos rfl]
theorem irl_j4' (k : Nat) (d : ByteArray) (out : List ByteArray) (good at_ : Int) (part : ByteArray) (size : Int) (more : Bool) : impl_ReadLog.j4 (k + 1) d out good part at_ size more true = some (out, good) := by
  rw [impl_ReadLog.j4, if_pos rfl]
theorem irl_j2 (k : Nat) (d : ByteArray) (out : List ByteArray) (good : Int) (at_ : Nat) (o : Bool) (part : ByteArray) (left size kind : Nat)
    (h7 : 7 ≤ left) (h64 : left ≤ 64) (hs : size + 6 ≤ left) (ha : at_ + 6 + size ≤ d.size) (hd : d.size ≤ 1048576) (hp : part.size ≤ 8000) (ho : out.length < 500) (h1 : 1 ≤ kind) (h4 : kind ≤ 4) :
    impl_ReadLog.j2 (k + 1 + 1 + 1) d out good part o at_ left size kind false = if kok left size kind o = true then
      if part.size + size > 8000 then some (out, good) else if kind = 1 ∨ kind = 4 then impl_ReadLog.l0 k d (out ++ [part ++ d.extract (at_ + 6) (at_ + 6 + size)]) ((at_ + 6 + size : Nat) : Int) ⟨#[]⟩ false ((at_ + 6 + size : Nat) : Int) else impl_ReadLog.l0 k d out good (part ++ d.extract (at_ + 6) (at_ + 6 + size)) true ((at_ + 6 + size : Nat) : Int)
    else some (out, good) := by
  have j4 := irl_j4 k d out good at_ part size
  have e6' : wrap64 (6 + (size : Int)) = 6 + (size : Int) := by rw [w64] <;> omega
  have c1 : size + 6 = left → 6 + (size : Int) = (left : Int) := by omega
  have c2 : ¬ size + 6 = left → ¬ 6 + (size : Int) = (left : Int) := by omega
  generalize hq : decide (wrap64 ((part.size : Int) + (size : Int)) > 8000) = q at j4
  rcases (by omega : kind = 1 ∨ kind = 2 ∨ kind = 3 ∨ kind = 4) with rfl | rfl | rfl | rfl
  · cases o
    · refine Eq.trans (b := impl_ReadLog.j4 (k + 1) d out good part at_ size false q) ?_ (Eq.trans (j4 false ha hd hp ho) ?_)
      · simp only [impl_ReadLog.j2, impl_ReadLog.j3, hq]; simp
      · simp [kok]
    · simp [impl_ReadLog.j2, impl_ReadLog.j3, irl_j4', kok]
  · cases o
    · by_cases c : size + 6 = left
      · refine Eq.trans (b := impl_ReadLog.j4 (k + 1) d out good part at_ size true q) ?_ (Eq.trans (j4 true ha hd hp ho) ?_)
        · simp only [impl_ReadLog.j2, impl_ReadLog.j3, hq, e6']; simp [c1 c]
        · simp [kok, c]
      · refine Eq.trans (b := impl_ReadLog.j4 (k + 1) d out good part at_ size true true) ?_ (Eq.trans (irl_j4' ..) ?_)
        · simp only [impl_ReadLog.j2, impl_ReadLog.j3, hq, e6']; simp [c2 c]
        · simp [kok, c]
    · simp [impl_ReadLog.j2, impl_ReadLog.j3, irl_j4', kok]
  · cases o
    · simp [impl_ReadLog.j2, impl_ReadLog.j3, irl_j4', kok]
    · by_cases c : size + 6 = left
      · refine Eq.trans (b := impl_ReadLog.j4 (k + 1) d out good part at_ size true q) ?_ (Eq.trans (j4 true ha hd hp ho) ?_)
        · simp only [impl_ReadLog.j2, impl_ReadLog.j3, hq, e6']; simp [c1 c]
        · simp [kok, c]
      · refine Eq.trans (b := impl_ReadLog.j4 (k + 1) d out good part at_ size true true) ?_ (Eq.trans (irl_j4' ..) ?_)
        · simp only [impl_ReadLog.j2, impl_ReadLog.j3, hq, e6']; simp [c2 c]
        · simp [kok, c]
  · cases o
    · simp [impl_ReadLog.j2, impl_ReadLog.j3, irl_j4', kok]
    · by_cases c : size = 0
      · refine Eq.trans (b := impl_ReadLog.j4 (k + 1) d out good part at_ size false true) ?_ (Eq.trans (irl_j4' ..) ?_)
        · simp only [impl_ReadLog.j2, impl_ReadLog.j3, hq, e6']; simp [c]
        · simp [kok, c]
      · refine Eq.trans (b := impl_ReadLog.j4 (k + 1) d out good part at_ size false q) ?_ (Eq.trans (j4 false ha hd hp ho) ?_)
        · simp only [impl_ReadLog.j2, impl_ReadLog.j3, hq, e6']; simp [c]
        · simp [kok, c]
theorem irl : ∀ (n k : Nat) (d : ByteArray) (out : List ByteArray) (good at_ : Nat) (o : Bool) (part : ByteArray), at_ ≤ d.size → d.size - at_ < n → 10 * n + 700 ≤ k → d.size ≤ 1048576 → part.size ≤ 8000 → impl_ReadLog.l0 k d out good part o at_ = some (rl n d out good at_ o part) := by
  intro n
  induction n with
  | zero => intro k d out good at_ o part h1 h2; omega
  | succ n ih =>
    intro k d out good at_ o part h1 h2 hk hd hp
    obtain ⟨k, rfl⟩ : ∃ j, k = j + 1 + 1 + 1 + 1 := ⟨k - 4, by omega⟩
    rw [impl_ReadLog.l0, rl]
    by_cases ho : out.length < 500
    · rw [if_pos (by omega), if_pos ho, rl_left]
      have hl : 64 - at_ % 64 ≤ 64 ∧ 1 ≤ 64 - at_ % 64 := by omega
      generalize 64 - at_ % 64 = left at hl
      by_cases c : left ≤ 6
      · rw [if_pos (by omega), if_pos c]
        have hp' := irl_pad d out good part o left hd c left (k + 3 - left - 1) at_ (by omega) h1
        rw [show k + 3 - left - 1 + left + 1 = k + 1 + 1 + 1 by omega, Nat.sub_self] at hp'
        refine Eq.trans hp' ?_
        by_cases c3 : ((nb d).drop at_).take left = List.replicate left 0
        · rw [if_pos c3, if_pos c3]
          have hle : at_ + left ≤ d.size := by
            have := congrArg List.length c3
            rw [List.length_take, List.length_drop, nb_length, List.length_replicate] at this
            omega
          exact ih _ d out good _ o part hle (by omega) (by omega) hd hp
        · rw [if_neg c3, if_neg c3]
      · have e6 : wrap64 ((at_ : Int) + 6) = ((at_ + 6 : Nat) : Int) := wad at_ 6 (by omega)
        rw [if_neg (by omega), if_neg c, e6]
        clear e6
        by_cases c2 : at_ + 6 > d.size
        · rw [if_pos (by omega), if_neg]
          unfold fok; rw [decide_eq_false (by omega)]; simp
        · have e4 : wrap64 ((at_ : Int) + 4) = ((at_ + 4 : Nat) : Int) := wad at_ 4 (by omega)
          have e5 : wrap64 ((at_ : Int) + 5) = ((at_ + 5 : Nat) : Int) := wad at_ 5 (by omega)
          rw [if_neg (by omega), e4, e5]
          clear e4 e5
          rw [if_pos (by omega), if_pos (by omega), itf]
          simp only [Option.bind_some]
          rw [if_pos (by omega), if_pos (by omega), if_pos (by omega), if_pos (by omega), wbt, Int.toNat_natCast, Int.toNat_natCast, bt_getD]
          unfold fok
          have hsz := getD_lt (nb d) (nb_lt d) (at_ + 4)
          generalize (nb d).getD (at_ + 4) 0 = size at hsz
          generalize (nb d).getD (at_ + 5) 0 = kind
          rw [decide_eq_true (by omega : at_ + 6 ≤ d.size), Bool.true_and, show wrap64 (6 + (size : Int)) = ((6 + size : Nat) : Int) from wad 6 size (by omega)]
          by_cases c3 : size + 6 ≤ left
          · rw [if_neg (by omega), wad (at_ + 6) size (by omega), decide_eq_true c3, Bool.true_and]
            by_cases c4 : at_ + 6 + size ≤ d.size
            · rw [if_neg (by omega), if_pos (by omega), if_pos (by omega), Int.toNat_natCast, icrc _ (by rw [ByteArray.size_extract]; omega) _ (by rw [ByteArray.size_extract]; omega), decide_eq_true c4, Bool.true_and]
              simp only [Option.bind_some]
              have et : (tfR (d.extract at_ d.size)).1 = (tfN (d.extract at_ (at_ + 4)) : Int) := by
                unfold tfR; rw [if_neg (by rw [ByteArray.size_extract]; omega), tfN_cut _ _ _ (by omega)]
              rw [et]
              by_cases c5 : crcN (nb (d.extract (at_ + 4) (at_ + 6 + size))) = tfN (d.extract at_ (at_ + 4))
              · rw [decide_eq_true c5, if_pos rfl, c5, if_pos rfl]
                by_cases k1 : kind < 1
                · rw [if_pos (by omega), impl_ReadLog.j2, if_pos rfl, if_neg]
                  have : kind = 0 := by omega
                  subst this; simp [kok]
                · rw [if_neg (by omega)]
                  by_cases k4 : kind > 4
                  · rw [decide_eq_true (by omega : (kind : Int) > 4), impl_ReadLog.j2, if_pos rfl, if_neg]
                    have b1 : kind ≠ 1 := by omega
                    have b2 : kind ≠ 2 := by omega
                    have b3 : kind ≠ 3 := by omega
                    have b4 : kind ≠ 4 := by omega
                    simp [kok, b1, b2, b3, b4]
                  · rw [decide_eq_false (by omega : ¬ (kind : Int) > 4)]
                    rw [irl_j2 k d out good at_ o part left size kind (by omega) (by omega) (by omega) c4 hd hp ho (by omega) (by omega)]
                    by_cases c6 : kok left size kind o = true
                    · rw [if_pos c6, if_pos c6]
                      by_cases c7 : part.size + size > 8000
                      · rw [if_pos c7, if_pos c7]
                      · rw [if_neg c7, if_neg c7]
                        by_cases c8 : kind = 1 ∨ kind = 4
                        · rw [if_pos c8, if_pos c8]
                          exact ih k d _ _ _ false _ (by omega) (by omega) (by omega) hd (by show 0 ≤ 8000; omega)
                        · rw [if_neg c8, if_neg c8]
                          exact ih k d _ _ _ true _ (by omega) (by omega) (by omega) hd (by rw [bsize_append, ByteArray.size_extract]; omega)
                    · rw [if_neg c6, if_neg c6]
              · rw [decide_eq_false c5, if_neg (by omega), if_neg (by decide), impl_ReadLog.j2, if_pos rfl]
            · rw [if_pos (by omega), decide_eq_false c4, impl_ReadLog.j2, if_pos rfl]; rfl
          · rw [if_pos (by omega), decide_eq_false c3, impl_ReadLog.j2, if_pos rfl]; rfl
    · rw [if_neg (by omega), if_neg ho]

theorem hurt_bit (n : Nat) (hn : n ≤ 1048576) : Int.tmod (wrap64 ((n : Int) / 7)) 8 = ((n / 7 % 8 : Nat) : Int) := by
  rw [w64 (by omega) (by omega), Int.tmod_eq_emod_of_nonneg (by omega)]; omega
theorem hurt_w (n : Nat) : (0 : Int) ≤ IntKind.u64.wrap (n : Int) := by rw [u64w]; omega
theorem hurt_l0 (l : List Int) (hl : l.length ≤ 1048576) (D E : ByteArray) (hD : D.size ≤ 20000) (recs : List ByteArray) (hrl : recs.length ≤ 500) (p c : Nat) (h : hurtAt D E p c)
    (hE : strOfNums ((bytesOf D).set p (Go.bits .xor .u8 (rd (bytesOf D) (p : Int)) (shl .u8 1 (IntKind.u64.wrap ((l.length / 7 % 8 : Nat) : Int))))) = E)
    (X : List ByteArray × Int) (hread : ∀ k, 300000 ≤ k → impl_ReadLog.f k E = some X) : ∀ (n k : Nat) (out : List ByteArray) (good at_ : Nat) (o : Bool) (part : ByteArray),
    rl n D out good at_ o part = (recs, (D.size : Int)) → X = rl n E out good at_ o part → good ≤ at_ → at_ ≤ p → 300000 + n < k → laws_FnLogHurt.l0 k l D recs p at_ = some true := by
  have hpD := h.2.1
  replace hE := Aside0.mk hE
  intro n
  induction n with
  | zero =>
    intro k out good at_ o part h1 h2 hg ha hk
    have h3 := congrArg Prod.snd h1
    simp only [rl] at h3
    omega
  | succ n ih =>
    intro k out good at_ o part h1 h2 hg ha hk
    obtain ⟨k, rfl⟩ : ∃ m, k = m + 1 := ⟨k - 1, by omega⟩
    have hall := h1
    have hallE := h2
    have stop : ¬ ((out, (good : Int)) = (recs, (D.size : Int))) := by
      intro x
      have h3 := congrArg Prod.snd x
      simp only at h3
      omega
    rw [rl] at h1
    rw [rl] at h2
    by_cases ho : out.length < 500
    · rw [if_pos ho] at h1 h2
      rw [laws_FnLogHurt.l0, rl_left]
      by_cases c1 : 64 - at_ % 64 ≤ 6
      · rw [if_pos c1] at h1 h2
        rw [if_pos (by omega), wad at_ _ (by omega)]
        by_cases c3 : ((nb D).drop at_).take (64 - at_ % 64) = List.replicate (64 - at_ % 64) 0
        · rw [if_pos c3] at h1
          by_cases cp : p < at_ + (64 - at_ % 64)
          · rw [if_pos (by omega)]
          · rw [if_neg (by omega)]
            have e3 : ((nb E).drop at_).take (64 - at_ % 64) = List.replicate (64 - at_ % 64) 0 := by
              have := congrArg nb (hurt_same h at_ (at_ + (64 - at_ % 64)) (by omega))
              rw [nb_extract, nb_extract, List.drop_take, List.drop_take, Nat.add_sub_cancel_left] at this
              rw [this, c3]
            rw [if_pos e3] at h2
            exact ih k out good _ o part h1 h2 (by omega) (by omega) (by omega)
        · rw [if_neg c3] at h1; exact absurd h1 stop
      · rw [if_neg c1] at h1 h2
        rw [if_neg (by omega)]
        by_cases hf : fok D at_ (64 - at_ % 64) = true
        · rw [if_pos hf] at h1
          obtain ⟨b1, b2, _⟩ := fok_frag D at_ _ hf
          have q4 : at_ + 4 < 9223372036854775808 := by omega
          have q6 : 6 + (nb D).getD (at_ + 4) 0 < 9223372036854775808 := by omega
          have q7 : at_ + (6 + (nb D).getD (at_ + 4) 0) < 9223372036854775808 := by omega
          rw [show wrap64 ((at_ : Int) + 4) = ((at_ + 4 : Nat) : Int) from wad at_ 4 q4, wbt, show wrap64 (6 + (((nb D).getD (at_ + 4) 0 : Nat) : Int)) = ((6 + (nb D).getD (at_ + 4) 0 : Nat) : Int) from wad 6 _ q6, wad at_ _ q7]
          rw [if_pos (by omega), if_pos (by omega)]
          by_cases cp : p < at_ + 6 + (nb D).getD (at_ + 4) 0
          · rw [if_pos (by omega)]
            by_cases c4 : p = at_ + 4
            · rw [if_pos (by omega)]
            · have hfE := fok_hurt h hf ha cp c4
              rw [if_neg (by rw [hfE]; decide)] at h2
              rw [if_neg (by omega), if_pos (by omega)]
              simp only [Option.bind_some]
              rw [if_pos (by omega), if_pos (by rw [bytesOf_length]; omega), hurt_bit _ hl, if_pos (hurt_w _), Int.toNat_natCast, hE.out, hread k (by omega), h2]
              simp only [Option.bind_some]
              have hpre := rl_ext (n + 1) D out good at_ o part
              have hgd := rl_good (n + 1) D out good at_ o part
              rw [hall] at hpre hgd
              have hle : out.length ≤ recs.length := hpre.length_le
              have hlt : out.length < recs.length := by
                rcases Nat.lt_or_ge out.length recs.length with hx | hx
                · exact hx
                · have := hgd (by show recs.length = out.length; omega)
                  simp only at this
                  omega
              rw [if_pos (by omega), if_pos (by omega), if_pos (by omega), Int.toNat_natCast, ← List.prefix_iff_eq_take.1 hpre, sametexts out (by omega) _ (by omega)]
              simp only [Option.bind_some]
              rw [if_pos trivial, decide_eq_true (by omega)]
          · rw [if_neg (by omega)]
            rw [fok_same h (.inr (by omega)), if_pos hf, hurt_getD h (at_ + 4) (by omega), hurt_getD h (at_ + 5) (by omega), hurt_same h _ _ (.inr (by omega))] at h2
            by_cases hk2 : kok (64 - at_ % 64) ((nb D).getD (at_ + 4) 0) ((nb D).getD (at_ + 5) 0) o = true
            · rw [if_pos hk2] at h1 h2
              by_cases hp : part.size + (nb D).getD (at_ + 4) 0 > 8000
              · rw [if_pos hp] at h1; exact absurd h1 stop
              · rw [if_neg hp] at h1 h2
                rw [show at_ + (6 + (nb D).getD (at_ + 4) 0) = at_ + 6 + (nb D).getD (at_ + 4) 0 by omega]
                by_cases c8 : (nb D).getD (at_ + 5) 0 = 1 ∨ (nb D).getD (at_ + 5) 0 = 4
                · rw [if_pos c8] at h1 h2; exact ih k _ _ _ _ _ h1 h2 (Nat.le_refl _) (by omega) (by omega)
                · rw [if_neg c8] at h1 h2; exact ih k _ _ _ _ _ h1 h2 (by omega) (by omega) (by omega)
            · rw [if_neg hk2] at h1; exact absurd h1 stop
        · rw [if_neg hf] at h1; exact absurd h1 stop
    · rw [if_neg ho] at h1; exact absurd h1 stop
theorem FnLogHurt : laws_FnLogHurt.Pure := by
  intro l _ _ hw
  refine ⟨1000002, ?_⟩
  unfold laws_FnLogHurt.f laws_big.f
  simp only [Option.bind_some]
  by_cases hb : (l.length : Int) > 1048576
  · rw [if_pos (by simpa using hb)]
  · have hc := code_of hb hw
    rw [if_neg (by simpa using hb)]
    obtain ⟨t, et, ht⟩ := drawlog hc (k := 1000002) (by omega)
    rw [et]; simp only [Option.bind_some]
    rw [show spec_ReadLog.f 1000002 t = some (rl (t.size + 1) t [] 0 0 false ⟨#[]⟩) from srl (t.size + 1) 1000002 t [] 0 0 false ⟨#[]⟩ (by omega) (by omega) (by omega) (by omega) (by rw [show (⟨#[]⟩ : ByteArray).size = 0 from rfl]; omega)]
    have hlen := rl_length (t.size + 1) t [] 0 0 false ⟨#[]⟩ (by simp)
    obtain ⟨g, eg, hg, hcat, hs⟩ := rl_cat (t.size + 1) t [] 0 0 false ⟨#[]⟩ (rlI_zero t)
    generalize rl (t.size + 1) t [] 0 0 false ⟨#[]⟩ = r at hlen eg hcat hs
    obtain ⟨recs, fin⟩ := r
    simp only at hlen eg hcat hs
    simp only [Option.bind_some]
    have hcl : (cat (recs.map nb) []).length ≤ 1100 := by rw [hcat, List.length_take, nb_length]; omega
    obtain ⟨D, ho, hnb⟩ := concat recs (by omega) hs 1000002 (by omega) (by omega)
    have hDs : D.size ≤ 1100 := by rw [← nb_length, hnb]; exact hcl
    rw [ho]; simp only [Option.bind_some]
    have hread : ∀ (k : Nat) (x : ByteArray), x.size = D.size → 300000 ≤ k → impl_ReadLog.f k x = some (rl (D.size + 1) x [] 0 0 false ⟨#[]⟩) := fun k x hx hk => irl (D.size + 1) k x [] 0 0 false ⟨#[]⟩ (by omega) (by omega) (by omega) (by omega) (by rw [show (⟨#[]⟩ : ByteArray).size = 0 from rfl]; omega)
    have hall : rl (D.size + 1) D [] 0 0 false ⟨#[]⟩ = (recs, (D.size : Int)) := rl_all D recs [] (D.size + 1) 0 [] (by rw [hnb]) rfl (by simpa using hlen) hs (by omega)
    rw [hread _ D rfl (by omega), hall]
    simp only [Option.bind_some]
    rw [sametexts recs (by omega) _ (by omega)]
    simp only [Option.bind_some]
    rw [if_pos trivial, if_pos trivial, laws_FnLogHurt.j0]
    by_cases z : D.size = 0
    · have : ((D.size : Int) == 0) = true := by rw [z]; rfl
      rw [this, if_pos rfl, sametexts recs (by omega) _ (by omega)]
      simp
    · have : ((D.size : Int) == 0) = false := by rw [beq_eq_false_iff_ne]; omega
      rw [this, if_neg (by decide), if_neg (by omega)]
      have em : ((l.length : Int) % (D.size : Int)) = ((l.length % D.size : Nat) : Int) := by omega
      rw [em]
      clear em
      have hp : l.length % D.size < D.size := Nat.mod_lt _ (by omega)
      generalize l.length % D.size = p at hp
      have hj : l.length / 7 % 8 < 8 := by omega
      have hnbE := nb_flip D p (l.length / 7 % 8) hp hj
      have hbl : (nb D)[p]'(by rw [nb_length]; exact hp) < 256 := nb_lt D _ (List.getElem_mem _)
      have hgd : (nb D).getD p 0 = (nb D)[p]'(by rw [nb_length]; exact hp) := by rw [List.getD_eq_getElem?_getD, List.getElem?_eq_getElem (by rw [nb_length]; exact hp)]; rfl
      have hH : hurtAt D (strOfNums ((bytesOf D).set p (Go.bits .xor .u8 (rd (bytesOf D) (p : Int)) (shl .u8 1 (IntKind.u64.wrap ((l.length / 7 % 8 : Nat) : Int)))))) p ((nb D)[p]'(by rw [nb_length]; exact hp) ^^^ 2 ^ (l.length / 7 % 8)) :=
        ⟨hnbE, hp, by rw [hgd]; exact flip_ne _ _, flip_lt hbl hj⟩
      exact hurt_l0 l hc.1 D _ (by omega) recs hlen p _ hH rfl _ (fun k hk => hread k _ (hurt_size hH) hk) (D.size + 1) _ [] 0 0 false ⟨#[]⟩ hall rfl (Nat.le_refl _) (Nat.zero_le _) (by omega)

end Go.Proofs.Ytfcjacncllmapag.Pure
