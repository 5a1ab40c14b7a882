/- The program's WriteLog returns what the reference's WriteLog returns, for every number and text: no condition. -/
import Derived.Test.YtfcjacncllmapacQFnExactWriteLogx
namespace Go.Proofs.Ytfcjacncllmapac.Pure
open Go.RowKit Go.Proofs.Ytfcjacncllmapac.QFnExactWriteLog Go.Proofs.YtfcjacncllmapacW.PrintWords Go.Proofs.YtfcjacncllmapacW.PrintLast Go.Proofs.YtfcjacncllmapacW.PrintMore
set_option linter.unusedVariables false
set_option linter.unusedSimpArgs false

/-! ## section base -/
/-- an unsigned kind's number that fits is not wrapped -/
theorem wrapU (k : IntKind) (hs : k.signed = false) (n : Nat) (h : n < 2 ^ k.bits) : k.wrap (n : Int) = n := by
  unfold IntKind.wrap
  rw [Int.emod_eq_of_lt (by omega) (by exact_mod_cast h)]
  simp [hs]
/-- bits of unsigned numbers are those of natural numbers -/
theorem b_or (k : IntKind) (hs : k.signed = false) (a b : Nat) (ha : a < 2 ^ k.bits) (hb : b < 2 ^ k.bits) : Go.bits .or k a b = ((a ||| b : Nat) : Int) := by
  simp only [Go.bits, BitVec.ofInt_natCast, BitVec.toNat_or, BitVec.toNat_ofNat, Nat.mod_eq_of_lt ha, Nat.mod_eq_of_lt hb]
  exact wrapU k hs _ (Nat.or_lt_two_pow ha hb)
theorem b_xor (k : IntKind) (hs : k.signed = false) (a b : Nat) (ha : a < 2 ^ k.bits) (hb : b < 2 ^ k.bits) : Go.bits .xor k a b = ((a ^^^ b : Nat) : Int) := by
  simp only [Go.bits, BitVec.ofInt_natCast, BitVec.toNat_xor, BitVec.toNat_ofNat, Nat.mod_eq_of_lt ha, Nat.mod_eq_of_lt hb]
  exact wrapU k hs _ (Nat.xor_lt_two_pow ha hb)
theorem b_and (k : IntKind) (hs : k.signed = false) (a b : Nat) (ha : a < 2 ^ k.bits) (hb : b < 2 ^ k.bits) : Go.bits .and k a b = ((a &&& b : Nat) : Int) := by
  simp only [Go.bits, BitVec.ofInt_natCast, BitVec.toNat_and, BitVec.toNat_ofNat, Nat.mod_eq_of_lt ha, Nat.mod_eq_of_lt hb]
  exact wrapU k hs _ (Nat.and_lt_two_pow _ hb)
theorem b_or8 (a b : Nat) (ha : a < 256) (hb : b < 256) : Go.bits .or .u8 a b = ((a ||| b : Nat) : Int) := b_or .u8 rfl a b ha hb
theorem u64w (x : Int) : IntKind.u64.wrap x = x % 18446744073709551616 := by simp [IntKind.wrap, IntKind.bits, IntKind.signed]

/-! ## section bytes -/
/-- the bytes of a text, as natural numbers -/
def nb (s : ByteArray) : List Nat := s.data.toList.map UInt8.toNat
theorem nb_length (s : ByteArray) : (nb s).length = s.size := by rw [nb, List.length_map, Array.length_toList]; rfl
theorem nb_lt (s : ByteArray) : ∀ b ∈ nb s, b < 256 := by
  intro b hb
  simp only [nb, List.mem_map] at hb
  obtain ⟨u, _, rfl⟩ := hb
  exact u.toNat_lt
theorem bt_nb (s : ByteArray) (i : Nat) (h : i < s.size) : bt s i = (((nb s)[i]'(by rw [nb_length]; exact h) : Nat) : Int) := by
  simp only [bt, Int.toNat_natCast, h, nb]
  simp
  rfl
theorem nb_drop (s : ByteArray) (i : Nat) (h : i < s.size) : ∃ b, (nb s).drop i = b :: (nb s).drop (i + 1) ∧ bt s i = (b : Int) ∧ b < 256 := by
  have hl : i < (nb s).length := by rw [nb_length]; exact h
  exact ⟨(nb s)[i], List.drop_eq_getElem_cons hl, bt_nb s i h, nb_lt s _ (List.getElem_mem hl)⟩
theorem nb_end (s : ByteArray) (i : Nat) (h : s.size ≤ i) : (nb s).drop i = [] := List.drop_eq_nil_of_le (by rw [nb_length]; exact h)
theorem w64 {x : Int} (h0 : -9223372036854775808 ≤ x) (h1 : x < 9223372036854775808) : wrap64 x = x := by unfold wrap64; omega
theorem w64s {i n : Nat} (h : i < n) (hn : n ≤ 140737488351232) : wrap64 ((i : Int) + 1) = ((i + 1 : Nat) : Int) := by rw [w64] <;> omega
theorem bits_range (k : IntKind) (hs : k.signed = false) (op : BinOp) (x y : Int) : 0 ≤ Go.bits op k x y ∧ Go.bits op k x y < 2 ^ k.bits := by
  have hp : (0 : Int) < 2 ^ k.bits := by exact_mod_cast Nat.two_pow_pos k.bits
  unfold Go.bits IntKind.wrap
  simp only [hs, Bool.false_and]
  exact ⟨Int.emod_nonneg _ (by omega), Int.emod_lt_of_pos _ hp⟩

/-! ## section ba -/
theorem nb_append (a b : ByteArray) : nb (a ++ b) = nb a ++ nb b := by
  simp [nb, ByteArray.data_append]
theorem nb_extract (s : ByteArray) (i j : Nat) : nb (s.extract i j) = ((nb s).take j).drop i := by
  rw [List.drop_take]
  simp [nb, ByteArray.data_extract]
theorem nb_inj {a b : ByteArray} (h : nb a = nb b) : a = b := by
  have h1 : a.data.toList = b.data.toList := by
    have h2 : ∀ (l m : List UInt8), l.map UInt8.toNat = m.map UInt8.toNat → l = m := by
      intro l
      induction l with
      | nil => intro m h; cases m with
        | nil => rfl
        | cons y m => simp at h
      | cons x l ih => intro m h; cases m with
        | nil => simp at h
        | cons y m =>
          simp only [List.map_cons, List.cons.injEq] at h
          rw [UInt8.toNat_inj.1 h.1, ih m h.2]
    exact h2 _ _ h
  cases a; cases b; simp_all
theorem nb_nums (l : List Int) (h : ∀ x ∈ l, 0 ≤ x ∧ x < 256) : nb (strOfNums l) = l.map Int.toNat := by
  simp only [nb, strOfNums, List.map_map]
  apply List.map_congr_left
  intro x hx
  have := h x hx
  simp only [Function.comp]
  rw [UInt8.toNat_ofNat']
  exact Nat.mod_eq_of_lt (by omega)
theorem nb_empty : nb (⟨#[]⟩ : ByteArray) = [] := rfl
theorem bsize_append (a b : ByteArray) : (a ++ b).size = a.size + b.size := ByteArray.size_append

/-! ## section putfixed -/
/-- the four bytes of a number -/
def fxd (x : Int) : ByteArray := strOfNums ([x % 256, (x / 256) % 256, (x / 65536) % 256, (x / 16777216) % 256] : List Int)
theorem ipf (x : Int) : impl_PutFixed.f x = some (fxd x) := rfl
theorem fxd_size (x : Int) : (fxd x).size = 4 := by simp [fxd, strOfNums, ByteArray.size]
def fixL (x : Nat) : List Nat := [x % 256, x / 256 % 256, x / 65536 % 256, x / 16777216 % 256]
theorem nb_fxd (x : Nat) : nb (fxd (x : Int)) = fixL x := by
  unfold fxd
  rw [nb_nums]
  · simp only [List.map_cons, List.map_nil, fixL]
    congr 1 <;> first | omega | (congr 1 <;> first | omega | (congr 1 <;> first | omega | (congr 1; omega)))
  · intro y hy
    simp only [List.mem_cons, List.not_mem_nil, or_false] at hy
    rcases hy with rfl | rfl | rfl | rfl <;> omega

/-! ## section crc -/
def cbit (x : Nat) : Nat := if x % 2 = 1 then (x / 2) ^^^ 2197175160 else x / 2
def cbits : Nat → Nat → Nat
  | 0, x => x
  | n + 1, x => cbits n (cbit x)
def cbyte (x b : Nat) : Nat := cbits 8 (x ^^^ b)
def crcL : List Nat → Nat → Nat
  | [], x => x
  | b :: l, x => crcL l (cbyte x b)
/-- the sum of a list of bytes -/
def crcN (l : List Nat) : Nat := crcL l 4294967295 ^^^ 4294967295
theorem cbit_lt {x : Nat} (h : x < 4294967296) : cbit x < 4294967296 := by
  unfold cbit; split
  · exact Nat.xor_lt_two_pow (n := 32) (by omega) (by omega)
  · omega
theorem cbits_lt : ∀ (n : Nat) {x : Nat}, x < 4294967296 → cbits n x < 4294967296
  | 0, _, h => h
  | n + 1, _, h => cbits_lt n (cbit_lt h)
theorem xor_byte {x b : Nat} (h : x < 4294967296) (hb : b < 256) : x ^^^ b < 4294967296 := Nat.xor_lt_two_pow (n := 32) h (by omega)
theorem cbyte_lt {x b : Nat} (h : x < 4294967296) (hb : b < 256) : cbyte x b < 4294967296 := cbits_lt 8 (xor_byte h hb)
theorem crcL_lt : ∀ (l : List Nat) {x : Nat}, (∀ b ∈ l, b < 256) → x < 4294967296 → crcL l x < 4294967296
  | [], _, _, h => h
  | b :: l, _, hl, h => crcL_lt l (fun c hc => hl c (List.mem_cons_of_mem _ hc)) (cbyte_lt h (hl b List.mem_cons_self))
theorem crcN_lt (l : List Nat) (hl : ∀ b ∈ l, b < 256) : crcN l < 4294967296 := Nat.xor_lt_two_pow (n := 32) (crcL_lt l hl (by omega)) (by omega)
theorem cbit_odd {x : Nat} (h : x < 4294967296) (ho : x % 2 = 1) : Go.bits .xor .u32 ((x : Int) / 2) 2197175160 = (cbit x : Int) := by
  rw [show ((x : Int) / 2) = ((x / 2 : Nat) : Int) by omega, show (2197175160 : Int) = ((2197175160 : Nat) : Int) from rfl, b_xor .u32 rfl _ _ (by show _ < 4294967296; omega) (by decide), cbit, if_pos ho]
theorem cbit_even {x : Nat} (ho : ¬ x % 2 = 1) : ((x : Int) / 2) = (cbit x : Int) := by rw [cbit, if_neg ho]; omega
theorem icrc_l1 (s : ByteArray) : ∀ (d j k i x : Nat), j ≤ 8 → 8 - j = d → x < 4294967296 → impl_Crc.l1 (k + d + 1) s x s.size i j = impl_Crc.l0 k s (cbits d x : Nat) s.size (wrap64 ((i : Int) + 1)) := by
  intro d
  induction d with
  | zero =>
    intro j k i x h1 h2 hx
    rw [impl_Crc.l1, if_neg (by omega)]; rfl
  | succ d ih =>
    intro j k i x h1 h2 hx
    have e : wrap64 ((j : Int) + 1) = ((j + 1 : Nat) : Int) := by rw [w64] <;> omega
    have a : Go.bits .and .u32 (x : Int) 1 = ((x % 2 : Nat) : Int) := by
      rw [show (1 : Int) = ((1 : Nat) : Int) from rfl, b_and .u32 rfl _ _ hx (by decide), Nat.and_one_is_mod]
    rw [show k + (d + 1) + 1 = (k + d + 1) + 1 by omega, impl_Crc.l1, if_pos (by omega), a, e]
    by_cases o : x % 2 = 1
    · rw [if_pos (by omega), cbit_odd hx o, ih (j + 1) k i _ (by omega) (by omega) (cbit_lt hx)]; rfl
    · rw [if_neg (by omega), cbit_even o, ih (j + 1) k i _ (by omega) (by omega) (cbit_lt hx)]; rfl
theorem icrc_l0 (s : ByteArray) (hs : s.size ≤ 140737488351232) : ∀ (d k i x : Nat), i ≤ s.size → s.size - i = d → 10 * d < k → x < 4294967296 → impl_Crc.l0 k s x s.size i = some ((crcL ((nb s).drop i) x ^^^ 4294967295 : Nat) : Int) := by
  intro d
  induction d with
  | zero =>
    intro k i x h1 h2 hk hx
    obtain ⟨k, rfl⟩ : ∃ m, k = m + 1 := ⟨k - 1, by omega⟩
    rw [impl_Crc.l0, if_neg (by omega), nb_end s i (by omega)]
    rw [show (4294967295 : Int) = ((4294967295 : Nat) : Int) from rfl, b_xor .u32 rfl _ _ (by decide) hx, Nat.xor_comm]; rfl
  | succ d ih =>
    intro k i x h1 h2 hk hx
    obtain ⟨k, rfl⟩ : ∃ m, k = m + 8 + 1 + 1 := ⟨k - 10, by omega⟩
    obtain ⟨b, hd, hb, hl⟩ := nb_drop s i (by omega)
    rw [impl_Crc.l0, if_pos (by omega), if_pos (by omega), if_pos (by omega), hb, hd, show ((b : Int) % 4294967296) = b by omega, b_xor .u32 rfl _ _ hx (by show _ < 4294967296; omega)]
    rw [show (0 : Int) = ((0 : Nat) : Int) from rfl, icrc_l1 s 8 0 k i _ (by omega) (by omega) (xor_byte hx hl), w64s (n := s.size) (by omega) hs]
    rw [ih k (i + 1) _ (by omega) (by omega) (by omega) (cbits_lt 8 (xor_byte hx hl))]; rfl
theorem icrc (s : ByteArray) (hs : s.size ≤ 140737488351232) (k : Nat) (hk : 10 * s.size < k) : impl_Crc.f k s = some (crcN (nb s) : Int) := by
  unfold impl_Crc.f
  have h := icrc_l0 s hs s.size k 0 4294967295 (by omega) (by omega) hk (by omega)
  simpa [crcN] using h

/-! ## section frag -/
/-- one fragment of a log: its sum, its length, its kind, its bytes -/
def frag (kind : Nat) (d : List Nat) : List Nat := fixL (crcN (d.length :: kind :: d)) ++ d.length :: kind :: d
theorem frag_length (kind : Nat) (d : List Nat) : (frag kind d).length = d.length + 6 := by simp [frag, fixL] <;> omega
/-- a record's fragments, the first of them in a block with 'left' bytes -/
def wlF (left : Nat) (first : Bool) (r : List Nat) : List Nat :=
  if h : r.length ≤ left - 6 ∨ left ≤ 6 then frag (if first = true then 1 else 4) r
  else frag (if first = true then 2 else 3) (r.take (left - 6)) ++ wlF 64 false (r.drop (left - 6))
termination_by r.length
decreasing_by simp only [List.length_drop]; omega
theorem wlF_last {left : Nat} {first : Bool} {r : List Nat} (h : r.length ≤ left - 6) : wlF left first r = frag (if first = true then 1 else 4) r := by rw [wlF, dif_pos (.inl h)]
theorem wlF_more {left : Nat} {first : Bool} {r : List Nat} (h : left - 6 < r.length) (h7 : 7 ≤ left) : wlF left first r = frag (if first = true then 2 else 3) (r.take (left - 6)) ++ wlF 64 false (r.drop (left - 6)) := by rw [wlF, dif_neg (by omega)]
/-- what is put behind a log of so many bytes for a record -/
def wlN (at_ : Nat) (r : List Nat) : List Nat := if 64 - at_ % 64 ≤ 6 then List.replicate (64 - at_ % 64) 0 ++ wlF 64 true r else wlF (64 - at_ % 64) true r
theorem nb_own (x : ByteArray) (n kind : Nat) (hn : n ≤ x.size) (h58 : n ≤ 58) (hk : kind < 256) : nb (strOfNums [(n : Int) % 256, (kind : Int)] ++ x.extract 0 n) = n :: kind :: (nb x).take n := by
  rw [nb_append, nb_nums]
  · rw [nb_extract, List.drop_zero]
    simp only [List.map_cons, List.map_nil, List.cons_append, List.nil_append]
    rw [show ((n : Int) % 256).toNat = n by omega, Int.toNat_natCast]
  · intro y hy
    simp only [List.mem_cons, List.not_mem_nil, or_false] at hy
    rcases hy with rfl | rfl <;> omega
theorem nb_zeros (n : Nat) : nb (strOfNums (List.replicate n 0)) = List.replicate n 0 := by
  rw [nb_nums]
  · simp
  · intro x hx; rw [List.eq_of_mem_replicate hx]; omega
theorem zeros_size (n : Nat) : (strOfNums (List.replicate n 0)).size = n := by simp [strOfNums, ByteArray.size]
theorem two_size (a b : Int) : (strOfNums [a, b]).size = 2 := by simp [strOfNums, ByteArray.size]
theorem toList_nil (s : ByteArray) : s.toList = ([] : List UInt8) ↔ s.size = 0 := by
  rw [ByteArray.toList_eq]
  have h : s.data.toList.length = s.size := by rw [Array.length_toList]; rfl
  constructor
  · intro e; rw [e] at h; simpa using h.symm
  · intro e; exact List.eq_nil_of_length_eq_zero (by omega)
theorem wl_min (left size : Nat) (h7 : 7 ≤ left) (h64 : left ≤ 64) : mn (wrap64 ((left : Int) - 6)) (size : Int) = ((min (left - 6) size : Nat) : Int) := by
  have e : wrap64 ((left : Int) - 6) = ((left - 6 : Nat) : Int) := by unfold wrap64; omega
  rw [e]; unfold mn; split <;> omega

/-! ## section writelog -/
theorem wl_left (left n : Nat) (h7 : 7 ≤ left) (h64 : left ≤ 64) (hn2 : n ≤ left - 6) : wrap64 ((left : Int) - wrap64 (6 + (n : Int))) = ((left - (6 + n) : Nat) : Int) := by
  have e : wrap64 (6 + (n : Int)) = ((6 + n : Nat) : Int) := by unfold wrap64; omega
  rw [e]; clear e; unfold wrap64; omega
theorem iwl_j5 (k : Nat) (x1 x5 : ByteArray) (left n kind : Nat) (h7 : 7 ≤ left) (h64 : left ≤ 64) (hn : n ≤ x1.size) (hn2 : n ≤ left - 6) (hkd : kind < 256) (h5 : x5.size ≤ 1000000000) (hk : 700 ≤ k) :
    impl_WriteLog.j5 (k + 1) x1 x5 left n kind = impl_WriteLog.l0 k (x1.extract n x1.size) (x5 ++ (fxd (crcN (n :: kind :: (nb x1).take n) : Int) ++ (strOfNums [(n : Int) % 256, (kind : Int)] ++ x1.extract 0 n))) (if left = 6 + n then 64 else ((left - (6 + n) : Nat) : Int)) false := by
  have hx : (x1.extract 0 n).size = n := by rw [ByteArray.size_extract]; omega
  have e2 : (kind : Int) % 256 = kind := by omega
  rw [impl_WriteLog.j5]
  simp only [Option.bind_some]
  rw [if_pos (by omega), if_pos (by omega), Int.toNat_natCast, e2]
  have hs : (strOfNums [(n : Int) % 256, (kind : Int)] ++ x1.extract 0 n).size = n + 2 := by rw [bsize_append, two_size, hx]; omega
  rw [if_pos (by rw [two_size, hx]; omega), icrc _ (by omega) k (by omega), nb_own x1 n kind hn (by omega) hkd]
  simp only [Option.bind_some]
  rw [ipf]
  simp only [Option.bind_some]
  rw [if_pos (by rw [fxd_size, hs]; omega), if_pos (by rw [bsize_append, fxd_size, hs]; omega)]
  rw [wl_left left n h7 h64 hn2]
  by_cases c : left = 6 + n
  · rw [if_pos (by omega), if_pos c]
  · rw [if_neg (by omega), if_neg c]
theorem iwl_stop (k : Nat) (x1 x5 : ByteArray) (left : Int) (h : x1.size = 0) : impl_WriteLog.l0 (k + 2) x1 x5 left false = some x5 := by
  rw [impl_WriteLog.l0, if_neg (by decide), impl_WriteLog.j2]
  have : (x1.toList != ([] : List UInt8)) = false := by rw [bne_eq_false_iff_eq]; exact (toList_nil x1).2 h
  rw [this, if_neg (by decide)]
theorem iwl : ∀ (m k : Nat) (x1 x5 : ByteArray) (left : Nat) (first : Bool), x1.size ≤ m → 7 ≤ left → left ≤ 64 → x5.size + 64 * (m + 1) ≤ 1000000000 → 6 * (m + 1) + 720 ≤ k → ∃ out, impl_WriteLog.j2 k x1 x5 left first true = some out ∧ nb out = nb x5 ++ wlF left first (nb x1) := by
  intro m
  induction m with
  | zero =>
    intro k x1 x5 left first h1 h7 h64 h5 hk
    obtain ⟨k, rfl⟩ : ∃ j, k = j + 1 + 1 + 1 + 1 + 2 := ⟨k - 6, by omega⟩
    have hmin : min (left - 6) x1.size = 0 := by omega
    have hall : (((0 : Nat) : Int) == (x1.size : Int)) = true := by simp; omega
    have hg : ∀ kind, kind < 256 → impl_WriteLog.j5 (k + 2 + 1) x1 x5 left ((0 : Nat) : Int) (kind : Nat) = some (x5 ++ (fxd (crcN (0 :: kind :: (nb x1).take 0) : Int) ++ (strOfNums [((0 : Nat) : Int) % 256, (kind : Int)] ++ x1.extract 0 0))) := by
      intro kind hkd
      rw [iwl_j5 (k + 2) x1 x5 left 0 kind h7 h64 (by omega) (by omega) hkd (by omega) (by omega)]
      exact iwl_stop k _ _ _ (by rw [ByteArray.size_extract]; omega)
    have hnb : ∀ kind, kind < 256 → nb (x5 ++ (fxd (crcN (0 :: kind :: (nb x1).take 0) : Int) ++ (strOfNums [((0 : Nat) : Int) % 256, (kind : Int)] ++ x1.extract 0 0))) = nb x5 ++ frag kind (nb x1) := by
      intro kind hkd
      have hz : nb x1 = [] := List.eq_nil_of_length_eq_zero (by rw [nb_length]; omega)
      rw [nb_append, nb_append, nb_fxd, nb_own x1 0 kind (by omega) (by omega) hkd, hz]
      rfl
    rw [impl_WriteLog.j2, if_pos rfl, if_neg (by omega), impl_WriteLog.j3, wl_min left x1.size h7 h64, hmin, hall]
    rw [wlF_last (by rw [nb_length]; omega)]
    cases first
    · rw [if_neg (by decide), impl_WriteLog.j4, if_neg (by decide), if_neg (by decide), if_pos rfl]
      exact ⟨_, hg 4 (by omega), hnb 4 (by omega)⟩
    · rw [if_pos rfl, impl_WriteLog.j4, if_pos rfl]
      exact ⟨_, hg 1 (by omega), hnb 1 (by omega)⟩
  | succ m ih =>
    intro k x1 x5 left first h1 h7 h64 h5 hk
    obtain ⟨k, rfl⟩ : ∃ j, k = j + 1 + 1 + 1 + 1 + 2 := ⟨k - 6, by omega⟩
    rw [impl_WriteLog.j2, if_pos rfl, if_neg (by omega), impl_WriteLog.j3, wl_min left x1.size h7 h64]
    by_cases hall : x1.size ≤ left - 6
    · have hmin : min (left - 6) x1.size = x1.size := by omega
      have ha : (((x1.size : Nat) : Int) == (x1.size : Int)) = true := by simp
      have hg : ∀ kind, kind < 256 → impl_WriteLog.j5 (k + 2 + 1) x1 x5 left (x1.size : Nat) (kind : Nat) = some (x5 ++ (fxd (crcN (x1.size :: kind :: (nb x1).take x1.size) : Int) ++ (strOfNums [((x1.size : Nat) : Int) % 256, (kind : Int)] ++ x1.extract 0 x1.size))) := by
        intro kind hkd
        rw [iwl_j5 (k + 2) x1 x5 left x1.size kind h7 h64 (by omega) (by omega) hkd (by omega) (by omega)]
        exact iwl_stop k _ _ _ (by rw [ByteArray.size_extract]; omega)
      have hnb : ∀ kind, kind < 256 → nb (x5 ++ (fxd (crcN (x1.size :: kind :: (nb x1).take x1.size) : Int) ++ (strOfNums [((x1.size : Nat) : Int) % 256, (kind : Int)] ++ x1.extract 0 x1.size))) = nb x5 ++ frag kind (nb x1) := by
        intro kind hkd
        rw [nb_append, nb_append, nb_fxd, nb_own x1 x1.size kind (by omega) (by omega) hkd, List.take_of_length_le (by rw [nb_length]; exact Nat.le_refl _)]
        unfold frag
        rw [nb_length]
      rw [hmin, ha, wlF_last (by rw [nb_length]; omega)]
      cases first
      · rw [if_neg (by decide), impl_WriteLog.j4, if_neg (by decide), if_neg (by decide), if_pos rfl]
        exact ⟨_, hg 4 (by omega), hnb 4 (by omega)⟩
      · rw [if_pos rfl, impl_WriteLog.j4, if_pos rfl]
        exact ⟨_, hg 1 (by omega), hnb 1 (by omega)⟩
    · have hmin : min (left - 6) x1.size = left - 6 := by omega
      have ha : (((left - 6 : Nat) : Int) == (x1.size : Int)) = false := by rw [beq_eq_false_iff_ne]; omega
      have hs1 : (x1.extract (left - 6) x1.size).size = x1.size - (left - 6) := by rw [ByteArray.size_extract]; omega
      have hs2 : (x1.extract 0 (left - 6)).size = left - 6 := by rw [ByteArray.size_extract]; omega
      have hg : ∀ kind, kind < 256 → ∃ out, impl_WriteLog.j5 (k + 2 + 1) x1 x5 left ((left - 6 : Nat) : Int) (kind : Nat) = some out ∧ nb out = nb x5 ++ (frag kind ((nb x1).take (left - 6)) ++ wlF 64 false ((nb x1).drop (left - 6))) := by
        intro kind hkd
        rw [iwl_j5 (k + 2) x1 x5 left (left - 6) kind h7 h64 (by omega) (by omega) hkd (by omega) (by omega), if_pos (by omega)]
        have hne : ((x1.extract (left - 6) x1.size).toList != ([] : List UInt8)) = true := by
          rw [bne_iff_ne]; intro e; have := (toList_nil _).1 e; omega
        rw [impl_WriteLog.l0, if_neg (by decide), hne]
        obtain ⟨out, ho, hn⟩ := ih (k + 1) (x1.extract (left - 6) x1.size) (x5 ++ (fxd (crcN ((left - 6) :: kind :: (nb x1).take (left - 6)) : Int) ++ (strOfNums [((left - 6 : Nat) : Int) % 256, (kind : Int)] ++ x1.extract 0 (left - 6)))) 64 false (by omega) (by omega) (by omega)
          (by rw [bsize_append, bsize_append, bsize_append, fxd_size, two_size, hs2]; omega) (by omega)
        refine ⟨out, ho, ?_⟩
        rw [hn, nb_append, nb_append, nb_fxd, nb_own x1 (left - 6) kind (by omega) (by omega) hkd, nb_extract, List.take_of_length_le (i := x1.size) (by rw [nb_length]; exact Nat.le_refl _), List.append_assoc]
        congr 1
        unfold frag
        rw [List.length_take, nb_length, Nat.min_eq_left (by omega)]
      rw [hmin, ha, wlF_more (by rw [nb_length]; omega) h7]
      cases first
      · rw [if_neg (by decide), impl_WriteLog.j4, if_neg (by decide), if_neg (by decide), if_neg (by decide)]
        exact hg 3 (by omega)
      · rw [if_pos rfl, impl_WriteLog.j4, if_neg (by decide), if_pos rfl]
        exact hg 2 (by omega)
theorem iwlog (k : Nat) (a : Int) (s : ByteArray) (ha : 0 ≤ a) (hs : s.size ≤ 8000) (hk : 60000 ≤ k) : ∃ out, impl_WriteLog.f k a s = some out ∧ nb out = wlN a.toNat (nb s) := by
  obtain ⟨k, rfl⟩ : ∃ j, k = j + 1 + 1 := ⟨k - 2, by omega⟩
  obtain ⟨n, rfl⟩ := Int.eq_ofNat_of_zero_le ha
  unfold impl_WriteLog.f
  rw [if_neg (by omega), show decide ((s.size : Int) > 8000) = false by rw [decide_eq_false_iff_not]; omega, impl_WriteLog.j0, if_neg (by decide), impl_WriteLog.l0, if_pos rfl]
  have e : wrap64 (64 - (Int.tmod (n : Int) 64)) = ((64 - n % 64 : Nat) : Int) := by
    rw [Int.tmod_eq_emod_of_nonneg (by omega)]; unfold wrap64; omega
  rw [e, Int.toNat_natCast]
  clear e
  unfold wlN
  have hl : 64 - n % 64 ≤ 64 ∧ 1 ≤ 64 - n % 64 := by omega
  generalize 64 - n % 64 = left at hl
  by_cases c : left ≤ 6
  · obtain ⟨k, rfl⟩ : ∃ j, k = j + 1 := ⟨k - 1, by omega⟩
    rw [if_pos c]
    obtain ⟨out, ho, hn⟩ := iwl s.size (k + 1) s ((⟨#[]⟩ : ByteArray) ++ strOfNums (List.replicate left 0)) 64 true (Nat.le_refl _) (by omega) (by omega) (by rw [bsize_append, zeros_size]; show 0 + left + _ ≤ _; omega) (by omega)
    rw [impl_WriteLog.j2, if_pos rfl, if_neg (by omega)] at ho
    rw [impl_WriteLog.j2, if_pos rfl, if_pos (by omega), if_pos (by omega), if_pos (by omega), Int.toNat_natCast]
    simp only [Option.bind_some]
    rw [if_pos (by rw [zeros_size]; show 0 + left ≤ _; omega)]
    refine ⟨out, ho, ?_⟩
    rw [hn, nb_append, nb_zeros, nb_empty]; rfl
  · rw [if_neg c]
    obtain ⟨out, ho, hn⟩ := iwl s.size (k + 0) s (⟨#[]⟩ : ByteArray) left true (Nat.le_refl _) (by omega) (by omega) (by show 0 + _ ≤ _; omega) (by omega)
    refine ⟨out, ho, ?_⟩
    rw [hn, nb_empty]; rfl
theorem iwlog_bad (k : Nat) (a : Int) (s : ByteArray) (h : a < 0 ∨ 8000 < s.size) (hk : 1 ≤ k) : impl_WriteLog.f k a s = some (⟨#[]⟩ : ByteArray) := by
  obtain ⟨k, rfl⟩ : ∃ j, k = j + 1 := ⟨k - 1, by omega⟩
  unfold impl_WriteLog.f
  by_cases c : a < 0
  · rw [if_pos c, impl_WriteLog.j0, if_pos rfl]
  · rw [if_neg c, show decide ((s.size : Int) > 8000) = true by rw [decide_eq_true_eq]; omega, impl_WriteLog.j0, if_pos rfl]

/-! ## section crcspec -/
theorem scrc_l1 (s : ByteArray) : ∀ (d j k i x : Nat), j ≤ 8 → 8 - j = d → x < 4294967296 → spec_Crc.l1 (k + d + 1) s x i j = spec_Crc.l0 k s (cbits d x : Nat) (wrap64 ((i : Int) + 1)) := by
  intro d
  induction d with
  | zero =>
    intro j k i x h1 h2 hx
    rw [spec_Crc.l1, if_neg (by omega)]; rfl
  | succ d ih =>
    intro j k i x h1 h2 hx
    have e : wrap64 ((j : Int) + 1) = ((j + 1 : Nat) : Int) := by rw [w64] <;> omega
    have a : Int.tmod (x : Int) 2 = ((x % 2 : Nat) : Int) := by rw [Int.tmod_eq_emod_of_nonneg (by omega)]; omega
    rw [show k + (d + 1) + 1 = (k + d + 1) + 1 by omega, spec_Crc.l1, if_pos (by omega), a, e]
    by_cases o : x % 2 = 1
    · rw [if_pos (by omega), cbit_odd hx o, ih (j + 1) k i _ (by omega) (by omega) (cbit_lt hx)]; rfl
    · rw [if_neg (by omega), cbit_even o, ih (j + 1) k i _ (by omega) (by omega) (cbit_lt hx)]; rfl
theorem scrc_l0 (s : ByteArray) (hs : s.size ≤ 140737488351232) : ∀ (d k i x : Nat), i ≤ s.size → s.size - i = d → 10 * d < k → x < 4294967296 → spec_Crc.l0 k s x i = some ((crcL ((nb s).drop i) x ^^^ 4294967295 : Nat) : Int) := by
  intro d
  induction d with
  | zero =>
    intro k i x h1 h2 hk hx
    obtain ⟨k, rfl⟩ : ∃ m, k = m + 1 := ⟨k - 1, by omega⟩
    rw [spec_Crc.l0, if_neg (by omega), nb_end s i (by omega)]
    rw [show (4294967295 : Int) = ((4294967295 : Nat) : Int) from rfl, b_xor .u32 rfl _ _ hx (by decide)]; rfl
  | succ d ih =>
    intro k i x h1 h2 hk hx
    obtain ⟨k, rfl⟩ : ∃ m, k = m + 8 + 1 + 1 := ⟨k - 10, by omega⟩
    obtain ⟨b, hd, hb, hl⟩ := nb_drop s i (by omega)
    rw [spec_Crc.l0, if_pos (by omega), if_pos (by omega), hb, hd, show ((b : Int) % 4294967296) = b by omega, b_xor .u32 rfl _ _ hx (by show _ < 4294967296; omega)]
    rw [show (0 : Int) = ((0 : Nat) : Int) from rfl, scrc_l1 s 8 0 k i _ (by omega) (by omega) (xor_byte hx hl), w64s (n := s.size) (by omega) hs]
    rw [ih k (i + 1) _ (by omega) (by omega) (by omega) (cbits_lt 8 (xor_byte hx hl))]; rfl
theorem scrc (s : ByteArray) (hs : s.size ≤ 140737488351232) (k : Nat) (hk : 10 * s.size < k) : spec_Crc.f k s = some (crcN (nb s) : Int) := by
  unfold spec_Crc.f
  have h := scrc_l0 s hs s.size k 0 4294967295 (by omega) (by omega) hk (by omega)
  simpa [crcN] using h

/-! ## section writelogspec -/
theorem spf (x : Int) : spec_PutFixed.f x = some (fxd x) := rfl
theorem swl_j3 (k : Nat) (x6 x5 : ByteArray) (n kind : Nat) (last : Bool) (hn : n ≤ x6.size) (hn2 : n ≤ 58) (hkd : kind < 256) (h5 : x5.size ≤ 1000000000) (hk : 700 ≤ k) :
    spec_WriteLog.j3 (k + 1) x5 x6 n last kind = if last = true then some ((x5 ++ fxd (crcN (n :: kind :: (nb x6).take n) : Int)) ++ (strOfNums [(n : Int) % 256, (kind : Int)] ++ x6.extract 0 n)) else spec_WriteLog.l0 k 0 ((x5 ++ fxd (crcN (n :: kind :: (nb x6).take n) : Int)) ++ (strOfNums [(n : Int) % 256, (kind : Int)] ++ x6.extract 0 n)) (x6.extract n x6.size) false := by
  have hx : (x6.extract 0 n).size = n := by rw [ByteArray.size_extract]; omega
  rw [spec_WriteLog.j3]
  simp only [Option.bind_some]
  rw [if_pos (by omega), if_pos (by omega), Int.toNat_natCast]
  have hs : (strOfNums [(n : Int) % 256, (kind : Int)] ++ x6.extract 0 n).size = n + 2 := by rw [bsize_append, two_size, hx]; omega
  rw [if_pos (by rw [two_size, hx]; omega), scrc _ (by omega) k (by omega), nb_own x6 n kind hn (by omega) hkd]
  simp only [Option.bind_some]
  rw [spf]
  simp only [Option.bind_some]
  rw [if_pos (by rw [fxd_size]; omega), if_pos (by rw [bsize_append, fxd_size, hs]; omega)]
theorem swl : ∀ (m k : Nat) (x6 x5 : ByteArray) (a : Nat) (first : Bool), x6.size ≤ m → a ≤ 57 → x5.size + 64 * (m + 1) ≤ 1000000000 → 6 * (m + 1) + 720 ≤ k → ∃ out, spec_WriteLog.l0 k a x5 x6 first = some out ∧ nb out = nb x5 ++ wlF (64 - a) first (nb x6) := by
  intro m
  induction m with
  | zero =>
    intro k x6 x5 a first h1 ha h5 hk
    obtain ⟨k, rfl⟩ : ∃ j, k = j + 1 + 1 + 1 := ⟨k - 3, by omega⟩
    have e : wrap64 (64 - (a : Int)) = ((64 - a : Nat) : Int) := by unfold wrap64; omega
    rw [spec_WriteLog.l0, e]
    clear e
    have hl : 7 ≤ 64 - a ∧ 64 - a ≤ 64 := by omega
    generalize 64 - a = left at hl
    have hmin : min (left - 6) x6.size = 0 := by omega
    have hall : (((0 : Nat) : Int) == (x6.size : Int)) = true := by simp; omega
    have hz : nb x6 = [] := List.eq_nil_of_length_eq_zero (by rw [nb_length]; omega)
    have hg : ∀ kind, kind < 256 → ∃ out, spec_WriteLog.j3 (k + 1) x5 x6 ((0 : Nat) : Int) true (kind : Nat) = some out ∧ nb out = nb x5 ++ frag kind (nb x6) := by
      intro kind hkd
      rw [swl_j3 k x6 x5 0 kind true (by omega) (by omega) hkd (by omega) (by omega), if_pos rfl]
      refine ⟨_, rfl, ?_⟩
      rw [nb_append, nb_append, nb_fxd, nb_own x6 0 kind (by omega) (by omega) hkd, hz, List.append_assoc]
      rfl
    rw [if_neg (by omega), wl_min left x6.size hl.1 hl.2, hmin, hall, wlF_last (by rw [nb_length]; omega)]
    cases first
    · rw [if_neg (by decide), spec_WriteLog.j2, if_neg (by decide), if_neg (by decide), if_pos rfl]
      exact hg 4 (by omega)
    · rw [if_pos rfl, spec_WriteLog.j2, if_pos rfl]
      exact hg 1 (by omega)
  | succ m ih =>
    intro k x6 x5 a first h1 ha h5 hk
    obtain ⟨k, rfl⟩ : ∃ j, k = j + 1 + 1 + 1 := ⟨k - 3, by omega⟩
    have e : wrap64 (64 - (a : Int)) = ((64 - a : Nat) : Int) := by unfold wrap64; omega
    rw [spec_WriteLog.l0, e]
    clear e
    have hl : 7 ≤ 64 - a ∧ 64 - a ≤ 64 := by omega
    generalize 64 - a = left at hl
    rw [if_neg (by omega), wl_min left x6.size hl.1 hl.2]
    by_cases hall : x6.size ≤ left - 6
    · have hmin : min (left - 6) x6.size = x6.size := by omega
      have hb : (((x6.size : Nat) : Int) == (x6.size : Int)) = true := by simp
      have hg : ∀ kind, kind < 256 → ∃ out, spec_WriteLog.j3 (k + 1) x5 x6 ((x6.size : Nat) : Int) true (kind : Nat) = some out ∧ nb out = nb x5 ++ frag kind (nb x6) := by
        intro kind hkd
        rw [swl_j3 k x6 x5 x6.size kind true (by omega) (by omega) hkd (by omega) (by omega), if_pos rfl]
        refine ⟨_, rfl, ?_⟩
        rw [nb_append, nb_append, nb_fxd, nb_own x6 x6.size kind (by omega) (by omega) hkd, List.take_of_length_le (by rw [nb_length]; exact Nat.le_refl _), List.append_assoc]
        unfold frag
        rw [nb_length]
      rw [hmin, hb, wlF_last (by rw [nb_length]; omega)]
      cases first
      · rw [if_neg (by decide), spec_WriteLog.j2, if_neg (by decide), if_neg (by decide), if_pos rfl]
        exact hg 4 (by omega)
      · rw [if_pos rfl, spec_WriteLog.j2, if_pos rfl]
        exact hg 1 (by omega)
    · have hmin : min (left - 6) x6.size = left - 6 := by omega
      have hb : (((left - 6 : Nat) : Int) == (x6.size : Int)) = false := by rw [beq_eq_false_iff_ne]; omega
      have hs1 : (x6.extract (left - 6) x6.size).size = x6.size - (left - 6) := by rw [ByteArray.size_extract]; omega
      have hs2 : (x6.extract 0 (left - 6)).size = left - 6 := by rw [ByteArray.size_extract]; omega
      have hg : ∀ kind, kind < 256 → ∃ out, spec_WriteLog.j3 (k + 1) x5 x6 ((left - 6 : Nat) : Int) false (kind : Nat) = some out ∧ nb out = nb x5 ++ (frag kind ((nb x6).take (left - 6)) ++ wlF 64 false ((nb x6).drop (left - 6))) := by
        intro kind hkd
        rw [swl_j3 k x6 x5 (left - 6) kind false (by omega) (by omega) hkd (by omega) (by omega), if_neg (by decide)]
        obtain ⟨out, ho, hn⟩ := ih k (x6.extract (left - 6) x6.size) ((x5 ++ fxd (crcN ((left - 6) :: kind :: (nb x6).take (left - 6)) : Int)) ++ (strOfNums [((left - 6 : Nat) : Int) % 256, (kind : Int)] ++ x6.extract 0 (left - 6))) 0 false (by omega) (by omega)
          (by rw [bsize_append, bsize_append, bsize_append, fxd_size, two_size, hs2]; omega) (by omega)
        refine ⟨out, ho, ?_⟩
        rw [hn, nb_append, nb_append, nb_fxd, nb_own x6 (left - 6) kind (by omega) (by omega) hkd, nb_extract, List.take_of_length_le (i := x6.size) (by rw [nb_length]; exact Nat.le_refl _), List.append_assoc, List.append_assoc]
        congr 1
        unfold frag
        rw [List.length_take, nb_length, Nat.min_eq_left (by omega), List.append_assoc]
      rw [hmin, hb, wlF_more (by rw [nb_length]; omega) hl.1]
      cases first
      · rw [if_neg (by decide), spec_WriteLog.j2, if_neg (by decide), if_neg (by decide), if_neg (by decide)]
        exact hg 3 (by omega)
      · rw [if_pos rfl, spec_WriteLog.j2, if_neg (by decide), if_pos rfl]
        exact hg 2 (by omega)
theorem swlog (k : Nat) (a : Int) (s : ByteArray) (ha : 0 ≤ a) (hs : s.size ≤ 8000) (hk : 60000 ≤ k) : ∃ out, spec_WriteLog.f k a s = some out ∧ nb out = wlN a.toNat (nb s) := by
  obtain ⟨k, rfl⟩ : ∃ j, k = j + 1 + 1 := ⟨k - 2, by omega⟩
  obtain ⟨n, rfl⟩ := Int.eq_ofNat_of_zero_le ha
  unfold spec_WriteLog.f
  rw [if_neg (by omega), show decide ((s.size : Int) > 8000) = false by rw [decide_eq_false_iff_not]; omega, spec_WriteLog.j0, if_neg (by decide)]
  have e : Int.tmod (n : Int) 64 = ((n % 64 : Nat) : Int) := by rw [Int.tmod_eq_emod_of_nonneg (by omega)]; omega
  rw [e, Int.toNat_natCast]
  clear e
  unfold wlN
  have hl : n % 64 < 64 := by omega
  generalize n % 64 = a at hl
  by_cases c : 64 - a ≤ 6
  · rw [if_pos c]
    obtain ⟨out, ho, hn⟩ := swl s.size k s ((⟨#[]⟩ : ByteArray) ++ strOfNums (List.replicate (64 - a) 0)) 0 true (Nat.le_refl _) (by omega) (by rw [bsize_append, zeros_size]; show 0 + _ + _ ≤ _; omega) (by omega)
    have e : wrap64 (64 - (a : Int)) = ((64 - a : Nat) : Int) := by unfold wrap64; omega
    rw [spec_WriteLog.l0, e]
    clear e
    rw [if_pos (by omega), if_pos (by omega), if_pos (by omega), Int.toNat_natCast]
    simp only [Option.bind_some]
    rw [if_pos (by rw [zeros_size]; show 0 + _ ≤ _; omega)]
    refine ⟨out, ho, ?_⟩
    rw [hn, nb_append, nb_zeros, nb_empty]; rfl
  · rw [if_neg c]
    obtain ⟨out, ho, hn⟩ := swl s.size (k + 1) s (⟨#[]⟩ : ByteArray) a true (Nat.le_refl _) (by omega) (by show 0 + _ ≤ _; omega) (by omega)
    refine ⟨out, ho, ?_⟩
    rw [hn, nb_empty]; rfl
theorem swlog_bad (k : Nat) (a : Int) (s : ByteArray) (h : a < 0 ∨ 8000 < s.size) (hk : 1 ≤ k) : spec_WriteLog.f k a s = some (⟨#[]⟩ : ByteArray) := by
  obtain ⟨k, rfl⟩ : ∃ j, k = j + 1 := ⟨k - 1, by omega⟩
  unfold spec_WriteLog.f
  by_cases c : a < 0
  · rw [if_pos c, spec_WriteLog.j0, if_pos rfl]
  · rw [if_neg c, show decide ((s.size : Int) > 8000) = true by rw [decide_eq_true_eq]; omega, spec_WriteLog.j0, if_pos rfl]

theorem FnExactWriteLog : laws_FnExactWriteLog.Pure := by
  intro a s _ _
  refine ⟨60000, ?_⟩
  unfold laws_FnExactWriteLog.f
  by_cases h : (s.size : Int) > 1048576
  · rw [if_pos h]
  · rw [if_neg h]
    by_cases c : a < 0 ∨ 8000 < s.size
    · rw [swlog_bad _ a s c (by omega), iwlog_bad _ a s c (by omega)]
      simp
    · obtain ⟨o1, h1, e1⟩ := swlog 60000 a s (by omega) (by omega) (by omega)
      obtain ⟨o2, h2, e2⟩ := iwlog 60000 a s (by omega) (by omega) (by omega)
      have : o1 = o2 := nb_inj (e1.trans e2.symm)
      subst this
      rw [h1, h2]
      simp

end Go.Proofs.Ytfcjacncllmapac.Pure
