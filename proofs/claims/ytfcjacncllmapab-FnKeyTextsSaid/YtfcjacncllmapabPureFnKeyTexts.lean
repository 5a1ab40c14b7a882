/- A key comes back from its bytes, and what is read of bytes has just the bytes that it was read from: at every code. No condition. -/
import Derived.Test.YtfcjacncllmapabQFnKeyTextsx
namespace Go.Proofs.Ytfcjacncllmapab.Pure
open Go.RowKit Go.Proofs.Ytfcjacncllmapab.QFnKeyTexts Go.Proofs.YtfcjacncllmapabW.PrintWords Go.Proofs.YtfcjacncllmapabW.PrintLast Go.Proofs.YtfcjacncllmapabW.PrintMore
set_option linter.unusedVariables false
set_option linter.unusedSimpArgs false

/-! ## section base -/
/-- an unsigned kind's number that fits is not wrapped -/
theorem wrapU (k : IntKind) (hs : k.signed = false) (n : Nat) (h : n < 2 ^ k.bits) : k.wrap (n : Int) = n := by
  unfold IntKind.wrap
  rw [Int.emod_eq_of_lt (by omega) (by exact_mod_cast h)]
  simp [hs]
/-- bits of unsigned numbers are those of natural numbers -/
theorem b_or (k : IntKind) (hs : k.signed = false) (a b : Nat) (ha : a < 2 ^ k.bits) (hb : b < 2 ^ k.bits) : Go.bits .or k a b = ((a ||| b : Nat) : Int) := by
  simp only [Go.bits, BitVec.ofInt_natCast, BitVec.toNat_or, BitVec.toNat_ofNat, Nat.mod_eq_of_lt ha, Nat.mod_eq_of_lt hb]
  exact wrapU k hs _ (Nat.or_lt_two_pow ha hb)
theorem b_xor (k : IntKind) (hs : k.signed = false) (a b : Nat) (ha : a < 2 ^ k.bits) (hb : b < 2 ^ k.bits) : Go.bits .xor k a b = ((a ^^^ b : Nat) : Int) := by
  simp only [Go.bits, BitVec.ofInt_natCast, BitVec.toNat_xor, BitVec.toNat_ofNat, Nat.mod_eq_of_lt ha, Nat.mod_eq_of_lt hb]
  exact wrapU k hs _ (Nat.xor_lt_two_pow ha hb)
theorem b_and (k : IntKind) (hs : k.signed = false) (a b : Nat) (ha : a < 2 ^ k.bits) (hb : b < 2 ^ k.bits) : Go.bits .and k a b = ((a &&& b : Nat) : Int) := by
  simp only [Go.bits, BitVec.ofInt_natCast, BitVec.toNat_and, BitVec.toNat_ofNat, Nat.mod_eq_of_lt ha, Nat.mod_eq_of_lt hb]
  exact wrapU k hs _ (Nat.and_lt_two_pow _ hb)
theorem b_or8 (a b : Nat) (ha : a < 256) (hb : b < 256) : Go.bits .or .u8 a b = ((a ||| b : Nat) : Int) := b_or .u8 rfl a b ha hb
theorem u64w (x : Int) : IntKind.u64.wrap x = x % 18446744073709551616 := by simp [IntKind.wrap, IntKind.bits, IntKind.signed]

/-! ## section bytes -/
/-- the bytes of a text, as natural numbers -/
def nb (s : ByteArray) : List Nat := s.data.toList.map UInt8.toNat
theorem nb_length (s : ByteArray) : (nb s).length = s.size := by rw [nb, List.length_map, Array.length_toList]; rfl
theorem nb_lt (s : ByteArray) : ∀ b ∈ nb s, b < 256 := by
  intro b hb
  simp only [nb, List.mem_map] at hb
  obtain ⟨u, _, rfl⟩ := hb
  exact u.toNat_lt
theorem bt_nb (s : ByteArray) (i : Nat) (h : i < s.size) : bt s i = (((nb s)[i]'(by rw [nb_length]; exact h) : Nat) : Int) := by
  simp only [bt, Int.toNat_natCast, h, nb]
  simp
  rfl
theorem nb_drop (s : ByteArray) (i : Nat) (h : i < s.size) : ∃ b, (nb s).drop i = b :: (nb s).drop (i + 1) ∧ bt s i = (b : Int) ∧ b < 256 := by
  have hl : i < (nb s).length := by rw [nb_length]; exact h
  exact ⟨(nb s)[i], List.drop_eq_getElem_cons hl, bt_nb s i h, nb_lt s _ (List.getElem_mem hl)⟩
theorem nb_end (s : ByteArray) (i : Nat) (h : s.size ≤ i) : (nb s).drop i = [] := List.drop_eq_nil_of_le (by rw [nb_length]; exact h)
theorem w64 {x : Int} (h0 : -9223372036854775808 ≤ x) (h1 : x < 9223372036854775808) : wrap64 x = x := by unfold wrap64; omega
theorem w64s {i n : Nat} (h : i < n) (hn : n ≤ 140737488351232) : wrap64 ((i : Int) + 1) = ((i + 1 : Nat) : Int) := by rw [w64] <;> omega
theorem bits_range (k : IntKind) (hs : k.signed = false) (op : BinOp) (x y : Int) : 0 ≤ Go.bits op k x y ∧ Go.bits op k x y < 2 ^ k.bits := by
  have hp : (0 : Int) < 2 ^ k.bits := by exact_mod_cast Nat.two_pow_pos k.bits
  unfold Go.bits IntKind.wrap
  simp only [hs, Bool.false_and]
  exact ⟨Int.emod_nonneg _ (by omega), Int.emod_lt_of_pos _ hp⟩

/-! ## section takefixed -/
/-- the number of four bytes -/
def tfN (s : ByteArray) : Nat := (nb s).getD 0 0 + 256 * (nb s).getD 1 0 + 65536 * (nb s).getD 2 0 + 16777216 * (nb s).getD 3 0
theorem getD_lt (l : List Nat) (h : ∀ b ∈ l, b < 256) (i : Nat) : l.getD i 0 < 256 := by
  rw [List.getD_eq_getElem?_getD]
  cases hi : l[i]? with
  | none => simp
  | some b => simpa using h b (List.mem_of_getElem? hi)
theorem tfN_lt (s : ByteArray) : tfN s < 4294967296 := by
  have h := getD_lt (nb s) (nb_lt s)
  have h0 := h 0; have h1 := h 1; have h2 := h 2; have h3 := h 3
  unfold tfN; omega
theorem bt_getD (s : ByteArray) (i : Nat) : bt s i = (((nb s).getD i 0 : Nat) : Int) := by
  rcases Nat.lt_or_ge i s.size with h | h
  · rw [bt_nb s i h, List.getD_eq_getElem?_getD, List.getElem?_eq_getElem (by rw [nb_length]; exact h)]; rfl
  · have e : bt s i = 0 := by simp only [bt, Int.toNat_natCast]; rw [dif_neg (by omega)]
    rw [e, List.getD_eq_getElem?_getD, List.getElem?_eq_none (by rw [nb_length]; exact h)]; rfl
theorem or4 {a b c d : Nat} (ha : a < 256) (hb : b < 256) (hc : c < 256) (hd : d < 256) :
    Go.bits .or .u32 (Go.bits .or .u32 (Go.bits .or .u32 ((a : Int) % 4294967296) ((((b : Int) % 4294967296) * 256) % 4294967296)) ((((c : Int) % 4294967296) * 65536) % 4294967296)) ((((d : Int) % 4294967296) * 16777216) % 4294967296) = ((a + 256 * b + 65536 * c + 16777216 * d : Nat) : Int) := by
  have e0 : ((a : Int) % 4294967296) = ((a : Nat) : Int) := by omega
  have e1 : ((((b : Int) % 4294967296) * 256) % 4294967296) = ((2 ^ 8 * b : Nat) : Int) := by omega
  have e2 : ((((c : Int) % 4294967296) * 65536) % 4294967296) = ((2 ^ 16 * c : Nat) : Int) := by omega
  have e3 : ((((d : Int) % 4294967296) * 16777216) % 4294967296) = ((2 ^ 24 * d : Nat) : Int) := by omega
  rw [e0, e1, e2, e3]
  clear e0 e1 e2 e3
  rw [b_or .u32 rfl _ _ (by show _ < 4294967296; omega) (by show _ < 4294967296; omega), Nat.or_comm a, ← Nat.two_pow_add_eq_or_of_lt (by omega) b]
  rw [b_or .u32 rfl _ _ (by show _ < 4294967296; omega) (by show _ < 4294967296; omega), Nat.or_comm _ (2 ^ 16 * c), ← Nat.two_pow_add_eq_or_of_lt (by omega) c]
  rw [b_or .u32 rfl _ _ (by show _ < 4294967296; omega) (by show _ < 4294967296; omega), Nat.or_comm _ (2 ^ 24 * d), ← Nat.two_pow_add_eq_or_of_lt (by omega) d]
  congr 1; omega
def tfR (s : ByteArray) : Int × ByteArray × Bool := if s.size < 4 then (0, (⟨#[]⟩ : ByteArray), false) else ((tfN s : Int), s.extract 4 s.size, true)
theorem tf_val (s : ByteArray) : Go.bits .or .u32 (Go.bits .or .u32 (Go.bits .or .u32 ((bt s 0) % 4294967296) ((((bt s 1) % 4294967296) * 256) % 4294967296)) ((((bt s 2) % 4294967296) * 65536) % 4294967296)) ((((bt s 3) % 4294967296) * 16777216) % 4294967296) = (tfN s : Int) := by
  have h := getD_lt (nb s) (nb_lt s)
  rw [show (0 : Int) = ((0 : Nat) : Int) from rfl, show (1 : Int) = ((1 : Nat) : Int) from rfl, show (2 : Int) = ((2 : Nat) : Int) from rfl, show (3 : Int) = ((3 : Nat) : Int) from rfl, bt_getD, bt_getD, bt_getD, bt_getD]
  rw [or4 (h 0) (h 1) (h 2) (h 3)]; rfl
theorem itf (s : ByteArray) : impl_TakeFixed.f s = some (tfR s) := by
  unfold impl_TakeFixed.f tfR
  by_cases h : s.size < 4
  · rw [if_pos (by omega), if_pos h]
  · rw [if_neg (by omega), if_neg h, if_pos (by omega), if_pos (by omega), if_pos (by omega), if_pos (by omega), if_pos (by omega), tf_val]

/-! ## section takefixedspec -/
theorem stf (s : ByteArray) : spec_TakeFixed.f s = some (tfR s) := by
  unfold spec_TakeFixed.f tfR
  by_cases h : s.size < 4
  · rw [if_pos (by omega), if_pos h]
  · rw [if_neg (by omega), if_neg h, if_pos (by omega), if_pos (by omega), if_pos (by omega), if_pos (by omega), if_pos (by omega), tf_val]

/-! ## section keyok -/
def userB (s : ByteArray) : Bool := decide (1 ≤ s.size ∧ s.size ≤ 40)
def inB (n lo hi : Int) : Bool := decide (lo ≤ n ∧ n ≤ hi)
theorem iuser (s : ByteArray) : impl_isUser.f s = some (userB s) := by
  unfold impl_isUser.f userB
  split
  · congr 1; rw [decide_eq_decide]; omega
  · congr 1; symm; rw [decide_eq_false_iff_not]; omega
theorem suser (s : ByteArray) : spec_l2User.f s = some (userB s) := by
  unfold spec_l2User.f userB
  split
  · congr 1; rw [decide_eq_decide]; omega
  · congr 1; symm; rw [decide_eq_false_iff_not]; omega
theorem iwithin (n lo hi : Int) : impl_within.f n lo hi = some (inB n lo hi) := by
  unfold impl_within.f inB
  split
  · congr 1; rw [decide_eq_decide]; omega
  · congr 1; symm; rw [decide_eq_false_iff_not]; omega
theorem swithin (n lo hi : Int) : spec_l1In.f n lo hi = some (inB n lo hi) := by
  unfold spec_l1In.f inB
  split
  · congr 1; rw [decide_eq_decide]; omega
  · congr 1; symm; rw [decide_eq_false_iff_not]; omega
def keyB (u : ByteArray) (q d : Int) : Bool := userB u && inB q 0 1000000000000 && inB d 0 1
theorem ikeyok (u : ByteArray) (q d : Int) : impl_KeyOk.f u q d = some (keyB u q d) := by
  unfold impl_KeyOk.f keyB
  rw [iuser, iwithin, iwithin]
  simp only [Option.bind_some]
  cases userB u <;> cases inB q 0 1000000000000 <;> cases inB d 0 1 <;> rfl
theorem skeyok (u : ByteArray) (q d : Int) : spec_KeyOk.f u q d = some (keyB u q d) := by
  unfold spec_KeyOk.f keyB
  rw [suser, swithin, swithin]
  simp only [Option.bind_some]
  cases userB u <;> cases inB q 0 1000000000000 <;> cases inB d 0 1 <;> rfl

/-! ## section readkey -/
/-- the number of the last eight bytes -/
def rkN (s : ByteArray) : Nat := tfN (s.extract (s.size - 8) s.size) + 4294967296 * tfN ((s.extract (s.size - 8) s.size).extract 4 (s.extract (s.size - 8) s.size).size)
def rkR (s : ByteArray) : ByteArray × Int × Int × Bool :=
  if s.size < 9 then ((⟨#[]⟩ : ByteArray), 0, 0, false) else if keyB (s.extract 0 (s.size - 8)) (rkN s / 2 : Nat) (rkN s % 2 : Nat) = true then (s.extract 0 (s.size - 8), ((rkN s / 2 : Nat) : Int), ((rkN s % 2 : Nat) : Int), true) else ((⟨#[]⟩ : ByteArray), 0, 0, false)
theorem rk_tf {s : ByteArray} (h : ¬ s.size < 9) : tfR (s.extract (s.size - 8) s.size) = ((tfN (s.extract (s.size - 8) s.size) : Int), (s.extract (s.size - 8) s.size).extract 4 (s.extract (s.size - 8) s.size).size, true)
    ∧ tfR ((s.extract (s.size - 8) s.size).extract 4 (s.extract (s.size - 8) s.size).size) = ((tfN ((s.extract (s.size - 8) s.size).extract 4 (s.extract (s.size - 8) s.size).size) : Int), ((s.extract (s.size - 8) s.size).extract 4 (s.extract (s.size - 8) s.size).size).extract 4 ((s.extract (s.size - 8) s.size).extract 4 (s.extract (s.size - 8) s.size).size).size, true) := by
  have e : (s.extract (s.size - 8) s.size).size = 8 := by rw [ByteArray.size_extract]; omega
  have e2 : ((s.extract (s.size - 8) s.size).extract 4 (s.extract (s.size - 8) s.size).size).size = 4 := by rw [ByteArray.size_extract]; omega
  unfold tfR
  rw [if_neg (by omega), if_neg (by omega)]
  exact ⟨rfl, rfl⟩
theorem rk_u64 {a b : Nat} (ha : a < 4294967296) (hb : b < 4294967296) : Go.bits .or .u64 (IntKind.u64.wrap ((IntKind.u64.wrap (b : Int)) * 4294967296)) (IntKind.u64.wrap (a : Int)) = ((a + 4294967296 * b : Nat) : Int) := by
  have e1 : IntKind.u64.wrap (a : Int) = ((a : Nat) : Int) := by rw [u64w]; omega
  have e2 : IntKind.u64.wrap ((IntKind.u64.wrap (b : Int)) * 4294967296) = ((2 ^ 32 * b : Nat) : Int) := by rw [u64w, u64w]; omega
  rw [e1, e2]
  clear e1 e2
  rw [b_or .u64 rfl _ _ (by show _ < 18446744073709551616; omega) (by show _ < 18446744073709551616; omega), ← Nat.two_pow_add_eq_or_of_lt ha b]
  congr 1; omega
theorem rk_i64 {a b : Nat} (ha : a < 4294967296) (hb : b < 1073741824) : Go.bits .or .i64 (wrap64 ((wrap64 (b : Int)) * 4294967296)) (wrap64 (a : Int)) = ((a + 4294967296 * b : Nat) : Int) := by
  have e1 : wrap64 (a : Int) = ((a : Nat) : Int) := by unfold wrap64; omega
  have e2 : wrap64 ((wrap64 (b : Int)) * 4294967296) = ((2 ^ 32 * b : Nat) : Int) := by unfold wrap64; omega
  rw [e1, e2]
  clear e1 e2
  rw [bits_join .i64 62 (by decide) (fun n h0 h1 => by have : (2 : Int) ^ 62 = 4611686018427387904 := rfl; rw [IntKind.wrap_i64]; omega) 32 _ _ (by omega) (by have : (2 : Int) ^ 32 = 4294967296 := rfl; omega) (by have : (2 : Int) ^ 62 = 4611686018427387904 := rfl; omega) (by omega) (by have : (2 : Int) ^ 32 = 4294967296 := rfl; omega) (by have : (2 : Int) ^ 62 = 4611686018427387904 := rfl; omega)]
  omega
theorem key_num {u : ByteArray} {q d : Int} (h : keyB u q d = true) : q ≤ 1000000000000 := by
  simp only [keyB, inB, Bool.and_eq_true, decide_eq_true_eq] at h; omega
theorem irk (s : ByteArray) (hs : s.size ≤ 140737488351232) : impl_ReadKey.f s = some (rkR s) := by
  unfold impl_ReadKey.f rkR
  have e0 : wrap64 ((s.size : Int) - 8) = (s.size : Int) - 8 := by unfold wrap64; omega
  rw [e0]
  by_cases h : s.size < 9
  · rw [if_pos (by omega), if_pos h]
  · obtain ⟨t1, t2⟩ := rk_tf h
    have en : ((s.size : Int) - 8).toNat = s.size - 8 := by omega
    rw [if_neg (by omega), if_neg h, if_pos (by omega), if_pos (by omega), en, itf]
    simp only [Option.bind_some]
    rw [t1]
    simp only []
    rw [itf]
    simp only [Option.bind_some]
    rw [t2]
    simp only []
    rw [rk_u64 (tfN_lt _) (tfN_lt _)]
    have hn : rkN s < 18446744073709551616 := by
      have := tfN_lt (s.extract (s.size - 8) s.size); have := tfN_lt ((s.extract (s.size - 8) s.size).extract 4 (s.extract (s.size - 8) s.size).size)
      unfold rkN; omega
    rw [show tfN (s.extract (s.size - 8) s.size) + 4294967296 * tfN ((s.extract (s.size - 8) s.size).extract 4 (s.extract (s.size - 8) s.size).size) = rkN s from rfl]
    have d1 : wrap64 (IntKind.u64.wrap (Int.tdiv (rkN s : Int) 2)) = ((rkN s / 2 : Nat) : Int) := by
      rw [u64w, Int.tdiv_eq_ediv_of_nonneg (by omega)]; unfold wrap64; omega
    have d2 : wrap64 (Int.tmod (rkN s : Int) 2) = ((rkN s % 2 : Nat) : Int) := by
      rw [Int.tmod_eq_emod_of_nonneg (by omega)]; unfold wrap64; omega
    rw [d1, d2, ikeyok]
    simp only [Option.bind_some]
    split <;> rfl
theorem srk (s : ByteArray) (hs : s.size ≤ 140737488351232) : spec_ReadKey.f s = some (rkR s) := by
  unfold spec_ReadKey.f rkR
  have e0 : wrap64 ((s.size : Int) - 8) = (s.size : Int) - 8 := by unfold wrap64; omega
  rw [e0]
  by_cases h : s.size < 9
  · rw [if_pos (by omega), if_pos h]
  · obtain ⟨t1, t2⟩ := rk_tf h
    have en : ((s.size : Int) - 8).toNat = s.size - 8 := by omega
    rw [if_neg (by omega), if_neg h, if_pos (by omega), if_pos (by omega), en, stf]
    simp only [Option.bind_some]
    rw [t1]
    simp only []
    rw [stf]
    simp only [Option.bind_some]
    rw [t2]
    simp only []
    by_cases hb : 1073741824 ≤ tfN ((s.extract (s.size - 8) s.size).extract 4 (s.extract (s.size - 8) s.size).size)
    · rw [if_pos (by omega)]
      rw [if_neg]
      intro hk
      have := key_num hk
      unfold rkN at this
      omega
    · rw [if_neg (by omega), rk_i64 (tfN_lt _) (by omega)]
      have hn : rkN s < 4611686018427387904 := by
        have := tfN_lt (s.extract (s.size - 8) s.size)
        unfold rkN; omega
      rw [show tfN (s.extract (s.size - 8) s.size) + 4294967296 * tfN ((s.extract (s.size - 8) s.size).extract 4 (s.extract (s.size - 8) s.size).size) = rkN s from rfl]
      have d1 : wrap64 (Int.tdiv (rkN s : Int) 2) = ((rkN s / 2 : Nat) : Int) := by
        rw [Int.tdiv_eq_ediv_of_nonneg (by omega)]; unfold wrap64; omega
      have d2 : Int.tmod (rkN s : Int) 2 = ((rkN s % 2 : Nat) : Int) := by
        rw [Int.tmod_eq_emod_of_nonneg (by omega)]; omega
      rw [d1, d2, skeyok]
      simp only [Option.bind_some]
      split <;> rfl

/-! ## section keytext -/
/-- the four bytes of a number -/
def fxd (x : Int) : ByteArray := strOfNums ([x % 256, (x / 256) % 256, (x / 65536) % 256, (x / 16777216) % 256] : List Int)
theorem ipf (x : Int) : impl_PutFixed.f x = some (fxd x) := rfl
theorem spf (x : Int) : spec_PutFixed.f x = some (fxd x) := rfl
theorem fxd_size (x : Int) : (fxd x).size = 4 := by simp [fxd, strOfNums, ByteArray.size]
/-- what a right key is as text -/
def ktB (u : ByteArray) (q d : Int) : ByteArray := (u ++ fxd ((2 * q + d) % 4294967296)) ++ fxd (((2 * q + d) / 4294967296) % 4294967296)
theorem kt_num {u : ByteArray} {q d : Int} (h : keyB u q d = true) : IntKind.u64.wrap (wrap64 ((wrap64 (2 * q)) + d)) = 2 * q + d ∧ u.size ≤ 40 := by
  simp only [keyB, userB, inB, Bool.and_eq_true, decide_eq_true_eq] at h
  refine ⟨?_, by omega⟩
  have e1 : wrap64 (2 * q) = 2 * q := by unfold wrap64; omega
  have e2 : wrap64 (2 * q + d) = 2 * q + d := by unfold wrap64; omega
  rw [e1, e2]
  simp [IntKind.wrap, IntKind.bits, IntKind.signed]; omega
theorem ikt0 {u : ByteArray} {q d : Int} (h : keyB u q d = true) : impl_keyText.f u q d = some (ktB u q d) := by
  obtain ⟨e, hu⟩ := kt_num h
  unfold impl_keyText.f
  rw [e]
  simp only [ipf, Option.bind_some]
  rw [if_pos (by rw [fxd_size]; omega), if_pos (by rw [ByteArray.size_append, fxd_size, fxd_size]; omega)]
  rfl
theorem ikt (u : ByteArray) (q d : Int) : impl_KeyText.f u q d = some (if keyB u q d = true then ktB u q d else (⟨#[]⟩ : ByteArray)) := by
  unfold impl_KeyText.f
  rw [ikeyok]
  simp only [Option.bind_some]
  by_cases h : keyB u q d = true
  · rw [if_pos h, if_pos h, ikt0 h]; rfl
  · rw [if_neg h, if_neg h]
theorem skt (u : ByteArray) (q d : Int) : spec_KeyText.f u q d = some (if keyB u q d = true then ktB u q d else (⟨#[]⟩ : ByteArray)) := by
  unfold spec_KeyText.f
  rw [skeyok]
  simp only [Option.bind_some]
  by_cases h : keyB u q d = true
  · obtain ⟨e, hu⟩ := kt_num h
    rw [if_pos h, if_pos h, e]
    simp only [spf, Option.bind_some]
    rw [if_pos (by rw [fxd_size]; omega), if_pos (by rw [ByteArray.size_append, fxd_size, fxd_size]; omega)]
    rfl
  · rw [if_neg h, if_neg h]

/-! ## section ba -/
theorem nb_append (a b : ByteArray) : nb (a ++ b) = nb a ++ nb b := by
  simp [nb, ByteArray.data_append]
theorem nb_extract (s : ByteArray) (i j : Nat) : nb (s.extract i j) = ((nb s).take j).drop i := by
  rw [List.drop_take]
  simp [nb, ByteArray.data_extract]
theorem nb_inj {a b : ByteArray} (h : nb a = nb b) : a = b := by
  have h1 : a.data.toList = b.data.toList := by
    have h2 : ∀ (l m : List UInt8), l.map UInt8.toNat = m.map UInt8.toNat → l = m := by
      intro l
      induction l with
      | nil => intro m h; cases m with
        | nil => rfl
        | cons y m => simp at h
      | cons x l ih => intro m h; cases m with
        | nil => simp at h
        | cons y m =>
          simp only [List.map_cons, List.cons.injEq] at h
          rw [UInt8.toNat_inj.1 h.1, ih m h.2]
    exact h2 _ _ h
  cases a; cases b; simp_all
theorem nb_nums (l : List Int) (h : ∀ x ∈ l, 0 ≤ x ∧ x < 256) : nb (strOfNums l) = l.map Int.toNat := by
  simp only [nb, strOfNums, List.map_map]
  apply List.map_congr_left
  intro x hx
  have := h x hx
  simp only [Function.comp]
  rw [UInt8.toNat_ofNat']
  exact Nat.mod_eq_of_lt (by omega)
theorem nb_empty : nb (⟨#[]⟩ : ByteArray) = [] := rfl
theorem bsize_append (a b : ByteArray) : (a ++ b).size = a.size + b.size := ByteArray.size_append

/-! ## section draw -/
/-- the code that things are drawn from: each cell is a byte -/
def isCode (l : List Int) : Prop := l.length ≤ 1048576 ∧ ∀ x ∈ l, 0 ≤ x ∧ x ≤ 255
theorem code_of {l : List Int} (h : ¬ ((l.length : Int) > 1048576)) (hw : ∀ x ∈ l, (Lit.int .u8 x).wf = true) : isCode l := by
  refine ⟨by omega, fun x hx => ?_⟩
  have := hw x hx
  simp [Lit.wf, IntKind.min, IntKind.max, IntKind.bits, IntKind.signed] at this
  omega
def posOk (l : List Int) (p : Int) : Prop := 0 ≤ p ∧ p ≤ l.length
theorem rd_code {l : List Int} (h : isCode l) (i : Int) : 0 ≤ rd l i ∧ rd l i ≤ 255 := by
  unfold rd
  rw [List.getD_eq_getElem?_getD]
  cases hi : l[i.toNat]? with
  | none => simp
  | some b => simpa using h.2 b (List.mem_of_getElem? hi)
theorem dnext {l : List Int} (h : isCode l) {p : Int} (hp : posOk l p) : ∃ v q, spec_l1Rd_next.f l p = some (v, q) ∧ 0 ≤ v ∧ v ≤ 255 ∧ posOk l q := by
  have hl := h.1
  obtain ⟨h0, h1⟩ := hp
  unfold spec_l1Rd_next.f
  by_cases c : p ≥ (l.length : Int)
  · rw [if_pos c]
    exact ⟨0, p, rfl, by omega, by omega, h0, h1⟩
  · have e1 : wrap64 (p + 1) = p + 1 := by unfold wrap64; omega
    have e2 : wrap64 (p + 1 - 1) = p := by unfold wrap64; omega
    have hr := rd_code h p
    have e3 : wrap64 (rd l p) = rd l p := by unfold wrap64; omega
    rw [if_neg c, e1, e2, if_pos h0, if_pos (by omega), e3]
    exact ⟨_, _, rfl, hr.1, hr.2, by omega, by omega⟩
theorem dbelow {l : List Int} (h : isCode l) {p : Int} (hp : posOk l p) {n : Int} (hn : 1 ≤ n) : ∃ v q, spec_l1Rd_below.f l p n = some (v, q) ∧ 0 ≤ v ∧ v < n ∧ posOk l q := by
  unfold spec_l1Rd_below.f
  by_cases c : n ≤ 1
  · rw [if_pos c]
    exact ⟨0, p, rfl, by omega, by omega, hp⟩
  · rw [if_neg c]
    obtain ⟨v, q, e, h0, h1, hq⟩ := dnext h hp
    by_cases c2 : n ≤ 256
    · rw [if_pos c2, e]
      simp only [Option.bind_some]
      rw [if_neg (by omega)]
      refine ⟨_, _, rfl, ?_, ?_, hq⟩
      · rw [Int.tmod_eq_emod_of_nonneg h0]; exact Int.emod_nonneg _ (by omega)
      · rw [Int.tmod_eq_emod_of_nonneg h0]; exact Int.emod_lt_of_pos _ (by omega)
    · rw [if_neg c2, e]
      simp only [Option.bind_some]
      obtain ⟨v2, q2, e2, h2, h3, hq2⟩ := dnext h hq
      rw [e2]
      simp only [Option.bind_some]
      rw [if_neg (by omega)]
      have ew : wrap64 (wrap64 (v * 256) + v2) = v * 256 + v2 := by unfold wrap64; omega
      rw [ew]
      refine ⟨_, _, rfl, ?_, ?_, hq2⟩
      · rw [Int.tmod_eq_emod_of_nonneg (by omega)]; exact Int.emod_nonneg _ (by omega)
      · rw [Int.tmod_eq_emod_of_nonneg (by omega)]; exact Int.emod_lt_of_pos _ (by omega)
theorem posOk0 (l : List Int) : posOk l 0 := ⟨Int.le_refl _, by omega⟩

/-! ## section drawuser -/
theorem duser {l : List Int} (h : isCode l) {p : Int} (hp : posOk l p) : ∃ s q, spec_l1Rd_user.f l p = some (s, q) ∧ 1 ≤ s.size ∧ s.size ≤ 4 ∧ posOk l q := by
  unfold spec_l1Rd_user.f
  simp only [Option.bind_some]
  obtain ⟨v, r, e2, hv0, hv1, hr⟩ := dbelow h hp (n := 10) (by omega)
  rw [e2]
  simp only [Option.bind_some]
  rw [if_pos hv0, if_pos (by simpa using hv1)]
  obtain ⟨n, rfl⟩ := Int.eq_ofNat_of_zero_le hv0
  have hn : n < 10 := by omega
  have key : ∀ n, n < 10 → 1 ≤ (rdOf ByteArray.empty ([(⟨#[97]⟩ : ByteArray), (⟨#[98]⟩ : ByteArray), (⟨#[97, 98]⟩ : ByteArray), (⟨#[97, 98, 99]⟩ : ByteArray), (⟨#[97, 98, 100]⟩ : ByteArray), (⟨#[107, 101, 121]⟩ : ByteArray), (⟨#[107, 101, 121, 49]⟩ : ByteArray), (⟨#[107, 101, 121, 50]⟩ : ByteArray), (⟨#[122, 122]⟩ : ByteArray), (⟨#[97, 0]⟩ : ByteArray)] : List ByteArray) ((n : Nat) : Int)).size ∧ (rdOf ByteArray.empty ([(⟨#[97]⟩ : ByteArray), (⟨#[98]⟩ : ByteArray), (⟨#[97, 98]⟩ : ByteArray), (⟨#[97, 98, 99]⟩ : ByteArray), (⟨#[97, 98, 100]⟩ : ByteArray), (⟨#[107, 101, 121]⟩ : ByteArray), (⟨#[107, 101, 121, 49]⟩ : ByteArray), (⟨#[107, 101, 121, 50]⟩ : ByteArray), (⟨#[122, 122]⟩ : ByteArray), (⟨#[97, 0]⟩ : ByteArray)] : List ByteArray) ((n : Nat) : Int)).size ≤ 4 := by decide +kernel
  have := key n hn
  exact ⟨_, _, rfl, this.1, this.2, hr⟩

/-! ## section drawword -/
theorem dword_l0 {l : List Int} (h : isCode l) : ∀ (d k i : Nat) (x p : Int), i ≤ 8 → 8 - i = d → d < k → 0 ≤ x → x < 18446744073709551616 → posOk l p → ∃ v q, spec_l1Rd_word.l0 k x i l p = some (v, q) ∧ 0 ≤ v ∧ v < 18446744073709551616 ∧ posOk l q := by
  intro d
  induction d with
  | zero =>
    intro k i x p h1 h2 hk hx0 hx1 hp
    obtain ⟨k, rfl⟩ : ∃ m, k = m + 1 := ⟨k - 1, by omega⟩
    rw [spec_l1Rd_word.l0, if_neg (by omega)]
    exact ⟨_, _, rfl, hx0, hx1, hp⟩
  | succ d ih =>
    intro k i x p h1 h2 hk hx0 hx1 hp
    obtain ⟨k, rfl⟩ : ∃ m, k = m + 1 := ⟨k - 1, by omega⟩
    obtain ⟨v, q, e, _, _, hq⟩ := dnext h hp
    have ei : wrap64 ((i : Int) + 1) = ((i + 1 : Nat) : Int) := by unfold wrap64; omega
    rw [spec_l1Rd_word.l0, if_pos (by omega), e]
    simp only [Option.bind_some]
    rw [ei]
    have hb := bits_range .u64 rfl .or (IntKind.u64.wrap (x * 256)) (IntKind.u64.wrap v)
    exact ih k (i + 1) _ q (by omega) (by omega) (by omega) hb.1 hb.2 hq
theorem dword {l : List Int} (h : isCode l) {p : Int} (hp : posOk l p) {k : Nat} (hk : 9 ≤ k) : ∃ v q, spec_l1Rd_word.f k l p = some (v, q) ∧ 0 ≤ v ∧ v < 18446744073709551616 ∧ posOk l q := by
  unfold spec_l1Rd_word.f
  exact dword_l0 h 8 k 0 0 p (by omega) (by omega) (by omega) (by omega) (by omega) hp

/-! ## section drawnear -/
theorem dnear {l : List Int} (h : isCode l) {p : Int} (hp : posOk l p) {k : Nat} (hk : 9 ≤ k) {lo hi : Int} (h0 : 0 ≤ lo) (h1 : lo ≤ hi) (h2 : hi ≤ 1000000000000000) : ∃ v q, spec_l1Rd_near.f k l p lo hi = some (v, q) ∧ lo ≤ v ∧ v ≤ hi ∧ posOk l q := by
  unfold spec_l1Rd_near.f
  obtain ⟨v, q, e, _, _, hq⟩ := dbelow h hp (n := 8) (by omega)
  rw [e]
  simp only [Option.bind_some]
  by_cases c0 : v = 0
  · rw [if_pos c0]; exact ⟨_, _, rfl, by omega, by omega, hq⟩
  · rw [if_neg c0]
    by_cases c1 : v = 1
    · rw [if_pos c1]; exact ⟨_, _, rfl, by omega, by omega, hq⟩
    · rw [if_neg c1, if_neg (by omega)]
      obtain ⟨x, r, e2, hx0, hx1, hr⟩ := dword h hq hk
      rw [e2]
      simp only [Option.bind_some]
      have ew : IntKind.u64.wrap (wrap64 ((wrap64 (hi - lo)) + 1)) = hi - lo + 1 := by
        have e3 : wrap64 (hi - lo) = hi - lo := by unfold wrap64; omega
        have e4 : wrap64 (hi - lo + 1) = hi - lo + 1 := by unfold wrap64; omega
        rw [e3, e4, u64w]; omega
      rw [ew, if_neg (by omega)]
      have hm : 0 ≤ Int.tmod (x / 2) (hi - lo + 1) ∧ Int.tmod (x / 2) (hi - lo + 1) < hi - lo + 1 := by
        rw [Int.tmod_eq_emod_of_nonneg (by omega)]
        exact ⟨Int.emod_nonneg _ (by omega), Int.emod_lt_of_pos _ (by omega)⟩
      have ez : wrap64 (lo + (wrap64 (Int.tmod (x / 2) (hi - lo + 1)))) = lo + Int.tmod (x / 2) (hi - lo + 1) := by
        have e5 : wrap64 (Int.tmod (x / 2) (hi - lo + 1)) = Int.tmod (x / 2) (hi - lo + 1) := by unfold wrap64; omega
        rw [e5]; unfold wrap64; omega
      rw [ez]
      exact ⟨_, _, rfl, by omega, by omega, hr⟩

/-! ## section drawonce -/
theorem donce {l : List Int} (h : isCode l) {p : Int} (hp : posOk l p) {n : Int} (hn : 1 ≤ n) : ∃ v q, spec_l1Rd_once.f l p n = some (v, q) ∧ posOk l q := by
  unfold spec_l1Rd_once.f
  obtain ⟨v, q, e, _, _, hq⟩ := dbelow h hp hn
  rw [e]
  exact ⟨_, _, rfl, hq⟩

/-! ## section drawoff -/
def i64r (v : Int) : Prop := -9223372036854775808 ≤ v ∧ v ≤ 9223372036854775807
theorem doff {l : List Int} (h : isCode l) {p : Int} (hp : posOk l p) {k : Nat} (hk : 9 ≤ k) {lo hi : Int} (h0 : 0 ≤ lo) (h1 : lo ≤ hi) (h2 : hi ≤ 1000000000000000) : ∃ v q, spec_l1Rd_off.f k l p lo hi = some (v, q) ∧ i64r v ∧ posOk l q := by
  unfold spec_l1Rd_off.f
  obtain ⟨b, q, e, hq⟩ := donce h hp (n := 24) (by omega)
  rw [e]
  simp only [Option.bind_some]
  by_cases c : b = true
  · rw [if_pos c]
    obtain ⟨v, r, e2, hv0, hv1, hr⟩ := dbelow h hq (n := 4) (by omega)
    rw [e2]
    simp only [Option.bind_some]
    rw [if_pos hv0, if_pos (by simpa using hv1)]
    have e3 : wrap64 (lo - 1) = lo - 1 := by unfold wrap64; omega
    have e4 : wrap64 (hi + 1) = hi + 1 := by unfold wrap64; omega
    rw [e3, e4]
    refine ⟨_, _, rfl, ?_, hr⟩
    obtain ⟨n, rfl⟩ := Int.eq_ofNat_of_zero_le hv0
    have hn : n < 4 := by omega
    unfold rd i64r
    rw [Int.toNat_natCast]
    match n, hn with
    | 0, _ => simp; omega
    | 1, _ => simp; omega
    | 2, _ => simp
    | 3, _ => simp
  · rw [if_neg c]
    obtain ⟨v, r, e2, a, b, hr⟩ := dnear h hq hk h0 h1 h2
    rw [e2]
    exact ⟨_, _, rfl, ⟨by omega, by omega⟩, hr⟩

/-! ## section putsize -/
theorem strOfNums_size (l : List Int) : (strOfNums l).size = l.length := by simp [strOfNums, ByteArray.size]

/-! ## section drawbytes -/
theorem dbytes_l0 {l : List Int} (h : isCode l) : ∀ (d k : Nat) (acc : List Int) (p : Int), d < k → acc.length + d < 140737488355328 → (∀ x ∈ acc, 0 ≤ x ∧ x < 256) → posOk l p → ∃ zs q, spec_l1Rd_bytes.l0 k acc d l p = some (strOfNums zs, q) ∧ zs.length = acc.length + d ∧ (∀ x ∈ zs, 0 ≤ x ∧ x < 256) ∧ posOk l q := by
  intro d
  induction d with
  | zero =>
    intro k acc p hk hl ha hp
    obtain ⟨k, rfl⟩ : ∃ m, k = m + 1 := ⟨k - 1, by omega⟩
    rw [spec_l1Rd_bytes.l0, if_neg (by omega)]
    exact ⟨acc, p, rfl, by omega, ha, hp⟩
  | succ d ih =>
    intro k acc p hk hl ha hp
    obtain ⟨k, rfl⟩ : ∃ m, k = m + 1 := ⟨k - 1, by omega⟩
    obtain ⟨v, q, e, v0, v1, hq⟩ := dbelow h hp (n := 256) (by omega)
    have ed : wrap64 (((d + 1 : Nat) : Int) - 1) = (d : Int) := by unfold wrap64; omega
    rw [spec_l1Rd_bytes.l0, if_pos (by omega), e]
    simp only [Option.bind_some]
    rw [if_pos (by omega), ed]
    obtain ⟨zs, r, e2, hz, hb, hr⟩ := ih k (acc ++ [v % 256]) q (by omega) (by simp; omega) (by
      intro x hx
      rcases List.mem_append.1 hx with hx | hx
      · exact ha x hx
      · simp at hx; omega) hq
    exact ⟨zs, r, e2, by rw [hz]; simp; omega, hb, hr⟩
/-- some bytes are drawn: at most 'most' -/
theorem dbytes {l : List Int} (h : isCode l) {p : Int} (hp : posOk l p) {most k : Nat} (hm : most ≤ 1000) (hk : most < k) : ∃ s q, spec_l1Rd_bytes.f k l p (most : Int) = some (s, q) ∧ s.size ≤ most ∧ posOk l q := by
  unfold spec_l1Rd_bytes.f
  have em : wrap64 ((most : Int) + 1) = (most : Int) + 1 := by unfold wrap64; omega
  rw [em]
  obtain ⟨v, q, e, v0, v1, hq⟩ := dbelow h hp (n := (most : Int) + 1) (by omega)
  rw [e]
  simp only [Option.bind_some]
  obtain ⟨d, rfl⟩ := Int.eq_ofNat_of_zero_le v0
  obtain ⟨zs, r, e2, hz, _, hr⟩ := dbytes_l0 h d k [] q (by omega) (by simp; omega) (by simp) hq
  exact ⟨_, r, e2, by rw [strOfNums_size, hz]; simp; omega, hr⟩

/-! ## section drawkey -/
/-- a key is drawn: any key whose user is short -/
theorem dkey {l : List Int} (h : isCode l) {p : Int} (hp : posOk l p) {k : Nat} (hk : 46 ≤ k) : ∃ u s d q, spec_l1Rd_key.f k l p = some (u, s, d, q) ∧ u.size ≤ 45 ∧ i64r s ∧ i64r d ∧ posOk l q := by
  unfold spec_l1Rd_key.f
  obtain ⟨u, q1, e1, hu0, hu1, hq1⟩ := duser h hp
  rw [e1]; simp only [Option.bind_some]
  obtain ⟨s, q2, e2, hs0, hs1, hq2⟩ := dnear h hq1 (k := k) (by omega) (lo := 0) (hi := 12) (by omega) (by omega) (by omega)
  rw [e2]; simp only [Option.bind_some]
  obtain ⟨d, q3, e3, hd0, hd1, hq3⟩ := dbelow h hq2 (n := 2) (by omega)
  rw [e3]; simp only [Option.bind_some]
  obtain ⟨c, q4, e4, hc0, hc1, hq4⟩ := dbelow h hq3 (n := 24) (by omega)
  rw [e4]; simp only [Option.bind_some]
  have hs : i64r s := ⟨by omega, by omega⟩
  have hd : i64r d := ⟨by omega, by omega⟩
  split
  · obtain ⟨v, q5, e5, hv, hq5⟩ := doff h hq4 (k := k) (by omega) (lo := 0) (hi := 1000000000000) (by omega) (by omega) (by omega)
    rw [e5]; exact ⟨_, _, _, _, rfl, by omega, hv, hd, hq5⟩
  · split
    · obtain ⟨v, q5, e5, hv, hq5⟩ := doff h hq4 (k := k) (by omega) (lo := 0) (hi := 1) (by omega) (by omega) (by omega)
      rw [e5]; exact ⟨_, _, _, _, rfl, by omega, hs, hv, hq5⟩
    · split
      · obtain ⟨v, q5, e5, hv, hq5⟩ := dbytes h hq4 (most := 45) (k := k) (by omega) (by omega)
        simp only [Int.cast_ofNat_Int] at e5
        rw [e5]; exact ⟨_, _, _, _, rfl, hv, hs, hd, hq5⟩
      · exact ⟨_, _, _, _, rfl, by omega, hs, hd, hq4⟩

theorem nb_fxd (x : Nat) : nb (fxd (x : Int)) = [x % 256, x / 256 % 256, x / 65536 % 256, x / 16777216 % 256] := by
  unfold fxd
  rw [nb_nums]
  · simp only [List.map_cons, List.map_nil]
    congr 1 <;> first | omega | (congr 1 <;> first | omega | (congr 1 <;> first | omega | (congr 1; omega)))
  · intro y hy
    simp only [List.mem_cons, List.not_mem_nil, or_false] at hy
    rcases hy with rfl | rfl | rfl | rfl <;> omega
theorem tfN_app (x : Nat) (hx : x < 4294967296) (r : ByteArray) : tfN (fxd (x : Int) ++ r) = x := by
  unfold tfN
  rw [nb_append, nb_fxd]
  simp only [List.cons_append, List.nil_append, List.getD_cons_zero, List.getD_cons_succ]
  omega
theorem fxd_tfN (s : ByteArray) (h : s.size = 4) : fxd (tfN s : Int) = s := by
  apply nb_inj
  rw [nb_fxd]
  have hl : (nb s).length = 4 := by rw [nb_length, h]
  have hb := nb_lt s
  unfold tfN
  match hn : nb s, hl with
  | [a, b, c, d], _ =>
    rw [hn] at hb
    have ha := hb a (by simp); have hb' := hb b (by simp); have hc := hb c (by simp); have hd := hb d (by simp)
    simp only [List.getD_cons_zero, List.getD_cons_succ]
    congr 1
    · omega
    · congr 1
      · omega
      · congr 1
        · omega
        · congr 1; omega
theorem kt_size (u : ByteArray) (q d : Int) : (ktB u q d).size = u.size + 8 := by
  unfold ktB; rw [bsize_append, bsize_append, fxd_size, fxd_size]
theorem key_back {u : ByteArray} {q d : Int} (h : keyB u q d = true) : rkR (ktB u q d) = (u, q, d, true) := by
  have hk := h
  simp only [keyB, userB, inB, Bool.and_eq_true, decide_eq_true_eq] at hk
  have hsz := kt_size u q d
  obtain ⟨n, hn⟩ : ∃ n : Nat, 2 * q + d = (n : Int) := ⟨(2 * q + d).toNat, by omega⟩
  have ek : ktB u q d = u ++ (fxd ((n % 4294967296 : Nat) : Int) ++ fxd ((n / 4294967296 % 4294967296 : Nat) : Int)) := by
    unfold ktB; rw [hn, ByteArray.append_assoc]
    rw [show ((n : Int) % 4294967296) = ((n % 4294967296 : Nat) : Int) by omega, show ((n : Int) / 4294967296 % 4294967296) = ((n / 4294967296 % 4294967296 : Nat) : Int) by omega]
  have e1 : (ktB u q d).extract 0 ((ktB u q d).size - 8) = u := by
    apply nb_inj
    rw [nb_extract, hsz, ek, nb_append, List.drop_zero, show u.size + 8 - 8 = (nb u).length by rw [nb_length]; omega, List.take_left]
  have e2 : (ktB u q d).extract ((ktB u q d).size - 8) (ktB u q d).size = fxd ((n % 4294967296 : Nat) : Int) ++ fxd ((n / 4294967296 % 4294967296 : Nat) : Int) := by
    apply nb_inj
    rw [nb_extract, List.take_of_length_le (by rw [nb_length]; exact Nat.le_refl _), hsz, ek, nb_append, show u.size + 8 - 8 = (nb u).length by rw [nb_length]; omega, List.drop_left]
  have e3 : (fxd ((n % 4294967296 : Nat) : Int) ++ fxd ((n / 4294967296 % 4294967296 : Nat) : Int)).extract 4 (fxd ((n % 4294967296 : Nat) : Int) ++ fxd ((n / 4294967296 % 4294967296 : Nat) : Int)).size = fxd ((n / 4294967296 % 4294967296 : Nat) : Int) := by
    apply nb_inj
    rw [nb_extract, List.take_of_length_le (by rw [nb_length]; exact Nat.le_refl _), nb_append, show 4 = (nb (fxd ((n % 4294967296 : Nat) : Int))).length by rw [nb_length, fxd_size], List.drop_left]
  have en : rkN (ktB u q d) = n := by
    unfold rkN
    rw [e2, e3, tfN_app _ (by omega)]
    have : tfN (fxd ((n / 4294967296 % 4294967296 : Nat) : Int)) = n / 4294967296 % 4294967296 := by
      have h := tfN_app (n / 4294967296 % 4294967296) (by omega) (⟨#[]⟩ : ByteArray)
      rwa [show fxd ((n / 4294967296 % 4294967296 : Nat) : Int) ++ (⟨#[]⟩ : ByteArray) = fxd ((n / 4294967296 % 4294967296 : Nat) : Int) from by apply nb_inj; rw [nb_append, nb_empty, List.append_nil]] at h
    rw [this]
    omega
  unfold rkR
  rw [if_neg (by omega), e1, en, show ((n / 2 : Nat) : Int) = q by omega, show ((n % 2 : Nat) : Int) = d by omega, if_pos h]
theorem text_back (t : ByteArray) (h : (rkR t).2.2.2 = true) : keyB (rkR t).1 (rkR t).2.1 (rkR t).2.2.1 = true ∧ ktB (rkR t).1 (rkR t).2.1 (rkR t).2.2.1 = t := by
  unfold rkR at h ⊢
  by_cases c : t.size < 9
  · rw [if_pos c] at h; cases h
  · rw [if_neg c] at h ⊢
    by_cases g : keyB (t.extract 0 (t.size - 8)) ((rkN t / 2 : Nat) : Int) ((rkN t % 2 : Nat) : Int) = true
    · rw [if_pos g] at h ⊢
      refine ⟨g, ?_⟩
      have l1 := tfN_lt (t.extract (t.size - 8) t.size)
      have l2 := tfN_lt ((t.extract (t.size - 8) t.size).extract 4 (t.extract (t.size - 8) t.size).size)
      have s8 : (t.extract (t.size - 8) t.size).size = 8 := by rw [ByteArray.size_extract]; omega
      have s4 : ((t.extract (t.size - 8) t.size).extract 4 (t.extract (t.size - 8) t.size).size).size = 4 := by rw [ByteArray.size_extract]; omega
      have s4' : ((t.extract (t.size - 8) t.size).extract 0 4).size = 4 := by rw [ByteArray.size_extract]; omega
      have et : tfN ((t.extract (t.size - 8) t.size).extract 0 4) = tfN (t.extract (t.size - 8) t.size) := by
        unfold tfN
        rw [nb_extract, List.drop_zero]
        have hl : (nb (t.extract (t.size - 8) t.size)).length = 8 := by rw [nb_length, s8]
        simp [List.getD_eq_getElem?_getD, List.getElem?_take]
      unfold ktB
      have hn : 2 * ((rkN t / 2 : Nat) : Int) + ((rkN t % 2 : Nat) : Int) = (rkN t : Int) := by omega
      simp only []
      rw [hn]
      have h1 : (rkN t : Int) % 4294967296 = (tfN (t.extract (t.size - 8) t.size) : Int) := by unfold rkN; omega
      have h2 : (rkN t : Int) / 4294967296 % 4294967296 = (tfN ((t.extract (t.size - 8) t.size).extract 4 (t.extract (t.size - 8) t.size).size) : Int) := by unfold rkN; omega
      rw [h1, h2, ← et, fxd_tfN _ s4', fxd_tfN _ s4]
      have x1 : nb (t.extract 0 (t.size - 8)) = (nb t).take (t.size - 8) := by rw [nb_extract, List.drop_zero]
      have x2 : nb (t.extract (t.size - 8) t.size) = (nb t).drop (t.size - 8) := by rw [nb_extract, List.take_of_length_le (by rw [nb_length]; exact Nat.le_refl _)]
      have x3 : nb ((t.extract (t.size - 8) t.size).extract 0 4) = (nb (t.extract (t.size - 8) t.size)).take 4 := by rw [nb_extract, List.drop_zero]
      have x4 : nb ((t.extract (t.size - 8) t.size).extract 4 (t.extract (t.size - 8) t.size).size) = (nb (t.extract (t.size - 8) t.size)).drop 4 := by rw [nb_extract, List.take_of_length_le (by rw [nb_length]; exact Nat.le_refl _)]
      apply nb_inj
      rw [nb_append, nb_append, x3, x4, List.append_assoc, List.take_append_drop, x1, x2, List.take_append_drop]
    · rw [if_neg g] at h; cases h
theorem FnKeyTexts : laws_FnKeyTexts.Pure := by
  intro l _ _ hw
  refine ⟨100, ?_⟩
  unfold laws_FnKeyTexts.f laws_big.f
  simp only [Option.bind_some]
  by_cases hb : (l.length : Int) > 1048576
  · rw [if_pos (by simpa using hb)]
  · have hc := code_of hb hw
    rw [if_neg (by simpa using hb)]
    obtain ⟨u, s, d, q, ek, hu, hs, hd, hq⟩ := dkey hc (posOk0 l) (k := 100) (by omega)
    have edk : spec_DrawKeyText.f 100 l = some (u, s, d) := by
      unfold spec_DrawKeyText.f spec_l1Open.f
      simp only [Option.bind_some]; rw [ek]; rfl
    rw [edk]
    simp only [Option.bind_some]
    have fin : laws_FnKeyTexts.j0 100 l false = some true := by
      rw [laws_FnKeyTexts.j0, if_neg (by decide)]
      obtain ⟨t, et, ht⟩ : ∃ t, spec_DrawReadKey.f 99 l = some t ∧ t.size ≤ 1000 := by
        obtain ⟨u, s, d, q, ek, hu, hs, hd, hq⟩ := dkey hc (posOk0 l) (k := 99) (by omega)
        unfold spec_DrawReadKey.f spec_l1Open.f
        simp only [Option.bind_some]
        rw [ek]
        simp only [Option.bind_some]
        rw [skt]
        simp only [Option.bind_some]
        have hz : (if keyB u s d = true then ktB u s d else (⟨#[]⟩ : ByteArray)).size ≤ 53 := by
          split
          · rw [kt_size]; omega
          · show 0 ≤ 53; omega
        obtain ⟨c, q4, e4, hc0, hc1, hq4⟩ := dbelow hc hq (n := 6) (by omega)
        rw [e4]; simp only [Option.bind_some]
        split
        · obtain ⟨v, q5, e5, hv, hq5⟩ := dbytes hc hq4 (most := 12) (k := 99) (by omega) (by omega)
          simp only [Int.cast_ofNat_Int] at e5
          rw [e5]; exact ⟨v, rfl, by omega⟩
        · split
          · obtain ⟨v, q5, e5, hv, hq5⟩ := dbytes hc hq4 (most := 2) (k := 99) (by omega) (by omega)
            simp only [Int.cast_ofNat_Int] at e5
            rw [e5]; simp only [Option.bind_some]
            rw [if_pos (by omega)]; exact ⟨_, rfl, by rw [bsize_append]; omega⟩
          · exact ⟨_, rfl, by omega⟩
      rw [et]
      simp only [Option.bind_some]
      rw [irk t (by omega), srk t (by omega)]
      simp only [Option.bind_some]
      rw [if_pos (by simp)]
      by_cases g : (rkR t).2.2.2 = true
      · rw [if_pos g, ikt]
        obtain ⟨k1, k2⟩ := text_back t g
        simp only [Option.bind_some]
        rw [if_pos k1, k2]; simp
      · rw [if_neg g]
    rw [ikt, skt]
    simp only [Option.bind_some]
    have hz : (if keyB u s d = true then ktB u s d else (⟨#[]⟩ : ByteArray)).size ≤ 53 := by
      split
      · rw [kt_size]; omega
      · show 0 ≤ 53; omega
    rw [irk _ (by omega)]
    simp only [Option.bind_some]
    rw [if_pos trivial, ikeyok]
    simp only [Option.bind_some]
    by_cases g : keyB u s d = true
    · rw [if_pos g, key_back g, g]
      simp only [bne_self_eq_false]
      rw [if_neg (by decide)]
      simpa using fin
    · rw [if_neg g]
      have g' : keyB u s d = false := by simpa using g
      have er : rkR (⟨#[]⟩ : ByteArray) = ((⟨#[]⟩ : ByteArray), 0, 0, false) := rfl
      rw [er, g']
      simp only [bne_self_eq_false]
      rw [if_neg (by decide), if_neg (by decide)]
      exact fin

end Go.Proofs.Ytfcjacncllmapab.Pure
