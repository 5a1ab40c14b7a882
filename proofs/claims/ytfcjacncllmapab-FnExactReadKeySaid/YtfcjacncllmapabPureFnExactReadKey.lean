/- The program's ReadKey returns what the reference's ReadKey returns, for every text: no condition. -/
import Derived.Test.YtfcjacncllmapabPFnExactReadKeyx
namespace Go.Proofs.Ytfcjacncllmapab.Pure
open Go.RowKit Go.Proofs.Ytfcjacncllmapab.PFnExactReadKey Go.Proofs.YtfcjacncllmapabW.PrintWords Go.Proofs.YtfcjacncllmapabW.PrintLast Go.Proofs.YtfcjacncllmapabW.PrintMore
set_option linter.unusedVariables false
set_option linter.unusedSimpArgs false

/-! ## section base -/
/-- an unsigned kind's number that fits is not wrapped -/
theorem wrapU (k : IntKind) (hs : k.signed = false) (n : Nat) (h : n < 2 ^ k.bits) : k.wrap (n : Int) = n := by
  unfold IntKind.wrap
  rw [Int.emod_eq_of_lt (by omega) (by exact_mod_cast h)]
  simp [hs]
/-- bits of unsigned numbers are those of natural numbers -/
theorem b_or (k : IntKind) (hs : k.signed = false) (a b : Nat) (ha : a < 2 ^ k.bits) (hb : b < 2 ^ k.bits) : Go.bits .or k a b = ((a ||| b : Nat) : Int) := by
  simp only [Go.bits, BitVec.ofInt_natCast, BitVec.toNat_or, BitVec.toNat_ofNat, Nat.mod_eq_of_lt ha, Nat.mod_eq_of_lt hb]
  exact wrapU k hs _ (Nat.or_lt_two_pow ha hb)
theorem b_xor (k : IntKind) (hs : k.signed = false) (a b : Nat) (ha : a < 2 ^ k.bits) (hb : b < 2 ^ k.bits) : Go.bits .xor k a b = ((a ^^^ b : Nat) : Int) := by
  simp only [Go.bits, BitVec.ofInt_natCast, BitVec.toNat_xor, BitVec.toNat_ofNat, Nat.mod_eq_of_lt ha, Nat.mod_eq_of_lt hb]
  exact wrapU k hs _ (Nat.xor_lt_two_pow ha hb)
theorem b_and (k : IntKind) (hs : k.signed = false) (a b : Nat) (ha : a < 2 ^ k.bits) (hb : b < 2 ^ k.bits) : Go.bits .and k a b = ((a &&& b : Nat) : Int) := by
  simp only [Go.bits, BitVec.ofInt_natCast, BitVec.toNat_and, BitVec.toNat_ofNat, Nat.mod_eq_of_lt ha, Nat.mod_eq_of_lt hb]
  exact wrapU k hs _ (Nat.and_lt_two_pow _ hb)
theorem b_or8 (a b : Nat) (ha : a < 256) (hb : b < 256) : Go.bits .or .u8 a b = ((a ||| b : Nat) : Int) := b_or .u8 rfl a b ha hb
theorem u64w (x : Int) : IntKind.u64.wrap x = x % 18446744073709551616 := by simp [IntKind.wrap, IntKind.bits, IntKind.signed]

/-! ## section bytes -/
/-- the bytes of a text, as natural numbers -/
def nb (s : ByteArray) : List Nat := s.data.toList.map UInt8.toNat
theorem nb_length (s : ByteArray) : (nb s).length = s.size := by rw [nb, List.length_map, Array.length_toList]; rfl
theorem nb_lt (s : ByteArray) : ∀ b ∈ nb s, b < 256 := by
  intro b hb
  simp only [nb, List.mem_map] at hb
  obtain ⟨u, _, rfl⟩ := hb
  exact u.toNat_lt
theorem bt_nb (s : ByteArray) (i : Nat) (h : i < s.size) : bt s i = (((nb s)[i]'(by rw [nb_length]; exact h) : Nat) : Int) := by
  simp only [bt, Int.toNat_natCast, h, nb]
  simp
  rfl
theorem nb_drop (s : ByteArray) (i : Nat) (h : i < s.size) : ∃ b, (nb s).drop i = b :: (nb s).drop (i + 1) ∧ bt s i = (b : Int) ∧ b < 256 := by
  have hl : i < (nb s).length := by rw [nb_length]; exact h
  exact ⟨(nb s)[i], List.drop_eq_getElem_cons hl, bt_nb s i h, nb_lt s _ (List.getElem_mem hl)⟩
theorem nb_end (s : ByteArray) (i : Nat) (h : s.size ≤ i) : (nb s).drop i = [] := List.drop_eq_nil_of_le (by rw [nb_length]; exact h)
theorem w64 {x : Int} (h0 : -9223372036854775808 ≤ x) (h1 : x < 9223372036854775808) : wrap64 x = x := by unfold wrap64; omega
theorem w64s {i n : Nat} (h : i < n) (hn : n ≤ 140737488351232) : wrap64 ((i : Int) + 1) = ((i + 1 : Nat) : Int) := by rw [w64] <;> omega
theorem bits_range (k : IntKind) (hs : k.signed = false) (op : BinOp) (x y : Int) : 0 ≤ Go.bits op k x y ∧ Go.bits op k x y < 2 ^ k.bits := by
  have hp : (0 : Int) < 2 ^ k.bits := by exact_mod_cast Nat.two_pow_pos k.bits
  unfold Go.bits IntKind.wrap
  simp only [hs, Bool.false_and]
  exact ⟨Int.emod_nonneg _ (by omega), Int.emod_lt_of_pos _ hp⟩

/-! ## section takefixed -/
/-- the number of four bytes -/
def tfN (s : ByteArray) : Nat := (nb s).getD 0 0 + 256 * (nb s).getD 1 0 + 65536 * (nb s).getD 2 0 + 16777216 * (nb s).getD 3 0
theorem getD_lt (l : List Nat) (h : ∀ b ∈ l, b < 256) (i : Nat) : l.getD i 0 < 256 := by
  rw [List.getD_eq_getElem?_getD]
  cases hi : l[i]? with
  | none => simp
  | some b => simpa using h b (List.mem_of_getElem? hi)
theorem tfN_lt (s : ByteArray) : tfN s < 4294967296 := by
  have h := getD_lt (nb s) (nb_lt s)
  have h0 := h 0; have h1 := h 1; have h2 := h 2; have h3 := h 3
  unfold tfN; omega
theorem bt_getD (s : ByteArray) (i : Nat) : bt s i = (((nb s).getD i 0 : Nat) : Int) := by
  rcases Nat.lt_or_ge i s.size with h | h
  · rw [bt_nb s i h, List.getD_eq_getElem?_getD, List.getElem?_eq_getElem (by rw [nb_length]; exact h)]; rfl
  · have e : bt s i = 0 := by simp only [bt, Int.toNat_natCast]; rw [dif_neg (by omega)]
    rw [e, List.getD_eq_getElem?_getD, List.getElem?_eq_none (by rw [nb_length]; exact h)]; rfl
theorem or4 {a b c d : Nat} (ha : a < 256) (hb : b < 256) (hc : c < 256) (hd : d < 256) :
    Go.bits .or .u32 (Go.bits .or .u32 (Go.bits .or .u32 ((a : Int) % 4294967296) ((((b : Int) % 4294967296) * 256) % 4294967296)) ((((c : Int) % 4294967296) * 65536) % 4294967296)) ((((d : Int) % 4294967296) * 16777216) % 4294967296) = ((a + 256 * b + 65536 * c + 16777216 * d : Nat) : Int) := by
  have e0 : ((a : Int) % 4294967296) = ((a : Nat) : Int) := by omega
  have e1 : ((((b : Int) % 4294967296) * 256) % 4294967296) = ((2 ^ 8 * b : Nat) : Int) := by omega
  have e2 : ((((c : Int) % 4294967296) * 65536) % 4294967296) = ((2 ^ 16 * c : Nat) : Int) := by omega
  have e3 : ((((d : Int) % 4294967296) * 16777216) % 4294967296) = ((2 ^ 24 * d : Nat) : Int) := by omega
  rw [e0, e1, e2, e3]
  clear e0 e1 e2 e3
  rw [b_or .u32 rfl _ _ (by show _ < 4294967296; omega) (by show _ < 4294967296; omega), Nat.or_comm a, ← Nat.two_pow_add_eq_or_of_lt (by omega) b]
  rw [b_or .u32 rfl _ _ (by show _ < 4294967296; omega) (by show _ < 4294967296; omega), Nat.or_comm _ (2 ^ 16 * c), ← Nat.two_pow_add_eq_or_of_lt (by omega) c]
  rw [b_or .u32 rfl _ _ (by show _ < 4294967296; omega) (by show _ < 4294967296; omega), Nat.or_comm _ (2 ^ 24 * d), ← Nat.two_pow_add_eq_or_of_lt (by omega) d]
  congr 1; omega
def tfR (s : ByteArray) : Int × ByteArray × Bool := if s.size < 4 then (0, (⟨#[]⟩ : ByteArray), false) else ((tfN s : Int), s.extract 4 s.size, true)
theorem tf_val (s : ByteArray) : Go.bits .or .u32 (Go.bits .or .u32 (Go.bits .or .u32 ((bt s 0) % 4294967296) ((((bt s 1) % 4294967296) * 256) % 4294967296)) ((((bt s 2) % 4294967296) * 65536) % 4294967296)) ((((bt s 3) % 4294967296) * 16777216) % 4294967296) = (tfN s : Int) := by
  have h := getD_lt (nb s) (nb_lt s)
  rw [show (0 : Int) = ((0 : Nat) : Int) from rfl, show (1 : Int) = ((1 : Nat) : Int) from rfl, show (2 : Int) = ((2 : Nat) : Int) from rfl, show (3 : Int) = ((3 : Nat) : Int) from rfl, bt_getD, bt_getD, bt_getD, bt_getD]
  rw [or4 (h 0) (h 1) (h 2) (h 3)]; rfl
theorem itf (s : ByteArray) : impl_TakeFixed.f s = some (tfR s) := by
  unfold impl_TakeFixed.f tfR
  by_cases h : s.size < 4
  · rw [if_pos (by omega), if_pos h]
  · rw [if_neg (by omega), if_neg h, if_pos (by omega), if_pos (by omega), if_pos (by omega), if_pos (by omega), if_pos (by omega), tf_val]

/-! ## section takefixedspec -/
theorem stf (s : ByteArray) : spec_TakeFixed.f s = some (tfR s) := by
  unfold spec_TakeFixed.f tfR
  by_cases h : s.size < 4
  · rw [if_pos (by omega), if_pos h]
  · rw [if_neg (by omega), if_neg h, if_pos (by omega), if_pos (by omega), if_pos (by omega), if_pos (by omega), if_pos (by omega), tf_val]

/-! ## section keyok -/
def userB (s : ByteArray) : Bool := decide (1 ≤ s.size ∧ s.size ≤ 40)
def inB (n lo hi : Int) : Bool := decide (lo ≤ n ∧ n ≤ hi)
theorem iuser (s : ByteArray) : impl_isUser.f s = some (userB s) := by
  unfold impl_isUser.f userB
  split
  · congr 1; rw [decide_eq_decide]; omega
  · congr 1; symm; rw [decide_eq_false_iff_not]; omega
theorem suser (s : ByteArray) : spec_l2User.f s = some (userB s) := by
  unfold spec_l2User.f userB
  split
  · congr 1; rw [decide_eq_decide]; omega
  · congr 1; symm; rw [decide_eq_false_iff_not]; omega
theorem iwithin (n lo hi : Int) : impl_within.f n lo hi = some (inB n lo hi) := by
  unfold impl_within.f inB
  split
  · congr 1; rw [decide_eq_decide]; omega
  · congr 1; symm; rw [decide_eq_false_iff_not]; omega
theorem swithin (n lo hi : Int) : spec_l1In.f n lo hi = some (inB n lo hi) := by
  unfold spec_l1In.f inB
  split
  · congr 1; rw [decide_eq_decide]; omega
  · congr 1; symm; rw [decide_eq_false_iff_not]; omega
def keyB (u : ByteArray) (q d : Int) : Bool := userB u && inB q 0 1000000000000 && inB d 0 1
theorem ikeyok (u : ByteArray) (q d : Int) : impl_KeyOk.f u q d = some (keyB u q d) := by
  unfold impl_KeyOk.f keyB
  rw [iuser, iwithin, iwithin]
  simp only [Option.bind_some]
  cases userB u <;> cases inB q 0 1000000000000 <;> cases inB d 0 1 <;> rfl
theorem skeyok (u : ByteArray) (q d : Int) : spec_KeyOk.f u q d = some (keyB u q d) := by
  unfold spec_KeyOk.f keyB
  rw [suser, swithin, swithin]
  simp only [Option.bind_some]
  cases userB u <;> cases inB q 0 1000000000000 <;> cases inB d 0 1 <;> rfl

/-! ## section readkey -/
/-- the number of the last eight bytes -/
def rkN (s : ByteArray) : Nat := tfN (s.extract (s.size - 8) s.size) + 4294967296 * tfN ((s.extract (s.size - 8) s.size).extract 4 (s.extract (s.size - 8) s.size).size)
def rkR (s : ByteArray) : ByteArray × Int × Int × Bool :=
  if s.size < 9 then ((⟨#[]⟩ : ByteArray), 0, 0, false) else if keyB (s.extract 0 (s.size - 8)) (rkN s / 2 : Nat) (rkN s % 2 : Nat) = true then (s.extract 0 (s.size - 8), ((rkN s / 2 : Nat) : Int), ((rkN s % 2 : Nat) : Int), true) else ((⟨#[]⟩ : ByteArray), 0, 0, false)
theorem rk_tf {s : ByteArray} (h : ¬ s.size < 9) : tfR (s.extract (s.size - 8) s.size) = ((tfN (s.extract (s.size - 8) s.size) : Int), (s.extract (s.size - 8) s.size).extract 4 (s.extract (s.size - 8) s.size).size, true)
    ∧ tfR ((s.extract (s.size - 8) s.size).extract 4 (s.extract (s.size - 8) s.size).size) = ((tfN ((s.extract (s.size - 8) s.size).extract 4 (s.extract (s.size - 8) s.size).size) : Int), ((s.extract (s.size - 8) s.size).extract 4 (s.extract (s.size - 8) s.size).size).extract 4 ((s.extract (s.size - 8) s.size).extract 4 (s.extract (s.size - 8) s.size).size).size, true) := by
  have e : (s.extract (s.size - 8) s.size).size = 8 := by rw [ByteArray.size_extract]; omega
  have e2 : ((s.extract (s.size - 8) s.size).extract 4 (s.extract (s.size - 8) s.size).size).size = 4 := by rw [ByteArray.size_extract]; omega
  unfold tfR
  rw [if_neg (by omega), if_neg (by omega)]
  exact ⟨rfl, rfl⟩
theorem rk_u64 {a b : Nat} (ha : a < 4294967296) (hb : b < 4294967296) : Go.bits .or .u64 (IntKind.u64.wrap ((IntKind.u64.wrap (b : Int)) * 4294967296)) (IntKind.u64.wrap (a : Int)) = ((a + 4294967296 * b : Nat) : Int) := by
  have e1 : IntKind.u64.wrap (a : Int) = ((a : Nat) : Int) := by rw [u64w]; omega
  have e2 : IntKind.u64.wrap ((IntKind.u64.wrap (b : Int)) * 4294967296) = ((2 ^ 32 * b : Nat) : Int) := by rw [u64w, u64w]; omega
  rw [e1, e2]
  clear e1 e2
  rw [b_or .u64 rfl _ _ (by show _ < 18446744073709551616; omega) (by show _ < 18446744073709551616; omega), ← Nat.two_pow_add_eq_or_of_lt ha b]
  congr 1; omega
theorem rk_i64 {a b : Nat} (ha : a < 4294967296) (hb : b < 1073741824) : Go.bits .or .i64 (wrap64 ((wrap64 (b : Int)) * 4294967296)) (wrap64 (a : Int)) = ((a + 4294967296 * b : Nat) : Int) := by
  have e1 : wrap64 (a : Int) = ((a : Nat) : Int) := by unfold wrap64; omega
  have e2 : wrap64 ((wrap64 (b : Int)) * 4294967296) = ((2 ^ 32 * b : Nat) : Int) := by unfold wrap64; omega
  rw [e1, e2]
  clear e1 e2
  rw [bits_join .i64 62 (by decide) (fun n h0 h1 => by have : (2 : Int) ^ 62 = 4611686018427387904 := rfl; rw [IntKind.wrap_i64]; omega) 32 _ _ (by omega) (by have : (2 : Int) ^ 32 = 4294967296 := rfl; omega) (by have : (2 : Int) ^ 62 = 4611686018427387904 := rfl; omega) (by omega) (by have : (2 : Int) ^ 32 = 4294967296 := rfl; omega) (by have : (2 : Int) ^ 62 = 4611686018427387904 := rfl; omega)]
  omega
theorem key_num {u : ByteArray} {q d : Int} (h : keyB u q d = true) : q ≤ 1000000000000 := by
  simp only [keyB, inB, Bool.and_eq_true, decide_eq_true_eq] at h; omega
theorem irk (s : ByteArray) (hs : s.size ≤ 140737488351232) : impl_ReadKey.f s = some (rkR s) := by
  unfold impl_ReadKey.f rkR
  have e0 : wrap64 ((s.size : Int) - 8) = (s.size : Int) - 8 := by unfold wrap64; omega
  rw [e0]
  by_cases h : s.size < 9
  · rw [if_pos (by omega), if_pos h]
  · obtain ⟨t1, t2⟩ := rk_tf h
    have en : ((s.size : Int) - 8).toNat = s.size - 8 := by omega
    rw [if_neg (by omega), if_neg h, if_pos (by omega), if_pos (by omega), en, itf]
    simp only [Option.bind_some]
    rw [t1]
    simp only []
    rw [itf]
    simp only [Option.bind_some]
    rw [t2]
    simp only []
    rw [rk_u64 (tfN_lt _) (tfN_lt _)]
    have hn : rkN s < 18446744073709551616 := by
      have := tfN_lt (s.extract (s.size - 8) s.size); have := tfN_lt ((s.extract (s.size - 8) s.size).extract 4 (s.extract (s.size - 8) s.size).size)
      unfold rkN; omega
    rw [show tfN (s.extract (s.size - 8) s.size) + 4294967296 * tfN ((s.extract (s.size - 8) s.size).extract 4 (s.extract (s.size - 8) s.size).size) = rkN s from rfl]
    have d1 : wrap64 (IntKind.u64.wrap (Int.tdiv (rkN s : Int) 2)) = ((rkN s / 2 : Nat) : Int) := by
      rw [u64w, Int.tdiv_eq_ediv_of_nonneg (by omega)]; unfold wrap64; omega
    have d2 : wrap64 (Int.tmod (rkN s : Int) 2) = ((rkN s % 2 : Nat) : Int) := by
      rw [Int.tmod_eq_emod_of_nonneg (by omega)]; unfold wrap64; omega
    rw [d1, d2, ikeyok]
    simp only [Option.bind_some]
    split <;> rfl
theorem srk (s : ByteArray) (hs : s.size ≤ 140737488351232) : spec_ReadKey.f s = some (rkR s) := by
  unfold spec_ReadKey.f rkR
  have e0 : wrap64 ((s.size : Int) - 8) = (s.size : Int) - 8 := by unfold wrap64; omega
  rw [e0]
  by_cases h : s.size < 9
  · rw [if_pos (by omega), if_pos h]
  · obtain ⟨t1, t2⟩ := rk_tf h
    have en : ((s.size : Int) - 8).toNat = s.size - 8 := by omega
    rw [if_neg (by omega), if_neg h, if_pos (by omega), if_pos (by omega), en, stf]
    simp only [Option.bind_some]
    rw [t1]
    simp only []
    rw [stf]
    simp only [Option.bind_some]
    rw [t2]
    simp only []
    by_cases hb : 1073741824 ≤ tfN ((s.extract (s.size - 8) s.size).extract 4 (s.extract (s.size - 8) s.size).size)
    · rw [if_pos (by omega)]
      rw [if_neg]
      intro hk
      have := key_num hk
      unfold rkN at this
      omega
    · rw [if_neg (by omega), rk_i64 (tfN_lt _) (by omega)]
      have hn : rkN s < 4611686018427387904 := by
        have := tfN_lt (s.extract (s.size - 8) s.size)
        unfold rkN; omega
      rw [show tfN (s.extract (s.size - 8) s.size) + 4294967296 * tfN ((s.extract (s.size - 8) s.size).extract 4 (s.extract (s.size - 8) s.size).size) = rkN s from rfl]
      have d1 : wrap64 (Int.tdiv (rkN s : Int) 2) = ((rkN s / 2 : Nat) : Int) := by
        rw [Int.tdiv_eq_ediv_of_nonneg (by omega)]; unfold wrap64; omega
      have d2 : Int.tmod (rkN s : Int) 2 = ((rkN s % 2 : Nat) : Int) := by
        rw [Int.tmod_eq_emod_of_nonneg (by omega)]; omega
      rw [d1, d2, skeyok]
      simp only [Option.bind_some]
      split <;> rfl

theorem FnExactReadKey : laws_FnExactReadKey.Pure := by
  intro s hs
  unfold laws_FnExactReadKey.f
  by_cases h : (s.size : Int) > 1048576
  · rw [if_pos h]
  · rw [if_neg h, srk s hs, irk s hs]
    simp [laws_eqKey.f]

end Go.Proofs.Ytfcjacncllmapab.Pure
