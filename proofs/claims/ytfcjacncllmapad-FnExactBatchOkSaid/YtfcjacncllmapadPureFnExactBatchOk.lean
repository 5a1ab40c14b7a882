/- The program's BatchOk returns what the reference's BatchOk returns, for every batch: no condition. -/
import Derived.Test.YtfcjacncllmapadQFnExactBatchOky
namespace Go.Proofs.Ytfcjacncllmapad.Pure
open Go.RowKit Go.Proofs.Ytfcjacncllmapad.QFnExactBatchOk Go.Proofs.YtfcjacncllmapadW.PrintWords Go.Proofs.YtfcjacncllmapadW.PrintLast Go.Proofs.YtfcjacncllmapadW.PrintMore
set_option linter.unusedVariables false
set_option linter.unusedSimpArgs false

/-! ## section base -/
/-- an unsigned kind's number that fits is not wrapped -/
theorem wrapU (k : IntKind) (hs : k.signed = false) (n : Nat) (h : n < 2 ^ k.bits) : k.wrap (n : Int) = n := by
  unfold IntKind.wrap
  rw [Int.emod_eq_of_lt (by omega) (by exact_mod_cast h)]
  simp [hs]
/-- bits of unsigned numbers are those of natural numbers -/
theorem b_or (k : IntKind) (hs : k.signed = false) (a b : Nat) (ha : a < 2 ^ k.bits) (hb : b < 2 ^ k.bits) : Go.bits .or k a b = ((a ||| b : Nat) : Int) := by
  simp only [Go.bits, BitVec.ofInt_natCast, BitVec.toNat_or, BitVec.toNat_ofNat, Nat.mod_eq_of_lt ha, Nat.mod_eq_of_lt hb]
  exact wrapU k hs _ (Nat.or_lt_two_pow ha hb)
theorem b_xor (k : IntKind) (hs : k.signed = false) (a b : Nat) (ha : a < 2 ^ k.bits) (hb : b < 2 ^ k.bits) : Go.bits .xor k a b = ((a ^^^ b : Nat) : Int) := by
  simp only [Go.bits, BitVec.ofInt_natCast, BitVec.toNat_xor, BitVec.toNat_ofNat, Nat.mod_eq_of_lt ha, Nat.mod_eq_of_lt hb]
  exact wrapU k hs _ (Nat.xor_lt_two_pow ha hb)
theorem b_and (k : IntKind) (hs : k.signed = false) (a b : Nat) (ha : a < 2 ^ k.bits) (hb : b < 2 ^ k.bits) : Go.bits .and k a b = ((a &&& b : Nat) : Int) := by
  simp only [Go.bits, BitVec.ofInt_natCast, BitVec.toNat_and, BitVec.toNat_ofNat, Nat.mod_eq_of_lt ha, Nat.mod_eq_of_lt hb]
  exact wrapU k hs _ (Nat.and_lt_two_pow _ hb)
theorem b_or8 (a b : Nat) (ha : a < 256) (hb : b < 256) : Go.bits .or .u8 a b = ((a ||| b : Nat) : Int) := b_or .u8 rfl a b ha hb
theorem u64w (x : Int) : IntKind.u64.wrap x = x % 18446744073709551616 := by simp [IntKind.wrap, IntKind.bits, IntKind.signed]

/-! ## section bytes -/
/-- the bytes of a text, as natural numbers -/
def nb (s : ByteArray) : List Nat := s.data.toList.map UInt8.toNat
theorem nb_length (s : ByteArray) : (nb s).length = s.size := by rw [nb, List.length_map, Array.length_toList]; rfl
theorem nb_lt (s : ByteArray) : ∀ b ∈ nb s, b < 256 := by
  intro b hb
  simp only [nb, List.mem_map] at hb
  obtain ⟨u, _, rfl⟩ := hb
  exact u.toNat_lt
theorem bt_nb (s : ByteArray) (i : Nat) (h : i < s.size) : bt s i = (((nb s)[i]'(by rw [nb_length]; exact h) : Nat) : Int) := by
  simp only [bt, Int.toNat_natCast, h, nb]
  simp
  rfl
theorem nb_drop (s : ByteArray) (i : Nat) (h : i < s.size) : ∃ b, (nb s).drop i = b :: (nb s).drop (i + 1) ∧ bt s i = (b : Int) ∧ b < 256 := by
  have hl : i < (nb s).length := by rw [nb_length]; exact h
  exact ⟨(nb s)[i], List.drop_eq_getElem_cons hl, bt_nb s i h, nb_lt s _ (List.getElem_mem hl)⟩
theorem nb_end (s : ByteArray) (i : Nat) (h : s.size ≤ i) : (nb s).drop i = [] := List.drop_eq_nil_of_le (by rw [nb_length]; exact h)
theorem w64 {x : Int} (h0 : -9223372036854775808 ≤ x) (h1 : x < 9223372036854775808) : wrap64 x = x := by unfold wrap64; omega
theorem w64s {i n : Nat} (h : i < n) (hn : n ≤ 140737488351232) : wrap64 ((i : Int) + 1) = ((i + 1 : Nat) : Int) := by rw [w64] <;> omega
theorem bits_range (k : IntKind) (hs : k.signed = false) (op : BinOp) (x y : Int) : 0 ≤ Go.bits op k x y ∧ Go.bits op k x y < 2 ^ k.bits := by
  have hp : (0 : Int) < 2 ^ k.bits := by exact_mod_cast Nat.two_pow_pos k.bits
  unfold Go.bits IntKind.wrap
  simp only [hs, Bool.false_and]
  exact ⟨Int.emod_nonneg _ (by omega), Int.emod_lt_of_pos _ hp⟩

/-! ## section szops -/
/-- an operation as the program has it -/
def convO (e : S99) : S101 := ⟨e.f0, e.f1, e.f2⟩
theorem rdlo_drop (l : List S99) (i : Nat) (h : i < l.length) : ∃ u, l.drop i = u :: l.drop (i + 1) ∧ rd_T99 l (i : Int) = u ∧ u ∈ l := by
  refine ⟨l[i], List.drop_eq_getElem_cons h, ?_, List.getElem_mem h⟩
  unfold rd_T99
  rw [Int.toNat_natCast, List.getD_eq_getElem?_getD, List.getElem?_eq_getElem h]; rfl
theorem rdop_drop (l : List S101) (i : Nat) (h : i < l.length) : ∃ u, l.drop i = u :: l.drop (i + 1) ∧ rd_T101 l (i : Int) = u ∧ u ∈ l := by
  refine ⟨l[i], List.drop_eq_getElem_cons h, ?_, List.getElem_mem h⟩
  unfold rd_T101
  rw [Int.toNat_natCast, List.getD_eq_getElem?_getD, List.getElem?_eq_getElem h]; rfl
theorem szop_one (q : Int) (u v : ByteArray) (left : Int) (h0 : 0 ≤ left) (h1 : left ≤ 1048576) (hu : u.size ≤ 9223372036854775807) (hv : v.size ≤ 9223372036854775807) : ∃ r, laws_szOp.f q u v left = some r ∧ r ≤ left ∧ (0 ≤ r → u.size ≤ 1048576 ∧ v.size ≤ 1048576) := by
  unfold laws_szOp.f
  have e : wrap64 (left - (u.size : Int)) = left - u.size := by unfold wrap64; omega
  rw [e]
  clear e
  by_cases c : left - (u.size : Int) < 0
  · rw [if_pos c]; exact ⟨-1, rfl, by omega, fun h => by omega⟩
  · rw [if_neg c]
    have e2 : wrap64 (left - (u.size : Int) - (v.size : Int)) = left - u.size - v.size := by unfold wrap64; omega
    rw [e2]
    clear e2
    by_cases c2 : left - (u.size : Int) - (v.size : Int) < 0
    · rw [if_pos c2]; exact ⟨-1, rfl, by omega, fun h => by omega⟩
    · rw [if_neg c2]; exact ⟨_, rfl, by omega, fun h => by omega⟩
theorem szops_l0 (l : List S99) (hs : ∀ u ∈ l, u.f1.size ≤ 9223372036854775807 ∧ u.f2.size ≤ 9223372036854775807) : ∀ (d k i : Nat) (left : Int), i ≤ l.length → l.length - i = d → l.length ≤ 1048576 → d < k → 0 ≤ left → left ≤ 1048576 → ∃ r, laws_szOpS.l0 k l left i = some r ∧ r ≤ 1048576 ∧ (0 ≤ r → ∀ u ∈ l.drop i, u.f1.size ≤ 1048576 ∧ u.f2.size ≤ 1048576) := by
  intro d
  induction d with
  | zero =>
    intro k i left h1 h2 hl hk h0 hle
    obtain ⟨k, rfl⟩ : ∃ m, k = m + 1 := ⟨k - 1, by omega⟩
    rw [laws_szOpS.l0, if_neg (by omega)]
    refine ⟨_, rfl, hle, fun _ => ?_⟩
    rw [List.drop_eq_nil_of_le (by omega)]; simp
  | succ d ih =>
    intro k i left h1 h2 hl hk h0 hle
    obtain ⟨k, rfl⟩ : ∃ m, k = m + 1 := ⟨k - 1, by omega⟩
    obtain ⟨u, hd, hu, hm⟩ := rdlo_drop l i (by omega)
    obtain ⟨r, hr, hrl, hb⟩ := szop_one u.f0 u.f1 u.f2 left h0 hle (hs u hm).1 (hs u hm).2
    rw [laws_szOpS.l0, if_pos (by omega), if_pos (by omega), hu, hr]
    simp only [Option.bind_some]
    by_cases c : r < 0
    · rw [if_pos c]; exact ⟨_, rfl, by omega, fun h => by omega⟩
    · rw [if_neg c, w64s (n := l.length) (by omega) (by omega)]
      obtain ⟨r2, hr2, hl2, hb2⟩ := ih k (i + 1) r (by omega) (by omega) hl (by omega) (by omega) (by omega)
      refine ⟨r2, hr2, hl2, fun h x hx => ?_⟩
      rw [hd] at hx
      rcases List.mem_cons.1 hx with rfl | hx
      · exact hb (by omega)
      · exact hb2 h x hx
theorem szops (l : List S99) (hl : l.length ≤ 9223372036854775807) (hs : ∀ u ∈ l, u.f1.size ≤ 9223372036854775807 ∧ u.f2.size ≤ 9223372036854775807) (k : Nat) (hk : 1048577 ≤ k) : ∃ r, laws_szOpS.f k l 1048576 = some r ∧ r ≤ 1048576 ∧ (¬ r < 0 → l.length ≤ 1048576 ∧ ∀ u ∈ l, u.f1.size ≤ 1048576 ∧ u.f2.size ≤ 1048576) := by
  unfold laws_szOpS.f
  have e : wrap64 (1048576 - (l.length : Int)) = 1048576 - l.length := by unfold wrap64; omega
  rw [e]
  clear e
  by_cases c : 1048576 - (l.length : Int) < 0
  · rw [if_pos c]; exact ⟨_, rfl, by decide, fun h => absurd (by decide) h⟩
  · rw [if_neg c]
    obtain ⟨r, hr, hrl, hb⟩ := szops_l0 l hs l.length k 0 (1048576 - l.length) (by omega) (by omega) (by omega) (by omega) (by omega) (by omega)
    refine ⟨r, hr, hrl, fun h => ⟨by omega, fun u hu => ?_⟩⟩
    exact hb (by omega) u (by simpa using hu)
theorem toops_l0 (l : List S99) (hl : l.length ≤ 1048576) : ∀ (d k i : Nat) (acc : List S101), i ≤ l.length → l.length - i = d → d < k → acc.length = l.length → acc.take i = (l.map convO).take i → laws_toOpS.l0 k l acc i = some (l.map convO) := by
  intro d
  induction d with
  | zero =>
    intro k i acc h1 h2 hk ha ht
    obtain ⟨k, rfl⟩ : ∃ m, k = m + 1 := ⟨k - 1, by omega⟩
    rw [laws_toOpS.l0, if_neg (by omega)]
    rw [List.take_of_length_le (by omega), List.take_of_length_le (by simp; omega)] at ht
    rw [ht]
  | succ d ih =>
    intro k i acc h1 h2 hk ha ht
    obtain ⟨k, rfl⟩ : ∃ m, k = m + 1 := ⟨k - 1, by omega⟩
    obtain ⟨u, hd, hu, hm⟩ := rdlo_drop l i (by omega)
    rw [laws_toOpS.l0, if_pos (by omega), if_pos (by omega), hu]
    simp only [laws_toOp.f, Option.bind_some]
    rw [if_pos (by omega), Int.toNat_natCast, w64s (n := l.length) (by omega) (by omega)]
    refine ih k (i + 1) _ (by omega) (by omega) (by omega) (by simpa using ha) ?_
    have hlt : i < acc.length := by omega
    have hlt2 : i < l.length := by omega
    have hlt3 : i < (l.map convO).length := by simpa using hlt2
    have eu : l[i] = u := by
      have := List.drop_eq_getElem_cons hlt2
      rw [hd] at this
      exact (List.cons.inj this).1.symm
    rw [List.take_succ_eq_append_getElem (by simpa using hlt), List.take_succ_eq_append_getElem hlt3, List.take_set_of_le (by omega), ht, List.getElem_set_self, List.getElem_map, eu]
    rfl
theorem toops (l : List S99) (hl : l.length ≤ 1048576) (k : Nat) (hk : l.length < k) : laws_toOpS.f k l = some (l.map convO) := by
  unfold laws_toOpS.f
  rw [if_pos (by omega), if_pos (by omega)]
  exact toops_l0 l hl l.length k 0 _ (by omega) (by omega) hk (by simp) (by simp)
theorem eqops_l0 (l : List S101) (hl : l.length ≤ 1048576) : ∀ (d k i : Nat), i ≤ l.length → l.length - i = d → d < k → laws_eqOpS.l0 k l l i = some true := by
  intro d
  induction d with
  | zero =>
    intro k i h1 h2 hk
    obtain ⟨k, rfl⟩ : ∃ m, k = m + 1 := ⟨k - 1, by omega⟩
    rw [laws_eqOpS.l0, if_neg (by omega)]
  | succ d ih =>
    intro k i h1 h2 hk
    obtain ⟨k, rfl⟩ : ∃ m, k = m + 1 := ⟨k - 1, by omega⟩
    rw [laws_eqOpS.l0, if_pos (by omega), if_pos (by omega), if_pos (by omega)]
    have e : ∀ a b c, laws_eqOp.f a b c a b c = some true := fun a b c => by simp [laws_eqOp.f]
    rw [e]
    simp only [Option.bind_some]
    rw [if_pos trivial, w64s (n := l.length) (by omega) (by omega)]
    exact ih k (i + 1) (by omega) (by omega) (by omega)
theorem eqops (l : List S101) (hl : l.length ≤ 1048576) (k : Nat) (hk : l.length < k) : laws_eqOpS.f k l l = some true := by
  unfold laws_eqOpS.f
  rw [if_pos rfl]
  exact eqops_l0 l hl l.length k 0 (by omega) (by omega) hk

/-! ## section isuser -/
def userB (s : ByteArray) : Bool := decide (1 ≤ s.size ∧ s.size ≤ 40)
theorem iuser (s : ByteArray) : impl_isUser.f s = some (userB s) := by
  unfold impl_isUser.f userB
  split
  · congr 1; rw [decide_eq_decide]; omega
  · congr 1; symm; rw [decide_eq_false_iff_not]; omega
theorem suser (s : ByteArray) : spec_l2User.f s = some (userB s) := by
  unfold spec_l2User.f userB
  split
  · congr 1; rw [decide_eq_decide]; omega
  · congr 1; symm; rw [decide_eq_false_iff_not]; omega

/-! ## section within -/
def inB (n lo hi : Int) : Bool := decide (lo ≤ n ∧ n ≤ hi)
theorem iwithin (n lo hi : Int) : impl_within.f n lo hi = some (inB n lo hi) := by
  unfold impl_within.f inB
  split
  · congr 1; rw [decide_eq_decide]; omega
  · congr 1; symm; rw [decide_eq_false_iff_not]; omega
theorem swithin (n lo hi : Int) : spec_l1In.f n lo hi = some (inB n lo hi) := by
  unfold spec_l1In.f inB
  split
  · congr 1; rw [decide_eq_decide]; omega
  · congr 1; symm; rw [decide_eq_false_iff_not]; omega

/-! ## section keyok -/
def keyB (u : ByteArray) (q d : Int) : Bool := userB u && inB q 0 1000000000000 && inB d 0 1
theorem ikeyok (u : ByteArray) (q d : Int) : impl_KeyOk.f u q d = some (keyB u q d) := by
  unfold impl_KeyOk.f keyB
  rw [iuser, iwithin, iwithin]
  simp only [Option.bind_some]
  cases userB u <;> cases inB q 0 1000000000000 <;> cases inB d 0 1 <;> rfl
theorem skeyok (u : ByteArray) (q d : Int) : spec_KeyOk.f u q d = some (keyB u q d) := by
  unfold spec_KeyOk.f keyB
  rw [suser, swithin, swithin]
  simp only [Option.bind_some]
  cases userB u <;> cases inB q 0 1000000000000 <;> cases inB d 0 1 <;> rfl

/-! ## section entryok -/
def entB (u : ByteArray) (q d : Int) (v : ByteArray) : Bool := keyB u q d && (decide (v.size ≤ 200) && (decide (d = 1) || (v.toList == ([] : List UInt8))))
theorem ient (u : ByteArray) (q d : Int) (v : ByteArray) : impl_EntryOk.f u q d v = some (entB u q d v) := by
  unfold impl_EntryOk.f entB
  rw [ikeyok]
  simp only [Option.bind_some]
  cases keyB u q d
  · rfl
  · rw [if_pos rfl]
    by_cases h : v.size ≤ 200
    · rw [if_pos (by omega)]
      by_cases h1 : d = 1 <;> simp [h, h1]
    · rw [if_neg (by omega)]; simp [h]
theorem sent (u : ByteArray) (q d : Int) (v : ByteArray) : spec_EntryOk.f u q d v = some (entB u q d v) := by
  unfold spec_EntryOk.f entB
  rw [skeyok]
  simp only [Option.bind_some]
  cases keyB u q d
  · rfl
  · rw [if_pos rfl]
    by_cases h : v.size ≤ 200
    · rw [if_pos (by omega)]
      by_cases h1 : d = 1 <;> simp [h, h1]
    · rw [if_neg (by omega)]; simp [h]

/-! ## section batchok -/
/-- the entries of a batch's operations, from number i on -/
def bents (seq : Int) : Nat → List S101 → List S78
  | _, [] => []
  | i, o :: r => (⟨⟨o.f1, wrap64 (seq + (i : Int)), o.f0⟩, o.f2⟩ : S78) :: bents seq (i + 1) r
theorem bents_length (seq : Int) : ∀ (l : List S101) (i : Nat), (bents seq i l).length = l.length
  | [], _ => rfl
  | _ :: r, i => by rw [bents, List.length_cons, List.length_cons, bents_length seq r (i + 1)]
def eOk (e : S78) : Bool := entB e.f0.f0 e.f0.f1 e.f0.f2 e.f1
theorem rdien_drop (l : List S78) (i : Nat) (h : i < l.length) : ∃ u, l.drop i = u :: l.drop (i + 1) ∧ rd_T78 l (i : Int) = u ∧ u ∈ l := by
  refine ⟨l[i], List.drop_eq_getElem_cons h, ?_, List.getElem_mem h⟩
  unfold rd_T78
  rw [Int.toNat_natCast, List.getD_eq_getElem?_getD, List.getElem?_eq_getElem h]; rfl
theorem ient_l0 (seq : Int) (l : List S101) (hl : l.length ≤ 1048576) : ∀ (d k i : Nat) (acc : List S78), i ≤ l.length → l.length - i = d → d < k → acc.length = i → impl_Batch_entries.l0 k acc l l.length i seq l = some (acc ++ bents seq i (l.drop i)) := by
  intro d
  induction d with
  | zero =>
    intro k i acc h1 h2 hk ha
    obtain ⟨k, rfl⟩ : ∃ m, k = m + 1 := ⟨k - 1, by omega⟩
    rw [impl_Batch_entries.l0, if_neg (by omega), List.drop_eq_nil_of_le (by omega), bents, List.append_nil]
  | succ d ih =>
    intro k i acc h1 h2 hk ha
    obtain ⟨k, rfl⟩ : ∃ m, k = m + 1 := ⟨k - 1, by omega⟩
    obtain ⟨u, hd, hu, hm⟩ := rdop_drop l i (by omega)
    rw [impl_Batch_entries.l0, if_pos (by omega), if_pos (by omega), if_pos (by omega), if_pos (by omega), hu, w64s (n := l.length) (by omega) (by omega), hd, bents]
    rw [ih k (i + 1) _ (by omega) (by omega) (by omega) (by rw [List.length_append, List.length_cons, List.length_nil]; omega), List.append_assoc]
    rfl
theorem ientries (seq : Int) (l : List S101) (hl : l.length ≤ 1048576) (k : Nat) (hk : l.length < k) : impl_Batch_entries.f k seq l = some (bents seq 0 l) := by
  unfold impl_Batch_entries.f
  have h := ient_l0 seq l hl l.length k 0 [] (by omega) (by omega) hk rfl
  simpa using h
theorem ifind_l0 (l : List S78) (hl : l.length ≤ 1048576) : ∀ (d k i : Nat), i ≤ l.length → l.length - i = d → d < k → ∃ r : Int, impl_Entry_72.l0 k l l.length i = some r ∧ decide (r ≥ 0) = !(l.drop i).all eOk := by
  intro d
  induction d with
  | zero =>
    intro k i h1 h2 hk
    obtain ⟨k, rfl⟩ : ∃ m, k = m + 1 := ⟨k - 1, by omega⟩
    rw [impl_Entry_72.l0, if_neg (by omega), List.drop_eq_nil_of_le (by omega)]
    exact ⟨-1, rfl, rfl⟩
  | succ d ih =>
    intro k i h1 h2 hk
    obtain ⟨k, rfl⟩ : ∃ m, k = m + 1 := ⟨k - 1, by omega⟩
    obtain ⟨u, hd, hu, hm⟩ := rdien_drop l i (by omega)
    rw [impl_Entry_72.l0, if_pos (by omega), if_pos (by omega), if_pos (by omega), hu, impl_BatchOk_1.f, ient, hd]
    simp only [Option.bind_some, List.all_cons]
    rw [show entB u.f0.f0 u.f0.f1 u.f0.f2 u.f1 = eOk u from rfl]
    cases eOk u
    · refine ⟨(i : Int), by simp, by simp⟩
    · rw [if_neg (by simp), w64s (n := l.length) (by omega) (by omega)]
      obtain ⟨r, h1, h2⟩ := ih k (i + 1) (by omega) (by omega) (by omega)
      exact ⟨r, h1, by rw [h2, Bool.true_and]⟩
theorem ihas (l : List S78) (hl : l.length ≤ 1048576) (k : Nat) (hk : l.length < k) : impl_Entry_52.f k l = some (!l.all eOk) := by
  unfold impl_Entry_52.f impl_Entry_72.f
  obtain ⟨r, h1, h2⟩ := ifind_l0 l hl l.length k 0 (by omega) (by omega) hk
  rw [show ((0 : Nat) : Int) = 0 from rfl] at h1
  rw [h1]
  simp only [Option.bind_some]
  rw [h2, List.drop_zero]
/-- a batch is right -/
def batchB (seq : Int) (l : List S101) : Bool := inB l.length 1 20 && (inB seq 1 999999999980 && (bents seq 0 l).all eOk)
theorem ibok (seq : Int) (l : List S101) (hl : l.length ≤ 1048576) (k : Nat) (hk : l.length + 5 < k) : impl_BatchOk.f k seq l = some (batchB seq l) := by
  unfold impl_BatchOk.f batchB
  rw [iwithin, iwithin]
  simp only [Option.bind_some]
  cases inB (l.length : Int) 1 20
  · rfl
  · rw [if_pos rfl]
    cases inB seq 1 999999999980
    · rfl
    · rw [if_pos rfl, ientries seq l hl k (by omega)]
      simp only [Option.bind_some]
      rw [ihas _ (by rw [bents_length]; exact hl) k (by rw [bents_length]; omega)]
      simp

/-! ## section batchokspec -/
theorem sbok_l0 (seq : Int) (l : List S101) (hl : l.length ≤ 1048576) : ∀ (d k i : Nat), i ≤ l.length → l.length - i = d → d < k → spec_BatchOk.l0 k i seq l = some ((bents seq i (l.drop i)).all eOk) := by
  intro d
  induction d with
  | zero =>
    intro k i h1 h2 hk
    obtain ⟨k, rfl⟩ : ∃ m, k = m + 1 := ⟨k - 1, by omega⟩
    rw [spec_BatchOk.l0, if_neg (by omega), List.drop_eq_nil_of_le (by omega)]; rfl
  | succ d ih =>
    intro k i h1 h2 hk
    obtain ⟨k, rfl⟩ : ∃ m, k = m + 1 := ⟨k - 1, by omega⟩
    obtain ⟨u, hd, hu, hm⟩ := rdop_drop l i (by omega)
    rw [spec_BatchOk.l0, if_pos (by omega), spec_l7Entry.f, if_pos (by omega), if_pos (by omega), hu, hd, bents]
    simp only [Option.bind_some, List.all_cons]
    rw [sent]
    simp only [Option.bind_some]
    rw [show eOk (⟨⟨u.f1, wrap64 (seq + (i : Int)), u.f0⟩, u.f2⟩ : S78) = entB u.f1 (wrap64 (seq + (i : Int))) u.f0 u.f2 from rfl]
    cases entB u.f1 (wrap64 (seq + (i : Int))) u.f0 u.f2
    · rfl
    · rw [if_pos rfl, w64s (n := l.length) (by omega) (by omega), ih k (i + 1) (by omega) (by omega) (by omega), Bool.true_and]
theorem sbok (seq : Int) (l : List S101) (hl : l.length ≤ 1048576) (k : Nat) (hk : l.length + 5 < k) : spec_BatchOk.f k seq l = some (batchB seq l) := by
  obtain ⟨k, rfl⟩ : ∃ m, k = m + 1 := ⟨k - 1, by omega⟩
  have jt : spec_BatchOk.j0 (k + 1) true seq l = some false := by rw [spec_BatchOk.j0, if_pos rfl]
  unfold spec_BatchOk.f batchB
  by_cases c1 : (l.length : Int) < 1
  · rw [if_pos c1, jt]; simp [inB]; omega
  · rw [if_neg c1]
    by_cases c2 : (l.length : Int) > 20
    · rw [if_pos c2, jt]; simp [inB]; omega
    · rw [if_neg c2, swithin]
      simp only [Option.bind_some]
      have e : inB (l.length : Int) 1 20 = true := by simp only [inB, decide_eq_true_eq]; omega
      rw [e, Bool.true_and]
      cases inB seq 1 999999999980
      · rw [Bool.not_false, jt]; rfl
      · rw [Bool.not_true, spec_BatchOk.j0, if_neg (by decide), Bool.true_and]
        have h := sbok_l0 seq l hl l.length k 0 (by omega) (by omega) (by omega)
        simpa using h

theorem FnExactBatchOk : laws_FnExactBatchOk.Pure := by
  intro seq l _ ⟨hl, hs⟩
  refine ⟨1048700, ?_⟩
  unfold laws_FnExactBatchOk.f laws_szBatch.f laws_toBatch.f
  obtain ⟨r, hr, _, hb⟩ := szops l hl (fun z hz => ⟨(hs z hz).2.1, (hs z hz).2.2⟩) 1048700 (by omega)
  rw [hr]
  simp only [Option.bind_some]
  by_cases c : r < 0
  · rw [if_pos c]; rfl
  · obtain ⟨h1, h2⟩ := hb c
    have h3 : (l.map convO).length ≤ 1048576 := by simpa using h1
    rw [if_neg c]
    simp only [Option.bind_some]
    rw [if_neg c, toops l h1 _ (by omega)]
    simp only [Option.bind_some]
    rw [sbok seq _ h3 _ (by omega), ibok seq _ h3 _ (by omega)]
    simp only [Option.bind_some]
    rw [if_neg (by simp), laws_eqBatch.f, if_pos rfl, eqops _ h3 _ (by omega)]
    rfl

end Go.Proofs.Ytfcjacncllmapad.Pure
