/- The program's MemGet returns what the reference's MemGet returns, for every list of entries, every text and every number: no condition. -/
import Derived.Test.YtfcjacncllmapaeQFnExactMemGety
namespace Go.Proofs.Ytfcjacncllmapae.Pure
open Go.RowKit Go.Proofs.Ytfcjacncllmapae.QFnExactMemGet Go.Proofs.YtfcjacncllmapaeW.PrintWords Go.Proofs.YtfcjacncllmapaeW.PrintLast Go.Proofs.YtfcjacncllmapaeW.PrintMore
set_option linter.unusedVariables false
set_option linter.unusedSimpArgs false

/-! ## section base -/
/-- an unsigned kind's number that fits is not wrapped -/
theorem wrapU (k : IntKind) (hs : k.signed = false) (n : Nat) (h : n < 2 ^ k.bits) : k.wrap (n : Int) = n := by
  unfold IntKind.wrap
  rw [Int.emod_eq_of_lt (by omega) (by exact_mod_cast h)]
  simp [hs]
/-- bits of unsigned numbers are those of natural numbers -/
theorem b_or (k : IntKind) (hs : k.signed = false) (a b : Nat) (ha : a < 2 ^ k.bits) (hb : b < 2 ^ k.bits) : Go.bits .or k a b = ((a ||| b : Nat) : Int) := by
  simp only [Go.bits, BitVec.ofInt_natCast, BitVec.toNat_or, BitVec.toNat_ofNat, Nat.mod_eq_of_lt ha, Nat.mod_eq_of_lt hb]
  exact wrapU k hs _ (Nat.or_lt_two_pow ha hb)
theorem b_xor (k : IntKind) (hs : k.signed = false) (a b : Nat) (ha : a < 2 ^ k.bits) (hb : b < 2 ^ k.bits) : Go.bits .xor k a b = ((a ^^^ b : Nat) : Int) := by
  simp only [Go.bits, BitVec.ofInt_natCast, BitVec.toNat_xor, BitVec.toNat_ofNat, Nat.mod_eq_of_lt ha, Nat.mod_eq_of_lt hb]
  exact wrapU k hs _ (Nat.xor_lt_two_pow ha hb)
theorem b_and (k : IntKind) (hs : k.signed = false) (a b : Nat) (ha : a < 2 ^ k.bits) (hb : b < 2 ^ k.bits) : Go.bits .and k a b = ((a &&& b : Nat) : Int) := by
  simp only [Go.bits, BitVec.ofInt_natCast, BitVec.toNat_and, BitVec.toNat_ofNat, Nat.mod_eq_of_lt ha, Nat.mod_eq_of_lt hb]
  exact wrapU k hs _ (Nat.and_lt_two_pow _ hb)
theorem b_or8 (a b : Nat) (ha : a < 256) (hb : b < 256) : Go.bits .or .u8 a b = ((a ||| b : Nat) : Int) := b_or .u8 rfl a b ha hb
theorem u64w (x : Int) : IntKind.u64.wrap x = x % 18446744073709551616 := by simp [IntKind.wrap, IntKind.bits, IntKind.signed]

/-! ## section bytes -/
/-- the bytes of a text, as natural numbers -/
def nb (s : ByteArray) : List Nat := s.data.toList.map UInt8.toNat
theorem nb_length (s : ByteArray) : (nb s).length = s.size := by rw [nb, List.length_map, Array.length_toList]; rfl
theorem nb_lt (s : ByteArray) : ∀ b ∈ nb s, b < 256 := by
  intro b hb
  simp only [nb, List.mem_map] at hb
  obtain ⟨u, _, rfl⟩ := hb
  exact u.toNat_lt
theorem bt_nb (s : ByteArray) (i : Nat) (h : i < s.size) : bt s i = (((nb s)[i]'(by rw [nb_length]; exact h) : Nat) : Int) := by
  simp only [bt, Int.toNat_natCast, h, nb]
  simp
  rfl
theorem nb_drop (s : ByteArray) (i : Nat) (h : i < s.size) : ∃ b, (nb s).drop i = b :: (nb s).drop (i + 1) ∧ bt s i = (b : Int) ∧ b < 256 := by
  have hl : i < (nb s).length := by rw [nb_length]; exact h
  exact ⟨(nb s)[i], List.drop_eq_getElem_cons hl, bt_nb s i h, nb_lt s _ (List.getElem_mem hl)⟩
theorem nb_end (s : ByteArray) (i : Nat) (h : s.size ≤ i) : (nb s).drop i = [] := List.drop_eq_nil_of_le (by rw [nb_length]; exact h)
theorem w64 {x : Int} (h0 : -9223372036854775808 ≤ x) (h1 : x < 9223372036854775808) : wrap64 x = x := by unfold wrap64; omega
theorem w64s {i n : Nat} (h : i < n) (hn : n ≤ 140737488351232) : wrap64 ((i : Int) + 1) = ((i + 1 : Nat) : Int) := by rw [w64] <;> omega
theorem bits_range (k : IntKind) (hs : k.signed = false) (op : BinOp) (x y : Int) : 0 ≤ Go.bits op k x y ∧ Go.bits op k x y < 2 ^ k.bits := by
  have hp : (0 : Int) < 2 ^ k.bits := by exact_mod_cast Nat.two_pow_pos k.bits
  unfold Go.bits IntKind.wrap
  simp only [hs, Bool.false_and]
  exact ⟨Int.emod_nonneg _ (by omega), Int.emod_lt_of_pos _ hp⟩

/-! ## section szkey -/
theorem szkey_some (u : ByteArray) (q d left : Int) : ∃ r, laws_szKey.f u q d left = some r := by
  unfold laws_szKey.f; split <;> exact ⟨_, rfl⟩

/-! ## section szentry -/
theorem szentry_some (u : ByteArray) (q d : Int) (v : ByteArray) (left : Int) : ∃ r, laws_szEntry.f u q d v left = some r := by
  unfold laws_szEntry.f
  obtain ⟨r, hr⟩ := szkey_some u q d left
  rw [hr]
  simp only [Option.bind_some]
  split
  · exact ⟨_, rfl⟩
  · split <;> exact ⟨_, rfl⟩

/-! ## section rdi -/
theorem rdi_drop (l : List S60) (i : Nat) (h : i < l.length) : ∃ u, l.drop i = u :: l.drop (i + 1) ∧ rd_T60 l (i : Int) = u ∧ u ∈ l := by
  refine ⟨l[i], List.drop_eq_getElem_cons h, ?_, List.getElem_mem h⟩
  unfold rd_T60
  rw [Int.toNat_natCast, List.getD_eq_getElem?_getD, List.getElem?_eq_getElem h]; rfl

/-! ## section ents -/
/-- an entry as the program has it -/
def conv (e : S57) : S60 := ⟨⟨e.f0.f0, e.f0.f1, e.f0.f2⟩, e.f1⟩
theorem rde_drop (l : List S57) (i : Nat) (h : i < l.length) : ∃ u, l.drop i = u :: l.drop (i + 1) ∧ rd_T57 l (i : Int) = u ∧ u ∈ l := by
  refine ⟨l[i], List.drop_eq_getElem_cons h, ?_, List.getElem_mem h⟩
  unfold rd_T57
  rw [Int.toNat_natCast, List.getD_eq_getElem?_getD, List.getElem?_eq_getElem h]; rfl
def smallE (z : S57) : Prop := z.f0.f0.size ≤ 9223372036854775807 ∧ z.f1.size ≤ 9223372036854775807
theorem szent_one (u : ByteArray) (q d : Int) (v : ByteArray) (left : Int) (h0 : 0 ≤ left) (h1 : left ≤ 1048576) (hu : u.size ≤ 9223372036854775807) (hv : v.size ≤ 9223372036854775807) : ∃ r, laws_szEntry.f u q d v left = some r ∧ r ≤ left ∧ (0 ≤ r → u.size ≤ 1048576 ∧ v.size ≤ 1048576) := by
  unfold laws_szEntry.f laws_szKey.f
  have e : wrap64 (left - (u.size : Int)) = left - u.size := by unfold wrap64; omega
  rw [e]
  by_cases c : left - (u.size : Int) < 0
  · rw [if_pos c]; exact ⟨-1, rfl, by omega, fun h => by omega⟩
  · rw [if_neg c]
    simp only [Option.bind_some]
    rw [if_neg c]
    have e2 : wrap64 (left - (u.size : Int) - (v.size : Int)) = left - u.size - v.size := by unfold wrap64; omega
    rw [e2]
    by_cases c2 : left - (u.size : Int) - (v.size : Int) < 0
    · rw [if_pos c2]; exact ⟨-1, rfl, by omega, fun h => by omega⟩
    · rw [if_neg c2]; exact ⟨_, rfl, by omega, fun h => by omega⟩
theorem szents_l0 (l : List S57) (hs : ∀ u ∈ l, smallE u) : ∀ (d k i : Nat) (left : Int), i ≤ l.length → l.length - i = d → l.length ≤ 1048576 → d < k → 0 ≤ left → left ≤ 1048576 → ∃ r, laws_szEntryS.l0 k l left i = some r ∧ r ≤ 1048576 ∧ (0 ≤ r → ∀ u ∈ l.drop i, u.f0.f0.size ≤ 1048576 ∧ u.f1.size ≤ 1048576) := by
  intro d
  induction d with
  | zero =>
    intro k i left h1 h2 hl hk h0 hle
    obtain ⟨k, rfl⟩ : ∃ m, k = m + 1 := ⟨k - 1, by omega⟩
    rw [laws_szEntryS.l0, if_neg (by omega)]
    refine ⟨_, rfl, hle, fun _ => ?_⟩
    rw [List.drop_eq_nil_of_le (by omega)]; simp
  | succ d ih =>
    intro k i left h1 h2 hl hk h0 hle
    obtain ⟨k, rfl⟩ : ∃ m, k = m + 1 := ⟨k - 1, by omega⟩
    obtain ⟨u, hd, hu, hm⟩ := rde_drop l i (by omega)
    obtain ⟨r, hr, hrl, hb⟩ := szent_one u.f0.f0 u.f0.f1 u.f0.f2 u.f1 left h0 hle (hs u hm).1 (hs u hm).2
    rw [laws_szEntryS.l0, if_pos (by omega), if_pos (by omega), hu, hr]
    simp only [Option.bind_some]
    by_cases c : r < 0
    · rw [if_pos c]; exact ⟨_, rfl, by omega, fun h => by omega⟩
    · rw [if_neg c, w64s (n := l.length) (by omega) (by omega)]
      obtain ⟨r2, hr2, hl2, hb2⟩ := ih k (i + 1) r (by omega) (by omega) hl (by omega) (by omega) (by omega)
      refine ⟨r2, hr2, hl2, fun h x hx => ?_⟩
      rw [hd] at hx
      rcases List.mem_cons.1 hx with rfl | hx
      · exact hb (by omega)
      · exact hb2 h x hx
theorem szents (l : List S57) (hl : l.length ≤ 9223372036854775807) (hs : ∀ u ∈ l, smallE u) (k : Nat) (hk : 1048577 ≤ k) : ∃ r, laws_szEntryS.f k l 1048576 = some r ∧ r ≤ 1048576 ∧ (¬ r < 0 → l.length ≤ 1048576 ∧ ∀ u ∈ l, u.f0.f0.size ≤ 1048576 ∧ u.f1.size ≤ 1048576) := by
  unfold laws_szEntryS.f
  have e : wrap64 (1048576 - (l.length : Int)) = 1048576 - l.length := by unfold wrap64; omega
  rw [e]
  by_cases c : 1048576 - (l.length : Int) < 0
  · rw [if_pos c]; exact ⟨_, rfl, by decide, fun h => absurd (by decide) h⟩
  · rw [if_neg c]
    obtain ⟨r, hr, hrl, hb⟩ := szents_l0 l hs l.length k 0 (1048576 - l.length) (by omega) (by omega) (by omega) (by omega) (by omega) (by omega)
    refine ⟨r, hr, hrl, fun h => ⟨by omega, fun u hu => ?_⟩⟩
    exact hb (by omega) u (by simpa using hu)
theorem toents_l0 (l : List S57) (hl : l.length ≤ 1048576) : ∀ (d k i : Nat) (acc : List S60), i ≤ l.length → l.length - i = d → d < k → acc.length = l.length → acc.take i = (l.map conv).take i → laws_toEntryS.l0 k l acc i = some (l.map conv) := by
  intro d
  induction d with
  | zero =>
    intro k i acc h1 h2 hk ha ht
    obtain ⟨k, rfl⟩ : ∃ m, k = m + 1 := ⟨k - 1, by omega⟩
    rw [laws_toEntryS.l0, if_neg (by omega)]
    rw [List.take_of_length_le (by omega), List.take_of_length_le (by simp; omega)] at ht
    rw [ht]
  | succ d ih =>
    intro k i acc h1 h2 hk ha ht
    obtain ⟨k, rfl⟩ : ∃ m, k = m + 1 := ⟨k - 1, by omega⟩
    obtain ⟨u, hd, hu, hm⟩ := rde_drop l i (by omega)
    rw [laws_toEntryS.l0, if_pos (by omega), if_pos (by omega), hu]
    simp only [laws_toEntry.f, laws_toKey.f, Option.bind_some]
    rw [if_pos (by omega), Int.toNat_natCast, w64s (n := l.length) (by omega) (by omega)]
    refine ih k (i + 1) _ (by omega) (by omega) (by omega) (by simpa using ha) ?_
    have hlt : i < acc.length := by omega
    have hlt2 : i < l.length := by omega
    have hlt3 : i < (l.map conv).length := by simpa using hlt2
    have eu : l[i] = u := by
      have := List.drop_eq_getElem_cons hlt2
      rw [hd] at this
      exact (List.cons.inj this).1.symm
    rw [List.take_succ_eq_append_getElem (by simpa using hlt), List.take_succ_eq_append_getElem hlt3, List.take_set_of_le (by omega), ht, List.getElem_set_self, List.getElem_map, eu]
    rfl
theorem toents (l : List S57) (hl : l.length ≤ 1048576) (k : Nat) (hk : l.length < k) : laws_toEntryS.f k l = some (l.map conv) := by
  unfold laws_toEntryS.f
  rw [if_pos (by omega), if_pos (by omega)]
  exact toents_l0 l hl l.length k 0 _ (by omega) (by omega) hk (by simp) (by simp)
theorem eqents_l0 (l : List S60) (hl : l.length ≤ 1048576) : ∀ (d k i : Nat), i ≤ l.length → l.length - i = d → d < k → laws_eqEntryS.l0 k l l i = some true := by
  intro d
  induction d with
  | zero =>
    intro k i h1 h2 hk
    obtain ⟨k, rfl⟩ : ∃ m, k = m + 1 := ⟨k - 1, by omega⟩
    rw [laws_eqEntryS.l0, if_neg (by omega)]
  | succ d ih =>
    intro k i h1 h2 hk
    obtain ⟨k, rfl⟩ : ∃ m, k = m + 1 := ⟨k - 1, by omega⟩
    rw [laws_eqEntryS.l0, if_pos (by omega), if_pos (by omega), if_pos (by omega)]
    have e : laws_eqEntry.f (rd_T60 l (i : Int)).f0.f0 (rd_T60 l (i : Int)).f0.f1 (rd_T60 l (i : Int)).f0.f2 (rd_T60 l (i : Int)).f1 (rd_T60 l (i : Int)).f0.f0 (rd_T60 l (i : Int)).f0.f1 (rd_T60 l (i : Int)).f0.f2 (rd_T60 l (i : Int)).f1 = some true := by simp [laws_eqEntry.f, laws_eqKey.f]
    rw [e]
    simp only [Option.bind_some]
    rw [if_pos trivial, w64s (n := l.length) (by omega) (by omega)]
    exact ih k (i + 1) (by omega) (by omega) (by omega)
theorem eqents (l : List S60) (hl : l.length ≤ 1048576) (k : Nat) (hk : l.length < k) : laws_eqEntryS.f k l l = some true := by
  unfold laws_eqEntryS.f
  rw [if_pos rfl]
  exact eqents_l0 l hl l.length k 0 (by omega) (by omega) hk

/-! ## section isuser -/
def userB (s : ByteArray) : Bool := decide (1 ≤ s.size ∧ s.size ≤ 40)
theorem iuser (s : ByteArray) : impl_isUser.f s = some (userB s) := by
  unfold impl_isUser.f userB
  split
  · congr 1; rw [decide_eq_decide]; omega
  · congr 1; symm; rw [decide_eq_false_iff_not]; omega
theorem suser (s : ByteArray) : spec_l2User.f s = some (userB s) := by
  unfold spec_l2User.f userB
  split
  · congr 1; rw [decide_eq_decide]; omega
  · congr 1; symm; rw [decide_eq_false_iff_not]; omega

/-! ## section within -/
def inB (n lo hi : Int) : Bool := decide (lo ≤ n ∧ n ≤ hi)
theorem iwithin (n lo hi : Int) : impl_within.f n lo hi = some (inB n lo hi) := by
  unfold impl_within.f inB
  split
  · congr 1; rw [decide_eq_decide]; omega
  · congr 1; symm; rw [decide_eq_false_iff_not]; omega
theorem swithin (n lo hi : Int) : spec_l1In.f n lo hi = some (inB n lo hi) := by
  unfold spec_l1In.f inB
  split
  · congr 1; rw [decide_eq_decide]; omega
  · congr 1; symm; rw [decide_eq_false_iff_not]; omega

/-! ## section keyok -/
def keyB (u : ByteArray) (q d : Int) : Bool := userB u && inB q 0 1000000000000 && inB d 0 1
theorem ikeyok (u : ByteArray) (q d : Int) : impl_KeyOk.f u q d = some (keyB u q d) := by
  unfold impl_KeyOk.f keyB
  rw [iuser, iwithin, iwithin]
  simp only [Option.bind_some]
  cases userB u <;> cases inB q 0 1000000000000 <;> cases inB d 0 1 <;> rfl
theorem skeyok (u : ByteArray) (q d : Int) : spec_KeyOk.f u q d = some (keyB u q d) := by
  unfold spec_KeyOk.f keyB
  rw [suser, swithin, swithin]
  simp only [Option.bind_some]
  cases userB u <;> cases inB q 0 1000000000000 <;> cases inB d 0 1 <;> rfl

/-! ## section entryok -/
def entB (u : ByteArray) (q d : Int) (v : ByteArray) : Bool := keyB u q d && (decide (v.size ≤ 200) && (decide (d = 1) || (v.toList == ([] : List UInt8))))
theorem ient (u : ByteArray) (q d : Int) (v : ByteArray) : impl_EntryOk.f u q d v = some (entB u q d v) := by
  unfold impl_EntryOk.f entB
  rw [ikeyok]
  simp only [Option.bind_some]
  cases keyB u q d
  · rfl
  · rw [if_pos rfl]
    by_cases h : v.size ≤ 200
    · rw [if_pos (by omega)]
      by_cases h1 : d = 1 <;> simp [h, h1]
    · rw [if_neg (by omega)]; simp [h]
theorem sent (u : ByteArray) (q d : Int) (v : ByteArray) : spec_EntryOk.f u q d v = some (entB u q d v) := by
  unfold spec_EntryOk.f entB
  rw [skeyok]
  simp only [Option.bind_some]
  cases keyB u q d
  · rfl
  · rw [if_pos rfl]
    by_cases h : v.size ≤ 200
    · rw [if_pos (by omega)]
      by_cases h1 : d = 1 <;> simp [h, h1]
    · rw [if_neg (by omega)]; simp [h]

/-! ## section keycmp -/
theorem bl_irrefl : ∀ x : List UInt8, Op.bytesLess x x = false
  | [] => rfl
  | a :: x => by simp [Op.bytesLess, bl_irrefl x]
theorem bl_trans : ∀ x y z : List UInt8, Op.bytesLess x y = true → Op.bytesLess y z = true → Op.bytesLess x z = true
  | _, [], _ => by simp [Op.bytesLess]
  | _, _ :: _, [] => by simp [Op.bytesLess]
  | [], _ :: _, _ :: _ => by simp [Op.bytesLess]
  | a :: x, b :: y, c :: z => by
    intro h1 h2
    simp only [Op.bytesLess, Bool.or_eq_true, Bool.and_eq_true, decide_eq_true_eq, beq_iff_eq] at h1 h2 ⊢
    rcases h1 with h1 | ⟨rfl, h1⟩
    · rcases h2 with h2 | ⟨rfl, h2⟩
      · exact .inl (UInt8.lt_trans h1 h2)
      · exact .inl h1
    · rcases h2 with h2 | ⟨rfl, h2⟩
      · exact .inl h2
      · exact .inr ⟨rfl, bl_trans x y z h1 h2⟩
theorem bl_tri : ∀ x y : List UInt8, Op.bytesLess x y = false → x ≠ y → Op.bytesLess y x = true
  | [], [] => fun _ h => absurd rfl h
  | [], _ :: _ => by simp [Op.bytesLess]
  | _ :: _, [] => by simp [Op.bytesLess]
  | a :: x, b :: y => by
    intro h1 h2
    have h3 : ¬ (a < b ∨ (a = b ∧ Op.bytesLess x y = true)) := by
      intro h
      rw [Op.bytesLess] at h1
      have : (decide (a < b) || (a == b && Op.bytesLess x y)) = true := by simpa using h
      rw [this] at h1; cases h1
    rw [Op.bytesLess]
    simp only [Bool.or_eq_true, Bool.and_eq_true, decide_eq_true_eq, beq_iff_eq]
    by_cases e : a = b
    · subst e
      refine .inr ⟨rfl, bl_tri x y ?_ (fun e => h2 (by rw [e]))⟩
      cases hq : Op.bytesLess x y with
      | false => rfl
      | true => exact absurd (.inr ⟨rfl, hq⟩) h3
    · refine .inl ?_
      have h4 : ¬ a < b := fun h => h3 (.inl h)
      rw [UInt8.lt_iff_toNat_lt] at h4 ⊢
      have h5 : a.toNat ≠ b.toNat := fun h => e (UInt8.toNat_inj.1 h)
      omega
theorem bl_asymm {x y : List UInt8} (h : Op.bytesLess x y = true) : Op.bytesLess y x = false := by
  cases hq : Op.bytesLess y x with
  | false => rfl
  | true => have := bl_trans x y x h hq; rw [bl_irrefl] at this; cases this
/-- texts, numbers and keys compared -/
def cs (x y : List UInt8) : Int := if Op.bytesLess x y = true then -1 else if x = y then 0 else 1
def ci (a b : Int) : Int := if a < b then -1 else if a > b then 1 else 0
def kc (u : ByteArray) (s d : Int) (u' : ByteArray) (s' d' : Int) : Int := if cs u.toList u'.toList = 0 then (if ci s' s = 0 then ci d' d else ci s' s) else cs u.toList u'.toList
theorem cs_self (x : List UInt8) : cs x x = 0 := by unfold cs; rw [bl_irrefl]; simp
theorem cs_zero {x y : List UInt8} : cs x y = 0 ↔ x = y := by
  constructor
  · intro h; unfold cs at h; split at h
    · cases h
    · split at h
      · assumption
      · cases h
  · rintro rfl; exact cs_self _
theorem cs_neg {x y : List UInt8} : cs x y = -1 ↔ Op.bytesLess x y = true := by
  unfold cs; constructor
  · intro h; split at h
    · assumption
    · split at h <;> cases h
  · intro h; rw [if_pos h]
theorem cs_vals (x y : List UInt8) : cs x y = -1 ∨ cs x y = 0 ∨ cs x y = 1 := by unfold cs; split; simp; split <;> simp
theorem cs_anti (x y : List UInt8) : cs x y = - cs y x := by
  by_cases e : x = y
  · subst e; rw [cs_self]; rfl
  · by_cases h : Op.bytesLess x y = true
    · rw [cs_neg.2 h]; unfold cs; rw [bl_asymm h, if_neg (by simp), if_neg (Ne.symm e)]
    · have h2 := bl_tri x y (by simpa using h) e
      rw [cs_neg.2 h2]; unfold cs; rw [if_neg h, if_neg e]; rfl
theorem ccs (x y : ByteArray) : cmp_Compare_string.f x y = some (cs x.toList y.toList) := by
  unfold cmp_Compare_string.f cmp_isNaN_string.f cs
  simp only [Option.bind_some, bne_self_eq_false]
  rw [if_neg (by decide), if_neg (by decide)]
  split
  · rfl
  · split <;> rfl
theorem cci (a b : Int) : cmp_Compare_int64.f a b = some (ci a b) := by
  unfold cmp_Compare_int64.f cmp_isNaN_int64.f ci
  simp only [Option.bind_some, bne_self_eq_false]
  rw [if_neg (by decide), if_neg (by decide)]
  split
  · rfl
  · split <;> rfl
theorem cor3 (k : Nat) (hk : 4 ≤ k) (x y z : Int) : cmp_Or_int.f k [x, y, z] = some (if x = 0 then (if y = 0 then z else y) else x) := by
  obtain ⟨k, rfl⟩ : ∃ m, k = m + 4 := ⟨k - 4, by omega⟩
  have w0 : wrap64 ((0 : Int) + 1) = 1 := by unfold wrap64; omega
  have w1 : wrap64 ((1 : Int) + 1) = 2 := by unfold wrap64; omega
  have w2 : wrap64 ((2 : Int) + 1) = 3 := by unfold wrap64; omega
  have r0 : rd [x, y, z] 0 = x := rfl
  have r1 : rd [x, y, z] 1 = y := rfl
  have r2 : rd [x, y, z] 2 = z := rfl
  unfold cmp_Or_int.f
  rw [cmp_Or_int.l0, if_pos (by simp), if_pos (by decide), if_pos (by simp), r0, w0]
  by_cases hx : x = 0
  · rw [if_pos hx, if_pos hx, cmp_Or_int.l0, if_pos (by simp), if_pos (by decide), if_pos (by simp), r1, w1]
    by_cases hy : y = 0
    · rw [if_pos hy, if_pos hy, cmp_Or_int.l0, if_pos (by simp), if_pos (by decide), if_pos (by simp), r2, w2]
      by_cases hz : z = 0
      · rw [if_pos hz, cmp_Or_int.l0, if_neg (by simp), hz]
      · rw [if_neg hz]
    · rw [if_neg hy, if_neg hy]
  · rw [if_neg hx, if_neg hx]
theorem icmpk (k : Nat) (hk : 4 ≤ k) (u : ByteArray) (s d : Int) (u' : ByteArray) (s' d' : Int) : impl_cmpKeys.f k u s d u' s' d' = some (kc u s d u' s' d') := by
  unfold impl_cmpKeys.f kc
  rw [ccs, cci, cci]
  simp only [Option.bind_some]
  rw [cor3 k hk]; rfl
/-- what the comparison of two keys says: 0 where one is not right -/
def KC (u : ByteArray) (s d : Int) (u' : ByteArray) (s' d' : Int) : Int := if keyB u s d = true ∧ keyB u' s' d' = true then kc u s d u' s' d' else 0

/-! ## section entriesok -/
def entOkB (e : S60) : Bool := entB e.f0.f0 e.f0.f1 e.f0.f2 e.f1
def entKc (a b : S60) : Int := kc a.f0.f0 a.f0.f1 a.f0.f2 b.f0.f0 b.f0.f1 b.f0.f2
/-- each entry is right, and ahead of the next one -/
def entsG : Option S60 → List S60 → Bool
  | _, [] => true
  | none, e :: r => entOkB e && entsG (some e) r
  | some p, e :: r => entOkB e && (decide (entKc p e < 0) && entsG (some e) r)
def entsB (l : List S60) : Bool := decide (l.length ≤ 400) && entsG none l
theorem iaeo_l0 (l : List S60) (hl : l.length ≤ 1048576) : ∀ (d k i : Nat) (p : S60), i + 1 ≤ l.length → l.length - (i + 1) = d → d + 4 < k → l[i]? = some p → impl_EntriesOk.l0 k l l l.length ((i + 1 : Nat) : Int) = some (entsG (some p) (l.drop (i + 1))) := by
  intro d
  induction d with
  | zero =>
    intro k i p h1 h2 hk hp
    obtain ⟨k, rfl⟩ : ∃ m, k = m + 1 := ⟨k - 1, by omega⟩
    rw [impl_EntriesOk.l0, if_neg (by omega), List.drop_eq_nil_of_le (by omega)]; rfl
  | succ d ih =>
    intro k i p h1 h2 hk hp
    obtain ⟨k, rfl⟩ : ∃ m, k = m + 1 := ⟨k - 1, by omega⟩
    obtain ⟨u, hd, hu, hm⟩ := rdi_drop l (i + 1) (by omega)
    have hpr : rd_T60 l (i : Int) = p := by
      unfold rd_T60
      rw [Int.toNat_natCast, List.getD_eq_getElem?_getD, hp]; rfl
    have hup : l[i + 1]? = some u := by
      have hlt : i + 1 < l.length := by omega
      have := List.drop_eq_getElem_cons hlt
      rw [hd] at this
      rw [List.getElem?_eq_getElem hlt, (List.cons.inj this).1]
    rw [impl_EntriesOk.l0, if_pos (by omega), if_pos (by omega), if_pos (by omega), hu, ient, hd]
    simp only [Option.bind_some, entsG]
    have ew : wrap64 (((i + 1 : Nat) : Int) - 1) = (i : Int) := by unfold wrap64; omega
    rw [show entB u.f0.f0 u.f0.f1 u.f0.f2 u.f1 = entOkB u from rfl]
    cases entOkB u
    · rfl
    · rw [if_pos rfl, if_pos (by omega), ew, if_pos (by omega), if_pos (by omega), hpr, icmpk k (by omega)]
      simp only [Option.bind_some]
      rw [show kc p.f0.f0 p.f0.f1 p.f0.f2 u.f0.f0 u.f0.f1 u.f0.f2 = entKc p u from rfl]
      by_cases c : entKc p u < 0
      · rw [if_neg (by omega), w64s (n := l.length) (by omega) (by omega), ih k (i + 1) u (by omega) (by omega) (by omega) hup]; simp [c]
      · rw [if_pos (by omega)]; simp [c]
theorem ieo (l : List S60) (hl : l.length ≤ 1048576) (k : Nat) (hk : l.length + 5 < k) : impl_EntriesOk.f k l = some (entsB l) := by
  unfold impl_EntriesOk.f entsB
  by_cases c : l.length ≤ 400
  · rw [if_neg (by omega)]
    have e : impl_EntriesOk.l0 k l l l.length 0 = some (entsG none l) := by
      obtain ⟨k, rfl⟩ : ∃ m, k = m + 1 := ⟨k - 1, by omega⟩
      cases l with
      | nil => rw [impl_EntriesOk.l0, if_neg (by simp)]; rfl
      | cons p r =>
        rw [impl_EntriesOk.l0, if_pos (by simp <;> omega), if_pos (by decide), if_pos (by simp <;> omega)]
        have hr : rd_T60 (p :: r) 0 = p := rfl
        rw [hr, ient]
        simp only [Option.bind_some, entsG]
        rw [show entB p.f0.f0 p.f0.f1 p.f0.f2 p.f1 = entOkB p from rfl]
        cases entOkB p
        · rfl
        · rw [if_pos rfl, if_neg (by decide), show wrap64 (0 + 1) = ((0 + 1 : Nat) : Int) by unfold wrap64; omega]
          rw [iaeo_l0 (p :: r) hl ((p :: r).length - 1) k 0 p (by simp) (by omega) (by omega) rfl]; simp
    rw [e]; simp [c]
  · rw [if_pos (by omega)]; simp [c]
theorem ent_key {u : ByteArray} {q d : Int} {v : ByteArray} (h : entB u q d v = true) : keyB u q d = true := by
  unfold entB at h; cases hk : keyB u q d with
  | true => rfl
  | false => rw [hk] at h; cases h

/-! ## section keycmpspec -/
theorem skc_j0 (k : Nat) (u : ByteArray) (s d : Int) (u' : ByteArray) (s' d' : Int) : spec_KeyCmp.j0 (k + 1) false u s d u' s' d' = some (kc u s d u' s' d') := by
  rw [spec_KeyCmp.j0, if_neg (by decide)]
  by_cases e : u.toList = u'.toList
  · have hb : Op.bytesLess u.toList u'.toList = false := by rw [e]; exact bl_irrefl _
    have hc : cs u.toList u'.toList = 0 := cs_zero.2 e
    unfold kc
    rw [hc, if_pos rfl, hb, if_pos e]
    by_cases h1 : s = s'
    · by_cases h2 : d = d'
      · subst h1; subst h2
        rw [if_pos (by simp [e])]
        unfold ci; simp
      · rw [if_neg (by simp [h2]), if_neg (by decide), if_neg (by omega), if_pos h1]
        have c0 : ci s' s = 0 := by unfold ci; rw [if_neg (by omega), if_neg (by omega)]
        rw [c0, if_pos rfl]
        unfold ci
        by_cases h3 : d > d'
        · rw [if_pos h3, if_pos (by omega)]
        · rw [if_neg h3, if_neg (by omega), if_pos (by omega)]
    · rw [if_neg (by simp [h1]), if_neg (by decide)]
      unfold ci
      by_cases h3 : s > s'
      · rw [if_pos h3, if_pos (show s' < s from h3), if_neg (by decide)]
      · rw [if_neg h3, if_neg h1, if_neg (show ¬ s' < s by omega), if_pos (show s' > s by omega), if_neg (by decide)]
  · rw [if_neg (by simp [e])]
    have hc : ¬ cs u.toList u'.toList = 0 := fun h => e (cs_zero.1 h)
    unfold kc
    rw [if_neg hc]
    unfold cs
    by_cases hb : Op.bytesLess u.toList u'.toList = true
    · rw [if_pos hb, if_pos hb]
    · rw [if_neg hb, if_neg hb, if_neg e, if_neg e]
theorem skc (k : Nat) (hk : 1 ≤ k) (u : ByteArray) (s d : Int) (u' : ByteArray) (s' d' : Int) : spec_KeyCmp.f k u s d u' s' d' = some (KC u s d u' s' d') := by
  unfold KC
  obtain ⟨k, rfl⟩ : ∃ m, k = m + 1 := ⟨k - 1, by omega⟩
  unfold spec_KeyCmp.f
  rw [skeyok, skeyok]
  simp only [Option.bind_some]
  by_cases a : keyB u s d = true
  · by_cases b : keyB u' s' d' = true
    · rw [if_pos a, b, if_pos ⟨a, rfl⟩]; exact skc_j0 k u s d u' s' d'
    · have b' : keyB u' s' d' = false := by simpa using b
      rw [if_pos a, b', if_neg (fun h => by cases h.2), spec_KeyCmp.j0, if_pos (by decide)]
  · rw [if_neg a, if_neg (fun h => a h.1), spec_KeyCmp.j0, if_pos rfl]

/-! ## section entriesokspec -/
theorem saeo_l0 (l : List S60) (hl : l.length ≤ 1048576) : ∀ (d k i : Nat) (p : S60), i + 1 ≤ l.length → l.length - (i + 1) = d → d + 4 < k → l[i]? = some p → entOkB p = true → spec_EntriesOk.l0 k l ((i + 1 : Nat) : Int) = some (entsG (some p) (l.drop (i + 1))) := by
  intro d
  induction d with
  | zero =>
    intro k i p h1 h2 hk hp _
    obtain ⟨k, rfl⟩ : ∃ m, k = m + 1 := ⟨k - 1, by omega⟩
    rw [spec_EntriesOk.l0, if_neg (by omega), List.drop_eq_nil_of_le (by omega)]; rfl
  | succ d ih =>
    intro k i p h1 h2 hk hp hok
    obtain ⟨k, rfl⟩ : ∃ m, k = m + 1 := ⟨k - 1, by omega⟩
    obtain ⟨u, hd, hu, hm⟩ := rdi_drop l (i + 1) (by omega)
    have hpr : rd_T60 l (i : Int) = p := by
      unfold rd_T60
      rw [Int.toNat_natCast, List.getD_eq_getElem?_getD, hp]; rfl
    have hup : l[i + 1]? = some u := by
      have hlt : i + 1 < l.length := by omega
      have := List.drop_eq_getElem_cons hlt
      rw [hd] at this
      rw [List.getElem?_eq_getElem hlt, (List.cons.inj this).1]
    rw [spec_EntriesOk.l0, if_pos (by omega), if_pos (by omega), hu, sent, hd]
    simp only [Option.bind_some, entsG]
    have ew : wrap64 (((i + 1 : Nat) : Int) - 1) = (i : Int) := by unfold wrap64; omega
    rw [show entB u.f0.f0 u.f0.f1 u.f0.f2 u.f1 = entOkB u from rfl]
    cases hq : entOkB u
    · rfl
    · have hKC : KC p.f0.f0 p.f0.f1 p.f0.f2 u.f0.f0 u.f0.f1 u.f0.f2 = entKc p u := by
        unfold KC
        rw [if_pos ⟨ent_key (v := p.f1) hok, ent_key (v := u.f1) hq⟩]; rfl
      rw [if_pos rfl, if_pos (by omega), ew, if_pos (by omega), if_pos (by omega), hpr, skc k (by omega), hKC]
      simp only [Option.bind_some]
      by_cases c : entKc p u < 0
      · rw [if_neg (by omega), w64s (n := l.length) (by omega) (by omega), ih k (i + 1) u (by omega) (by omega) (by omega) hup hq]; simp [c]
      · rw [if_pos (by omega)]; simp [c]
theorem seo (l : List S60) (hl : l.length ≤ 1048576) (k : Nat) (hk : l.length + 5 < k) : spec_EntriesOk.f k l = some (entsB l) := by
  unfold spec_EntriesOk.f entsB
  by_cases c : l.length ≤ 400
  · rw [if_neg (by omega)]
    have e : spec_EntriesOk.l0 k l 0 = some (entsG none l) := by
      obtain ⟨k, rfl⟩ : ∃ m, k = m + 1 := ⟨k - 1, by omega⟩
      cases l with
      | nil => rw [spec_EntriesOk.l0, if_neg (by simp)]; rfl
      | cons p r =>
        rw [spec_EntriesOk.l0, if_pos (by simp <;> omega), if_pos (by decide)]
        have hr : rd_T60 (p :: r) 0 = p := rfl
        rw [hr, sent]
        simp only [Option.bind_some, entsG]
        rw [show entB p.f0.f0 p.f0.f1 p.f0.f2 p.f1 = entOkB p from rfl]
        cases hq : entOkB p
        · rfl
        · rw [if_pos rfl, if_neg (by decide), show wrap64 (0 + 1) = ((0 + 1 : Nat) : Int) by unfold wrap64; omega]
          rw [saeo_l0 (p :: r) hl ((p :: r).length - 1) k 0 p (by simp) (by omega) (by omega) rfl hq]; simp
    rw [e]; simp [c]
  · rw [if_pos (by omega)]; simp [c]

/-- what a row says of a user as of a number -/
def gotE (e : S60) : Int × ByteArray := if e.f0.f2 = 0 then (2, ⟨#[]⟩) else (1, e.f1)
def getR (u : ByteArray) (s : Int) : List S60 → Int × ByteArray
  | [] => (0, ⟨#[]⟩)
  | e :: r => if lookB u s e.f0.f0 e.f0.f1 = true then gotE e else getR u s r
theorem ilook (l : List S60) (hl : l.length ≤ 1048576) (u : ByteArray) (s : Int) : ∀ (d k i : Nat), i ≤ l.length → l.length - i = d → d < k → ∃ t : Int, impl_looked.l0 k l u s l.length i = some t ∧ ((t = -1 ∧ getR u s (l.drop i) = (0, ⟨#[]⟩)) ∨ ∃ j : Nat, t = (j : Int) ∧ j < l.length ∧ getR u s (l.drop i) = gotE (rd_T60 l (j : Int))) := by
  intro d
  induction d with
  | zero =>
    intro k i h1 h2 hk
    obtain ⟨k, rfl⟩ : ∃ m, k = m + 1 := ⟨k - 1, by omega⟩
    rw [impl_looked.l0, if_neg (by omega), List.drop_eq_nil_of_le (by omega)]
    exact ⟨-1, rfl, .inl ⟨rfl, rfl⟩⟩
  | succ d ih =>
    intro k i h1 h2 hk
    obtain ⟨k, rfl⟩ : ∃ m, k = m + 1 := ⟨k - 1, by omega⟩
    obtain ⟨e, hd, he, hm⟩ := rdi_drop l i (by omega)
    rw [impl_looked.l0, if_pos (by omega), if_pos (by omega), if_pos (by omega), he, Option.bind_some, hd, getR]
    by_cases c : lookB u s e.f0.f0 e.f0.f1 = true
    · rw [if_pos c, if_pos c]
      exact ⟨(i : Int), rfl, .inr ⟨i, rfl, by omega, by rw [he]⟩⟩
    · rw [if_neg c, if_neg c, w64s (n := l.length) (by omega) (by omega)]
      exact ih k (i + 1) (by omega) (by omega) (by omega)
theorem iget (l : List S60) (hl : l.length ≤ 1048576) (u : ByteArray) (s : Int) (k : Nat) (hk : l.length < k) : impl_get.f k l u s = some (getR u s l) := by
  unfold impl_get.f impl_looked.f
  obtain ⟨t, h1, h2⟩ := ilook l hl u s l.length k 0 (by omega) (by omega) hk
  rw [show ((0 : Nat) : Int) = 0 from rfl] at h1
  rw [h1, Option.bind_some]
  rw [List.drop_zero] at h2
  rcases h2 with ⟨rfl, h2⟩ | ⟨j, rfl, hj, h2⟩
  · rw [if_pos (by decide), h2]
  · rw [if_neg (by omega), if_pos (by omega), if_pos (by omega), h2]
    unfold gotE
    split <;> rfl
theorem sget_l0 (l : List S60) (hl : l.length ≤ 1048576) (u : ByteArray) (s : Int) : ∀ (d k i : Nat), i ≤ l.length → l.length - i = d → 2 * d + 2 < k → spec_l8Get.l0 k l u s i = some (getR u s (l.drop i)) := by
  intro d
  induction d with
  | zero =>
    intro k i h1 h2 hk
    obtain ⟨k, rfl⟩ : ∃ m, k = m + 1 := ⟨k - 1, by omega⟩
    rw [spec_l8Get.l0, if_neg (by omega), List.drop_eq_nil_of_le (by omega)]; rfl
  | succ d ih =>
    intro k i h1 h2 hk
    obtain ⟨k, rfl⟩ : ∃ m, k = m + 2 := ⟨k - 2, by omega⟩
    obtain ⟨e, hd, he, hm⟩ := rdi_drop l i (by omega)
    rw [spec_l8Get.l0, if_pos (by omega), if_pos (by omega), he, hd, getR]
    have nx := ih k (i + 1) (by omega) (by omega) (by omega)
    have next : spec_l8Get.j1 (k + 1) l u s i true = some (getR u s (l.drop (i + 1))) := by
      rw [spec_l8Get.j1, if_pos rfl, w64s (n := l.length) (by omega) (by omega)]; exact nx
    have stop : spec_l8Get.j1 (k + 1) l u s i false = some (gotE e) := by
      rw [spec_l8Get.j1, if_neg (by decide), if_pos (by omega), if_pos (by omega), he]
      unfold gotE
      split <;> rfl
    unfold lookB
    by_cases c : e.f0.f0.toList = u.toList
    · rw [if_pos c, if_pos c]
      by_cases c2 : e.f0.f1 ≤ s
      · rw [decide_eq_false (show ¬ (e.f0.f1 > s) by omega), stop, if_pos (decide_eq_true c2)]
      · rw [decide_eq_true (show e.f0.f1 > s by omega), next, if_neg (by simp [c2])]
    · rw [if_neg c, if_neg c, next, if_neg (by decide)]
theorem FnExactMemGet : laws_FnExactMemGet.Pure := by
  intro l u s ⟨hl, hs⟩ hu _
  refine ⟨2098000, ?_⟩
  unfold laws_FnExactMemGet.f
  by_cases hb : (u.size : Int) > 1048576
  · rw [if_pos hb]
  · rw [if_neg hb]
    obtain ⟨r, hr, _, hb⟩ := szents l hl (fun z hz => ⟨(hs z hz).1, (hs z hz).2.2.2⟩) 2098000 (by omega)
    rw [hr]
    simp only [Option.bind_some]
    by_cases c : r < 0
    · rw [if_pos c]
    · obtain ⟨h1, h2⟩ := hb c
      have h3 : (l.map conv).length ≤ 1048576 := by simpa using h1
      rw [if_neg c, toents l h1 _ (by omega)]
      simp only [Option.bind_some]
      have fin : ∃ x, spec_MemGet.f 2098000 (l.map conv) u s = some x ∧ impl_MemGet.f 2098000 (l.map conv) u s = some x := by
        unfold spec_MemGet.f impl_MemGet.f spec_l8Get.f
        rw [seo _ h3 _ (by omega), ieo _ h3 _ (by omega), Option.bind_some, Option.bind_some]
        by_cases g : entsB (l.map conv) = true
        · have hs := sget_l0 (l.map conv) h3 u s (l.map conv).length 2098000 0 (by omega) (by omega) (by omega)
          rw [List.drop_zero, show ((0 : Nat) : Int) = 0 from rfl] at hs
          rw [if_pos g, if_pos g, iget _ h3 u s _ (by omega), hs, Option.bind_some]
          exact ⟨_, rfl, rfl⟩
        · rw [if_neg g, if_neg g]; exact ⟨_, rfl, rfl⟩
      obtain ⟨x, e1, e2⟩ := fin
      rw [e1, e2]
      simp only [Option.bind_some]
      rw [if_pos trivial, laws_FnExactMemGet.j0, if_neg (by simp), toents l h1 _ (by omega), Option.bind_some, eqents _ h3 _ (by omega)]
      rfl

end Go.Proofs.Ytfcjacncllmapae.Pure
