/- The program's UsersOk returns what the reference's UsersOk returns, for every list of texts: no condition. -/
import Derived.Test.YtfcjacncllmapaaQFnExactUsersOky
namespace Go.Proofs.Ytfcjacncllmapaa.Pure
open Go.RowKit Go.Proofs.Ytfcjacncllmapaa.PFnExactUsersOk Go.Proofs.YtfcjacncllmapaaW.PrintWords Go.Proofs.YtfcjacncllmapaaW.PrintLast Go.Proofs.YtfcjacncllmapaaW.PrintMore
set_option linter.unusedVariables false
set_option linter.unusedSimpArgs false

/-! ## section base -/
/-- an unsigned kind's number that fits is not wrapped -/
theorem wrapU (k : IntKind) (hs : k.signed = false) (n : Nat) (h : n < 2 ^ k.bits) : k.wrap (n : Int) = n := by
  unfold IntKind.wrap
  rw [Int.emod_eq_of_lt (by omega) (by exact_mod_cast h)]
  simp [hs]
/-- bits of unsigned numbers are those of natural numbers -/
theorem b_or (k : IntKind) (hs : k.signed = false) (a b : Nat) (ha : a < 2 ^ k.bits) (hb : b < 2 ^ k.bits) : Go.bits .or k a b = ((a ||| b : Nat) : Int) := by
  simp only [Go.bits, BitVec.ofInt_natCast, BitVec.toNat_or, BitVec.toNat_ofNat, Nat.mod_eq_of_lt ha, Nat.mod_eq_of_lt hb]
  exact wrapU k hs _ (Nat.or_lt_two_pow ha hb)
theorem b_xor (k : IntKind) (hs : k.signed = false) (a b : Nat) (ha : a < 2 ^ k.bits) (hb : b < 2 ^ k.bits) : Go.bits .xor k a b = ((a ^^^ b : Nat) : Int) := by
  simp only [Go.bits, BitVec.ofInt_natCast, BitVec.toNat_xor, BitVec.toNat_ofNat, Nat.mod_eq_of_lt ha, Nat.mod_eq_of_lt hb]
  exact wrapU k hs _ (Nat.xor_lt_two_pow ha hb)
theorem b_and (k : IntKind) (hs : k.signed = false) (a b : Nat) (ha : a < 2 ^ k.bits) (hb : b < 2 ^ k.bits) : Go.bits .and k a b = ((a &&& b : Nat) : Int) := by
  simp only [Go.bits, BitVec.ofInt_natCast, BitVec.toNat_and, BitVec.toNat_ofNat, Nat.mod_eq_of_lt ha, Nat.mod_eq_of_lt hb]
  exact wrapU k hs _ (Nat.and_lt_two_pow _ hb)
theorem b_or8 (a b : Nat) (ha : a < 256) (hb : b < 256) : Go.bits .or .u8 a b = ((a ||| b : Nat) : Int) := b_or .u8 rfl a b ha hb
theorem u64w (x : Int) : IntKind.u64.wrap x = x % 18446744073709551616 := by simp [IntKind.wrap, IntKind.bits, IntKind.signed]

/-! ## section bytes -/
/-- the bytes of a text, as natural numbers -/
def nb (s : ByteArray) : List Nat := s.data.toList.map UInt8.toNat
theorem nb_length (s : ByteArray) : (nb s).length = s.size := by rw [nb, List.length_map, Array.length_toList]; rfl
theorem nb_lt (s : ByteArray) : ∀ b ∈ nb s, b < 256 := by
  intro b hb
  simp only [nb, List.mem_map] at hb
  obtain ⟨u, _, rfl⟩ := hb
  exact u.toNat_lt
theorem bt_nb (s : ByteArray) (i : Nat) (h : i < s.size) : bt s i = (((nb s)[i]'(by rw [nb_length]; exact h) : Nat) : Int) := by
  simp only [bt, Int.toNat_natCast, h, nb]
  simp
  rfl
theorem nb_drop (s : ByteArray) (i : Nat) (h : i < s.size) : ∃ b, (nb s).drop i = b :: (nb s).drop (i + 1) ∧ bt s i = (b : Int) ∧ b < 256 := by
  have hl : i < (nb s).length := by rw [nb_length]; exact h
  exact ⟨(nb s)[i], List.drop_eq_getElem_cons hl, bt_nb s i h, nb_lt s _ (List.getElem_mem hl)⟩
theorem nb_end (s : ByteArray) (i : Nat) (h : s.size ≤ i) : (nb s).drop i = [] := List.drop_eq_nil_of_le (by rw [nb_length]; exact h)
theorem w64 {x : Int} (h0 : -9223372036854775808 ≤ x) (h1 : x < 9223372036854775808) : wrap64 x = x := by unfold wrap64; omega
theorem w64s {i n : Nat} (h : i < n) (hn : n ≤ 140737488351232) : wrap64 ((i : Int) + 1) = ((i + 1 : Nat) : Int) := by rw [w64] <;> omega
theorem bits_range (k : IntKind) (hs : k.signed = false) (op : BinOp) (x y : Int) : 0 ≤ Go.bits op k x y ∧ Go.bits op k x y < 2 ^ k.bits := by
  have hp : (0 : Int) < 2 ^ k.bits := by exact_mod_cast Nat.two_pow_pos k.bits
  unfold Go.bits IntKind.wrap
  simp only [hs, Bool.false_and]
  exact ⟨Int.emod_nonneg _ (by omega), Int.emod_lt_of_pos _ hp⟩

/-! ## section strs -/
theorem rds_drop (l : List ByteArray) (i : Nat) (h : i < l.length) : ∃ u, l.drop i = u :: l.drop (i + 1) ∧ rdOf ByteArray.empty l (i : Int) = u ∧ u ∈ l := by
  refine ⟨l[i], List.drop_eq_getElem_cons h, ?_, List.getElem_mem h⟩
  unfold rdOf
  rw [Int.toNat_natCast, List.getD_eq_getElem?_getD, List.getElem?_eq_getElem h]; rfl
/-- what is left of a purse behind a list of texts: -1 when it does not do -/
theorem szstrs_l0 (l : List ByteArray) (hs : ∀ u ∈ l, u.size ≤ 9223372036854775807) : ∀ (d k i : Nat) (left : Int), i ≤ l.length → l.length - i = d → l.length ≤ 1048576 → d < k → 0 ≤ left → left ≤ 1048576 → ∃ r, laws_szStringS.l0 k l left i = some r ∧ (0 ≤ r → ∀ u ∈ l.drop i, u.size ≤ 1048576) := by
  intro d
  induction d with
  | zero =>
    intro k i left h1 h2 hl hk h0 hle
    obtain ⟨k, rfl⟩ : ∃ m, k = m + 1 := ⟨k - 1, by omega⟩
    rw [laws_szStringS.l0, if_neg (by omega)]
    refine ⟨_, rfl, fun _ => ?_⟩
    rw [List.drop_eq_nil_of_le (by omega)]; simp
  | succ d ih =>
    intro k i left h1 h2 hl hk h0 hle
    obtain ⟨k, rfl⟩ : ∃ m, k = m + 1 := ⟨k - 1, by omega⟩
    obtain ⟨u, hd, hu, hm⟩ := rds_drop l i (by omega)
    have hsz := hs u hm
    have e : wrap64 (left - (u.size : Int)) = left - u.size := by unfold wrap64; omega
    rw [laws_szStringS.l0, if_pos (by omega), if_pos (by omega), hu, e]
    by_cases c : left - (u.size : Int) < 0
    · rw [if_pos c]; exact ⟨_, rfl, fun h => by omega⟩
    · rw [if_neg c, w64s (n := l.length) (by omega) (by omega)]
      obtain ⟨r, hr, hb⟩ := ih k (i + 1) (left - u.size) (by omega) (by omega) hl (by omega) (by omega) (by omega)
      refine ⟨r, hr, fun h x hx => ?_⟩
      rw [hd] at hx
      rcases List.mem_cons.1 hx with rfl | hx
      · omega
      · exact hb h x hx
theorem szstrs (l : List ByteArray) (hl : l.length ≤ 9223372036854775807) (hs : ∀ u ∈ l, u.size ≤ 9223372036854775807) (k : Nat) (hk : 1048577 ≤ k) : ∃ r, laws_szStringS.f k l 1048576 = some r ∧ (¬ r < 0 → l.length ≤ 1048576 ∧ ∀ u ∈ l, u.size ≤ 1048576) := by
  unfold laws_szStringS.f
  have e : wrap64 (1048576 - (l.length : Int)) = 1048576 - l.length := by unfold wrap64; omega
  rw [e]
  by_cases c : 1048576 - (l.length : Int) < 0
  · rw [if_pos c]; exact ⟨_, rfl, fun h => absurd (by decide) h⟩
  · rw [if_neg c]
    obtain ⟨r, hr, hb⟩ := szstrs_l0 l hs l.length k 0 (1048576 - l.length) (by omega) (by omega) (by omega) (by omega) (by omega) (by omega)
    refine ⟨r, hr, fun h => ⟨by omega, fun u hu => ?_⟩⟩
    exact hb (by omega) u (by simpa using hu)
theorem tostrs_l0 (l : List ByteArray) (hl : l.length ≤ 1048576) : ∀ (d k i : Nat) (acc : List ByteArray), i ≤ l.length → l.length - i = d → d < k → acc.length = l.length → acc.take i = l.take i → laws_toStringS.l0 k l acc i = some l := by
  intro d
  induction d with
  | zero =>
    intro k i acc h1 h2 hk ha ht
    obtain ⟨k, rfl⟩ : ∃ m, k = m + 1 := ⟨k - 1, by omega⟩
    rw [laws_toStringS.l0, if_neg (by omega)]
    rw [List.take_of_length_le (by omega), List.take_of_length_le (by omega)] at ht
    rw [ht]
  | succ d ih =>
    intro k i acc h1 h2 hk ha ht
    obtain ⟨k, rfl⟩ : ∃ m, k = m + 1 := ⟨k - 1, by omega⟩
    obtain ⟨u, hd, hu, hm⟩ := rds_drop l i (by omega)
    rw [laws_toStringS.l0, if_pos (by omega), if_pos (by omega), if_pos (by omega), hu, Int.toNat_natCast, w64s (n := l.length) (by omega) (by omega)]
    refine ih k (i + 1) _ (by omega) (by omega) (by omega) (by simpa using ha) ?_
    have hlt : i < acc.length := by omega
    have hlt2 : i < l.length := by omega
    have eu : l[i] = u := by
      have := List.drop_eq_getElem_cons hlt2
      rw [hd] at this
      exact (List.cons.inj this).1.symm
    rw [List.take_succ_eq_append_getElem (by simpa using hlt), List.take_succ_eq_append_getElem hlt2, List.take_set_of_le (by omega), ht, List.getElem_set_self, eu]
theorem tostrs (l : List ByteArray) (hl : l.length ≤ 1048576) (k : Nat) (hk : l.length < k) : laws_toStringS.f k l = some l := by
  unfold laws_toStringS.f
  rw [if_pos (by omega), if_pos (by omega)]
  exact tostrs_l0 l hl l.length k 0 _ (by omega) (by omega) hk (by simp) (by simp)
theorem eqstrs_l0 (l : List ByteArray) (hl : l.length ≤ 1048576) : ∀ (d k i : Nat), i ≤ l.length → l.length - i = d → d < k → laws_eqStringS.l0 k l l i = some true := by
  intro d
  induction d with
  | zero =>
    intro k i h1 h2 hk
    obtain ⟨k, rfl⟩ : ∃ m, k = m + 1 := ⟨k - 1, by omega⟩
    rw [laws_eqStringS.l0, if_neg (by omega)]
  | succ d ih =>
    intro k i h1 h2 hk
    obtain ⟨k, rfl⟩ : ∃ m, k = m + 1 := ⟨k - 1, by omega⟩
    rw [laws_eqStringS.l0, if_pos (by omega), if_pos (by omega), if_pos (by omega), if_pos rfl, w64s (n := l.length) (by omega) (by omega)]
    exact ih k (i + 1) (by omega) (by omega) (by omega)
theorem eqstrs (l : List ByteArray) (hl : l.length ≤ 1048576) (k : Nat) (hk : l.length < k) : laws_eqStringS.f k l l = some true := by
  unfold laws_eqStringS.f
  rw [if_pos rfl]
  exact eqstrs_l0 l hl l.length k 0 (by omega) (by omega) hk

/-! ## section isuser -/
def userB (s : ByteArray) : Bool := decide (1 ≤ s.size ∧ s.size ≤ 40)
theorem iuser (s : ByteArray) : impl_isUser.f s = some (userB s) := by
  unfold impl_isUser.f userB
  split
  · congr 1; rw [decide_eq_decide]; omega
  · congr 1; symm; rw [decide_eq_false_iff_not]; omega
theorem suser (s : ByteArray) : spec_l2User.f s = some (userB s) := by
  unfold spec_l2User.f userB
  split
  · congr 1; rw [decide_eq_decide]; omega
  · congr 1; symm; rw [decide_eq_false_iff_not]; omega

/-! ## section usersok -/
/-- users are right: at most 400, each of 1 to 40 bytes -/
def usersB (l : List ByteArray) : Bool := decide (l.length ≤ 400) && l.all userB
theorem iuo_l0 (l : List ByteArray) (hl : l.length ≤ 1048576) : ∀ (d k i : Nat), i ≤ l.length → l.length - i = d → d < k → impl_UsersOk.l0 k l l.length i = some ((l.drop i).all userB) := by
  intro d
  induction d with
  | zero =>
    intro k i h1 h2 hk
    obtain ⟨k, rfl⟩ : ∃ m, k = m + 1 := ⟨k - 1, by omega⟩
    rw [impl_UsersOk.l0, if_neg (by omega), List.drop_eq_nil_of_le (by omega)]; rfl
  | succ d ih =>
    intro k i h1 h2 hk
    obtain ⟨k, rfl⟩ : ∃ m, k = m + 1 := ⟨k - 1, by omega⟩
    obtain ⟨u, hd, hu, hm⟩ := rds_drop l i (by omega)
    rw [impl_UsersOk.l0, if_pos (by omega), if_pos (by omega), if_pos (by omega), hu, iuser, hd]
    simp only [Option.bind_some, List.all_cons]
    cases userB u
    · rfl
    · rw [if_pos rfl, w64s (n := l.length) (by omega) (by omega), ih k (i + 1) (by omega) (by omega) (by omega)]; rfl
theorem iuo (l : List ByteArray) (hl : l.length ≤ 1048576) (k : Nat) (hk : l.length < k) : impl_UsersOk.f k l = some (usersB l) := by
  unfold impl_UsersOk.f usersB
  by_cases c : l.length ≤ 400
  · rw [if_neg (by omega)]
    have h := iuo_l0 l hl l.length k 0 (by omega) (by omega) hk
    simpa [c] using h
  · rw [if_pos (by omega)]; simp [c]
theorem suo_l0 (l : List ByteArray) (hl : l.length ≤ 1048576) : ∀ (d k i : Nat), i ≤ l.length → l.length - i = d → d < k → spec_UsersOk.l0 k l i = some ((l.drop i).all userB) := by
  intro d
  induction d with
  | zero =>
    intro k i h1 h2 hk
    obtain ⟨k, rfl⟩ : ∃ m, k = m + 1 := ⟨k - 1, by omega⟩
    rw [spec_UsersOk.l0, if_neg (by omega), List.drop_eq_nil_of_le (by omega)]; rfl
  | succ d ih =>
    intro k i h1 h2 hk
    obtain ⟨k, rfl⟩ : ∃ m, k = m + 1 := ⟨k - 1, by omega⟩
    obtain ⟨u, hd, hu, hm⟩ := rds_drop l i (by omega)
    rw [spec_UsersOk.l0, if_pos (by omega), if_pos (by omega), hu, suser, hd]
    simp only [Option.bind_some, List.all_cons]
    cases userB u
    · rfl
    · rw [if_pos rfl, w64s (n := l.length) (by omega) (by omega), ih k (i + 1) (by omega) (by omega) (by omega)]; rfl
theorem suo (l : List ByteArray) (hl : l.length ≤ 1048576) (k : Nat) (hk : l.length < k) : spec_UsersOk.f k l = some (usersB l) := by
  unfold spec_UsersOk.f usersB
  by_cases c : l.length ≤ 400
  · rw [if_neg (by omega)]
    have h := suo_l0 l hl l.length k 0 (by omega) (by omega) hk
    simpa [c] using h
  · rw [if_pos (by omega)]; simp [c]

theorem FnExactUsersOk : laws_FnExactUsersOk.Pure := by
  intro l ⟨hl, hs⟩
  refine ⟨1048577, ?_⟩
  unfold laws_FnExactUsersOk.f
  obtain ⟨r, hr, hb⟩ := szstrs l hl hs 1048577 (by omega)
  rw [hr]
  simp only [Option.bind_some]
  by_cases c : r < 0
  · rw [if_pos c]
  · obtain ⟨h1, h2⟩ := hb c
    rw [if_neg c, tostrs l h1 _ (by omega)]
    simp only [Option.bind_some]
    rw [suo l h1 _ (by omega), iuo l h1 _ (by omega)]
    simp only [Option.bind_some]
    rw [if_neg (by simp), eqstrs l h1 _ (by omega)]
    rfl

end Go.Proofs.Ytfcjacncllmapaa.Pure
