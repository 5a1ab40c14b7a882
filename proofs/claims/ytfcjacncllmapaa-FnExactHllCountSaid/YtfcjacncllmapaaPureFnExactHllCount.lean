/- The program's HllCount returns what the reference's HllCount returns, for every text: no condition. -/
import Derived.Test.YtfcjacncllmapaaQFnExactHllCountx
namespace Go.Proofs.Ytfcjacncllmapaa.Pure
open Go.RowKit Go.Proofs.Ytfcjacncllmapaa.QFnExactHllCount Go.Proofs.YtfcjacncllmapaaW.PrintWords Go.Proofs.YtfcjacncllmapaaW.PrintLast Go.Proofs.YtfcjacncllmapaaW.PrintMore
set_option linter.unusedVariables false
set_option linter.unusedSimpArgs false

/-! ## section base -/
/-- an unsigned kind's number that fits is not wrapped -/
theorem wrapU (k : IntKind) (hs : k.signed = false) (n : Nat) (h : n < 2 ^ k.bits) : k.wrap (n : Int) = n := by
  unfold IntKind.wrap
  rw [Int.emod_eq_of_lt (by omega) (by exact_mod_cast h)]
  simp [hs]
/-- bits of unsigned numbers are those of natural numbers -/
theorem b_or (k : IntKind) (hs : k.signed = false) (a b : Nat) (ha : a < 2 ^ k.bits) (hb : b < 2 ^ k.bits) : Go.bits .or k a b = ((a ||| b : Nat) : Int) := by
  simp only [Go.bits, BitVec.ofInt_natCast, BitVec.toNat_or, BitVec.toNat_ofNat, Nat.mod_eq_of_lt ha, Nat.mod_eq_of_lt hb]
  exact wrapU k hs _ (Nat.or_lt_two_pow ha hb)
theorem b_xor (k : IntKind) (hs : k.signed = false) (a b : Nat) (ha : a < 2 ^ k.bits) (hb : b < 2 ^ k.bits) : Go.bits .xor k a b = ((a ^^^ b : Nat) : Int) := by
  simp only [Go.bits, BitVec.ofInt_natCast, BitVec.toNat_xor, BitVec.toNat_ofNat, Nat.mod_eq_of_lt ha, Nat.mod_eq_of_lt hb]
  exact wrapU k hs _ (Nat.xor_lt_two_pow ha hb)
theorem b_and (k : IntKind) (hs : k.signed = false) (a b : Nat) (ha : a < 2 ^ k.bits) (hb : b < 2 ^ k.bits) : Go.bits .and k a b = ((a &&& b : Nat) : Int) := by
  simp only [Go.bits, BitVec.ofInt_natCast, BitVec.toNat_and, BitVec.toNat_ofNat, Nat.mod_eq_of_lt ha, Nat.mod_eq_of_lt hb]
  exact wrapU k hs _ (Nat.and_lt_two_pow _ hb)
theorem b_or8 (a b : Nat) (ha : a < 256) (hb : b < 256) : Go.bits .or .u8 a b = ((a ||| b : Nat) : Int) := b_or .u8 rfl a b ha hb
theorem u64w (x : Int) : IntKind.u64.wrap x = x % 18446744073709551616 := by simp [IntKind.wrap, IntKind.bits, IntKind.signed]

/-! ## section bytes -/
/-- the bytes of a text, as natural numbers -/
def nb (s : ByteArray) : List Nat := s.data.toList.map UInt8.toNat
theorem nb_length (s : ByteArray) : (nb s).length = s.size := by rw [nb, List.length_map, Array.length_toList]; rfl
theorem nb_lt (s : ByteArray) : ∀ b ∈ nb s, b < 256 := by
  intro b hb
  simp only [nb, List.mem_map] at hb
  obtain ⟨u, _, rfl⟩ := hb
  exact u.toNat_lt
theorem bt_nb (s : ByteArray) (i : Nat) (h : i < s.size) : bt s i = (((nb s)[i]'(by rw [nb_length]; exact h) : Nat) : Int) := by
  simp only [bt, Int.toNat_natCast, h, nb]
  simp
  rfl
theorem nb_drop (s : ByteArray) (i : Nat) (h : i < s.size) : ∃ b, (nb s).drop i = b :: (nb s).drop (i + 1) ∧ bt s i = (b : Int) ∧ b < 256 := by
  have hl : i < (nb s).length := by rw [nb_length]; exact h
  exact ⟨(nb s)[i], List.drop_eq_getElem_cons hl, bt_nb s i h, nb_lt s _ (List.getElem_mem hl)⟩
theorem nb_end (s : ByteArray) (i : Nat) (h : s.size ≤ i) : (nb s).drop i = [] := List.drop_eq_nil_of_le (by rw [nb_length]; exact h)
theorem w64 {x : Int} (h0 : -9223372036854775808 ≤ x) (h1 : x < 9223372036854775808) : wrap64 x = x := by unfold wrap64; omega
theorem w64s {i n : Nat} (h : i < n) (hn : n ≤ 140737488351232) : wrap64 ((i : Int) + 1) = ((i + 1 : Nat) : Int) := by rw [w64] <;> omega
theorem bits_range (k : IntKind) (hs : k.signed = false) (op : BinOp) (x y : Int) : 0 ≤ Go.bits op k x y ∧ Go.bits op k x y < 2 ^ k.bits := by
  have hp : (0 : Int) < 2 ^ k.bits := by exact_mod_cast Nat.two_pow_pos k.bits
  unfold Go.bits IntKind.wrap
  simp only [hs, Bool.false_and]
  exact ⟨Int.emod_nonneg _ (by omega), Int.emod_lt_of_pos _ hp⟩

/-! ## section hllok -/
def hokB (s : ByteArray) : Bool := decide (s.size = 64) && (nb s).all (fun b => decide (b ≤ 58))
theorem iho_l0 (s : ByteArray) (hs : s.size ≤ 140737488351232) : ∀ (d k i : Nat), i ≤ s.size → s.size - i = d → d < k → impl_HllOk.l0 k s s.size i = some (((nb s).drop i).all (fun b => decide (b ≤ 58)) && decide (s.size = 64)) := by
  intro d
  induction d with
  | zero =>
    intro k i h1 h2 hk
    obtain ⟨k, rfl⟩ : ∃ m, k = m + 1 := ⟨k - 1, by omega⟩
    rw [impl_HllOk.l0, if_neg (by omega), nb_end s i (by omega)]
    have e : ((s.size : Int) == 64) = decide (s.size = 64) := by rw [Bool.eq_iff_iff]; simp; omega
    rw [e]; simp
  | succ d ih =>
    intro k i h1 h2 hk
    obtain ⟨k, rfl⟩ : ∃ m, k = m + 1 := ⟨k - 1, by omega⟩
    obtain ⟨b, hd, hb, hl⟩ := nb_drop s i (by omega)
    rw [impl_HllOk.l0, if_pos (by omega), if_pos (by omega), if_pos (by omega), hb, hd, w64s (n := s.size) (by omega) hs]
    by_cases c : b ≤ 58
    · rw [if_neg (by omega), ih k (i + 1) (by omega) (by omega) (by omega)]
      simp [c]
    · rw [if_pos (by omega)]
      simp [c]
theorem iho (s : ByteArray) (hs : s.size ≤ 140737488351232) (k : Nat) (hk : s.size < k) : impl_HllOk.f k s = some (hokB s) := by
  unfold impl_HllOk.f
  rw [show (0 : Int) = ((0 : Nat) : Int) from rfl, iho_l0 s hs s.size k 0 (by omega) (by omega) hk]
  simp [hokB, Bool.and_comm]
theorem sho_l0 (s : ByteArray) (hs : s.size ≤ 140737488351232) : ∀ (d k i : Nat), i ≤ s.size → s.size - i = d → d < k → spec_HllOk.l0 k s i = some (((nb s).drop i).all (fun b => decide (b ≤ 58))) := by
  intro d
  induction d with
  | zero =>
    intro k i h1 h2 hk
    obtain ⟨k, rfl⟩ : ∃ m, k = m + 1 := ⟨k - 1, by omega⟩
    rw [spec_HllOk.l0, if_neg (by omega), nb_end s i (by omega)]
    simp
  | succ d ih =>
    intro k i h1 h2 hk
    obtain ⟨k, rfl⟩ : ∃ m, k = m + 1 := ⟨k - 1, by omega⟩
    obtain ⟨b, hd, hb, hl⟩ := nb_drop s i (by omega)
    rw [spec_HllOk.l0, if_pos (by omega), if_pos (by omega), hb, hd, w64s (n := s.size) (by omega) hs]
    by_cases c : b ≤ 58
    · rw [if_neg (by omega), ih k (i + 1) (by omega) (by omega) (by omega)]
      simp [c]
    · rw [if_pos (by omega)]
      simp [c]
theorem sho (s : ByteArray) (hs : s.size ≤ 140737488351232) (k : Nat) (hk : s.size < k) : spec_HllOk.f k s = some (hokB s) := by
  unfold spec_HllOk.f
  by_cases c : s.size = 64
  · rw [if_pos (by omega), show (0 : Int) = ((0 : Nat) : Int) from rfl, sho_l0 s hs s.size k 0 (by omega) (by omega) hk]
    simp [hokB, c]
  · rw [if_neg (by omega)]
    simp [hokB, c]

/-! ## section hllcount -/
def hsum : List Nat → Nat
  | [] => 0
  | b :: l => 2 ^ (40 - min b 40) + hsum l
def hzero : List Nat → Nat
  | [] => 0
  | b :: l => (if b = 0 then 1 else 0) + hzero l
theorem hpow (b : Nat) : 1 ≤ 2 ^ (40 - min b 40) ∧ 2 ^ (40 - min b 40) ≤ 1099511627776 :=
  ⟨Nat.one_le_two_pow, by have : 2 ^ (40 - min b 40) ≤ 2 ^ 40 := Nat.pow_le_pow_right (by omega) (by omega); simpa using this⟩
theorem hsum_le : ∀ l : List Nat, hsum l ≤ 1099511627776 * l.length
  | [] => by simp [hsum]
  | b :: l => by have := hsum_le l; have := hpow b; simp only [hsum, List.length_cons]; omega
theorem hsum_ge : ∀ l : List Nat, l.length ≤ hsum l
  | [] => by simp [hsum]
  | b :: l => by have := hsum_ge l; have := hpow b; simp only [hsum, List.length_cons]; omega
theorem hzero_le : ∀ l : List Nat, hzero l ≤ l.length
  | [] => by simp [hzero]
  | b :: l => by have := hzero_le l; simp only [hzero, List.length_cons]; split <;> omega
theorem mn40 (b : Nat) : mn (b : Int) 40 = ((min b 40 : Nat) : Int) := by unfold mn; split <;> omega
theorem pw40 (b : Nat) : wrap64 ((2 : Int) ^ (40 - min b 40)) = ((2 ^ (40 - min b 40) : Nat) : Int) := by
  have h := hpow b
  have e : ((2 : Int) ^ (40 - min b 40)) = ((2 ^ (40 - min b 40) : Nat) : Int) := by push_cast; rfl
  rw [e]
  generalize 2 ^ (40 - min b 40) = x at *
  unfold wrap64; omega
theorem hbyte_i (b : Nat) : ((40 - (mn (b : Int) 40)) % 256) = ((40 - min b 40 : Nat) : Int) := by rw [mn40]; omega
theorem hbyte_s (b : Nat) (hb : b < 256) : IntKind.u64.wrap (wrap64 (40 - (mn (wrap64 (b : Int)) 40))) = ((40 - min b 40 : Nat) : Int) := by
  have e : wrap64 (b : Int) = b := by unfold wrap64; omega
  have e2 : wrap64 (40 - ((min b 40 : Nat) : Int)) = ((40 - min b 40 : Nat) : Int) := by unfold wrap64; omega
  rw [e, mn40, e2, u64w]; omega
theorem wadd (z p : Nat) (hz : z ≤ 70368744177664) (hp : p ≤ 1099511627776) : wrap64 ((z : Int) + (p : Int)) = ((z + p : Nat) : Int) := by unfold wrap64; omega
theorem winc (v : Nat) (h : v ≤ 1000) : wrap64 ((v : Int) + 1) = ((v + 1 : Nat) : Int) := by unfold wrap64; omega
theorem ihc_l0 (s : ByteArray) (hs : s.size = 64) : ∀ (d k i z v : Nat), i ≤ s.size → s.size - i = d → z ≤ 1099511627776 * i → v ≤ i → impl_HllCount.l0 (k + d) s z v s.size i = impl_HllCount.l0 k s ((z + hsum ((nb s).drop i) : Nat) : Int) ((v + hzero ((nb s).drop i) : Nat) : Int) s.size s.size := by
  intro d
  induction d with
  | zero =>
    intro k i z v h1 h2 hz hv
    rw [nb_end s i (by omega)]
    have : i = s.size := by omega
    subst this
    rfl
  | succ d ih =>
    intro k i z v h1 h2 hz hv
    obtain ⟨b, hd, hb, hl⟩ := nb_drop s i (by omega)
    have hp := hpow b
    have c1 : (i : Int) < (s.size : Int) := by omega
    have c2 : (0 : Int) ≤ (i : Int) := by omega
    have c3 : ((40 - min b 40 : Nat) : Int) ≤ 64 := by omega
    have hz' : z ≤ 70368744177664 := by omega
    have hv' : v ≤ 1000 := by omega
    have hzn : z + 2 ^ (40 - min b 40) ≤ 1099511627776 * (i + 1) := by omega
    rw [show k + (d + 1) = (k + d) + 1 by omega, impl_HllCount.l0, if_pos c1, if_pos c2, if_pos c1, hb, hbyte_i, if_pos c3, Int.toNat_natCast, pw40, wadd z _ hz' hp.2, winc v hv', w64s (n := s.size) (by omega) (by omega), hd]
    simp only [hsum, hzero]
    by_cases c : b = 0
    · rw [if_pos (show (b : Int) = 0 by omega), if_pos c, ih k (i + 1) _ _ (by omega) (by omega) hzn (by omega)]
      simp only [Nat.add_assoc]
    · rw [if_neg (show ¬ (b : Int) = 0 by omega), if_neg c, ih k (i + 1) _ _ (by omega) (by omega) hzn (by omega)]
      simp only [Nat.add_assoc, Nat.zero_add]
theorem shc_l0 (s : ByteArray) (hs : s.size = 64) : ∀ (d k i z v : Nat), i ≤ s.size → s.size - i = d → z ≤ 1099511627776 * i → v ≤ i → spec_HllCount.l0 (k + d) s z v i = spec_HllCount.l0 k s ((z + hsum ((nb s).drop i) : Nat) : Int) ((v + hzero ((nb s).drop i) : Nat) : Int) s.size := by
  intro d
  induction d with
  | zero =>
    intro k i z v h1 h2 hz hv
    rw [nb_end s i (by omega)]
    have : i = s.size := by omega
    subst this
    rfl
  | succ d ih =>
    intro k i z v h1 h2 hz hv
    obtain ⟨b, hd, hb, hl⟩ := nb_drop s i (by omega)
    have hp := hpow b
    have c1 : (i : Int) < (s.size : Int) := by omega
    have c2 : (0 : Int) ≤ (i : Int) := by omega
    have c3 : ((40 - min b 40 : Nat) : Int) ≤ 64 := by omega
    have c4 : (0 : Int) ≤ ((40 - min b 40 : Nat) : Int) := by omega
    have hz' : z ≤ 70368744177664 := by omega
    have hv' : v ≤ 1000 := by omega
    have hzn : z + 2 ^ (40 - min b 40) ≤ 1099511627776 * (i + 1) := by omega
    rw [show k + (d + 1) = (k + d) + 1 by omega, spec_HllCount.l0, if_pos c1, if_pos c2, hb, hbyte_s b hl, if_pos c4, if_pos c3, Int.toNat_natCast, pw40, wadd z _ hz' hp.2, winc v hv', w64s (n := s.size) (by omega) (by omega), hd]
    simp only [hsum, hzero]
    by_cases c : b = 0
    · rw [if_pos (show (b : Int) = 0 by omega), if_pos c, ih k (i + 1) _ _ (by omega) (by omega) hzn (by omega)]
      simp only [Nat.add_assoc]
    · rw [if_neg (show ¬ (b : Int) = 0 by omega), if_neg c, ih k (i + 1) _ _ (by omega) (by omega) hzn (by omega)]
      simp only [Nat.add_assoc, Nat.zero_add]
theorem hc_l1 : ∀ (k : Nat) (x i : Int), spec_HllCount.l1 k x i = impl_HllCount.l1 k x i := by
  intro k
  induction k with
  | zero => intros; rfl
  | succ k ih => intro x i; rw [spec_HllCount.l1, impl_HllCount.l1]; simp only [ih]
theorem hc_j1 (k : Nat) (v x : Int) (b : Bool) : spec_HllCount.j1 k v x b = impl_HllCount.j1 k v x b := by
  cases k with
  | zero => rfl
  | succ k => rw [spec_HllCount.j1, impl_HllCount.j1]; simp only [hc_l1]
theorem ihc_l1 : ∀ (d k i : Nat) (x : Int), 1 ≤ i → i ≤ 65 → 65 - i = d → d < k → ∃ r, impl_HllCount.l1 k x i = some r := by
  intro d
  induction d with
  | zero =>
    intro k i x h0 h1 h2 hk
    obtain ⟨k, rfl⟩ : ∃ m, k = m + 1 := ⟨k - 1, by omega⟩
    rw [impl_HllCount.l1, if_neg (by omega)]; exact ⟨_, rfl⟩
  | succ d ih =>
    intro k i x h0 h1 h2 hk
    obtain ⟨k, rfl⟩ : ∃ m, k = m + 1 := ⟨k - 1, by omega⟩
    rw [impl_HllCount.l1, if_pos (by omega), if_neg (by omega), winc i (by omega)]
    exact ih k (i + 1) _ (by omega) (by omega) (by omega) (by omega)
theorem ihc_j1 (k v : Nat) (x : Int) (b : Bool) (hv : v ≤ 64) (hk : 67 ≤ k) : ∃ r, impl_HllCount.j1 k v x b = some r := by
  obtain ⟨k, rfl⟩ : ∃ m, k = m + 1 := ⟨k - 1, by omega⟩
  rw [impl_HllCount.j1]
  split
  · exact ⟨_, rfl⟩
  · rw [winc v (by omega)]; exact ihc_l1 (65 - (v + 1)) k (v + 1) _ (by omega) (by omega) rfl (by omega)
theorem hc_both (s : ByteArray) (hok : s.size = 64) : ∃ r, impl_HllCount.l0 200 s 0 0 s.size 0 = some r ∧ spec_HllCount.l0 200 s 0 0 0 = some r := by
  have a := ihc_l0 s hok 64 136 0 0 0 (by omega) (by omega) (by omega) (by omega)
  have b := shc_l0 s hok 64 136 0 0 0 (by omega) (by omega) (by omega) (by omega)
  have h1 := hsum_le (nb s); have h2 := hsum_ge (nb s); have h3 := hzero_le (nb s)
  rw [nb_length, hok] at h1 h2 h3
  simp only [List.drop_zero, Nat.zero_add] at a b
  have a' : impl_HllCount.l0 200 s 0 0 s.size 0 = impl_HllCount.l0 136 s (hsum (nb s) : Int) (hzero (nb s) : Int) s.size s.size := a
  have b' : spec_HllCount.l0 200 s 0 0 0 = spec_HllCount.l0 136 s (hsum (nb s) : Int) (hzero (nb s) : Int) s.size := b
  rw [a', b', impl_HllCount.l0, spec_HllCount.l0, if_neg (Int.lt_irrefl _), if_neg (Int.lt_irrefl _)]
  have e : wrap64 (1000 * (hsum (nb s) : Int)) = ((1000 * hsum (nb s) : Nat) : Int) := by unfold wrap64; omega
  have e0 : ¬ ((1000 * hsum (nb s) : Nat) : Int) = 0 := by omega
  simp only [e, if_neg e0, hc_j1]
  split
  · obtain ⟨r, hr⟩ := ihc_j1 135 (hzero (nb s)) (wrap64 (Int.tdiv (3193052135805681664 : Int) ((1000 * hsum (nb s) : Nat) : Int))) true h3 (by omega)
    exact ⟨r, hr, hr⟩
  · obtain ⟨r, hr⟩ := ihc_j1 135 (hzero (nb s)) (wrap64 (Int.tdiv (3193052135805681664 : Int) ((1000 * hsum (nb s) : Nat) : Int))) ((hzero (nb s) : Int) == 0) h3 (by omega)
    exact ⟨r, hr, hr⟩

theorem FnExactHllCount : laws_FnExactHllCount.Pure := by
  intro s hs
  by_cases h : (s.size : Int) > 1048576
  · refine ⟨0, ?_⟩
    unfold laws_FnExactHllCount.f
    rw [if_pos h]
  · refine ⟨s.size + 200, ?_⟩
    unfold laws_FnExactHllCount.f spec_HllCount.f impl_HllCount.f
    rw [if_neg h, sho s hs _ (by omega), iho s hs _ (by omega)]
    simp only [Option.bind_some]
    by_cases c : hokB s = true
    · have h64 : s.size = 64 := by simp only [hokB, Bool.and_eq_true, decide_eq_true_eq] at c; exact c.1
      obtain ⟨r, hi, hj⟩ := hc_both s h64
      have mi : impl_HllCount.l0 (s.size + 200) s 0 0 s.size 0 = some r := at_rounds (fun j => (impl_HllCount.mono_l j).1 _ _ _ _ _) (by omega) hi
      have mj : spec_HllCount.l0 (s.size + 200) s 0 0 0 = some r := at_rounds (fun j => (spec_HllCount.mono_l j).1 _ _ _ _) (by omega) hj
      rw [if_pos c, if_pos c, mi, mj]
      simp
    · rw [if_neg c, if_neg c]
      simp

end Go.Proofs.Ytfcjacncllmapaa.Pure
