/- The program's HllMerge returns what the reference's HllMerge returns, for every two texts: no condition. -/
import Derived.Test.YtfcjacncllmapaaQFnExactHllMergex
namespace Go.Proofs.Ytfcjacncllmapaa.Pure
open Go.RowKit Go.Proofs.Ytfcjacncllmapaa.QFnExactHllMerge Go.Proofs.YtfcjacncllmapaaW.PrintWords Go.Proofs.YtfcjacncllmapaaW.PrintLast Go.Proofs.YtfcjacncllmapaaW.PrintMore
set_option linter.unusedVariables false
set_option linter.unusedSimpArgs false

/-! ## section base -/
/-- an unsigned kind's number that fits is not wrapped -/
theorem wrapU (k : IntKind) (hs : k.signed = false) (n : Nat) (h : n < 2 ^ k.bits) : k.wrap (n : Int) = n := by
  unfold IntKind.wrap
  rw [Int.emod_eq_of_lt (by omega) (by exact_mod_cast h)]
  simp [hs]
/-- bits of unsigned numbers are those of natural numbers -/
theorem b_or (k : IntKind) (hs : k.signed = false) (a b : Nat) (ha : a < 2 ^ k.bits) (hb : b < 2 ^ k.bits) : Go.bits .or k a b = ((a ||| b : Nat) : Int) := by
  simp only [Go.bits, BitVec.ofInt_natCast, BitVec.toNat_or, BitVec.toNat_ofNat, Nat.mod_eq_of_lt ha, Nat.mod_eq_of_lt hb]
  exact wrapU k hs _ (Nat.or_lt_two_pow ha hb)
theorem b_xor (k : IntKind) (hs : k.signed = false) (a b : Nat) (ha : a < 2 ^ k.bits) (hb : b < 2 ^ k.bits) : Go.bits .xor k a b = ((a ^^^ b : Nat) : Int) := by
  simp only [Go.bits, BitVec.ofInt_natCast, BitVec.toNat_xor, BitVec.toNat_ofNat, Nat.mod_eq_of_lt ha, Nat.mod_eq_of_lt hb]
  exact wrapU k hs _ (Nat.xor_lt_two_pow ha hb)
theorem b_and (k : IntKind) (hs : k.signed = false) (a b : Nat) (ha : a < 2 ^ k.bits) (hb : b < 2 ^ k.bits) : Go.bits .and k a b = ((a &&& b : Nat) : Int) := by
  simp only [Go.bits, BitVec.ofInt_natCast, BitVec.toNat_and, BitVec.toNat_ofNat, Nat.mod_eq_of_lt ha, Nat.mod_eq_of_lt hb]
  exact wrapU k hs _ (Nat.and_lt_two_pow _ hb)
theorem b_or8 (a b : Nat) (ha : a < 256) (hb : b < 256) : Go.bits .or .u8 a b = ((a ||| b : Nat) : Int) := b_or .u8 rfl a b ha hb
theorem u64w (x : Int) : IntKind.u64.wrap x = x % 18446744073709551616 := by simp [IntKind.wrap, IntKind.bits, IntKind.signed]

/-! ## section bytes -/
/-- the bytes of a text, as natural numbers -/
def nb (s : ByteArray) : List Nat := s.data.toList.map UInt8.toNat
theorem nb_length (s : ByteArray) : (nb s).length = s.size := by rw [nb, List.length_map, Array.length_toList]; rfl
theorem nb_lt (s : ByteArray) : ∀ b ∈ nb s, b < 256 := by
  intro b hb
  simp only [nb, List.mem_map] at hb
  obtain ⟨u, _, rfl⟩ := hb
  exact u.toNat_lt
theorem bt_nb (s : ByteArray) (i : Nat) (h : i < s.size) : bt s i = (((nb s)[i]'(by rw [nb_length]; exact h) : Nat) : Int) := by
  simp only [bt, Int.toNat_natCast, h, nb]
  simp
  rfl
theorem nb_drop (s : ByteArray) (i : Nat) (h : i < s.size) : ∃ b, (nb s).drop i = b :: (nb s).drop (i + 1) ∧ bt s i = (b : Int) ∧ b < 256 := by
  have hl : i < (nb s).length := by rw [nb_length]; exact h
  exact ⟨(nb s)[i], List.drop_eq_getElem_cons hl, bt_nb s i h, nb_lt s _ (List.getElem_mem hl)⟩
theorem nb_end (s : ByteArray) (i : Nat) (h : s.size ≤ i) : (nb s).drop i = [] := List.drop_eq_nil_of_le (by rw [nb_length]; exact h)
theorem w64 {x : Int} (h0 : -9223372036854775808 ≤ x) (h1 : x < 9223372036854775808) : wrap64 x = x := by unfold wrap64; omega
theorem w64s {i n : Nat} (h : i < n) (hn : n ≤ 140737488351232) : wrap64 ((i : Int) + 1) = ((i + 1 : Nat) : Int) := by rw [w64] <;> omega
theorem bits_range (k : IntKind) (hs : k.signed = false) (op : BinOp) (x y : Int) : 0 ≤ Go.bits op k x y ∧ Go.bits op k x y < 2 ^ k.bits := by
  have hp : (0 : Int) < 2 ^ k.bits := by exact_mod_cast Nat.two_pow_pos k.bits
  unfold Go.bits IntKind.wrap
  simp only [hs, Bool.false_and]
  exact ⟨Int.emod_nonneg _ (by omega), Int.emod_lt_of_pos _ hp⟩

/-! ## section hllok -/
def hokB (s : ByteArray) : Bool := decide (s.size = 64) && (nb s).all (fun b => decide (b ≤ 58))
theorem iho_l0 (s : ByteArray) (hs : s.size ≤ 140737488351232) : ∀ (d k i : Nat), i ≤ s.size → s.size - i = d → d < k → impl_HllOk.l0 k s s.size i = some (((nb s).drop i).all (fun b => decide (b ≤ 58)) && decide (s.size = 64)) := by
  intro d
  induction d with
  | zero =>
    intro k i h1 h2 hk
    obtain ⟨k, rfl⟩ : ∃ m, k = m + 1 := ⟨k - 1, by omega⟩
    rw [impl_HllOk.l0, if_neg (by omega), nb_end s i (by omega)]
    have e : ((s.size : Int) == 64) = decide (s.size = 64) := by rw [Bool.eq_iff_iff]; simp; omega
    rw [e]; simp
  | succ d ih =>
    intro k i h1 h2 hk
    obtain ⟨k, rfl⟩ : ∃ m, k = m + 1 := ⟨k - 1, by omega⟩
    obtain ⟨b, hd, hb, hl⟩ := nb_drop s i (by omega)
    rw [impl_HllOk.l0, if_pos (by omega), if_pos (by omega), if_pos (by omega), hb, hd, w64s (n := s.size) (by omega) hs]
    by_cases c : b ≤ 58
    · rw [if_neg (by omega), ih k (i + 1) (by omega) (by omega) (by omega)]
      simp [c]
    · rw [if_pos (by omega)]
      simp [c]
theorem iho (s : ByteArray) (hs : s.size ≤ 140737488351232) (k : Nat) (hk : s.size < k) : impl_HllOk.f k s = some (hokB s) := by
  unfold impl_HllOk.f
  rw [show (0 : Int) = ((0 : Nat) : Int) from rfl, iho_l0 s hs s.size k 0 (by omega) (by omega) hk]
  simp [hokB, Bool.and_comm]
theorem sho_l0 (s : ByteArray) (hs : s.size ≤ 140737488351232) : ∀ (d k i : Nat), i ≤ s.size → s.size - i = d → d < k → spec_HllOk.l0 k s i = some (((nb s).drop i).all (fun b => decide (b ≤ 58))) := by
  intro d
  induction d with
  | zero =>
    intro k i h1 h2 hk
    obtain ⟨k, rfl⟩ : ∃ m, k = m + 1 := ⟨k - 1, by omega⟩
    rw [spec_HllOk.l0, if_neg (by omega), nb_end s i (by omega)]
    simp
  | succ d ih =>
    intro k i h1 h2 hk
    obtain ⟨k, rfl⟩ : ∃ m, k = m + 1 := ⟨k - 1, by omega⟩
    obtain ⟨b, hd, hb, hl⟩ := nb_drop s i (by omega)
    rw [spec_HllOk.l0, if_pos (by omega), if_pos (by omega), hb, hd, w64s (n := s.size) (by omega) hs]
    by_cases c : b ≤ 58
    · rw [if_neg (by omega), ih k (i + 1) (by omega) (by omega) (by omega)]
      simp [c]
    · rw [if_pos (by omega)]
      simp [c]
theorem sho (s : ByteArray) (hs : s.size ≤ 140737488351232) (k : Nat) (hk : s.size < k) : spec_HllOk.f k s = some (hokB s) := by
  unfold spec_HllOk.f
  by_cases c : s.size = 64
  · rw [if_pos (by omega), show (0 : Int) = ((0 : Nat) : Int) from rfl, sho_l0 s hs s.size k 0 (by omega) (by omega) hk]
    simp [hokB, c]
  · rw [if_neg (by omega)]
    simp [hokB, c]

theorem set_own (l : List Int) (i : Nat) : l.set i (rd l (i : Int)) = l := by
  unfold rd
  rw [Int.toNat_natCast]
  apply List.ext_getElem?
  intro j
  by_cases h : i = j
  · subst h
    by_cases c : i < l.length
    · rw [List.getElem?_set_self c, List.getD_eq_getElem?_getD, List.getElem?_eq_getElem c]; rfl
    · rw [List.getElem?_eq_none (by rw [List.length_set]; omega), List.getElem?_eq_none (by omega)]
  · rw [List.getElem?_set_ne h]
theorem merge_l0 (s : ByteArray) (hs : s.size = 64) : ∀ (d k i : Nat) (x : List Int), x.length = 64 → i ≤ 64 → 64 - i = d → d < k → ∃ r, spec_HllMerge.l0 k s x i = some r ∧ impl_HllMerge.l0 k s x 64 i = some r := by
  intro d
  induction d with
  | zero =>
    intro k i x hx h1 h2 hk
    obtain ⟨k, rfl⟩ : ∃ m, k = m + 1 := ⟨k - 1, by omega⟩
    refine ⟨strOfNums x, ?_, ?_⟩
    · rw [spec_HllMerge.l0, if_neg (by omega)]
    · rw [impl_HllMerge.l0, if_neg (by omega)]
  | succ d ih =>
    intro k i x hx h1 h2 hk
    obtain ⟨k, rfl⟩ : ∃ m, k = m + 1 := ⟨k - 1, by omega⟩
    by_cases c : rd x (i : Int) < bt s (i : Int)
    · have e1 : spec_HllMerge.l0 (k + 1) s x i = spec_HllMerge.l0 k s (x.set i (bt s (i : Int))) ((i + 1 : Nat) : Int) := by
        rw [spec_HllMerge.l0, if_pos (by omega), if_pos (by omega), if_pos (by omega), if_pos c, w64s (n := 64) (by omega) (by omega), Int.toNat_natCast]
      have e2 : impl_HllMerge.l0 (k + 1) s x 64 i = impl_HllMerge.l0 k s (x.set i (bt s (i : Int))) 64 ((i + 1 : Nat) : Int) := by
        rw [impl_HllMerge.l0, if_pos (by omega), if_pos (by omega), if_pos (by omega), if_pos (by omega), w64s (n := 64) (by omega) (by omega), Int.toNat_natCast, mx, if_pos c]
      rw [e1, e2]
      exact ih k (i + 1) _ (by rw [List.length_set]; exact hx) (by omega) (by omega) (by omega)
    · have e1 : spec_HllMerge.l0 (k + 1) s x i = spec_HllMerge.l0 k s x ((i + 1 : Nat) : Int) := by
        rw [spec_HllMerge.l0, if_pos (by omega), if_pos (by omega), if_pos (by omega), if_neg c, w64s (n := 64) (by omega) (by omega)]
      have e2 : impl_HllMerge.l0 (k + 1) s x 64 i = impl_HllMerge.l0 k s x 64 ((i + 1 : Nat) : Int) := by
        rw [impl_HllMerge.l0, if_pos (by omega), if_pos (by omega), if_pos (by omega), if_pos (by omega), w64s (n := 64) (by omega) (by omega), Int.toNat_natCast, mx, if_neg c, set_own]
      rw [e1, e2]
      exact ih k (i + 1) x hx (by omega) (by omega) (by omega)
theorem merge_j0 (a b : ByteArray) (hb : b.size = 64) (ha : a.size = 64) (k : Nat) (hk : 100 ≤ k) : ∃ r, spec_HllMerge.j0 k a b false = some r ∧ impl_HllMerge.j0 k a b false = some r := by
  obtain ⟨k, rfl⟩ : ∃ m, k = m + 1 := ⟨k - 1, by omega⟩
  have hl : (bytesOf a).length = 64 := by rw [bytesOf_length, ha]
  obtain ⟨r, h1, h2⟩ := merge_l0 b hb 64 k 0 (bytesOf a) hl (by omega) (by omega) (by omega)
  refine ⟨r, ?_, ?_⟩
  · rw [spec_HllMerge.j0, if_neg (by decide), if_pos (by omega)]; exact h1
  · rw [impl_HllMerge.j0, if_neg (by decide), if_pos (by omega)]
    simp only [Option.bind_some]
    rw [hl]; exact h2
theorem hok64 {s : ByteArray} (h : hokB s = true) : s.size = 64 := by
  simp only [hokB, Bool.and_eq_true, decide_eq_true_eq] at h
  exact h.1
theorem FnExactHllMerge : laws_FnExactHllMerge.Pure := by
  intro a b ha hb
  unfold laws_FnExactHllMerge.f
  refine ⟨a.size + b.size + 200, ?_⟩
  by_cases h1 : (a.size : Int) > 1048576
  · rw [if_pos h1]
  · rw [if_neg h1]
    by_cases h2 : (b.size : Int) > 1048576
    · rw [if_pos h2]
    · rw [if_neg h2]
      have fin : ∃ r, spec_HllMerge.f (a.size + b.size + 200) a b = some r ∧ impl_HllMerge.f (a.size + b.size + 200) a b = some r := by
        unfold spec_HllMerge.f impl_HllMerge.f
        rw [sho a ha _ (by omega), iho a ha _ (by omega)]
        simp only [Option.bind_some]
        have stop : ∃ r, spec_HllMerge.j0 (a.size + b.size + 200) a b true = some r ∧ impl_HllMerge.j0 (a.size + b.size + 200) a b true = some r := ⟨⟨#[]⟩, by rw [show a.size + b.size + 200 = (a.size + b.size + 199) + 1 by omega, spec_HllMerge.j0, if_pos rfl], by rw [show a.size + b.size + 200 = (a.size + b.size + 199) + 1 by omega, impl_HllMerge.j0, if_pos rfl]⟩
        by_cases c : hokB a = true
        · rw [if_pos c, if_pos c, sho b hb _ (by omega), iho b hb _ (by omega)]
          simp only [Option.bind_some]
          by_cases c2 : hokB b = true
          · rw [c2]; exact merge_j0 a b (hok64 c2) (hok64 c) _ (by omega)
          · rw [Bool.eq_false_iff.2 c2]; exact stop
        · rw [if_neg c, if_neg c]; exact stop
      obtain ⟨r, e1, e2⟩ := fin
      rw [e1, e2]; simp

end Go.Proofs.Ytfcjacncllmapaa.Pure
