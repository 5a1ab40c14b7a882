/- The program's TakeText returns what the reference's TakeText returns, for every text: no condition. -/
import Derived.Test.YtfcjacncllmapacPFnExactTakeTextx
namespace Go.Proofs.Ytfcjacncllmapac.Pure
open Go.RowKit Go.Proofs.Ytfcjacncllmapac.PFnExactTakeText Go.Proofs.YtfcjacncllmapacW.PrintWords Go.Proofs.YtfcjacncllmapacW.PrintLast Go.Proofs.YtfcjacncllmapacW.PrintMore
set_option linter.unusedVariables false
set_option linter.unusedSimpArgs false

/-! ## section base -/
/-- an unsigned kind's number that fits is not wrapped -/
theorem wrapU (k : IntKind) (hs : k.signed = false) (n : Nat) (h : n < 2 ^ k.bits) : k.wrap (n : Int) = n := by
  unfold IntKind.wrap
  rw [Int.emod_eq_of_lt (by omega) (by exact_mod_cast h)]
  simp [hs]
/-- bits of unsigned numbers are those of natural numbers -/
theorem b_or (k : IntKind) (hs : k.signed = false) (a b : Nat) (ha : a < 2 ^ k.bits) (hb : b < 2 ^ k.bits) : Go.bits .or k a b = ((a ||| b : Nat) : Int) := by
  simp only [Go.bits, BitVec.ofInt_natCast, BitVec.toNat_or, BitVec.toNat_ofNat, Nat.mod_eq_of_lt ha, Nat.mod_eq_of_lt hb]
  exact wrapU k hs _ (Nat.or_lt_two_pow ha hb)
theorem b_xor (k : IntKind) (hs : k.signed = false) (a b : Nat) (ha : a < 2 ^ k.bits) (hb : b < 2 ^ k.bits) : Go.bits .xor k a b = ((a ^^^ b : Nat) : Int) := by
  simp only [Go.bits, BitVec.ofInt_natCast, BitVec.toNat_xor, BitVec.toNat_ofNat, Nat.mod_eq_of_lt ha, Nat.mod_eq_of_lt hb]
  exact wrapU k hs _ (Nat.xor_lt_two_pow ha hb)
theorem b_and (k : IntKind) (hs : k.signed = false) (a b : Nat) (ha : a < 2 ^ k.bits) (hb : b < 2 ^ k.bits) : Go.bits .and k a b = ((a &&& b : Nat) : Int) := by
  simp only [Go.bits, BitVec.ofInt_natCast, BitVec.toNat_and, BitVec.toNat_ofNat, Nat.mod_eq_of_lt ha, Nat.mod_eq_of_lt hb]
  exact wrapU k hs _ (Nat.and_lt_two_pow _ hb)
theorem b_or8 (a b : Nat) (ha : a < 256) (hb : b < 256) : Go.bits .or .u8 a b = ((a ||| b : Nat) : Int) := b_or .u8 rfl a b ha hb
theorem u64w (x : Int) : IntKind.u64.wrap x = x % 18446744073709551616 := by simp [IntKind.wrap, IntKind.bits, IntKind.signed]

/-! ## section bytes -/
/-- the bytes of a text, as natural numbers -/
def nb (s : ByteArray) : List Nat := s.data.toList.map UInt8.toNat
theorem nb_length (s : ByteArray) : (nb s).length = s.size := by rw [nb, List.length_map, Array.length_toList]; rfl
theorem nb_lt (s : ByteArray) : ∀ b ∈ nb s, b < 256 := by
  intro b hb
  simp only [nb, List.mem_map] at hb
  obtain ⟨u, _, rfl⟩ := hb
  exact u.toNat_lt
theorem bt_nb (s : ByteArray) (i : Nat) (h : i < s.size) : bt s i = (((nb s)[i]'(by rw [nb_length]; exact h) : Nat) : Int) := by
  simp only [bt, Int.toNat_natCast, h, nb]
  simp
  rfl
theorem nb_drop (s : ByteArray) (i : Nat) (h : i < s.size) : ∃ b, (nb s).drop i = b :: (nb s).drop (i + 1) ∧ bt s i = (b : Int) ∧ b < 256 := by
  have hl : i < (nb s).length := by rw [nb_length]; exact h
  exact ⟨(nb s)[i], List.drop_eq_getElem_cons hl, bt_nb s i h, nb_lt s _ (List.getElem_mem hl)⟩
theorem nb_end (s : ByteArray) (i : Nat) (h : s.size ≤ i) : (nb s).drop i = [] := List.drop_eq_nil_of_le (by rw [nb_length]; exact h)
theorem w64 {x : Int} (h0 : -9223372036854775808 ≤ x) (h1 : x < 9223372036854775808) : wrap64 x = x := by unfold wrap64; omega
theorem w64s {i n : Nat} (h : i < n) (hn : n ≤ 140737488351232) : wrap64 ((i : Int) + 1) = ((i + 1 : Nat) : Int) := by rw [w64] <;> omega
theorem bits_range (k : IntKind) (hs : k.signed = false) (op : BinOp) (x y : Int) : 0 ≤ Go.bits op k x y ∧ Go.bits op k x y < 2 ^ k.bits := by
  have hp : (0 : Int) < 2 ^ k.bits := by exact_mod_cast Nat.two_pow_pos k.bits
  unfold Go.bits IntKind.wrap
  simp only [hs, Bool.false_and]
  exact ⟨Int.emod_nonneg _ (by omega), Int.emod_lt_of_pos _ hp⟩

/-! ## section takevar -/
theorem and127 (b : Nat) (hb : b < 256) : Go.bits .and .u8 (b : Int) 127 = ((b % 128 : Nat) : Int) := by
  rw [show (127 : Int) = ((127 : Nat) : Int) from rfl, b_and .u8 rfl _ _ hb (by decide), show 127 = 2 ^ 7 - 1 from rfl, Nat.and_two_pow_sub_one_eq_mod]
/-- a number of groups of seven bits, from group i on: its value and how many bytes it takes -/
def tv : Nat → List Nat → Option (Nat × Nat)
  | _, [] => none
  | i, b :: r => if 10 ≤ i then none else if i = 9 ∧ 1 < b then none else if b < 128 then (if b = 0 ∧ 0 < i then none else some (b, 1)) else (tv (i + 1) r).map fun p => (b - 128 + 128 * p.1, p.2 + 1)
def tvOut (s : ByteArray) (i acc : Nat) : Option (Nat × Nat) → Option (Int × ByteArray × Bool)
  | none => some (0, (⟨#[]⟩ : ByteArray), false)
  | some (v, c) => some (((acc + v * 128 ^ i : Nat) : Int), s.extract (i + c) s.size, true)
theorem tv_w7 {i : Nat} (h : i ≤ 10) : wrap64 (7 * (i : Int)) = ((7 * i : Nat) : Int) := by unfold wrap64; omega
theorem tv_u64 {n : Nat} (h : n ≤ 1000) : IntKind.u64.wrap (n : Int) = n := by rw [u64w]; omega
theorem tv_g {b : Nat} (hl : b < 256) : IntKind.u64.wrap (Go.bits .and .u8 (b : Int) 127) = ((b % 128 : Nat) : Int) := by rw [and127 b hl]; exact tv_u64 (by omega)
theorem tv_7p {i : Nat} (h : i ≤ 10) : 0 ≤ wrap64 (7 * (i : Int)) := by rw [tv_w7 h]; omega
theorem p128 (i : Nat) : 128 ^ i = 2 ^ (7 * i) := by rw [Nat.pow_mul]
theorem tv_shl {i g : Nat} (hi : i ≤ 9) (hg : g < 128) (h9 : i = 9 → g ≤ 1) : shl .u64 (g : Int) (wrap64 (7 * (i : Int))) = ((g * 128 ^ i : Nat) : Int) ∧ g * 128 ^ i < 2 ^ 64 := by
  have hb : g * 128 ^ i < 2 ^ 64 := by
    rcases Nat.lt_or_ge i 9 with h | h
    · have : 128 ^ i ≤ 128 ^ 8 := Nat.pow_le_pow_right (by omega) (by omega)
      calc g * 128 ^ i ≤ 127 * 128 ^ 8 := Nat.mul_le_mul (by omega) this
        _ < 2 ^ 64 := by decide
    · obtain rfl : i = 9 := by omega
      have := h9 rfl
      calc g * 128 ^ 9 ≤ 1 * 128 ^ 9 := Nat.mul_le_mul_right _ this
        _ < 2 ^ 64 := by decide
  refine ⟨?_, hb⟩
  have e : wrap64 (7 * (i : Int)) = ((7 * i : Nat) : Int) := tv_w7 (by omega)
  unfold shl
  rw [e, Int.toNat_natCast, Nat.min_eq_left (by show 7 * i ≤ 64; omega)]
  have e2 : ((g : Int) * 2 ^ (7 * i)) = ((g * 128 ^ i : Nat) : Int) := by rw [p128]; push_cast; rfl
  rw [e2, wrapU .u64 rfl _ hb]
theorem tv_or {i acc g : Nat} (ha : acc < 128 ^ i) (hi : i ≤ 9) (hb : g * 128 ^ i < 2 ^ 64) : Go.bits .or .u64 (acc : Int) ((g * 128 ^ i : Nat) : Int) = ((acc + g * 128 ^ i : Nat) : Int) := by
  have h64 : 128 ^ i ≤ 128 ^ 9 := Nat.pow_le_pow_right (by omega) hi
  have h9 : 128 ^ 9 < 2 ^ 64 := by decide
  rw [b_or .u64 rfl _ _ (by show acc < 2 ^ 64; omega) hb, Nat.or_comm, Nat.mul_comm g, p128]
  rw [p128] at ha
  rw [← Nat.two_pow_add_eq_or_of_lt ha g, Nat.add_comm]
theorem tv_ge {i : Nat} (h : 10 ≤ i) : ∀ l, tv i l = none
  | [] => by rw [tv]
  | b :: l => by rw [tv, if_pos h]
theorem itv_l0 (s : ByteArray) (hs : s.size ≤ 140737488351232) : ∀ (d k i acc : Nat), i ≤ 10 → 10 - i = d → 3 * d + 2 ≤ k → acc < 128 ^ i → impl_TakeVar.l0 k s acc i = tvOut s i acc (tv i ((nb s).drop i)) := by
  intro d
  induction d with
  | zero =>
    intro k i acc h1 h2 hk ha
    obtain ⟨k, rfl⟩ : ∃ m, k = m + 2 := ⟨k - 2, by omega⟩
    rw [tv_ge (by omega)]
    have e : decide ((i : Int) < 10) = false := by simp; omega
    rw [impl_TakeVar.l0]
    split <;> simp [impl_TakeVar.j1, tvOut, e]
  | succ d ih =>
    intro k i acc h1 h2 hk ha
    obtain ⟨k, rfl⟩ : ∃ m, k = m + 1 + 1 + 1 := ⟨k - 3, by omega⟩
    by_cases c : i < s.size
    · obtain ⟨b, hd, hb, hl⟩ := nb_drop s i c
      have e : decide ((i : Int) < 10) = true := by simp; omega
      rw [impl_TakeVar.l0, if_pos (by omega), e, impl_TakeVar.j1, if_pos rfl, if_pos (by omega), if_pos (by omega), hb, tv_g hl, hd, tv, if_neg (show ¬ 10 ≤ i by omega)]
      have J : ∀ x28 : Bool, (x28 = true ↔ (i = 9 ∧ 1 < b % 128)) → impl_TakeVar.j2 (k + 1) s acc i (b % 128 : Nat) x28 = tvOut s i acc (if i = 9 ∧ 1 < b then none else if b < 128 then (if b = 0 ∧ 0 < i then none else some (b, 1)) else (tv (i + 1) ((nb s).drop (i + 1))).map fun p => (b - 128 + 128 * p.1, p.2 + 1)) := by
        intro x hx
        rw [impl_TakeVar.j2]
        by_cases h9 : x = true
        · rw [if_pos h9, if_pos (by have := hx.1 h9; omega)]; rfl
        · rw [if_neg h9, if_pos (tv_7p h1), if_pos (by omega), if_pos (by omega), hb]
          have h9' : i = 9 → b % 128 ≤ 1 := fun h => by
            rcases Nat.lt_or_ge 1 (b % 128) with h' | h'
            · exact absurd (hx.2 ⟨h, h'⟩) h9
            · exact h'
          have h9i : i ≤ 9 := by omega
          obtain ⟨s1, s2⟩ := tv_shl (i := i) (g := b % 128) h9i (by omega) h9'
          rw [s1, tv_or ha h9i s2, w64s (n := s.size) c hs]
          clear s1 s2
          by_cases hb128 : b < 128
          · have hm : b % 128 = b := Nat.mod_eq_of_lt hb128
            rw [if_neg (show ¬ (b : Int) ≥ 128 by omega), hm, if_neg (show ¬ (i = 9 ∧ 1 < b) by omega), if_pos hb128]
            by_cases hz : b = 0
            · rw [if_pos (show ((b : Nat) : Int) = 0 by omega)]
              by_cases hi : 0 < i
              · rw [if_pos (show (i : Int) > 0 by omega), if_pos (show b = 0 ∧ 0 < i from ⟨hz, hi⟩)]; rfl
              · rw [if_neg (show ¬ (i : Int) > 0 by omega), if_pos (show (0 : Int) ≤ ((i + 1 : Nat) : Int) by omega), if_pos (show ((i + 1 : Nat) : Int) ≤ (s.size : Int) by omega), if_neg (show ¬ (b = 0 ∧ 0 < i) by omega)]
                simp [tvOut]
            · rw [if_neg (show ¬ ((b : Nat) : Int) = 0 by omega), if_pos (show (0 : Int) ≤ ((i + 1 : Nat) : Int) by omega), if_pos (show ((i + 1 : Nat) : Int) ≤ (s.size : Int) by omega), if_neg (show ¬ (b = 0 ∧ 0 < i) by omega)]
              simp [tvOut]
          · have hm : b % 128 = b - 128 := by omega
            have hp : 128 ^ (i + 1) = 128 * 128 ^ i := by rw [Nat.pow_succ, Nat.mul_comm]
            have hlt : acc + b % 128 * 128 ^ i < 128 ^ (i + 1) := by
              have : b % 128 * 128 ^ i ≤ 127 * 128 ^ i := Nat.mul_le_mul_right _ (by omega)
              omega
            rw [if_pos (show (b : Int) ≥ 128 by omega), ih k (i + 1) _ (by omega) (by omega) (by omega) hlt, if_neg hb128]
            by_cases h9b : i = 9 ∧ 1 < b
            · rw [if_pos h9b, tv_ge (by omega)]; rfl
            · rw [if_neg h9b]
              cases hT : tv (i + 1) ((nb s).drop (i + 1)) with
              | none => rfl
              | some p =>
                obtain ⟨v, cc⟩ := p
                simp only [tvOut, Option.map_some]
                have ev : acc + b % 128 * 128 ^ i + v * 128 ^ (i + 1) = acc + (b - 128 + 128 * v) * 128 ^ i := by
                  rw [hm, hp, Nat.add_mul, Nat.mul_comm 128 v, Nat.mul_assoc, Nat.add_assoc]
                rw [ev, show i + 1 + cc = i + (cc + 1) by omega]
      by_cases h9 : i = 9
      · rw [if_pos (by omega)]
        refine J _ ?_
        simp only [decide_eq_true_eq]; omega
      · rw [if_neg (by omega)]
        refine J _ ?_
        simp [h9]
    · rw [nb_end s i (by omega), tv, impl_TakeVar.l0, if_neg (by omega)]
      rw [impl_TakeVar.j1]; simp [tvOut]
theorem itv (s : ByteArray) (hs : s.size ≤ 140737488351232) (k : Nat) (hk : 32 ≤ k) : impl_TakeVar.f k s = tvOut s 0 0 (tv 0 (nb s)) := by
  unfold impl_TakeVar.f
  have h := itv_l0 s hs 10 k 0 0 (by omega) (by omega) (by omega) (by omega)
  simpa using h

/-! ## section taketext -/
/-- what is taken of a text behind its length -/
def ttR (s : ByteArray) : ByteArray × ByteArray × Bool :=
  match tv 0 (nb s) with
  | none => ((⟨#[]⟩ : ByteArray), (⟨#[]⟩ : ByteArray), false)
  | some (v, c) => if v ≤ 60000 ∧ v ≤ (s.extract c s.size).size then ((s.extract c s.size).extract 0 v, (s.extract c s.size).extract v (s.extract c s.size).size, true) else ((⟨#[]⟩ : ByteArray), (⟨#[]⟩ : ByteArray), false)
theorem itt (s : ByteArray) (hs : s.size ≤ 140737488351232) (k : Nat) (hk : 32 ≤ k) : impl_TakeText.f k s = some (ttR s) := by
  unfold impl_TakeText.f ttR
  rw [itv s hs k hk]
  cases hT : tv 0 (nb s) with
  | none => rfl
  | some p =>
    obtain ⟨v, c⟩ := p
    simp only [tvOut, Option.bind_some, Nat.zero_add, Nat.pow_zero, Nat.mul_one]
    have hle : (s.extract c s.size).size ≤ s.size := by rw [ByteArray.size_extract]; omega
    rw [if_pos trivial, u64w]
    generalize s.extract c s.size = r at *
    by_cases h1 : v ≤ 60000
    · by_cases h2 : v ≤ r.size
      · rw [if_neg (by omega), if_neg (by omega), if_pos (by omega), if_pos (by omega), if_pos (And.intro h1 h2), Int.toNat_natCast]
      · rw [if_neg (by omega), if_pos (by omega), if_neg (by omega)]
    · rw [if_pos (by omega), if_neg (by omega)]

/-! ## section takevarspec -/
theorem tv_gs {b : Nat} (hl : b < 256) : IntKind.u64.wrap (Int.tmod (b : Int) 128) = ((b % 128 : Nat) : Int) := by
  rw [Int.tmod_eq_emod_of_nonneg (by omega), show ((b : Int) % 128) = ((b % 128 : Nat) : Int) by omega]; exact tv_u64 (by omega)
theorem tv_w7u {i : Nat} (h : i ≤ 10) : IntKind.u64.wrap (wrap64 (7 * (i : Int))) = wrap64 (7 * (i : Int)) := by rw [tv_w7 h]; exact tv_u64 (by omega)
theorem stv_l0 (s : ByteArray) (hs : s.size ≤ 140737488351232) : ∀ (d k i acc : Nat), i ≤ 10 → 10 - i = d → 3 * d + 2 ≤ k → acc < 128 ^ i → spec_TakeVar.l0 k s acc i = tvOut s i acc (tv i ((nb s).drop i)) := by
  intro d
  induction d with
  | zero =>
    intro k i acc h1 h2 hk ha
    obtain ⟨k, rfl⟩ : ∃ m, k = m + 2 := ⟨k - 2, by omega⟩
    rw [tv_ge (by omega)]
    have e : decide ((i : Int) < 10) = false := by simp; omega
    rw [spec_TakeVar.l0]
    split <;> simp [spec_TakeVar.j1, tvOut, e]
  | succ d ih =>
    intro k i acc h1 h2 hk ha
    obtain ⟨k, rfl⟩ : ∃ m, k = m + 1 + 1 + 1 := ⟨k - 3, by omega⟩
    by_cases c : i < s.size
    · obtain ⟨b, hd, hb, hl⟩ := nb_drop s i c
      have e : decide ((i : Int) < 10) = true := by simp; omega
      rw [spec_TakeVar.l0, if_pos (by omega), e, spec_TakeVar.j1, if_pos rfl, if_pos (by omega), if_pos (by omega), hb, tv_gs hl, hd, tv, if_neg (show ¬ 10 ≤ i by omega)]
      have J : ∀ x28 : Bool, (x28 = true ↔ (i = 9 ∧ 1 < b)) → spec_TakeVar.j2 (k + 1) s acc i (b % 128 : Nat) x28 = tvOut s i acc (if i = 9 ∧ 1 < b then none else if b < 128 then (if b = 0 ∧ 0 < i then none else some (b, 1)) else (tv (i + 1) ((nb s).drop (i + 1))).map fun p => (b - 128 + 128 * p.1, p.2 + 1)) := by
        intro x hx
        rw [spec_TakeVar.j2]
        by_cases h9 : x = true
        · rw [if_pos h9, if_pos (hx.1 h9)]; rfl
        · rw [if_neg h9, tv_w7u h1, if_pos (tv_7p h1), if_pos (by omega), if_pos (by omega), hb, if_neg (fun h => h9 (hx.2 h))]
          have h9' : i = 9 → b % 128 ≤ 1 := fun h => by
            rcases Nat.lt_or_ge 1 b with h' | h'
            · exact absurd (hx.2 ⟨h, h'⟩) h9
            · omega
          have h9i : i ≤ 9 := by omega
          obtain ⟨s1, s2⟩ := tv_shl (i := i) (g := b % 128) h9i (by omega) h9'
          rw [s1, tv_or ha h9i s2, w64s (n := s.size) c hs]
          clear s1 s2
          by_cases hb128 : b < 128
          · have hm : b % 128 = b := Nat.mod_eq_of_lt hb128
            rw [if_pos (show (b : Int) < 128 by omega), hm, if_pos hb128]
            by_cases hi : 0 < i
            · rw [if_pos (show (i : Int) > 0 by omega)]
              by_cases hz : b = 0
              · rw [if_pos (show ((b : Nat) : Int) = 0 by omega), if_pos (show b = 0 ∧ 0 < i from ⟨hz, hi⟩)]; rfl
              · rw [if_neg (show ¬ ((b : Nat) : Int) = 0 by omega), if_pos (show (0 : Int) ≤ ((i + 1 : Nat) : Int) by omega), if_pos (show ((i + 1 : Nat) : Int) ≤ (s.size : Int) by omega), if_neg (show ¬ (b = 0 ∧ 0 < i) by omega)]
                simp [tvOut]
            · rw [if_neg (show ¬ (i : Int) > 0 by omega), if_pos (show (0 : Int) ≤ ((i + 1 : Nat) : Int) by omega), if_pos (show ((i + 1 : Nat) : Int) ≤ (s.size : Int) by omega), if_neg (show ¬ (b = 0 ∧ 0 < i) by omega)]
              simp [tvOut]
          · have hm : b % 128 = b - 128 := by omega
            have hp : 128 ^ (i + 1) = 128 * 128 ^ i := by rw [Nat.pow_succ, Nat.mul_comm]
            have hlt : acc + b % 128 * 128 ^ i < 128 ^ (i + 1) := by
              have : b % 128 * 128 ^ i ≤ 127 * 128 ^ i := Nat.mul_le_mul_right _ (by omega)
              omega
            rw [if_neg (show ¬ (b : Int) < 128 by omega), ih k (i + 1) _ (by omega) (by omega) (by omega) hlt, if_neg hb128]
            cases hT : tv (i + 1) ((nb s).drop (i + 1)) with
            | none => rfl
            | some p =>
              obtain ⟨v, cc⟩ := p
              simp only [tvOut, Option.map_some]
              have ev : acc + b % 128 * 128 ^ i + v * 128 ^ (i + 1) = acc + (b - 128 + 128 * v) * 128 ^ i := by
                rw [hm, hp, Nat.add_mul, Nat.mul_comm 128 v, Nat.mul_assoc, Nat.add_assoc]
              rw [ev, show i + 1 + cc = i + (cc + 1) by omega]
      by_cases h9 : i = 9
      · rw [if_pos (by omega)]
        refine J _ ?_
        simp only [decide_eq_true_eq]; omega
      · rw [if_neg (by omega)]
        refine J _ ?_
        simp [h9]
    · rw [nb_end s i (by omega), tv, spec_TakeVar.l0, if_neg (by omega)]
      rw [spec_TakeVar.j1]; simp [tvOut]
theorem stv (s : ByteArray) (hs : s.size ≤ 140737488351232) (k : Nat) (hk : 32 ≤ k) : spec_TakeVar.f k s = tvOut s 0 0 (tv 0 (nb s)) := by
  unfold spec_TakeVar.f
  have h := stv_l0 s hs 10 k 0 0 (by omega) (by omega) (by omega) (by omega)
  simpa using h
theorem tvOut_some (s : ByteArray) (i acc : Nat) (o : Option (Nat × Nat)) : ∃ r, tvOut s i acc o = some r := by
  rcases o with _ | ⟨v, c⟩ <;> exact ⟨_, rfl⟩

/-! ## section taketextspec -/
theorem stt (s : ByteArray) (hs : s.size ≤ 140737488351232) (k : Nat) (hk : 32 ≤ k) : spec_TakeText.f k s = some (ttR s) := by
  unfold spec_TakeText.f ttR
  rw [stv s hs k hk]
  cases hT : tv 0 (nb s) with
  | none => rfl
  | some p =>
    obtain ⟨v, c⟩ := p
    simp only [tvOut, Option.bind_some, Nat.zero_add, Nat.pow_zero, Nat.mul_one]
    have hle : (s.extract c s.size).size ≤ s.size := by rw [ByteArray.size_extract]; omega
    rw [if_pos trivial, u64w]
    generalize s.extract c s.size = r at *
    by_cases h1 : v ≤ 60000
    · by_cases h2 : v ≤ r.size
      · rw [if_neg (by omega), if_neg (by omega), if_pos (by omega), if_pos (by omega), if_pos (And.intro h1 h2), Int.toNat_natCast]
      · rw [if_neg (by omega), if_pos (by omega), if_neg (by omega)]
    · rw [if_pos (by omega), if_neg (by omega)]

theorem FnExactTakeText : laws_FnExactTakeText.Pure := by
  intro s hs
  refine ⟨32, ?_⟩
  unfold laws_FnExactTakeText.f
  by_cases h : (s.size : Int) > 1048576
  · rw [if_pos h]
  · rw [if_neg h, stt s hs _ (by omega), itt s hs _ (by omega)]
    simp

end Go.Proofs.Ytfcjacncllmapac.Pure
