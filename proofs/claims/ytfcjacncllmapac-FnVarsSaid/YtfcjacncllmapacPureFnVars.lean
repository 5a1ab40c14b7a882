/- A number comes back from its bytes, whatever stands behind them; what is taken of bytes has just the bytes that it was taken from; a greater number has no fewer: at every code. No condition. -/
import Derived.Test.YtfcjacncllmapacQFnVarsx
namespace Go.Proofs.Ytfcjacncllmapac.Pure
open Go.RowKit Go.Proofs.Ytfcjacncllmapac.QFnVars Go.Proofs.YtfcjacncllmapacW.PrintWords Go.Proofs.YtfcjacncllmapacW.PrintLast Go.Proofs.YtfcjacncllmapacW.PrintMore
set_option linter.unusedVariables false
set_option linter.unusedSimpArgs false

/-! ## section base -/
/-- an unsigned kind's number that fits is not wrapped -/
theorem wrapU (k : IntKind) (hs : k.signed = false) (n : Nat) (h : n < 2 ^ k.bits) : k.wrap (n : Int) = n := by
  unfold IntKind.wrap
  rw [Int.emod_eq_of_lt (by omega) (by exact_mod_cast h)]
  simp [hs]
/-- bits of unsigned numbers are those of natural numbers -/
theorem b_or (k : IntKind) (hs : k.signed = false) (a b : Nat) (ha : a < 2 ^ k.bits) (hb : b < 2 ^ k.bits) : Go.bits .or k a b = ((a ||| b : Nat) : Int) := by
  simp only [Go.bits, BitVec.ofInt_natCast, BitVec.toNat_or, BitVec.toNat_ofNat, Nat.mod_eq_of_lt ha, Nat.mod_eq_of_lt hb]
  exact wrapU k hs _ (Nat.or_lt_two_pow ha hb)
theorem b_xor (k : IntKind) (hs : k.signed = false) (a b : Nat) (ha : a < 2 ^ k.bits) (hb : b < 2 ^ k.bits) : Go.bits .xor k a b = ((a ^^^ b : Nat) : Int) := by
  simp only [Go.bits, BitVec.ofInt_natCast, BitVec.toNat_xor, BitVec.toNat_ofNat, Nat.mod_eq_of_lt ha, Nat.mod_eq_of_lt hb]
  exact wrapU k hs _ (Nat.xor_lt_two_pow ha hb)
theorem b_and (k : IntKind) (hs : k.signed = false) (a b : Nat) (ha : a < 2 ^ k.bits) (hb : b < 2 ^ k.bits) : Go.bits .and k a b = ((a &&& b : Nat) : Int) := by
  simp only [Go.bits, BitVec.ofInt_natCast, BitVec.toNat_and, BitVec.toNat_ofNat, Nat.mod_eq_of_lt ha, Nat.mod_eq_of_lt hb]
  exact wrapU k hs _ (Nat.and_lt_two_pow _ hb)
theorem b_or8 (a b : Nat) (ha : a < 256) (hb : b < 256) : Go.bits .or .u8 a b = ((a ||| b : Nat) : Int) := b_or .u8 rfl a b ha hb
theorem u64w (x : Int) : IntKind.u64.wrap x = x % 18446744073709551616 := by simp [IntKind.wrap, IntKind.bits, IntKind.signed]

/-! ## section putsize -/
theorem strOfNums_size (l : List Int) : (strOfNums l).size = l.length := by simp [strOfNums, ByteArray.size]

/-! ## section putvar -/
theorem or128 : ∀ a : Nat, a < 256 → a ||| 128 = a % 128 + 128 := by decide +kernel
def vb (n : Nat) : List Int := if n < 128 then [(n : Int)] else ((n % 128 + 128 : Nat) : Int) :: vb (n / 128)
termination_by n
decreasing_by omega
theorem vb_small {n : Nat} (h : n < 128) : vb n = [(n : Int)] := by rw [vb, if_pos h]
theorem vb_big {n : Nat} (h : ¬ n < 128) : vb n = ((n % 128 + 128 : Nat) : Int) :: vb (n / 128) := by rw [vb, if_neg h]
theorem ipv_l0 : ∀ (k n : Nat) (acc : List Int), n < 128 ^ (k + 1) → acc.length + k < 140737488355328 → impl_PutVar.l0 (k + 1) n acc = some (strOfNums (acc ++ vb n)) := by
  intro k
  induction k with
  | zero =>
    intro n acc hn hl
    have h : n < 128 := by simpa using hn
    rw [impl_PutVar.l0, if_neg (by omega), if_pos (by omega), vb_small h]
    rw [show ((n : Int) % 256) = n by omega]
  | succ k ih =>
    intro n acc hn hl
    by_cases h : n < 128
    · rw [impl_PutVar.l0, if_neg (by omega), if_pos (by omega), vb_small h]
      rw [show ((n : Int) % 256) = n by omega]
    · rw [impl_PutVar.l0, if_pos (by omega), if_pos (by omega), vb_big h]
      have e1 : ((n : Int) / 128) = ((n / 128 : Nat) : Int) := by omega
      have e2 : ((n : Int) % 256) = ((n % 256 : Nat) : Int) := by omega
      have hm : n % 256 % 128 = n % 128 := by omega
      rw [e1, e2, show (128 : Int) = ((128 : Nat) : Int) from rfl, b_or8 _ _ (by omega) (by omega), or128 _ (by omega), hm]
      rw [ih (n / 128) _ (by rw [Nat.pow_succ] at hn; omega) (by simp; omega)]
      simp
theorem spv_l0 : ∀ (k n : Nat) (acc : List Int), n < 18446744073709551616 → spec_PutVar.l0 k n acc = impl_PutVar.l0 k n acc := by
  intro k
  induction k with
  | zero => intros; rfl
  | succ k ih =>
    intro n acc hn
    rw [impl_PutVar.l0, spec_PutVar.l0]
    by_cases h : n < 128
    · rw [if_neg (by omega : ¬ ((n : Int) ≥ 128)), if_neg (by omega : ¬ ((n : Int) ≥ 128))]
    · rw [if_pos (by omega : (n : Int) ≥ 128), if_pos (by omega : (n : Int) ≥ 128)]
      have e1 : ((n : Int) / 128) = ((n / 128 : Nat) : Int) := by omega
      have e2 : ((n : Int) % 256) = ((n % 256 : Nat) : Int) := by omega
      have hm : n % 256 % 128 = n % 128 := by omega
      have e5 : Go.bits .or .u8 ((n % 256 : Nat) : Int) 128 = ((n % 128 + 128 : Nat) : Int) := by
        rw [show (128 : Int) = ((128 : Nat) : Int) from rfl, b_or8 _ _ (by omega) (by omega), or128 _ (by omega), hm]
      have e3 : IntKind.u64.wrap (Int.tdiv (n : Int) 128) = ((n / 128 : Nat) : Int) := by rw [u64w, Int.tdiv_eq_ediv_of_nonneg (by omega)]; omega
      have e4 : (IntKind.u64.wrap ((Int.tmod (n : Int) 128) + 128)) % 256 = ((n % 128 + 128 : Nat) : Int) := by rw [u64w, Int.tmod_eq_emod_of_nonneg (by omega)]; omega
      rw [e1, e2, e3, e4, e5, ih _ _ (by omega)]
theorem ipv (k : Nat) (hk : 10 ≤ k) (n : Nat) (hn : n < 18446744073709551616) : impl_PutVar.f k n = some (strOfNums (vb n)) := by
  unfold impl_PutVar.f
  exact at_rounds (fun j => impl_PutVar.mono_l j _ _) hk (ipv_l0 9 n [] (by simp; omega) (by simp))
theorem spv (k : Nat) (hk : 10 ≤ k) (n : Nat) (hn : n < 18446744073709551616) : spec_PutVar.f k n = some (strOfNums (vb n)) := by
  have h := ipv k hk n hn
  unfold impl_PutVar.f at h
  unfold spec_PutVar.f
  rw [spv_l0 k n [] hn, h]
theorem vb_len_k : ∀ (k n : Nat), n < 128 ^ (k + 1) → (vb n).length ≤ k + 1 := by
  intro k
  induction k with
  | zero => intro n hn; rw [vb_small (by simpa using hn)]; simp
  | succ k ih =>
    intro n hn
    by_cases h : n < 128
    · rw [vb_small h]; simp
    · rw [vb_big h]
      have := ih (n / 128) (by rw [Nat.pow_succ] at hn; omega)
      simp; omega
theorem vb_len (n : Nat) (hn : n < 18446744073709551616) : (vb n).length ≤ 10 := vb_len_k 9 n (by simp; omega)
theorem vbs_size (n : Nat) : (strOfNums (vb n)).size = (vb n).length := strOfNums_size _

/-! ## section bytes -/
/-- the bytes of a text, as natural numbers -/
def nb (s : ByteArray) : List Nat := s.data.toList.map UInt8.toNat
theorem nb_length (s : ByteArray) : (nb s).length = s.size := by rw [nb, List.length_map, Array.length_toList]; rfl
theorem nb_lt (s : ByteArray) : ∀ b ∈ nb s, b < 256 := by
  intro b hb
  simp only [nb, List.mem_map] at hb
  obtain ⟨u, _, rfl⟩ := hb
  exact u.toNat_lt
theorem bt_nb (s : ByteArray) (i : Nat) (h : i < s.size) : bt s i = (((nb s)[i]'(by rw [nb_length]; exact h) : Nat) : Int) := by
  simp only [bt, Int.toNat_natCast, h, nb]
  simp
  rfl
theorem nb_drop (s : ByteArray) (i : Nat) (h : i < s.size) : ∃ b, (nb s).drop i = b :: (nb s).drop (i + 1) ∧ bt s i = (b : Int) ∧ b < 256 := by
  have hl : i < (nb s).length := by rw [nb_length]; exact h
  exact ⟨(nb s)[i], List.drop_eq_getElem_cons hl, bt_nb s i h, nb_lt s _ (List.getElem_mem hl)⟩
theorem nb_end (s : ByteArray) (i : Nat) (h : s.size ≤ i) : (nb s).drop i = [] := List.drop_eq_nil_of_le (by rw [nb_length]; exact h)
theorem w64 {x : Int} (h0 : -9223372036854775808 ≤ x) (h1 : x < 9223372036854775808) : wrap64 x = x := by unfold wrap64; omega
theorem w64s {i n : Nat} (h : i < n) (hn : n ≤ 140737488351232) : wrap64 ((i : Int) + 1) = ((i + 1 : Nat) : Int) := by rw [w64] <;> omega
theorem bits_range (k : IntKind) (hs : k.signed = false) (op : BinOp) (x y : Int) : 0 ≤ Go.bits op k x y ∧ Go.bits op k x y < 2 ^ k.bits := by
  have hp : (0 : Int) < 2 ^ k.bits := by exact_mod_cast Nat.two_pow_pos k.bits
  unfold Go.bits IntKind.wrap
  simp only [hs, Bool.false_and]
  exact ⟨Int.emod_nonneg _ (by omega), Int.emod_lt_of_pos _ hp⟩

/-! ## section takevar -/
theorem and127 (b : Nat) (hb : b < 256) : Go.bits .and .u8 (b : Int) 127 = ((b % 128 : Nat) : Int) := by
  rw [show (127 : Int) = ((127 : Nat) : Int) from rfl, b_and .u8 rfl _ _ hb (by decide), show 127 = 2 ^ 7 - 1 from rfl, Nat.and_two_pow_sub_one_eq_mod]
/-- a number of groups of seven bits, from group i on: its value and how many bytes it takes -/
def tv : Nat → List Nat → Option (Nat × Nat)
  | _, [] => none
  | i, b :: r => if 10 ≤ i then none else if i = 9 ∧ 1 < b then none else if b < 128 then (if b = 0 ∧ 0 < i then none else some (b, 1)) else (tv (i + 1) r).map fun p => (b - 128 + 128 * p.1, p.2 + 1)
def tvOut (s : ByteArray) (i acc : Nat) : Option (Nat × Nat) → Option (Int × ByteArray × Bool)
  | none => some (0, (⟨#[]⟩ : ByteArray), false)
  | some (v, c) => some (((acc + v * 128 ^ i : Nat) : Int), s.extract (i + c) s.size, true)
theorem tv_w7 {i : Nat} (h : i ≤ 10) : wrap64 (7 * (i : Int)) = ((7 * i : Nat) : Int) := by unfold wrap64; omega
theorem tv_u64 {n : Nat} (h : n ≤ 1000) : IntKind.u64.wrap (n : Int) = n := by rw [u64w]; omega
theorem tv_g {b : Nat} (hl : b < 256) : IntKind.u64.wrap (Go.bits .and .u8 (b : Int) 127) = ((b % 128 : Nat) : Int) := by rw [and127 b hl]; exact tv_u64 (by omega)
theorem tv_7p {i : Nat} (h : i ≤ 10) : 0 ≤ wrap64 (7 * (i : Int)) := by rw [tv_w7 h]; omega
theorem p128 (i : Nat) : 128 ^ i = 2 ^ (7 * i) := by rw [Nat.pow_mul]
theorem tv_shl {i g : Nat} (hi : i ≤ 9) (hg : g < 128) (h9 : i = 9 → g ≤ 1) : shl .u64 (g : Int) (wrap64 (7 * (i : Int))) = ((g * 128 ^ i : Nat) : Int) ∧ g * 128 ^ i < 2 ^ 64 := by
  have hb : g * 128 ^ i < 2 ^ 64 := by
    rcases Nat.lt_or_ge i 9 with h | h
    · have : 128 ^ i ≤ 128 ^ 8 := Nat.pow_le_pow_right (by omega) (by omega)
      calc g * 128 ^ i ≤ 127 * 128 ^ 8 := Nat.mul_le_mul (by omega) this
        _ < 2 ^ 64 := by decide
    · obtain rfl : i = 9 := by omega
      have := h9 rfl
      calc g * 128 ^ 9 ≤ 1 * 128 ^ 9 := Nat.mul_le_mul_right _ this
        _ < 2 ^ 64 := by decide
  refine ⟨?_, hb⟩
  have e : wrap64 (7 * (i : Int)) = ((7 * i : Nat) : Int) := tv_w7 (by omega)
  unfold shl
  rw [e, Int.toNat_natCast, Nat.min_eq_left (by show 7 * i ≤ 64; omega)]
  have e2 : ((g : Int) * 2 ^ (7 * i)) = ((g * 128 ^ i : Nat) : Int) := by rw [p128]; push_cast; rfl
  rw [e2, wrapU .u64 rfl _ hb]
theorem tv_or {i acc g : Nat} (ha : acc < 128 ^ i) (hi : i ≤ 9) (hb : g * 128 ^ i < 2 ^ 64) : Go.bits .or .u64 (acc : Int) ((g * 128 ^ i : Nat) : Int) = ((acc + g * 128 ^ i : Nat) : Int) := by
  have h64 : 128 ^ i ≤ 128 ^ 9 := Nat.pow_le_pow_right (by omega) hi
  have h9 : 128 ^ 9 < 2 ^ 64 := by decide
  rw [b_or .u64 rfl _ _ (by show acc < 2 ^ 64; omega) hb, Nat.or_comm, Nat.mul_comm g, p128]
  rw [p128] at ha
  rw [← Nat.two_pow_add_eq_or_of_lt ha g, Nat.add_comm]
theorem tv_ge {i : Nat} (h : 10 ≤ i) : ∀ l, tv i l = none
  | [] => by rw [tv]
  | b :: l => by rw [tv, if_pos h]
theorem itv_l0 (s : ByteArray) (hs : s.size ≤ 140737488351232) : ∀ (d k i acc : Nat), i ≤ 10 → 10 - i = d → 3 * d + 2 ≤ k → acc < 128 ^ i → impl_TakeVar.l0 k s acc i = tvOut s i acc (tv i ((nb s).drop i)) := by
  intro d
  induction d with
  | zero =>
    intro k i acc h1 h2 hk ha
    obtain ⟨k, rfl⟩ : ∃ m, k = m + 2 := ⟨k - 2, by omega⟩
    rw [tv_ge (by omega)]
    have e : decide ((i : Int) < 10) = false := by simp; omega
    rw [impl_TakeVar.l0]
    split <;> simp [impl_TakeVar.j1, tvOut, e]
  | succ d ih =>
    intro k i acc h1 h2 hk ha
    obtain ⟨k, rfl⟩ : ∃ m, k = m + 1 + 1 + 1 := ⟨k - 3, by omega⟩
    by_cases c : i < s.size
    · obtain ⟨b, hd, hb, hl⟩ := nb_drop s i c
      have e : decide ((i : Int) < 10) = true := by simp; omega
      rw [impl_TakeVar.l0, if_pos (by omega), e, impl_TakeVar.j1, if_pos rfl, if_pos (by omega), if_pos (by omega), hb, tv_g hl, hd, tv, if_neg (show ¬ 10 ≤ i by omega)]
      have J : ∀ x28 : Bool, (x28 = true ↔ (i = 9 ∧ 1 < b % 128)) → impl_TakeVar.j2 (k + 1) s acc i (b % 128 : Nat) x28 = tvOut s i acc (if i = 9 ∧ 1 < b then none else if b < 128 then (if b = 0 ∧ 0 < i then none else some (b, 1)) else (tv (i + 1) ((nb s).drop (i + 1))).map fun p => (b - 128 + 128 * p.1, p.2 + 1)) := by
        intro x hx
        rw [impl_TakeVar.j2]
        by_cases h9 : x = true
        · rw [if_pos h9, if_pos (by have := hx.1 h9; omega)]; rfl
        · rw [if_neg h9, if_pos (tv_7p h1), if_pos (by omega), if_pos (by omega), hb]
          have h9' : i = 9 → b % 128 ≤ 1 := fun h => by
            rcases Nat.lt_or_ge 1 (b % 128) with h' | h'
            · exact absurd (hx.2 ⟨h, h'⟩) h9
            · exact h'
          have h9i : i ≤ 9 := by omega
          obtain ⟨s1, s2⟩ := tv_shl (i := i) (g := b % 128) h9i (by omega) h9'
          rw [s1, tv_or ha h9i s2, w64s (n := s.size) c hs]
          clear s1 s2
          by_cases hb128 : b < 128
          · have hm : b % 128 = b := Nat.mod_eq_of_lt hb128
            rw [if_neg (show ¬ (b : Int) ≥ 128 by omega), hm, if_neg (show ¬ (i = 9 ∧ 1 < b) by omega), if_pos hb128]
            by_cases hz : b = 0
            · rw [if_pos (show ((b : Nat) : Int) = 0 by omega)]
              by_cases hi : 0 < i
              · rw [if_pos (show (i : Int) > 0 by omega), if_pos (show b = 0 ∧ 0 < i from ⟨hz, hi⟩)]; rfl
              · rw [if_neg (show ¬ (i : Int) > 0 by omega), if_pos (show (0 : Int) ≤ ((i + 1 : Nat) : Int) by omega), if_pos (show ((i + 1 : Nat) : Int) ≤ (s.size : Int) by omega), if_neg (show ¬ (b = 0 ∧ 0 < i) by omega)]
                simp [tvOut]
            · rw [if_neg (show ¬ ((b : Nat) : Int) = 0 by omega), if_pos (show (0 : Int) ≤ ((i + 1 : Nat) : Int) by omega), if_pos (show ((i + 1 : Nat) : Int) ≤ (s.size : Int) by omega), if_neg (show ¬ (b = 0 ∧ 0 < i) by omega)]
              simp [tvOut]
          · have hm : b % 128 = b - 128 := by omega
            have hp : 128 ^ (i + 1) = 128 * 128 ^ i := by rw [Nat.pow_succ, Nat.mul_comm]
            have hlt : acc + b % 128 * 128 ^ i < 128 ^ (i + 1) := by
              have : b % 128 * 128 ^ i ≤ 127 * 128 ^ i := Nat.mul_le_mul_right _ (by omega)
              omega
            rw [if_pos (show (b : Int) ≥ 128 by omega), ih k (i + 1) _ (by omega) (by omega) (by omega) hlt, if_neg hb128]
            by_cases h9b : i = 9 ∧ 1 < b
            · rw [if_pos h9b, tv_ge (by omega)]; rfl
            · rw [if_neg h9b]
              cases hT : tv (i + 1) ((nb s).drop (i + 1)) with
              | none => rfl
              | some p =>
                obtain ⟨v, cc⟩ := p
                simp only [tvOut, Option.map_some]
                have ev : acc + b % 128 * 128 ^ i + v * 128 ^ (i + 1) = acc + (b - 128 + 128 * v) * 128 ^ i := by
                  rw [hm, hp, Nat.add_mul, Nat.mul_comm 128 v, Nat.mul_assoc, Nat.add_assoc]
                rw [ev, show i + 1 + cc = i + (cc + 1) by omega]
      by_cases h9 : i = 9
      · rw [if_pos (by omega)]
        refine J _ ?_
        simp only [decide_eq_true_eq]; omega
      · rw [if_neg (by omega)]
        refine J _ ?_
        simp [h9]
    · rw [nb_end s i (by omega), tv, impl_TakeVar.l0, if_neg (by omega)]
      rw [impl_TakeVar.j1]; simp [tvOut]
theorem itv (s : ByteArray) (hs : s.size ≤ 140737488351232) (k : Nat) (hk : 32 ≤ k) : impl_TakeVar.f k s = tvOut s 0 0 (tv 0 (nb s)) := by
  unfold impl_TakeVar.f
  have h := itv_l0 s hs 10 k 0 0 (by omega) (by omega) (by omega) (by omega)
  simpa using h

/-! ## section ba -/
theorem nb_append (a b : ByteArray) : nb (a ++ b) = nb a ++ nb b := by
  simp [nb, ByteArray.data_append]
theorem nb_extract (s : ByteArray) (i j : Nat) : nb (s.extract i j) = ((nb s).take j).drop i := by
  rw [List.drop_take]
  simp [nb, ByteArray.data_extract]
theorem nb_inj {a b : ByteArray} (h : nb a = nb b) : a = b := by
  have h1 : a.data.toList = b.data.toList := by
    have h2 : ∀ (l m : List UInt8), l.map UInt8.toNat = m.map UInt8.toNat → l = m := by
      intro l
      induction l with
      | nil => intro m h; cases m with
        | nil => rfl
        | cons y m => simp at h
      | cons x l ih => intro m h; cases m with
        | nil => simp at h
        | cons y m =>
          simp only [List.map_cons, List.cons.injEq] at h
          rw [UInt8.toNat_inj.1 h.1, ih m h.2]
    exact h2 _ _ h
  cases a; cases b; simp_all
theorem nb_nums (l : List Int) (h : ∀ x ∈ l, 0 ≤ x ∧ x < 256) : nb (strOfNums l) = l.map Int.toNat := by
  simp only [nb, strOfNums, List.map_map]
  apply List.map_congr_left
  intro x hx
  have := h x hx
  simp only [Function.comp]
  rw [UInt8.toNat_ofNat']
  exact Nat.mod_eq_of_lt (by omega)
theorem nb_empty : nb (⟨#[]⟩ : ByteArray) = [] := rfl
theorem bsize_append (a b : ByteArray) : (a ++ b).size = a.size + b.size := ByteArray.size_append

/-! ## section vars -/
theorem vb_range : ∀ (n : Nat), ∀ x ∈ vb n, 0 ≤ x ∧ x < 256 := by
  intro n
  induction n using Nat.strongRecOn with
  | ind n ih =>
    intro x hx
    by_cases h : n < 128
    · rw [vb_small h] at hx; simp at hx; omega
    · rw [vb_big h] at hx
      rcases List.mem_cons.1 hx with rfl | hx
      · omega
      · exact ih (n / 128) (by omega) x hx
/-- the bytes of a number -/
def vn (n : Nat) : List Nat := (vb n).map Int.toNat
theorem nb_vb (n : Nat) : nb (strOfNums (vb n)) = vn n := nb_nums _ (vb_range n)
theorem vn_small {n : Nat} (h : n < 128) : vn n = [n] := by rw [vn, vb_small h]; simp
theorem vn_big {n : Nat} (h : ¬ n < 128) : vn n = (n % 128 + 128) :: vn (n / 128) := by rw [vn, vb_big h, List.map_cons]; congr 1
theorem vn_length (n : Nat) : (vn n).length = (vb n).length := by simp [vn]
theorem tv_vn : ∀ (m i : Nat) (rest : List Nat), i ≤ 9 → m * 128 ^ i < 2 ^ 64 → (0 < m ∨ i = 0) → tv i (vn m ++ rest) = some (m, (vn m).length) := by
  intro m
  induction m using Nat.strongRecOn with
  | ind m ih =>
    intro i rest hi hm h0
    have hp : 128 ^ (i + 1) = 128 * 128 ^ i := by rw [Nat.pow_succ, Nat.mul_comm]
    have h9 : ¬ (i = 9 ∧ 1 < m) := by
      rintro ⟨rfl, h1⟩
      have h2 : 2 * 128 ^ 9 ≤ m * 128 ^ 9 := Nat.mul_le_mul_right _ h1
      have h3 : (2 : Nat) * 128 ^ 9 = 2 ^ 64 := by decide
      omega
    by_cases h : m < 128
    · rw [vn_small h]
      simp only [List.cons_append, List.nil_append, tv]
      rw [if_neg (show ¬ 10 ≤ i by omega), if_neg h9, if_pos h, if_neg (show ¬ (m = 0 ∧ 0 < i) by omega)]
      rfl
    · rw [vn_big h]
      simp only [List.cons_append, tv]
      have hi9 : i ≠ 9 := fun e => h9 ⟨e, by omega⟩
      have hle : m / 128 * 128 ^ (i + 1) ≤ m * 128 ^ i := by
        rw [hp, ← Nat.mul_assoc]
        exact Nat.mul_le_mul_right _ (by omega)
      rw [if_neg (show ¬ 10 ≤ i by omega), if_neg (show ¬ (i = 9 ∧ 1 < m % 128 + 128) from fun e => hi9 e.1), if_neg (show ¬ m % 128 + 128 < 128 by omega), ih (m / 128) (by omega) (i + 1) rest (by omega) (by omega) (.inl (by omega))]
      have e : m % 128 + 128 - 128 + 128 * (m / 128) = m := by omega
      simp only [Option.map_some, List.length_cons]
      rw [e]
theorem tv_canon : ∀ (l : List Nat) (i v c : Nat), (∀ b ∈ l, b < 256) → tv i l = some (v, c) → i ≤ 9 ∧ (v + 1) * 128 ^ i ≤ 2 ^ 64 ∧ vn v = l.take c ∧ c ≤ l.length ∧ (0 < i → 1 ≤ v) := by
  intro l
  induction l with
  | nil => intro i v c _ h; simp [tv] at h
  | cons b r ih =>
    intro i v c hl h
    have hb := hl b (by simp)
    rw [tv] at h
    by_cases h10 : 10 ≤ i
    · rw [if_pos h10] at h; cases h
    · rw [if_neg h10] at h
      by_cases h9 : i = 9 ∧ 1 < b
      · rw [if_pos h9] at h; cases h
      · rw [if_neg h9] at h
        have hp : 128 ^ (i + 1) = 128 * 128 ^ i := by rw [Nat.pow_succ, Nat.mul_comm]
        by_cases h128 : b < 128
        · rw [if_pos h128] at h
          by_cases hz : b = 0 ∧ 0 < i
          · rw [if_pos hz] at h; cases h
          · rw [if_neg hz] at h
            simp only [Option.some.injEq, Prod.mk.injEq] at h
            obtain ⟨rfl, rfl⟩ := h
            refine ⟨by omega, ?_, ?_, by simp, by omega⟩
            · rcases Nat.lt_or_ge i 9 with h8 | h8
              · have e1 : (b + 1) * 128 ^ i ≤ 128 * 128 ^ i := Nat.mul_le_mul_right _ (by omega)
                have e2 : 128 * 128 ^ i ≤ 128 ^ 9 := by rw [← hp]; exact Nat.pow_le_pow_right (by omega) (by omega)
                have e3 : 128 ^ 9 ≤ 2 ^ 64 := by decide
                omega
              · obtain rfl : i = 9 := by omega
                have e1 : (b + 1) * 128 ^ 9 ≤ 2 * 128 ^ 9 := Nat.mul_le_mul_right _ (by omega)
                have e3 : 2 * 128 ^ 9 = 2 ^ 64 := by decide
                omega
            · rw [vn_small h128]; rfl
        · rw [if_neg h128] at h
          cases hT : tv (i + 1) r with
          | none => rw [hT] at h; cases h
          | some p =>
            obtain ⟨w, d⟩ := p
            rw [hT] at h
            simp only [Option.map_some, Option.some.injEq, Prod.mk.injEq] at h
            obtain ⟨rfl, rfl⟩ := h
            obtain ⟨g1, g2, g3, g4, g5⟩ := ih (i + 1) w d (fun x hx => hl x (List.mem_cons_of_mem _ hx)) hT
            have hw : 1 ≤ w := g5 (by omega)
            refine ⟨by omega, ?_, ?_, by simp; omega, by omega⟩
            · have e1 : (b - 128 + 128 * w + 1) * 128 ^ i ≤ (128 * (w + 1)) * 128 ^ i := Nat.mul_le_mul_right _ (by omega)
              have e2 : (128 * (w + 1)) * 128 ^ i = (w + 1) * 128 ^ (i + 1) := by rw [hp, Nat.mul_comm 128, Nat.mul_assoc]
              omega
            · rw [vn_big (by omega), show (b - 128 + 128 * w) / 128 = w by omega, g3]
              simp only [List.take_succ_cons]
              congr 1
              omega
theorem vn_mono : ∀ n : Nat, (vn (n / 2)).length ≤ (vn n).length := by
  intro n
  induction n using Nat.strongRecOn with
  | ind n ih =>
    by_cases h : n < 128
    · rw [vn_small h, vn_small (by omega)]; simp
    · rw [vn_big h]
      by_cases h2 : n / 2 < 128
      · rw [vn_small h2]; simp
      · rw [vn_big h2]
        have := ih (n / 128) (by omega)
        rw [show n / 2 / 128 = n / 128 / 2 by omega]
        simp only [List.length_cons]
        omega

/-! ## section takevarspec -/
theorem tv_gs {b : Nat} (hl : b < 256) : IntKind.u64.wrap (Int.tmod (b : Int) 128) = ((b % 128 : Nat) : Int) := by
  rw [Int.tmod_eq_emod_of_nonneg (by omega), show ((b : Int) % 128) = ((b % 128 : Nat) : Int) by omega]; exact tv_u64 (by omega)
theorem tv_w7u {i : Nat} (h : i ≤ 10) : IntKind.u64.wrap (wrap64 (7 * (i : Int))) = wrap64 (7 * (i : Int)) := by rw [tv_w7 h]; exact tv_u64 (by omega)
theorem stv_l0 (s : ByteArray) (hs : s.size ≤ 140737488351232) : ∀ (d k i acc : Nat), i ≤ 10 → 10 - i = d → 3 * d + 2 ≤ k → acc < 128 ^ i → spec_TakeVar.l0 k s acc i = tvOut s i acc (tv i ((nb s).drop i)) := by
  intro d
  induction d with
  | zero =>
    intro k i acc h1 h2 hk ha
    obtain ⟨k, rfl⟩ : ∃ m, k = m + 2 := ⟨k - 2, by omega⟩
    rw [tv_ge (by omega)]
    have e : decide ((i : Int) < 10) = false := by simp; omega
    rw [spec_TakeVar.l0]
    split <;> simp [spec_TakeVar.j1, tvOut, e]
  | succ d ih =>
    intro k i acc h1 h2 hk ha
    obtain ⟨k, rfl⟩ : ∃ m, k = m + 1 + 1 + 1 := ⟨k - 3, by omega⟩
    by_cases c : i < s.size
    · obtain ⟨b, hd, hb, hl⟩ := nb_drop s i c
      have e : decide ((i : Int) < 10) = true := by simp; omega
      rw [spec_TakeVar.l0, if_pos (by omega), e, spec_TakeVar.j1, if_pos rfl, if_pos (by omega), if_pos (by omega), hb, tv_gs hl, hd, tv, if_neg (show ¬ 10 ≤ i by omega)]
      have J : ∀ x28 : Bool, (x28 = true ↔ (i = 9 ∧ 1 < b)) → spec_TakeVar.j2 (k + 1) s acc i (b % 128 : Nat) x28 = tvOut s i acc (if i = 9 ∧ 1 < b then none else if b < 128 then (if b = 0 ∧ 0 < i then none else some (b, 1)) else (tv (i + 1) ((nb s).drop (i + 1))).map fun p => (b - 128 + 128 * p.1, p.2 + 1)) := by
        intro x hx
        rw [spec_TakeVar.j2]
        by_cases h9 : x = true
        · rw [if_pos h9, if_pos (hx.1 h9)]; rfl
        · rw [if_neg h9, tv_w7u h1, if_pos (tv_7p h1), if_pos (by omega), if_pos (by omega), hb, if_neg (fun h => h9 (hx.2 h))]
          have h9' : i = 9 → b % 128 ≤ 1 := fun h => by
            rcases Nat.lt_or_ge 1 b with h' | h'
            · exact absurd (hx.2 ⟨h, h'⟩) h9
            · omega
          have h9i : i ≤ 9 := by omega
          obtain ⟨s1, s2⟩ := tv_shl (i := i) (g := b % 128) h9i (by omega) h9'
          rw [s1, tv_or ha h9i s2, w64s (n := s.size) c hs]
          clear s1 s2
          by_cases hb128 : b < 128
          · have hm : b % 128 = b := Nat.mod_eq_of_lt hb128
            rw [if_pos (show (b : Int) < 128 by omega), hm, if_pos hb128]
            by_cases hi : 0 < i
            · rw [if_pos (show (i : Int) > 0 by omega)]
              by_cases hz : b = 0
              · rw [if_pos (show ((b : Nat) : Int) = 0 by omega), if_pos (show b = 0 ∧ 0 < i from ⟨hz, hi⟩)]; rfl
              · rw [if_neg (show ¬ ((b : Nat) : Int) = 0 by omega), if_pos (show (0 : Int) ≤ ((i + 1 : Nat) : Int) by omega), if_pos (show ((i + 1 : Nat) : Int) ≤ (s.size : Int) by omega), if_neg (show ¬ (b = 0 ∧ 0 < i) by omega)]
                simp [tvOut]
            · rw [if_neg (show ¬ (i : Int) > 0 by omega), if_pos (show (0 : Int) ≤ ((i + 1 : Nat) : Int) by omega), if_pos (show ((i + 1 : Nat) : Int) ≤ (s.size : Int) by omega), if_neg (show ¬ (b = 0 ∧ 0 < i) by omega)]
              simp [tvOut]
          · have hm : b % 128 = b - 128 := by omega
            have hp : 128 ^ (i + 1) = 128 * 128 ^ i := by rw [Nat.pow_succ, Nat.mul_comm]
            have hlt : acc + b % 128 * 128 ^ i < 128 ^ (i + 1) := by
              have : b % 128 * 128 ^ i ≤ 127 * 128 ^ i := Nat.mul_le_mul_right _ (by omega)
              omega
            rw [if_neg (show ¬ (b : Int) < 128 by omega), ih k (i + 1) _ (by omega) (by omega) (by omega) hlt, if_neg hb128]
            cases hT : tv (i + 1) ((nb s).drop (i + 1)) with
            | none => rfl
            | some p =>
              obtain ⟨v, cc⟩ := p
              simp only [tvOut, Option.map_some]
              have ev : acc + b % 128 * 128 ^ i + v * 128 ^ (i + 1) = acc + (b - 128 + 128 * v) * 128 ^ i := by
                rw [hm, hp, Nat.add_mul, Nat.mul_comm 128 v, Nat.mul_assoc, Nat.add_assoc]
              rw [ev, show i + 1 + cc = i + (cc + 1) by omega]
      by_cases h9 : i = 9
      · rw [if_pos (by omega)]
        refine J _ ?_
        simp only [decide_eq_true_eq]; omega
      · rw [if_neg (by omega)]
        refine J _ ?_
        simp [h9]
    · rw [nb_end s i (by omega), tv, spec_TakeVar.l0, if_neg (by omega)]
      rw [spec_TakeVar.j1]; simp [tvOut]
theorem stv (s : ByteArray) (hs : s.size ≤ 140737488351232) (k : Nat) (hk : 32 ≤ k) : spec_TakeVar.f k s = tvOut s 0 0 (tv 0 (nb s)) := by
  unfold spec_TakeVar.f
  have h := stv_l0 s hs 10 k 0 0 (by omega) (by omega) (by omega) (by omega)
  simpa using h
theorem tvOut_some (s : ByteArray) (i acc : Nat) (o : Option (Nat × Nat)) : ∃ r, tvOut s i acc o = some r := by
  rcases o with _ | ⟨v, c⟩ <;> exact ⟨_, rfl⟩

/-! ## section draw -/
/-- the code that things are drawn from: each cell is a byte -/
def isCode (l : List Int) : Prop := l.length ≤ 1048576 ∧ ∀ x ∈ l, 0 ≤ x ∧ x ≤ 255
theorem code_of {l : List Int} (h : ¬ ((l.length : Int) > 1048576)) (hw : ∀ x ∈ l, (Lit.int .u8 x).wf = true) : isCode l := by
  refine ⟨by omega, fun x hx => ?_⟩
  have := hw x hx
  simp [Lit.wf, IntKind.min, IntKind.max, IntKind.bits, IntKind.signed] at this
  omega
def posOk (l : List Int) (p : Int) : Prop := 0 ≤ p ∧ p ≤ l.length
theorem rd_code {l : List Int} (h : isCode l) (i : Int) : 0 ≤ rd l i ∧ rd l i ≤ 255 := by
  unfold rd
  rw [List.getD_eq_getElem?_getD]
  cases hi : l[i.toNat]? with
  | none => simp
  | some b => simpa using h.2 b (List.mem_of_getElem? hi)
theorem dnext {l : List Int} (h : isCode l) {p : Int} (hp : posOk l p) : ∃ v q, spec_l1Rd_next.f l p = some (v, q) ∧ 0 ≤ v ∧ v ≤ 255 ∧ posOk l q := by
  have hl := h.1
  obtain ⟨h0, h1⟩ := hp
  unfold spec_l1Rd_next.f
  by_cases c : p ≥ (l.length : Int)
  · rw [if_pos c]
    exact ⟨0, p, rfl, by omega, by omega, h0, h1⟩
  · have e1 : wrap64 (p + 1) = p + 1 := by unfold wrap64; omega
    have e2 : wrap64 (p + 1 - 1) = p := by unfold wrap64; omega
    have hr := rd_code h p
    have e3 : wrap64 (rd l p) = rd l p := by unfold wrap64; omega
    rw [if_neg c, e1, e2, if_pos h0, if_pos (by omega), e3]
    exact ⟨_, _, rfl, hr.1, hr.2, by omega, by omega⟩
theorem dbelow {l : List Int} (h : isCode l) {p : Int} (hp : posOk l p) {n : Int} (hn : 1 ≤ n) : ∃ v q, spec_l1Rd_below.f l p n = some (v, q) ∧ 0 ≤ v ∧ v < n ∧ posOk l q := by
  unfold spec_l1Rd_below.f
  by_cases c : n ≤ 1
  · rw [if_pos c]
    exact ⟨0, p, rfl, by omega, by omega, hp⟩
  · rw [if_neg c]
    obtain ⟨v, q, e, h0, h1, hq⟩ := dnext h hp
    by_cases c2 : n ≤ 256
    · rw [if_pos c2, e]
      simp only [Option.bind_some]
      rw [if_neg (by omega)]
      refine ⟨_, _, rfl, ?_, ?_, hq⟩
      · rw [Int.tmod_eq_emod_of_nonneg h0]; exact Int.emod_nonneg _ (by omega)
      · rw [Int.tmod_eq_emod_of_nonneg h0]; exact Int.emod_lt_of_pos _ (by omega)
    · rw [if_neg c2, e]
      simp only [Option.bind_some]
      obtain ⟨v2, q2, e2, h2, h3, hq2⟩ := dnext h hq
      rw [e2]
      simp only [Option.bind_some]
      rw [if_neg (by omega)]
      have ew : wrap64 (wrap64 (v * 256) + v2) = v * 256 + v2 := by unfold wrap64; omega
      rw [ew]
      refine ⟨_, _, rfl, ?_, ?_, hq2⟩
      · rw [Int.tmod_eq_emod_of_nonneg (by omega)]; exact Int.emod_nonneg _ (by omega)
      · rw [Int.tmod_eq_emod_of_nonneg (by omega)]; exact Int.emod_lt_of_pos _ (by omega)
theorem posOk0 (l : List Int) : posOk l 0 := ⟨Int.le_refl _, by omega⟩

/-! ## section drawword -/
theorem dword_l0 {l : List Int} (h : isCode l) : ∀ (d k i : Nat) (x p : Int), i ≤ 8 → 8 - i = d → d < k → 0 ≤ x → x < 18446744073709551616 → posOk l p → ∃ v q, spec_l1Rd_word.l0 k x i l p = some (v, q) ∧ 0 ≤ v ∧ v < 18446744073709551616 ∧ posOk l q := by
  intro d
  induction d with
  | zero =>
    intro k i x p h1 h2 hk hx0 hx1 hp
    obtain ⟨k, rfl⟩ : ∃ m, k = m + 1 := ⟨k - 1, by omega⟩
    rw [spec_l1Rd_word.l0, if_neg (by omega)]
    exact ⟨_, _, rfl, hx0, hx1, hp⟩
  | succ d ih =>
    intro k i x p h1 h2 hk hx0 hx1 hp
    obtain ⟨k, rfl⟩ : ∃ m, k = m + 1 := ⟨k - 1, by omega⟩
    obtain ⟨v, q, e, _, _, hq⟩ := dnext h hp
    have ei : wrap64 ((i : Int) + 1) = ((i + 1 : Nat) : Int) := by unfold wrap64; omega
    rw [spec_l1Rd_word.l0, if_pos (by omega), e]
    simp only [Option.bind_some]
    rw [ei]
    have hb := bits_range .u64 rfl .or (IntKind.u64.wrap (x * 256)) (IntKind.u64.wrap v)
    exact ih k (i + 1) _ q (by omega) (by omega) (by omega) hb.1 hb.2 hq
theorem dword {l : List Int} (h : isCode l) {p : Int} (hp : posOk l p) {k : Nat} (hk : 9 ≤ k) : ∃ v q, spec_l1Rd_word.f k l p = some (v, q) ∧ 0 ≤ v ∧ v < 18446744073709551616 ∧ posOk l q := by
  unfold spec_l1Rd_word.f
  exact dword_l0 h 8 k 0 0 p (by omega) (by omega) (by omega) (by omega) (by omega) hp

/-! ## section drawnumber -/
theorem dnumber {l : List Int} (h : isCode l) {p : Int} (hp : posOk l p) {k : Nat} (hk : 9 ≤ k) : ∃ (v : Nat) (q : Int), spec_l1Rd_number.f k l p = some (((v : Nat) : Int), q) ∧ v < 18446744073709551616 ∧ posOk l q := by
  unfold spec_l1Rd_number.f
  obtain ⟨v, q, e, v0, v1, hq⟩ := dbelow h hp (n := 6) (by omega)
  rw [e]; simp only [Option.bind_some]
  by_cases c0 : v = 0
  · rw [if_pos c0]
    obtain ⟨w, r, e2, w0, w1, hr⟩ := dbelow h hq (n := 9) (by omega)
    rw [e2]; simp only [Option.bind_some]
    rw [if_pos w0, if_pos (by simpa using w1)]
    obtain ⟨n, rfl⟩ := Int.eq_ofNat_of_zero_le w0
    have hn : n < 9 := by omega
    have key : ∀ n, n < 9 → 0 ≤ rd [0, 1, 127, 128, 16383, 16384, 9223372036854775807, 9223372036854775808, 18446744073709551615] ((n : Nat) : Int) ∧ rd [0, 1, 127, 128, 16383, 16384, 9223372036854775807, 9223372036854775808, 18446744073709551615] ((n : Nat) : Int) < 18446744073709551616 := by decide +kernel
    have kk := key n hn
    generalize rd [0, 1, 127, 128, 16383, 16384, 9223372036854775807, 9223372036854775808, 18446744073709551615] ((n : Nat) : Int) = z at kk
    obtain ⟨m, rfl⟩ := Int.eq_ofNat_of_zero_le kk.1
    exact ⟨m, r, rfl, by omega, hr⟩
  · rw [if_neg c0]
    by_cases c1 : v = 1
    · rw [if_pos c1]
      obtain ⟨x, r, e2, x0, x1, hr⟩ := dword h hq hk
      rw [e2]; simp only [Option.bind_some]
      obtain ⟨m, rfl⟩ := Int.eq_ofNat_of_zero_le x0
      exact ⟨m, r, rfl, by omega, hr⟩
    · rw [if_neg c1]
      by_cases c2 : v = 2
      · rw [if_pos c2]
        obtain ⟨x, r, e2, x0, x1, hr⟩ := dword h hq hk
        rw [e2]; simp only [Option.bind_some]
        obtain ⟨w, r2, e3, w0, w1, hr2⟩ := dbelow h hr (n := 64) (by omega)
        rw [e3]; simp only [Option.bind_some]
        obtain ⟨m, rfl⟩ := Int.eq_ofNat_of_zero_le x0
        have e4 : IntKind.u64.wrap w = w := by rw [u64w]; omega
        rw [e4, if_pos w0]
        refine ⟨m / 2 ^ min w.toNat IntKind.u64.bits, r2, ?_, ?_, hr2⟩
        · unfold shr; push_cast; rfl
        · exact Nat.lt_of_le_of_lt (Nat.div_le_self _ _) (by omega)
      · rw [if_neg c2]
        obtain ⟨w, r2, e3, w0, w1, hr2⟩ := dbelow h hq (n := 300) (by omega)
        rw [e3]; simp only [Option.bind_some]
        have e4 : IntKind.u64.wrap w = w := by rw [u64w]; omega
        rw [e4]
        obtain ⟨m, rfl⟩ := Int.eq_ofNat_of_zero_le w0
        exact ⟨m, r2, rfl, by omega, hr2⟩

/-! ## section drawbytes -/
theorem dbytes_l0 {l : List Int} (h : isCode l) : ∀ (d k : Nat) (acc : List Int) (p : Int), d < k → acc.length + d < 140737488355328 → (∀ x ∈ acc, 0 ≤ x ∧ x < 256) → posOk l p → ∃ zs q, spec_l1Rd_bytes.l0 k acc d l p = some (strOfNums zs, q) ∧ zs.length = acc.length + d ∧ (∀ x ∈ zs, 0 ≤ x ∧ x < 256) ∧ posOk l q := by
  intro d
  induction d with
  | zero =>
    intro k acc p hk hl ha hp
    obtain ⟨k, rfl⟩ : ∃ m, k = m + 1 := ⟨k - 1, by omega⟩
    rw [spec_l1Rd_bytes.l0, if_neg (by omega)]
    exact ⟨acc, p, rfl, by omega, ha, hp⟩
  | succ d ih =>
    intro k acc p hk hl ha hp
    obtain ⟨k, rfl⟩ : ∃ m, k = m + 1 := ⟨k - 1, by omega⟩
    obtain ⟨v, q, e, v0, v1, hq⟩ := dbelow h hp (n := 256) (by omega)
    have ed : wrap64 (((d + 1 : Nat) : Int) - 1) = (d : Int) := by unfold wrap64; omega
    rw [spec_l1Rd_bytes.l0, if_pos (by omega), e]
    simp only [Option.bind_some]
    rw [if_pos (by omega), ed]
    obtain ⟨zs, r, e2, hz, hb, hr⟩ := ih k (acc ++ [v % 256]) q (by omega) (by simp; omega) (by
      intro x hx
      rcases List.mem_append.1 hx with hx | hx
      · exact ha x hx
      · simp at hx; omega) hq
    exact ⟨zs, r, e2, by rw [hz]; simp; omega, hb, hr⟩
/-- some bytes are drawn: at most 'most' -/
theorem dbytes {l : List Int} (h : isCode l) {p : Int} (hp : posOk l p) {most k : Nat} (hm : most ≤ 1000) (hk : most < k) : ∃ s q, spec_l1Rd_bytes.f k l p (most : Int) = some (s, q) ∧ s.size ≤ most ∧ posOk l q := by
  unfold spec_l1Rd_bytes.f
  have em : wrap64 ((most : Int) + 1) = (most : Int) + 1 := by unfold wrap64; omega
  rw [em]
  obtain ⟨v, q, e, v0, v1, hq⟩ := dbelow h hp (n := (most : Int) + 1) (by omega)
  rw [e]
  simp only [Option.bind_some]
  obtain ⟨d, rfl⟩ := Int.eq_ofNat_of_zero_le v0
  obtain ⟨zs, r, e2, hz, _, hr⟩ := dbytes_l0 h d k [] q (by omega) (by simp; omega) (by simp) hq
  exact ⟨_, r, e2, by rw [strOfNums_size, hz]; simp; omega, hr⟩

theorem var_back (n : Nat) (hn : n < 18446744073709551616) (rest : ByteArray) : tvOut (strOfNums (vb n) ++ rest) 0 0 (tv 0 (nb (strOfNums (vb n) ++ rest))) = some ((n : Int), rest, true) := by
  rw [nb_append, nb_vb, tv_vn n 0 _ (by omega) (by simpa using hn) (.inr rfl)]
  simp only [tvOut, Nat.zero_add, Nat.pow_zero, Nat.mul_one]
  congr 3
  apply nb_inj
  rw [nb_extract, List.take_of_length_le (by rw [nb_length]; exact Nat.le_refl _), nb_append, nb_vb, List.drop_left]
theorem var_text (t : ByteArray) (v c : Nat) (h : tv 0 (nb t) = some (v, c)) : v < 18446744073709551616 ∧ strOfNums (vb v) ++ t.extract c t.size = t := by
  obtain ⟨_, g2, g3, g4, _⟩ := tv_canon (nb t) 0 v c (nb_lt t) h
  refine ⟨by simp at g2; omega, ?_⟩
  apply nb_inj
  rw [nb_append, nb_vb, g3, nb_extract, List.take_of_length_le (i := t.size) (by rw [nb_length]; exact Nat.le_refl _), List.take_append_drop]
theorem FnVars : laws_FnVars.Pure := by
  intro l _ _ hw
  refine ⟨100, ?_⟩
  unfold laws_FnVars.f laws_big.f
  simp only [Option.bind_some]
  by_cases hb : (l.length : Int) > 1048576
  · rw [if_pos (by simpa using hb)]
  · have hc := code_of hb hw
    rw [if_neg (by simpa using hb)]
    have fin : laws_FnVars.j0 100 l false = some true := by
      rw [laws_FnVars.j0, if_neg (by decide)]
      obtain ⟨t, et, ht⟩ : ∃ t, spec_DrawTakeVar.f 99 l = some t ∧ t.size ≤ 1000 := by
        unfold spec_DrawTakeVar.f spec_l1Open.f
        simp only [Option.bind_some]
        obtain ⟨n, q, e, hn, hq⟩ := dnumber hc (posOk0 l) (k := 99) (by omega)
        rw [e]; simp only [Option.bind_some]
        rw [spv 99 (by omega) n hn]; simp only [Option.bind_some]
        obtain ⟨s, q2, e2, hs, hq2⟩ := dbytes hc hq (most := 2) (k := 99) (by omega) (by omega)
        simp only [Int.cast_ofNat_Int] at e2
        rw [e2]; simp only [Option.bind_some]
        have hv := vb_len n hn
        have hvs := vbs_size n
        rw [if_pos (by omega)]
        obtain ⟨c, q4, e4, hc0, hc1, hq4⟩ := dbelow hc hq2 (n := 5) (by omega)
        rw [e4]; simp only [Option.bind_some]
        split
        · obtain ⟨v, q5, e5, hv, hq5⟩ := dbytes hc hq4 (most := 12) (k := 99) (by omega) (by omega)
          simp only [Int.cast_ofNat_Int] at e5
          rw [e5]; exact ⟨v, rfl, by omega⟩
        · split
          · obtain ⟨w, r, e6, w0, w1, hr⟩ := dbelow hc hq4 (n := 6) (by omega)
            rw [e6]; simp only [Option.bind_some]
            rw [if_pos w0, if_pos (by simpa using w1)]
            obtain ⟨m, rfl⟩ := Int.eq_ofNat_of_zero_le w0
            have hm : m < 6 := by omega
            have key : ∀ m, m < 6 → (rdOf ByteArray.empty ([(⟨#[]⟩ : ByteArray), (⟨#[128]⟩ : ByteArray), (⟨#[128, 0]⟩ : ByteArray), (⟨#[255, 255, 255, 255, 255, 255, 255, 255, 255, 2]⟩ : ByteArray), (⟨#[255, 255, 255, 255, 255, 255, 255, 255, 255, 1]⟩ : ByteArray), (⟨#[129, 128, 0]⟩ : ByteArray)] : List ByteArray) ((m : Nat) : Int)).size ≤ 1000 := by decide +kernel
            exact ⟨_, rfl, key m hm⟩
          · refine ⟨_, rfl, ?_⟩
            rw [bsize_append]; omega
      rw [et]; simp only [Option.bind_some]
      rw [itv t (by omega) _ (by omega), stv t (by omega) _ (by omega)]
      cases hT : tv 0 (nb t) with
      | none => simp [tvOut]
      | some p =>
        obtain ⟨v, c⟩ := p
        obtain ⟨hv, htx⟩ := var_text t v c hT
        simp only [tvOut, Option.bind_some, Nat.zero_add, Nat.pow_zero, Nat.mul_one]
        rw [if_pos (by simp), if_pos trivial, ipv 99 (by omega) v hv]
        simp only [Option.bind_some]
        have hl := vb_len v hv
        have hls := vbs_size v
        have hle : (t.extract c t.size).size ≤ t.size := by rw [ByteArray.size_extract]; omega
        rw [if_pos (by omega), htx]; simp
    unfold spec_DrawPutVar.f spec_l1Open.f
    simp only [Option.bind_some]
    obtain ⟨n, q, e, hn, hq⟩ := dnumber hc (posOk0 l) (k := 100) (by omega)
    rw [e]; simp only [Option.bind_some]
    have hl := vb_len n hn
    have hls := vbs_size n
    rw [ipv 100 (by omega) n hn, spv 100 (by omega) n hn]; simp only [Option.bind_some]
    have h3 : (⟨#[120, 121, 122]⟩ : ByteArray).size = 3 := rfl
    rw [if_pos (by omega), itv _ (by rw [bsize_append]; omega) _ (by omega), var_back n hn]
    simp only [Option.bind_some]
    rw [if_pos trivial, if_pos trivial, if_pos trivial, if_pos (by rw [ByteArray.toList_eq])]
    have e2 : IntKind.u64.wrap (Int.tdiv (n : Int) 2) = ((n / 2 : Nat) : Int) := by rw [u64w, Int.tdiv_eq_ediv_of_nonneg (by omega)]; omega
    rw [e2, ipv 100 (by omega) (n / 2) (by omega)]
    simp only [Option.bind_some]
    have hm := vn_mono n
    rw [vn_length, vn_length] at hm
    have hls2 := vbs_size (n / 2)
    rw [show decide (((strOfNums (vb (n / 2))).size : Int) > ((strOfNums (vb n)).size : Int)) = false by rw [decide_eq_false_iff_not]; omega]
    exact fin

end Go.Proofs.Ytfcjacncllmapac.Pure
