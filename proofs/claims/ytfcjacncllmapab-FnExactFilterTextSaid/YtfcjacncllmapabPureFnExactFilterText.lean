/- The program's FilterText returns what the reference's FilterText returns, for every filter: no condition. -/
import Derived.Test.YtfcjacncllmapabQFnExactFilterTexty
namespace Go.Proofs.Ytfcjacncllmapab.Pure
open Go.RowKit Go.Proofs.Ytfcjacncllmapab.QFnExactFilterText Go.Proofs.YtfcjacncllmapabW.PrintWords Go.Proofs.YtfcjacncllmapabW.PrintLast Go.Proofs.YtfcjacncllmapabW.PrintMore
set_option linter.unusedVariables false
set_option linter.unusedSimpArgs false

/-! ## section base -/
/-- an unsigned kind's number that fits is not wrapped -/
theorem wrapU (k : IntKind) (hs : k.signed = false) (n : Nat) (h : n < 2 ^ k.bits) : k.wrap (n : Int) = n := by
  unfold IntKind.wrap
  rw [Int.emod_eq_of_lt (by omega) (by exact_mod_cast h)]
  simp [hs]
/-- bits of unsigned numbers are those of natural numbers -/
theorem b_or (k : IntKind) (hs : k.signed = false) (a b : Nat) (ha : a < 2 ^ k.bits) (hb : b < 2 ^ k.bits) : Go.bits .or k a b = ((a ||| b : Nat) : Int) := by
  simp only [Go.bits, BitVec.ofInt_natCast, BitVec.toNat_or, BitVec.toNat_ofNat, Nat.mod_eq_of_lt ha, Nat.mod_eq_of_lt hb]
  exact wrapU k hs _ (Nat.or_lt_two_pow ha hb)
theorem b_xor (k : IntKind) (hs : k.signed = false) (a b : Nat) (ha : a < 2 ^ k.bits) (hb : b < 2 ^ k.bits) : Go.bits .xor k a b = ((a ^^^ b : Nat) : Int) := by
  simp only [Go.bits, BitVec.ofInt_natCast, BitVec.toNat_xor, BitVec.toNat_ofNat, Nat.mod_eq_of_lt ha, Nat.mod_eq_of_lt hb]
  exact wrapU k hs _ (Nat.xor_lt_two_pow ha hb)
theorem b_and (k : IntKind) (hs : k.signed = false) (a b : Nat) (ha : a < 2 ^ k.bits) (hb : b < 2 ^ k.bits) : Go.bits .and k a b = ((a &&& b : Nat) : Int) := by
  simp only [Go.bits, BitVec.ofInt_natCast, BitVec.toNat_and, BitVec.toNat_ofNat, Nat.mod_eq_of_lt ha, Nat.mod_eq_of_lt hb]
  exact wrapU k hs _ (Nat.and_lt_two_pow _ hb)
theorem b_or8 (a b : Nat) (ha : a < 256) (hb : b < 256) : Go.bits .or .u8 a b = ((a ||| b : Nat) : Int) := b_or .u8 rfl a b ha hb
theorem u64w (x : Int) : IntKind.u64.wrap x = x % 18446744073709551616 := by simp [IntKind.wrap, IntKind.bits, IntKind.signed]

/-! ## section bytes -/
/-- the bytes of a text, as natural numbers -/
def nb (s : ByteArray) : List Nat := s.data.toList.map UInt8.toNat
theorem nb_length (s : ByteArray) : (nb s).length = s.size := by rw [nb, List.length_map, Array.length_toList]; rfl
theorem nb_lt (s : ByteArray) : ∀ b ∈ nb s, b < 256 := by
  intro b hb
  simp only [nb, List.mem_map] at hb
  obtain ⟨u, _, rfl⟩ := hb
  exact u.toNat_lt
theorem bt_nb (s : ByteArray) (i : Nat) (h : i < s.size) : bt s i = (((nb s)[i]'(by rw [nb_length]; exact h) : Nat) : Int) := by
  simp only [bt, Int.toNat_natCast, h, nb]
  simp
  rfl
theorem nb_drop (s : ByteArray) (i : Nat) (h : i < s.size) : ∃ b, (nb s).drop i = b :: (nb s).drop (i + 1) ∧ bt s i = (b : Int) ∧ b < 256 := by
  have hl : i < (nb s).length := by rw [nb_length]; exact h
  exact ⟨(nb s)[i], List.drop_eq_getElem_cons hl, bt_nb s i h, nb_lt s _ (List.getElem_mem hl)⟩
theorem nb_end (s : ByteArray) (i : Nat) (h : s.size ≤ i) : (nb s).drop i = [] := List.drop_eq_nil_of_le (by rw [nb_length]; exact h)
theorem w64 {x : Int} (h0 : -9223372036854775808 ≤ x) (h1 : x < 9223372036854775808) : wrap64 x = x := by unfold wrap64; omega
theorem w64s {i n : Nat} (h : i < n) (hn : n ≤ 140737488351232) : wrap64 ((i : Int) + 1) = ((i + 1 : Nat) : Int) := by rw [w64] <;> omega
theorem bits_range (k : IntKind) (hs : k.signed = false) (op : BinOp) (x y : Int) : 0 ≤ Go.bits op k x y ∧ Go.bits op k x y < 2 ^ k.bits := by
  have hp : (0 : Int) < 2 ^ k.bits := by exact_mod_cast Nat.two_pow_pos k.bits
  unfold Go.bits IntKind.wrap
  simp only [hs, Bool.false_and]
  exact ⟨Int.emod_nonneg _ (by omega), Int.emod_lt_of_pos _ hp⟩

/-! ## section szfilter -/
theorem szfilter_some (a b c : Int) (s : ByteArray) (hs : s.size ≤ 9223372036854775807) : ∃ r, laws_szFilter.f a b c s 1048576 = some r ∧ (¬ r < 0 → s.size ≤ 1048576) := by
  unfold laws_szFilter.f
  have e : wrap64 (1048576 - (s.size : Int)) = 1048576 - s.size := by unfold wrap64; omega
  rw [e]
  split
  · exact ⟨_, rfl, fun h => absurd (by decide) h⟩
  · exact ⟨_, rfl, fun h => by omega⟩

/-! ## section within -/
def inB (n lo hi : Int) : Bool := decide (lo ≤ n ∧ n ≤ hi)
theorem iwithin (n lo hi : Int) : impl_within.f n lo hi = some (inB n lo hi) := by
  unfold impl_within.f inB
  split
  · congr 1; rw [decide_eq_decide]; omega
  · congr 1; symm; rw [decide_eq_false_iff_not]; omega
theorem swithin (n lo hi : Int) : spec_l1In.f n lo hi = some (inB n lo hi) := by
  unfold spec_l1In.f inB
  split
  · congr 1; rw [decide_eq_decide]; omega
  · congr 1; symm; rw [decide_eq_false_iff_not]; omega

/-! ## section filterok -/
/-- a filter is right -/
def fltB (a b c : Int) (s : ByteArray) : Bool :=
  if a = 0 then (a == 0 && (b == 0 && (c == 0 && (s.toList == ([] : List UInt8))))) else if a = 1 then decide (b = 0) && (inB c 1 30 && inB s.size 1 1000) else if a = 2 then decide (c = 0) && (inB b 0 3 && (inB s.size 20 600 && (nb s).all (fun x => decide (x ≤ 127)))) else false
theorem ifo_l0 (s : ByteArray) (hs : s.size ≤ 1048576) (a b c : Int) : ∀ (d k i : Nat), i ≤ s.size → s.size - i = d → d < k → impl_FilterOk.l0 k s.size i a b c s = some (((nb s).drop i).all (fun x => decide (x ≤ 127))) := by
  intro d
  induction d with
  | zero =>
    intro k i h1 h2 hk
    obtain ⟨k, rfl⟩ : ∃ m, k = m + 1 := ⟨k - 1, by omega⟩
    rw [impl_FilterOk.l0, if_neg (by omega), nb_end s i (by omega)]; rfl
  | succ d ih =>
    intro k i h1 h2 hk
    obtain ⟨k, rfl⟩ : ∃ m, k = m + 1 := ⟨k - 1, by omega⟩
    obtain ⟨x, hd, hx, hl⟩ := nb_drop s i (by omega)
    rw [impl_FilterOk.l0, if_pos (by omega), if_pos (by omega), if_pos (by omega), hx, hd, w64s (n := s.size) (by omega) (by omega)]
    by_cases g : x ≤ 127
    · rw [if_neg (by omega), ih k (i + 1) (by omega) (by omega) (by omega)]; simp [g]
    · rw [if_pos (by omega)]; simp [g]
theorem ifo (a b c : Int) (s : ByteArray) (k : Nat) (hk : s.size + 2 < k) : impl_FilterOk.f k a b c s = some (fltB a b c s) := by
  obtain ⟨k, rfl⟩ : ∃ m, k = m + 1 := ⟨k - 1, by omega⟩
  unfold impl_FilterOk.f fltB
  by_cases h0 : a = 0
  · rw [if_pos h0, if_pos h0]
  · rw [if_neg h0, if_neg h0]
    by_cases h1 : a = 1
    · rw [if_pos h1, if_pos h1]
      by_cases hb : b = 0
      · rw [if_pos hb, iwithin, iwithin]
        simp only [Option.bind_some, hb, decide_true, Bool.true_and]
        cases inB c 1 30 <;> rfl
      · rw [if_neg hb]; simp [hb]
    · rw [if_neg h1, if_neg h1]
      by_cases h2 : a = 2
      · rw [if_pos h2, if_pos h2]
        have jt : impl_FilterOk.j0 (k + 1) true a b c s = some false := by rw [impl_FilterOk.j0, if_pos rfl]
        by_cases hc : c = 0
        · rw [if_pos hc, iwithin, iwithin]
          simp only [Option.bind_some, hc, decide_true, Bool.true_and]
          rw [hc] at jt
          by_cases hq : inB b 0 3 = true
          · rw [if_pos hq, hq, Bool.true_and]
            by_cases hr : inB (s.size : Int) 20 600 = true
            · have hsz : s.size ≤ 600 := by simp only [inB, decide_eq_true_eq] at hr; omega
              rw [hr, Bool.true_and, impl_FilterOk.j0, if_neg (by decide)]
              have h := ifo_l0 s (by omega) a b 0 s.size k 0 (by omega) (by omega) (by omega)
              simpa using h
            · have hr' : inB (s.size : Int) 20 600 = false := by simpa using hr
              rw [hr', Bool.not_false, jt]; rfl
          · have hq' : inB b 0 3 = false := by simpa using hq
            rw [if_neg hq, hq', jt]; rfl
        · rw [if_neg hc, jt]; simp [hc]
      · rw [if_neg h2, if_neg h2]
theorem flt_size {a b c : Int} {s : ByteArray} (h : fltB a b c s = true) : s.size ≤ 1000 := by
  unfold fltB at h
  split at h
  · simp only [Bool.and_eq_true, beq_iff_eq] at h
    have h' := h.2.2.2
    rw [ByteArray.toList_eq] at h'
    have : s.data.toList.length = s.size := by rw [Array.length_toList]; rfl
    rw [h'] at this
    simp at this
    omega
  · split at h
    · simp only [Bool.and_eq_true, inB, decide_eq_true_eq] at h; omega
    · split at h
      · simp only [Bool.and_eq_true, inB, decide_eq_true_eq] at h; omega
      · cases h

/-! ## section filterokspec -/
theorem sfo_l0 (s : ByteArray) (hs : s.size ≤ 1048576) (a b c : Int) : ∀ (d k i : Nat), i ≤ s.size → s.size - i = d → d < k → spec_FilterOk.l0 k i a b c s = some (((nb s).drop i).all (fun x => decide (x ≤ 127))) := by
  intro d
  induction d with
  | zero =>
    intro k i h1 h2 hk
    obtain ⟨k, rfl⟩ : ∃ m, k = m + 1 := ⟨k - 1, by omega⟩
    rw [spec_FilterOk.l0, if_neg (by omega), nb_end s i (by omega)]; rfl
  | succ d ih =>
    intro k i h1 h2 hk
    obtain ⟨k, rfl⟩ : ∃ m, k = m + 1 := ⟨k - 1, by omega⟩
    obtain ⟨x, hd, hx, hl⟩ := nb_drop s i (by omega)
    rw [spec_FilterOk.l0, if_pos (by omega), if_pos (by omega), hx, hd, w64s (n := s.size) (by omega) (by omega)]
    by_cases g : x ≤ 127
    · rw [if_neg (by omega), ih k (i + 1) (by omega) (by omega) (by omega)]; simp [g]
    · rw [if_pos (by omega)]; simp [g]
theorem sfo (a b c : Int) (s : ByteArray) (k : Nat) (hk : s.size + 2 < k) : spec_FilterOk.f k a b c s = some (fltB a b c s) := by
  obtain ⟨k, rfl⟩ : ∃ m, k = m + 1 := ⟨k - 1, by omega⟩
  unfold spec_FilterOk.f fltB
  by_cases h0 : a = 0
  · rw [if_pos h0, if_pos h0]
  · rw [if_neg h0, if_neg h0]
    by_cases h1 : a = 1
    · rw [if_pos h1, if_pos h1]
      by_cases hb : b = 0
      · rw [if_pos hb, swithin, swithin]
        simp only [Option.bind_some, hb, decide_true, Bool.true_and]
        cases inB c 1 30 <;> rfl
      · rw [if_neg hb]; simp [hb]
    · rw [if_neg h1, if_neg h1]
      by_cases h2 : a = 2
      · rw [if_pos h2, if_pos h2]
        have jt : spec_FilterOk.j0 (k + 1) true a b c s = some false := by rw [spec_FilterOk.j0, if_pos rfl]
        by_cases hc : c = 0
        · rw [if_pos hc, swithin, swithin]
          simp only [Option.bind_some, hc, decide_true, Bool.true_and]
          rw [hc] at jt
          by_cases hq : inB b 0 3 = true
          · rw [if_pos hq, hq, Bool.true_and]
            by_cases hr : inB (s.size : Int) 20 600 = true
            · have hsz : s.size ≤ 600 := by simp only [inB, decide_eq_true_eq] at hr; omega
              rw [hr, Bool.true_and, spec_FilterOk.j0, if_neg (by decide)]
              have h := sfo_l0 s (by omega) a b 0 s.size k 0 (by omega) (by omega) (by omega)
              simpa using h
            · have hr' : inB (s.size : Int) 20 600 = false := by simpa using hr
              rw [hr', Bool.not_false, jt]; rfl
          · have hq' : inB b 0 3 = false := by simpa using hq
            rw [if_neg hq, hq', jt]; rfl
        · rw [if_neg hc, jt]; simp [hc]
      · rw [if_neg h2, if_neg h2]

/-! ## section putsize -/
theorem strOfNums_size (l : List Int) : (strOfNums l).size = l.length := by simp [strOfNums, ByteArray.size]

/-! ## section putvar -/
theorem or128 : ∀ a : Nat, a < 256 → a ||| 128 = a % 128 + 128 := by decide +kernel
def vb (n : Nat) : List Int := if n < 128 then [(n : Int)] else ((n % 128 + 128 : Nat) : Int) :: vb (n / 128)
termination_by n
decreasing_by omega
theorem vb_small {n : Nat} (h : n < 128) : vb n = [(n : Int)] := by rw [vb, if_pos h]
theorem vb_big {n : Nat} (h : ¬ n < 128) : vb n = ((n % 128 + 128 : Nat) : Int) :: vb (n / 128) := by rw [vb, if_neg h]
theorem ipv_l0 : ∀ (k n : Nat) (acc : List Int), n < 128 ^ (k + 1) → acc.length + k < 140737488355328 → impl_PutVar.l0 (k + 1) n acc = some (strOfNums (acc ++ vb n)) := by
  intro k
  induction k with
  | zero =>
    intro n acc hn hl
    have h : n < 128 := by simpa using hn
    rw [impl_PutVar.l0, if_neg (by omega), if_pos (by omega), vb_small h]
    rw [show ((n : Int) % 256) = n by omega]
  | succ k ih =>
    intro n acc hn hl
    by_cases h : n < 128
    · rw [impl_PutVar.l0, if_neg (by omega), if_pos (by omega), vb_small h]
      rw [show ((n : Int) % 256) = n by omega]
    · rw [impl_PutVar.l0, if_pos (by omega), if_pos (by omega), vb_big h]
      have e1 : ((n : Int) / 128) = ((n / 128 : Nat) : Int) := by omega
      have e2 : ((n : Int) % 256) = ((n % 256 : Nat) : Int) := by omega
      have hm : n % 256 % 128 = n % 128 := by omega
      rw [e1, e2, show (128 : Int) = ((128 : Nat) : Int) from rfl, b_or8 _ _ (by omega) (by omega), or128 _ (by omega), hm]
      rw [ih (n / 128) _ (by rw [Nat.pow_succ] at hn; omega) (by simp; omega)]
      simp
theorem spv_l0 : ∀ (k n : Nat) (acc : List Int), n < 18446744073709551616 → spec_PutVar.l0 k n acc = impl_PutVar.l0 k n acc := by
  intro k
  induction k with
  | zero => intros; rfl
  | succ k ih =>
    intro n acc hn
    rw [impl_PutVar.l0, spec_PutVar.l0]
    by_cases h : n < 128
    · rw [if_neg (by omega : ¬ ((n : Int) ≥ 128)), if_neg (by omega : ¬ ((n : Int) ≥ 128))]
    · rw [if_pos (by omega : (n : Int) ≥ 128), if_pos (by omega : (n : Int) ≥ 128)]
      have e1 : ((n : Int) / 128) = ((n / 128 : Nat) : Int) := by omega
      have e2 : ((n : Int) % 256) = ((n % 256 : Nat) : Int) := by omega
      have hm : n % 256 % 128 = n % 128 := by omega
      have e5 : Go.bits .or .u8 ((n % 256 : Nat) : Int) 128 = ((n % 128 + 128 : Nat) : Int) := by
        rw [show (128 : Int) = ((128 : Nat) : Int) from rfl, b_or8 _ _ (by omega) (by omega), or128 _ (by omega), hm]
      have e3 : IntKind.u64.wrap (Int.tdiv (n : Int) 128) = ((n / 128 : Nat) : Int) := by rw [u64w, Int.tdiv_eq_ediv_of_nonneg (by omega)]; omega
      have e4 : (IntKind.u64.wrap ((Int.tmod (n : Int) 128) + 128)) % 256 = ((n % 128 + 128 : Nat) : Int) := by rw [u64w, Int.tmod_eq_emod_of_nonneg (by omega)]; omega
      rw [e1, e2, e3, e4, e5, ih _ _ (by omega)]
theorem ipv (k : Nat) (hk : 10 ≤ k) (n : Nat) (hn : n < 18446744073709551616) : impl_PutVar.f k n = some (strOfNums (vb n)) := by
  unfold impl_PutVar.f
  exact at_rounds (fun j => impl_PutVar.mono_l j _ _) hk (ipv_l0 9 n [] (by simp; omega) (by simp))
theorem spv (k : Nat) (hk : 10 ≤ k) (n : Nat) (hn : n < 18446744073709551616) : spec_PutVar.f k n = some (strOfNums (vb n)) := by
  have h := ipv k hk n hn
  unfold impl_PutVar.f at h
  unfold spec_PutVar.f
  rw [spv_l0 k n [] hn, h]
theorem vb_len_k : ∀ (k n : Nat), n < 128 ^ (k + 1) → (vb n).length ≤ k + 1 := by
  intro k
  induction k with
  | zero => intro n hn; rw [vb_small (by simpa using hn)]; simp
  | succ k ih =>
    intro n hn
    by_cases h : n < 128
    · rw [vb_small h]; simp
    · rw [vb_big h]
      have := ih (n / 128) (by rw [Nat.pow_succ] at hn; omega)
      simp; omega
theorem vb_len (n : Nat) (hn : n < 18446744073709551616) : (vb n).length ≤ 10 := vb_len_k 9 n (by simp; omega)
theorem vbs_size (n : Nat) : (strOfNums (vb n)).size = (vb n).length := strOfNums_size _

/-! ## section ba -/
theorem nb_append (a b : ByteArray) : nb (a ++ b) = nb a ++ nb b := by
  simp [nb, ByteArray.data_append]
theorem nb_extract (s : ByteArray) (i j : Nat) : nb (s.extract i j) = ((nb s).take j).drop i := by
  rw [List.drop_take]
  simp [nb, ByteArray.data_extract]
theorem nb_inj {a b : ByteArray} (h : nb a = nb b) : a = b := by
  have h1 : a.data.toList = b.data.toList := by
    have h2 : ∀ (l m : List UInt8), l.map UInt8.toNat = m.map UInt8.toNat → l = m := by
      intro l
      induction l with
      | nil => intro m h; cases m with
        | nil => rfl
        | cons y m => simp at h
      | cons x l ih => intro m h; cases m with
        | nil => simp at h
        | cons y m =>
          simp only [List.map_cons, List.cons.injEq] at h
          rw [UInt8.toNat_inj.1 h.1, ih m h.2]
    exact h2 _ _ h
  cases a; cases b; simp_all
theorem nb_nums (l : List Int) (h : ∀ x ∈ l, 0 ≤ x ∧ x < 256) : nb (strOfNums l) = l.map Int.toNat := by
  simp only [nb, strOfNums, List.map_map]
  apply List.map_congr_left
  intro x hx
  have := h x hx
  simp only [Function.comp]
  rw [UInt8.toNat_ofNat']
  exact Nat.mod_eq_of_lt (by omega)
theorem nb_empty : nb (⟨#[]⟩ : ByteArray) = [] := rfl
theorem bsize_append (a b : ByteArray) : (a ++ b).size = a.size + b.size := ByteArray.size_append

theorem flt_small {a b c : Int} {s : ByteArray} (h : fltB a b c s = true) : (0 ≤ a ∧ a ≤ 2) ∧ (0 ≤ b ∧ b ≤ 3) ∧ (0 ≤ c ∧ c ≤ 30) := by
  unfold fltB at h
  split at h
  · simp only [Bool.and_eq_true, beq_iff_eq] at h; omega
  · split at h
    · simp only [Bool.and_eq_true, inB, decide_eq_true_eq] at h; omega
    · split at h
      · simp only [Bool.and_eq_true, inB, decide_eq_true_eq] at h; omega
      · cases h
theorem u64small (n : Nat) (h : n < 18446744073709551616) : IntKind.u64.wrap (n : Int) = n := by rw [u64w]; omega
theorem FnExactFilterText : laws_FnExactFilterText.Pure := by
  intro a b c s _ _ _ hs
  refine ⟨1048600, ?_⟩
  unfold laws_FnExactFilterText.f
  obtain ⟨r, hr, hb⟩ := szfilter_some a b c s hs
  rw [hr]
  simp only [Option.bind_some]
  by_cases h : r < 0
  · rw [if_pos h]
  · have h1 := hb h
    rw [if_neg h]
    simp only [laws_toFilter.f, Option.bind_some]
    unfold spec_FilterText.f impl_FilterText.f
    rw [sfo a b c s _ (by omega), ifo a b c s _ (by omega)]
    simp only [Option.bind_some]
    by_cases g : fltB a b c s = true
    · obtain ⟨⟨a0, a1⟩, ⟨b0, b1⟩, c0, c1⟩ := flt_small g
      obtain ⟨a, rfl⟩ := Int.eq_ofNat_of_zero_le a0
      obtain ⟨b, rfl⟩ := Int.eq_ofNat_of_zero_le b0
      obtain ⟨c, rfl⟩ := Int.eq_ofNat_of_zero_le c0
      rw [if_pos g, if_pos g]
      unfold spec_PutText.f impl_PutText.f impl_putInt.f
      have l1 := vb_len a (by omega); have l2 := vb_len b (by omega); have l3 := vb_len c (by omega); have l4 := vb_len s.size (by omega)
      have v1 := vbs_size a; have v2 := vbs_size b; have v3 := vbs_size c; have v4 := vbs_size s.size
      rw [u64small a (by omega), u64small b (by omega), u64small c (by omega), u64small s.size (by omega)]
      rw [spv _ (by omega) a (by omega), spv _ (by omega) b (by omega), spv _ (by omega) c (by omega), spv _ (by omega) s.size (by omega)]
      rw [ipv _ (by omega) a (by omega), ipv _ (by omega) b (by omega), ipv _ (by omega) c (by omega), ipv _ (by omega) s.size (by omega)]
      simp only [Option.bind_some]
      rw [if_pos (show (strOfNums (vb a)).size + (strOfNums (vb b)).size ≤ 9223372036854775807 by omega)]
      rw [if_pos (show (strOfNums (vb a) ++ strOfNums (vb b)).size + (strOfNums (vb c)).size ≤ 9223372036854775807 by rw [bsize_append]; omega)]
      rw [if_pos (show (strOfNums (vb s.size)).size + s.size ≤ 9223372036854775807 by omega)]
      simp only [Option.bind_some]
      rw [if_pos (show (strOfNums (vb a) ++ strOfNums (vb b) ++ strOfNums (vb c)).size + (strOfNums (vb s.size) ++ s).size ≤ 9223372036854775807 by rw [bsize_append, bsize_append, bsize_append]; omega)]
      simp
    · rw [if_neg g, if_neg g]
      simp

end Go.Proofs.Ytfcjacncllmapab.Pure
