/- The program's BatchEntries returns what the reference's returns, for every batch. Both put the entries in order: the program by the library's stable sort (at most 20 entries: insertion alone), the reference by putting one behind the other into a row in order; the keys' numbers all differ. -/
import Derived.Test.YtfcjacncllmapadQFnExactBatchEntriesy
namespace Go.Proofs.Ytfcjacncllmapad.Pure
open Go.RowKit Go.Proofs.Ytfcjacncllmapad.QFnExactBatchEntries Go.Proofs.YtfcjacncllmapadW.PrintWords Go.Proofs.YtfcjacncllmapadW.PrintLast Go.Proofs.YtfcjacncllmapadW.PrintMore
set_option linter.unusedVariables false
set_option linter.unusedSimpArgs false

/-! ## section isuser -/
def userB (s : ByteArray) : Bool := decide (1 ≤ s.size ∧ s.size ≤ 40)
theorem iuser (s : ByteArray) : impl_isUser.f s = some (userB s) := by
  unfold impl_isUser.f userB
  split
  · congr 1; rw [decide_eq_decide]; omega
  · congr 1; symm; rw [decide_eq_false_iff_not]; omega
theorem suser (s : ByteArray) : spec_l2User.f s = some (userB s) := by
  unfold spec_l2User.f userB
  split
  · congr 1; rw [decide_eq_decide]; omega
  · congr 1; symm; rw [decide_eq_false_iff_not]; omega

/-! ## section within -/
def inB (n lo hi : Int) : Bool := decide (lo ≤ n ∧ n ≤ hi)
theorem iwithin (n lo hi : Int) : impl_within.f n lo hi = some (inB n lo hi) := by
  unfold impl_within.f inB
  split
  · congr 1; rw [decide_eq_decide]; omega
  · congr 1; symm; rw [decide_eq_false_iff_not]; omega
theorem swithin (n lo hi : Int) : spec_l1In.f n lo hi = some (inB n lo hi) := by
  unfold spec_l1In.f inB
  split
  · congr 1; rw [decide_eq_decide]; omega
  · congr 1; symm; rw [decide_eq_false_iff_not]; omega

/-! ## section keyok -/
def keyB (u : ByteArray) (q d : Int) : Bool := userB u && inB q 0 1000000000000 && inB d 0 1
theorem ikeyok (u : ByteArray) (q d : Int) : impl_KeyOk.f u q d = some (keyB u q d) := by
  unfold impl_KeyOk.f keyB
  rw [iuser, iwithin, iwithin]
  simp only [Option.bind_some]
  cases userB u <;> cases inB q 0 1000000000000 <;> cases inB d 0 1 <;> rfl
theorem skeyok (u : ByteArray) (q d : Int) : spec_KeyOk.f u q d = some (keyB u q d) := by
  unfold spec_KeyOk.f keyB
  rw [suser, swithin, swithin]
  simp only [Option.bind_some]
  cases userB u <;> cases inB q 0 1000000000000 <;> cases inB d 0 1 <;> rfl

/-! ## section base -/
/-- an unsigned kind's number that fits is not wrapped -/
theorem wrapU (k : IntKind) (hs : k.signed = false) (n : Nat) (h : n < 2 ^ k.bits) : k.wrap (n : Int) = n := by
  unfold IntKind.wrap
  rw [Int.emod_eq_of_lt (by omega) (by exact_mod_cast h)]
  simp [hs]
/-- bits of unsigned numbers are those of natural numbers -/
theorem b_or (k : IntKind) (hs : k.signed = false) (a b : Nat) (ha : a < 2 ^ k.bits) (hb : b < 2 ^ k.bits) : Go.bits .or k a b = ((a ||| b : Nat) : Int) := by
  simp only [Go.bits, BitVec.ofInt_natCast, BitVec.toNat_or, BitVec.toNat_ofNat, Nat.mod_eq_of_lt ha, Nat.mod_eq_of_lt hb]
  exact wrapU k hs _ (Nat.or_lt_two_pow ha hb)
theorem b_xor (k : IntKind) (hs : k.signed = false) (a b : Nat) (ha : a < 2 ^ k.bits) (hb : b < 2 ^ k.bits) : Go.bits .xor k a b = ((a ^^^ b : Nat) : Int) := by
  simp only [Go.bits, BitVec.ofInt_natCast, BitVec.toNat_xor, BitVec.toNat_ofNat, Nat.mod_eq_of_lt ha, Nat.mod_eq_of_lt hb]
  exact wrapU k hs _ (Nat.xor_lt_two_pow ha hb)
theorem b_and (k : IntKind) (hs : k.signed = false) (a b : Nat) (ha : a < 2 ^ k.bits) (hb : b < 2 ^ k.bits) : Go.bits .and k a b = ((a &&& b : Nat) : Int) := by
  simp only [Go.bits, BitVec.ofInt_natCast, BitVec.toNat_and, BitVec.toNat_ofNat, Nat.mod_eq_of_lt ha, Nat.mod_eq_of_lt hb]
  exact wrapU k hs _ (Nat.and_lt_two_pow _ hb)
theorem b_or8 (a b : Nat) (ha : a < 256) (hb : b < 256) : Go.bits .or .u8 a b = ((a ||| b : Nat) : Int) := b_or .u8 rfl a b ha hb
theorem u64w (x : Int) : IntKind.u64.wrap x = x % 18446744073709551616 := by simp [IntKind.wrap, IntKind.bits, IntKind.signed]

/-! ## section bytes -/
/-- the bytes of a text, as natural numbers -/
def nb (s : ByteArray) : List Nat := s.data.toList.map UInt8.toNat
theorem nb_length (s : ByteArray) : (nb s).length = s.size := by rw [nb, List.length_map, Array.length_toList]; rfl
theorem nb_lt (s : ByteArray) : ∀ b ∈ nb s, b < 256 := by
  intro b hb
  simp only [nb, List.mem_map] at hb
  obtain ⟨u, _, rfl⟩ := hb
  exact u.toNat_lt
theorem bt_nb (s : ByteArray) (i : Nat) (h : i < s.size) : bt s i = (((nb s)[i]'(by rw [nb_length]; exact h) : Nat) : Int) := by
  simp only [bt, Int.toNat_natCast, h, nb]
  simp
  rfl
theorem nb_drop (s : ByteArray) (i : Nat) (h : i < s.size) : ∃ b, (nb s).drop i = b :: (nb s).drop (i + 1) ∧ bt s i = (b : Int) ∧ b < 256 := by
  have hl : i < (nb s).length := by rw [nb_length]; exact h
  exact ⟨(nb s)[i], List.drop_eq_getElem_cons hl, bt_nb s i h, nb_lt s _ (List.getElem_mem hl)⟩
theorem nb_end (s : ByteArray) (i : Nat) (h : s.size ≤ i) : (nb s).drop i = [] := List.drop_eq_nil_of_le (by rw [nb_length]; exact h)
theorem w64 {x : Int} (h0 : -9223372036854775808 ≤ x) (h1 : x < 9223372036854775808) : wrap64 x = x := by unfold wrap64; omega
theorem w64s {i n : Nat} (h : i < n) (hn : n ≤ 140737488351232) : wrap64 ((i : Int) + 1) = ((i + 1 : Nat) : Int) := by rw [w64] <;> omega
theorem bits_range (k : IntKind) (hs : k.signed = false) (op : BinOp) (x y : Int) : 0 ≤ Go.bits op k x y ∧ Go.bits op k x y < 2 ^ k.bits := by
  have hp : (0 : Int) < 2 ^ k.bits := by exact_mod_cast Nat.two_pow_pos k.bits
  unfold Go.bits IntKind.wrap
  simp only [hs, Bool.false_and]
  exact ⟨Int.emod_nonneg _ (by omega), Int.emod_lt_of_pos _ hp⟩

/-! ## section keycmp -/
theorem bl_irrefl : ∀ x : List UInt8, Op.bytesLess x x = false
  | [] => rfl
  | a :: x => by simp [Op.bytesLess, bl_irrefl x]
theorem bl_trans : ∀ x y z : List UInt8, Op.bytesLess x y = true → Op.bytesLess y z = true → Op.bytesLess x z = true
  | _, [], _ => by simp [Op.bytesLess]
  | _, _ :: _, [] => by simp [Op.bytesLess]
  | [], _ :: _, _ :: _ => by simp [Op.bytesLess]
  | a :: x, b :: y, c :: z => by
    intro h1 h2
    simp only [Op.bytesLess, Bool.or_eq_true, Bool.and_eq_true, decide_eq_true_eq, beq_iff_eq] at h1 h2 ⊢
    rcases h1 with h1 | ⟨rfl, h1⟩
    · rcases h2 with h2 | ⟨rfl, h2⟩
      · exact .inl (UInt8.lt_trans h1 h2)
      · exact .inl h1
    · rcases h2 with h2 | ⟨rfl, h2⟩
      · exact .inl h2
      · exact .inr ⟨rfl, bl_trans x y z h1 h2⟩
theorem bl_tri : ∀ x y : List UInt8, Op.bytesLess x y = false → x ≠ y → Op.bytesLess y x = true
  | [], [] => fun _ h => absurd rfl h
  | [], _ :: _ => by simp [Op.bytesLess]
  | _ :: _, [] => by simp [Op.bytesLess]
  | a :: x, b :: y => by
    intro h1 h2
    have h3 : ¬ (a < b ∨ (a = b ∧ Op.bytesLess x y = true)) := by
      intro h
      rw [Op.bytesLess] at h1
      have : (decide (a < b) || (a == b && Op.bytesLess x y)) = true := by simpa using h
      rw [this] at h1; cases h1
    rw [Op.bytesLess]
    simp only [Bool.or_eq_true, Bool.and_eq_true, decide_eq_true_eq, beq_iff_eq]
    by_cases e : a = b
    · subst e
      refine .inr ⟨rfl, bl_tri x y ?_ (fun e => h2 (by rw [e]))⟩
      cases hq : Op.bytesLess x y with
      | false => rfl
      | true => exact absurd (.inr ⟨rfl, hq⟩) h3
    · refine .inl ?_
      have h4 : ¬ a < b := fun h => h3 (.inl h)
      rw [UInt8.lt_iff_toNat_lt] at h4 ⊢
      have h5 : a.toNat ≠ b.toNat := fun h => e (UInt8.toNat_inj.1 h)
      omega
theorem bl_asymm {x y : List UInt8} (h : Op.bytesLess x y = true) : Op.bytesLess y x = false := by
  cases hq : Op.bytesLess y x with
  | false => rfl
  | true => have := bl_trans x y x h hq; rw [bl_irrefl] at this; cases this
/-- texts, numbers and keys compared -/
def cs (x y : List UInt8) : Int := if Op.bytesLess x y = true then -1 else if x = y then 0 else 1
def ci (a b : Int) : Int := if a < b then -1 else if a > b then 1 else 0
def kc (u : ByteArray) (s d : Int) (u' : ByteArray) (s' d' : Int) : Int := if cs u.toList u'.toList = 0 then (if ci s' s = 0 then ci d' d else ci s' s) else cs u.toList u'.toList
theorem cs_self (x : List UInt8) : cs x x = 0 := by unfold cs; rw [bl_irrefl]; simp
theorem cs_zero {x y : List UInt8} : cs x y = 0 ↔ x = y := by
  constructor
  · intro h; unfold cs at h; split at h
    · cases h
    · split at h
      · assumption
      · cases h
  · rintro rfl; exact cs_self _
theorem cs_neg {x y : List UInt8} : cs x y = -1 ↔ Op.bytesLess x y = true := by
  unfold cs; constructor
  · intro h; split at h
    · assumption
    · split at h <;> cases h
  · intro h; rw [if_pos h]
theorem cs_vals (x y : List UInt8) : cs x y = -1 ∨ cs x y = 0 ∨ cs x y = 1 := by unfold cs; split; simp; split <;> simp
theorem cs_anti (x y : List UInt8) : cs x y = - cs y x := by
  by_cases e : x = y
  · subst e; rw [cs_self]; rfl
  · by_cases h : Op.bytesLess x y = true
    · rw [cs_neg.2 h]; unfold cs; rw [bl_asymm h, if_neg (by simp), if_neg (Ne.symm e)]
    · have h2 := bl_tri x y (by simpa using h) e
      rw [cs_neg.2 h2]; unfold cs; rw [if_neg h, if_neg e]; rfl
theorem ccs (x y : ByteArray) : cmp_Compare_string.f x y = some (cs x.toList y.toList) := by
  unfold cmp_Compare_string.f cmp_isNaN_string.f cs
  simp only [Option.bind_some, bne_self_eq_false]
  rw [if_neg (by decide), if_neg (by decide)]
  split
  · rfl
  · split <;> rfl
theorem cci (a b : Int) : cmp_Compare_int64.f a b = some (ci a b) := by
  unfold cmp_Compare_int64.f cmp_isNaN_int64.f ci
  simp only [Option.bind_some, bne_self_eq_false]
  rw [if_neg (by decide), if_neg (by decide)]
  split
  · rfl
  · split <;> rfl
theorem cor3 (k : Nat) (hk : 4 ≤ k) (x y z : Int) : cmp_Or_int.f k [x, y, z] = some (if x = 0 then (if y = 0 then z else y) else x) := by
  obtain ⟨k, rfl⟩ : ∃ m, k = m + 4 := ⟨k - 4, by omega⟩
  have w0 : wrap64 ((0 : Int) + 1) = 1 := by unfold wrap64; omega
  have w1 : wrap64 ((1 : Int) + 1) = 2 := by unfold wrap64; omega
  have w2 : wrap64 ((2 : Int) + 1) = 3 := by unfold wrap64; omega
  have r0 : rd [x, y, z] 0 = x := rfl
  have r1 : rd [x, y, z] 1 = y := rfl
  have r2 : rd [x, y, z] 2 = z := rfl
  unfold cmp_Or_int.f
  rw [cmp_Or_int.l0, if_pos (by simp), if_pos (by decide), if_pos (by simp), r0, w0]
  by_cases hx : x = 0
  · rw [if_pos hx, if_pos hx, cmp_Or_int.l0, if_pos (by simp), if_pos (by decide), if_pos (by simp), r1, w1]
    by_cases hy : y = 0
    · rw [if_pos hy, if_pos hy, cmp_Or_int.l0, if_pos (by simp), if_pos (by decide), if_pos (by simp), r2, w2]
      by_cases hz : z = 0
      · rw [if_pos hz, cmp_Or_int.l0, if_neg (by simp), hz]
      · rw [if_neg hz]
    · rw [if_neg hy, if_neg hy]
  · rw [if_neg hx, if_neg hx]
theorem icmpk (k : Nat) (hk : 4 ≤ k) (u : ByteArray) (s d : Int) (u' : ByteArray) (s' d' : Int) : impl_cmpKeys.f k u s d u' s' d' = some (kc u s d u' s' d') := by
  unfold impl_cmpKeys.f kc
  rw [ccs, cci, cci]
  simp only [Option.bind_some]
  rw [cor3 k hk]; rfl
/-- what the comparison of two keys says: 0 where one is not right -/
def KC (u : ByteArray) (s d : Int) (u' : ByteArray) (s' d' : Int) : Int := if keyB u s d = true ∧ keyB u' s' d' = true then kc u s d u' s' d' else 0

/-! ## section keyord -/
theorem ci_anti (a b : Int) : ci a b = - ci b a := by unfold ci; repeat' split <;> omega
theorem ci_zero {a b : Int} : ci a b = 0 ↔ a = b := by unfold ci; repeat' split <;> omega
theorem kc_anti (u : ByteArray) (s d : Int) (u' : ByteArray) (s' d' : Int) : kc u s d u' s' d' = - kc u' s' d' u s d := by
  unfold kc
  rw [cs_anti u.toList u'.toList, ci_anti s' s, ci_anti d' d]
  by_cases a : cs u'.toList u.toList = 0
  · by_cases b : ci s s' = 0
    · simp [a, b]
    · simp [a, b]
  · simp [a]
theorem kc_vals (u : ByteArray) (s d : Int) (u' : ByteArray) (s' d' : Int) : -1 ≤ kc u s d u' s' d' ∧ kc u s d u' s' d' ≤ 1 := by
  have h := cs_vals u.toList u'.toList
  have hi : ∀ a b, -1 ≤ ci a b ∧ ci a b ≤ 1 := by intro a b; unfold ci; repeat' split <;> omega
  have h1 := hi s' s; have h2 := hi d' d
  unfold kc; split
  · split <;> omega
  · omega
theorem kc_zero {u : ByteArray} {s d : Int} {u' : ByteArray} {s' d' : Int} : kc u s d u' s' d' = 0 ↔ u.toList = u'.toList ∧ s = s' ∧ d = d' := by
  unfold kc
  by_cases a : cs u.toList u'.toList = 0
  · rw [if_pos a]
    have ea := cs_zero.1 a
    by_cases b : ci s' s = 0
    · rw [if_pos b]
      have eb := ci_zero.1 b
      rw [ci_zero]
      constructor
      · intro h; exact ⟨ea, eb.symm, h.symm⟩
      · intro h; exact h.2.2.symm
    · rw [if_neg b]
      constructor
      · intro h; exact absurd h b
      · intro h; exact absurd (ci_zero.2 h.2.1.symm) b
  · rw [if_neg a]
    constructor
    · intro h; exact absurd h a
    · intro h; exact absurd (cs_zero.2 h.1) a
theorem kc_le {u : ByteArray} {s d : Int} {u' : ByteArray} {s' d' : Int} : kc u s d u' s' d' ≤ 0 ↔ Op.bytesLess u.toList u'.toList = true ∨ (u.toList = u'.toList ∧ (s > s' ∨ (s = s' ∧ d ≥ d'))) := by
  unfold kc
  by_cases a : cs u.toList u'.toList = 0
  · rw [if_pos a]
    have ea := cs_zero.1 a
    have hb : ¬ Op.bytesLess u.toList u'.toList = true := by rw [ea, bl_irrefl]; simp
    by_cases b : ci s' s = 0
    · rw [if_pos b]
      have eb := ci_zero.1 b
      constructor
      · intro h; refine .inr ⟨ea, .inr ⟨eb.symm, ?_⟩⟩; unfold ci at h; repeat' split at h <;> omega
      · rintro (h | ⟨_, h⟩)
        · exact absurd h hb
        · unfold ci; repeat' split <;> omega
    · rw [if_neg b]
      have eb : s ≠ s' := fun e => b (ci_zero.2 e.symm)
      constructor
      · intro h; refine .inr ⟨ea, .inl ?_⟩; unfold ci at h; repeat' split at h <;> omega
      · rintro (h | ⟨_, h⟩)
        · exact absurd h hb
        · unfold ci; repeat' split <;> omega
  · rw [if_neg a]
    have ea : ¬ u.toList = u'.toList := fun e => a (cs_zero.2 e)
    constructor
    · intro h
      refine .inl (cs_neg.1 ?_)
      have := cs_vals u.toList u'.toList
      omega
    · rintro (h | ⟨h, _⟩)
      · rw [cs_neg.2 h]; omega
      · exact absurd h ea
theorem kc_trans {u : ByteArray} {s d : Int} {u' : ByteArray} {s' d' : Int} {v : ByteArray} {t e : Int} (h1 : kc u s d u' s' d' ≤ 0) (h2 : kc u' s' d' v t e ≤ 0) : kc u s d v t e ≤ 0 := by
  rw [kc_le] at *
  rcases h1 with h1 | ⟨e1, h1⟩
  · rcases h2 with h2 | ⟨e2, h2⟩
    · exact .inl (bl_trans _ _ _ h1 h2)
    · exact .inl (e2 ▸ h1)
  · rcases h2 with h2 | ⟨e2, h2⟩
    · exact .inl (e1.symm ▸ h2)
    · exact .inr ⟨e1.trans e2, by omega⟩

/-! ## section szops -/
/-- an operation as the program has it -/
def convO (e : S99) : S101 := ⟨e.f0, e.f1, e.f2⟩
theorem rdlo_drop (l : List S99) (i : Nat) (h : i < l.length) : ∃ u, l.drop i = u :: l.drop (i + 1) ∧ rd_T99 l (i : Int) = u ∧ u ∈ l := by
  refine ⟨l[i], List.drop_eq_getElem_cons h, ?_, List.getElem_mem h⟩
  unfold rd_T99
  rw [Int.toNat_natCast, List.getD_eq_getElem?_getD, List.getElem?_eq_getElem h]; rfl
theorem rdop_drop (l : List S101) (i : Nat) (h : i < l.length) : ∃ u, l.drop i = u :: l.drop (i + 1) ∧ rd_T101 l (i : Int) = u ∧ u ∈ l := by
  refine ⟨l[i], List.drop_eq_getElem_cons h, ?_, List.getElem_mem h⟩
  unfold rd_T101
  rw [Int.toNat_natCast, List.getD_eq_getElem?_getD, List.getElem?_eq_getElem h]; rfl
theorem szop_one (q : Int) (u v : ByteArray) (left : Int) (h0 : 0 ≤ left) (h1 : left ≤ 1048576) (hu : u.size ≤ 9223372036854775807) (hv : v.size ≤ 9223372036854775807) : ∃ r, laws_szOp.f q u v left = some r ∧ r ≤ left ∧ (0 ≤ r → u.size ≤ 1048576 ∧ v.size ≤ 1048576) := by
  unfold laws_szOp.f
  have e : wrap64 (left - (u.size : Int)) = left - u.size := by unfold wrap64; omega
  rw [e]
  clear e
  by_cases c : left - (u.size : Int) < 0
  · rw [if_pos c]; exact ⟨-1, rfl, by omega, fun h => by omega⟩
  · rw [if_neg c]
    have e2 : wrap64 (left - (u.size : Int) - (v.size : Int)) = left - u.size - v.size := by unfold wrap64; omega
    rw [e2]
    clear e2
    by_cases c2 : left - (u.size : Int) - (v.size : Int) < 0
    · rw [if_pos c2]; exact ⟨-1, rfl, by omega, fun h => by omega⟩
    · rw [if_neg c2]; exact ⟨_, rfl, by omega, fun h => by omega⟩
theorem szops_l0 (l : List S99) (hs : ∀ u ∈ l, u.f1.size ≤ 9223372036854775807 ∧ u.f2.size ≤ 9223372036854775807) : ∀ (d k i : Nat) (left : Int), i ≤ l.length → l.length - i = d → l.length ≤ 1048576 → d < k → 0 ≤ left → left ≤ 1048576 → ∃ r, laws_szOpS.l0 k l left i = some r ∧ r ≤ 1048576 ∧ (0 ≤ r → ∀ u ∈ l.drop i, u.f1.size ≤ 1048576 ∧ u.f2.size ≤ 1048576) := by
  intro d
  induction d with
  | zero =>
    intro k i left h1 h2 hl hk h0 hle
    obtain ⟨k, rfl⟩ : ∃ m, k = m + 1 := ⟨k - 1, by omega⟩
    rw [laws_szOpS.l0, if_neg (by omega)]
    refine ⟨_, rfl, hle, fun _ => ?_⟩
    rw [List.drop_eq_nil_of_le (by omega)]; simp
  | succ d ih =>
    intro k i left h1 h2 hl hk h0 hle
    obtain ⟨k, rfl⟩ : ∃ m, k = m + 1 := ⟨k - 1, by omega⟩
    obtain ⟨u, hd, hu, hm⟩ := rdlo_drop l i (by omega)
    obtain ⟨r, hr, hrl, hb⟩ := szop_one u.f0 u.f1 u.f2 left h0 hle (hs u hm).1 (hs u hm).2
    rw [laws_szOpS.l0, if_pos (by omega), if_pos (by omega), hu, hr]
    simp only [Option.bind_some]
    by_cases c : r < 0
    · rw [if_pos c]; exact ⟨_, rfl, by omega, fun h => by omega⟩
    · rw [if_neg c, w64s (n := l.length) (by omega) (by omega)]
      obtain ⟨r2, hr2, hl2, hb2⟩ := ih k (i + 1) r (by omega) (by omega) hl (by omega) (by omega) (by omega)
      refine ⟨r2, hr2, hl2, fun h x hx => ?_⟩
      rw [hd] at hx
      rcases List.mem_cons.1 hx with rfl | hx
      · exact hb (by omega)
      · exact hb2 h x hx
theorem szops (l : List S99) (hl : l.length ≤ 9223372036854775807) (hs : ∀ u ∈ l, u.f1.size ≤ 9223372036854775807 ∧ u.f2.size ≤ 9223372036854775807) (k : Nat) (hk : 1048577 ≤ k) : ∃ r, laws_szOpS.f k l 1048576 = some r ∧ r ≤ 1048576 ∧ (¬ r < 0 → l.length ≤ 1048576 ∧ ∀ u ∈ l, u.f1.size ≤ 1048576 ∧ u.f2.size ≤ 1048576) := by
  unfold laws_szOpS.f
  have e : wrap64 (1048576 - (l.length : Int)) = 1048576 - l.length := by unfold wrap64; omega
  rw [e]
  clear e
  by_cases c : 1048576 - (l.length : Int) < 0
  · rw [if_pos c]; exact ⟨_, rfl, by decide, fun h => absurd (by decide) h⟩
  · rw [if_neg c]
    obtain ⟨r, hr, hrl, hb⟩ := szops_l0 l hs l.length k 0 (1048576 - l.length) (by omega) (by omega) (by omega) (by omega) (by omega) (by omega)
    refine ⟨r, hr, hrl, fun h => ⟨by omega, fun u hu => ?_⟩⟩
    exact hb (by omega) u (by simpa using hu)
theorem toops_l0 (l : List S99) (hl : l.length ≤ 1048576) : ∀ (d k i : Nat) (acc : List S101), i ≤ l.length → l.length - i = d → d < k → acc.length = l.length → acc.take i = (l.map convO).take i → laws_toOpS.l0 k l acc i = some (l.map convO) := by
  intro d
  induction d with
  | zero =>
    intro k i acc h1 h2 hk ha ht
    obtain ⟨k, rfl⟩ : ∃ m, k = m + 1 := ⟨k - 1, by omega⟩
    rw [laws_toOpS.l0, if_neg (by omega)]
    rw [List.take_of_length_le (by omega), List.take_of_length_le (by simp; omega)] at ht
    rw [ht]
  | succ d ih =>
    intro k i acc h1 h2 hk ha ht
    obtain ⟨k, rfl⟩ : ∃ m, k = m + 1 := ⟨k - 1, by omega⟩
    obtain ⟨u, hd, hu, hm⟩ := rdlo_drop l i (by omega)
    rw [laws_toOpS.l0, if_pos (by omega), if_pos (by omega), hu]
    simp only [laws_toOp.f, Option.bind_some]
    rw [if_pos (by omega), Int.toNat_natCast, w64s (n := l.length) (by omega) (by omega)]
    refine ih k (i + 1) _ (by omega) (by omega) (by omega) (by simpa using ha) ?_
    have hlt : i < acc.length := by omega
    have hlt2 : i < l.length := by omega
    have hlt3 : i < (l.map convO).length := by simpa using hlt2
    have eu : l[i] = u := by
      have := List.drop_eq_getElem_cons hlt2
      rw [hd] at this
      exact (List.cons.inj this).1.symm
    rw [List.take_succ_eq_append_getElem (by simpa using hlt), List.take_succ_eq_append_getElem hlt3, List.take_set_of_le (by omega), ht, List.getElem_set_self, List.getElem_map, eu]
    rfl
theorem toops (l : List S99) (hl : l.length ≤ 1048576) (k : Nat) (hk : l.length < k) : laws_toOpS.f k l = some (l.map convO) := by
  unfold laws_toOpS.f
  rw [if_pos (by omega), if_pos (by omega)]
  exact toops_l0 l hl l.length k 0 _ (by omega) (by omega) hk (by simp) (by simp)
theorem eqops_l0 (l : List S101) (hl : l.length ≤ 1048576) : ∀ (d k i : Nat), i ≤ l.length → l.length - i = d → d < k → laws_eqOpS.l0 k l l i = some true := by
  intro d
  induction d with
  | zero =>
    intro k i h1 h2 hk
    obtain ⟨k, rfl⟩ : ∃ m, k = m + 1 := ⟨k - 1, by omega⟩
    rw [laws_eqOpS.l0, if_neg (by omega)]
  | succ d ih =>
    intro k i h1 h2 hk
    obtain ⟨k, rfl⟩ : ∃ m, k = m + 1 := ⟨k - 1, by omega⟩
    rw [laws_eqOpS.l0, if_pos (by omega), if_pos (by omega), if_pos (by omega)]
    have e : ∀ a b c, laws_eqOp.f a b c a b c = some true := fun a b c => by simp [laws_eqOp.f]
    rw [e]
    simp only [Option.bind_some]
    rw [if_pos trivial, w64s (n := l.length) (by omega) (by omega)]
    exact ih k (i + 1) (by omega) (by omega) (by omega)
theorem eqops (l : List S101) (hl : l.length ≤ 1048576) (k : Nat) (hk : l.length < k) : laws_eqOpS.f k l l = some true := by
  unfold laws_eqOpS.f
  rw [if_pos rfl]
  exact eqops_l0 l hl l.length k 0 (by omega) (by omega) hk

/-! ## section entryok -/
def entB (u : ByteArray) (q d : Int) (v : ByteArray) : Bool := keyB u q d && (decide (v.size ≤ 200) && (decide (d = 1) || (v.toList == ([] : List UInt8))))
theorem ient (u : ByteArray) (q d : Int) (v : ByteArray) : impl_EntryOk.f u q d v = some (entB u q d v) := by
  unfold impl_EntryOk.f entB
  rw [ikeyok]
  simp only [Option.bind_some]
  cases keyB u q d
  · rfl
  · rw [if_pos rfl]
    by_cases h : v.size ≤ 200
    · rw [if_pos (by omega)]
      by_cases h1 : d = 1 <;> simp [h, h1]
    · rw [if_neg (by omega)]; simp [h]
theorem sent (u : ByteArray) (q d : Int) (v : ByteArray) : spec_EntryOk.f u q d v = some (entB u q d v) := by
  unfold spec_EntryOk.f entB
  rw [skeyok]
  simp only [Option.bind_some]
  cases keyB u q d
  · rfl
  · rw [if_pos rfl]
    by_cases h : v.size ≤ 200
    · rw [if_pos (by omega)]
      by_cases h1 : d = 1 <;> simp [h, h1]
    · rw [if_neg (by omega)]; simp [h]

/-! ## section batchok -/
/-- the entries of a batch's operations, from number i on -/
def bents (seq : Int) : Nat → List S101 → List S78
  | _, [] => []
  | i, o :: r => (⟨⟨o.f1, wrap64 (seq + (i : Int)), o.f0⟩, o.f2⟩ : S78) :: bents seq (i + 1) r
theorem bents_length (seq : Int) : ∀ (l : List S101) (i : Nat), (bents seq i l).length = l.length
  | [], _ => rfl
  | _ :: r, i => by rw [bents, List.length_cons, List.length_cons, bents_length seq r (i + 1)]
def eOk (e : S78) : Bool := entB e.f0.f0 e.f0.f1 e.f0.f2 e.f1
theorem rdien_drop (l : List S78) (i : Nat) (h : i < l.length) : ∃ u, l.drop i = u :: l.drop (i + 1) ∧ rd_T78 l (i : Int) = u ∧ u ∈ l := by
  refine ⟨l[i], List.drop_eq_getElem_cons h, ?_, List.getElem_mem h⟩
  unfold rd_T78
  rw [Int.toNat_natCast, List.getD_eq_getElem?_getD, List.getElem?_eq_getElem h]; rfl
theorem ient_l0 (seq : Int) (l : List S101) (hl : l.length ≤ 1048576) : ∀ (d k i : Nat) (acc : List S78), i ≤ l.length → l.length - i = d → d < k → acc.length = i → impl_Batch_entries.l0 k acc l l.length i seq l = some (acc ++ bents seq i (l.drop i)) := by
  intro d
  induction d with
  | zero =>
    intro k i acc h1 h2 hk ha
    obtain ⟨k, rfl⟩ : ∃ m, k = m + 1 := ⟨k - 1, by omega⟩
    rw [impl_Batch_entries.l0, if_neg (by omega), List.drop_eq_nil_of_le (by omega), bents, List.append_nil]
  | succ d ih =>
    intro k i acc h1 h2 hk ha
    obtain ⟨k, rfl⟩ : ∃ m, k = m + 1 := ⟨k - 1, by omega⟩
    obtain ⟨u, hd, hu, hm⟩ := rdop_drop l i (by omega)
    rw [impl_Batch_entries.l0, if_pos (by omega), if_pos (by omega), if_pos (by omega), if_pos (by omega), hu, w64s (n := l.length) (by omega) (by omega), hd, bents]
    rw [ih k (i + 1) _ (by omega) (by omega) (by omega) (by rw [List.length_append, List.length_cons, List.length_nil]; omega), List.append_assoc]
    rfl
theorem ientries (seq : Int) (l : List S101) (hl : l.length ≤ 1048576) (k : Nat) (hk : l.length < k) : impl_Batch_entries.f k seq l = some (bents seq 0 l) := by
  unfold impl_Batch_entries.f
  have h := ient_l0 seq l hl l.length k 0 [] (by omega) (by omega) hk rfl
  simpa using h
theorem ifind_l0 (l : List S78) (hl : l.length ≤ 1048576) : ∀ (d k i : Nat), i ≤ l.length → l.length - i = d → d < k → ∃ r : Int, impl_Entry_72.l0 k l l.length i = some r ∧ decide (r ≥ 0) = !(l.drop i).all eOk := by
  intro d
  induction d with
  | zero =>
    intro k i h1 h2 hk
    obtain ⟨k, rfl⟩ : ∃ m, k = m + 1 := ⟨k - 1, by omega⟩
    rw [impl_Entry_72.l0, if_neg (by omega), List.drop_eq_nil_of_le (by omega)]
    exact ⟨-1, rfl, rfl⟩
  | succ d ih =>
    intro k i h1 h2 hk
    obtain ⟨k, rfl⟩ : ∃ m, k = m + 1 := ⟨k - 1, by omega⟩
    obtain ⟨u, hd, hu, hm⟩ := rdien_drop l i (by omega)
    rw [impl_Entry_72.l0, if_pos (by omega), if_pos (by omega), if_pos (by omega), hu, impl_BatchOk_1.f, ient, hd]
    simp only [Option.bind_some, List.all_cons]
    rw [show entB u.f0.f0 u.f0.f1 u.f0.f2 u.f1 = eOk u from rfl]
    cases eOk u
    · refine ⟨(i : Int), by simp, by simp⟩
    · rw [if_neg (by simp), w64s (n := l.length) (by omega) (by omega)]
      obtain ⟨r, h1, h2⟩ := ih k (i + 1) (by omega) (by omega) (by omega)
      exact ⟨r, h1, by rw [h2, Bool.true_and]⟩
theorem ihas (l : List S78) (hl : l.length ≤ 1048576) (k : Nat) (hk : l.length < k) : impl_Entry_52.f k l = some (!l.all eOk) := by
  unfold impl_Entry_52.f impl_Entry_72.f
  obtain ⟨r, h1, h2⟩ := ifind_l0 l hl l.length k 0 (by omega) (by omega) hk
  rw [show ((0 : Nat) : Int) = 0 from rfl] at h1
  rw [h1]
  simp only [Option.bind_some]
  rw [h2, List.drop_zero]
/-- a batch is right -/
def batchB (seq : Int) (l : List S101) : Bool := inB l.length 1 20 && (inB seq 1 999999999980 && (bents seq 0 l).all eOk)
theorem ibok (seq : Int) (l : List S101) (hl : l.length ≤ 1048576) (k : Nat) (hk : l.length + 5 < k) : impl_BatchOk.f k seq l = some (batchB seq l) := by
  unfold impl_BatchOk.f batchB
  rw [iwithin, iwithin]
  simp only [Option.bind_some]
  cases inB (l.length : Int) 1 20
  · rfl
  · rw [if_pos rfl]
    cases inB seq 1 999999999980
    · rfl
    · rw [if_pos rfl, ientries seq l hl k (by omega)]
      simp only [Option.bind_some]
      rw [ihas _ (by rw [bents_length]; exact hl) k (by rw [bents_length]; omega)]
      simp

/-! ## section bentries -/
/-- the order of entries -/
def kE (a b : S78) : Int := kc a.f0.f0 a.f0.f1 a.f0.f2 b.f0.f0 b.f0.f1 b.f0.f2
theorem kE_anti (a b : S78) : kE a b = - kE b a := kc_anti _ _ _ _ _ _
theorem kE_lt {a b c : S78} (h1 : kE a b < 0) (h2 : kE b c < 0) : kE a c < 0 := by
  by_cases h : kE a c < 0
  · exact h
  · have h3 : kE c a ≤ 0 := by rw [kE_anti]; omega
    have h4 : kE c b ≤ 0 := kc_trans h3 (show kE a b ≤ 0 by omega)
    rw [kE_anti] at h4; omega
/-- an entry put into an ordered row, from the left; from the right of a row told backwards -/
def ins (e : S78) : List S78 → List S78
  | [] => [e]
  | x :: r => if kE x e ≥ 0 then e :: x :: r else x :: ins e r
def insr (e : S78) : List S78 → List S78
  | [] => [e]
  | x :: r => if kE e x < 0 then x :: insr e r else e :: x :: r
theorem insr_length (e : S78) : ∀ p, (insr e p).length = p.length + 1
  | [] => rfl
  | x :: r => by
    rw [insr]
    split
    · rw [List.length_cons, insr_length e r, List.length_cons]
    · rfl
theorem insr_pass (e : S78) (A : List S78) : ∀ B : List S78, (∀ x ∈ B, kE e x < 0) → insr e (B ++ A) = B ++ insr e A
  | [], _ => rfl
  | x :: r, h => by
    rw [List.cons_append, insr, if_pos (h x List.mem_cons_self), insr_pass e A r (fun y hy => h y (List.mem_cons_of_mem _ hy))]; rfl
theorem insr_stop (e : S78) : ∀ A : List S78, (∀ x ∈ A, ¬ kE e x < 0) → insr e A = e :: A
  | [], _ => rfl
  | x :: r, h => by rw [insr, if_neg (h x List.mem_cons_self)]
/-- a row in order -/
def Ord (l : List S78) : Prop := l.Pairwise fun a b => kE a b < 0
theorem ord_split (e : S78) : ∀ l, Ord l → (∀ x ∈ l, kE x e ≠ 0) → ∃ A B, l = A ++ B ∧ (∀ x ∈ A, kE x e < 0) ∧ (∀ x ∈ B, kE e x < 0) ∧ ins e l = A ++ e :: B
  | [], _, _ => ⟨[], [], rfl, by simp, by simp, rfl⟩
  | x :: r, ho, hn => by
    obtain ⟨h1, h2⟩ := List.pairwise_cons.1 ho
    have hx := hn x List.mem_cons_self
    by_cases c : kE x e ≥ 0
    · refine ⟨[], x :: r, rfl, by simp, ?_, ?_⟩
      · have hx2 : kE e x < 0 := by rw [kE_anti]; omega
        intro y hy
        rcases List.mem_cons.1 hy with rfl | hy
        · exact hx2
        · exact kE_lt hx2 (h1 y hy)
      · rw [ins, if_pos c]; rfl
    · obtain ⟨A, B, e1, hA, hB, e2⟩ := ord_split e r h2 (fun y hy => hn y (List.mem_cons_of_mem _ hy))
      refine ⟨x :: A, B, by rw [e1]; rfl, ?_, hB, by rw [ins, if_neg c, e2]; rfl⟩
      intro y hy
      rcases List.mem_cons.1 hy with rfl | hy
      · omega
      · exact hA y hy
theorem ins_ord (e : S78) (l : List S78) (ho : Ord l) (hn : ∀ x ∈ l, kE x e ≠ 0) : Ord (ins e l) ∧ (ins e l).reverse = insr e l.reverse ∧ ∀ y ∈ ins e l, y = e ∨ y ∈ l := by
  obtain ⟨A, B, e1, hA, hB, e2⟩ := ord_split e l ho hn
  subst e1
  rw [e2]
  obtain ⟨o1, o2, o3⟩ := List.pairwise_append.1 ho
  refine ⟨List.pairwise_append.2 ⟨o1, List.pairwise_cons.2 ⟨hB, o2⟩, ?_⟩, ?_, ?_⟩
  · intro a ha b hb
    rcases List.mem_cons.1 hb with rfl | hb
    · exact hA a ha
    · exact o3 a ha b hb
  · rw [List.reverse_append, List.reverse_append, insr_pass e A.reverse B.reverse (fun x hx => hB x (List.mem_reverse.1 hx)), insr_stop e A.reverse (fun x hx => by
      have h := hA x (List.mem_reverse.1 hx)
      rw [kE_anti]; omega)]
    simp
  · intro y hy
    rcases List.mem_append.1 hy with hy | hy
    · exact .inr (List.mem_append.2 (.inl hy))
    · rcases List.mem_cons.1 hy with rfl | hy
      · exact .inl rfl
      · exact .inr (List.mem_append.2 (.inr hy))
/-- all of a row put in, one behind the other -/
def srt : List S78 → List S78 → List S78
  | L, [] => L
  | L, e :: r => srt (ins e L) r
def srtr : List S78 → List S78 → List S78
  | p, [] => p
  | p, e :: r => srtr (insr e p) r
/-- the entries of a batch have numbers that grow -/
theorem srt_both : ∀ (Q L : List S78) (m : Int), Ord L → (∀ x ∈ L, x.f0.f1 < m) → (Q.Pairwise fun a b => a.f0.f1 < b.f0.f1) → (∀ x ∈ Q, m ≤ x.f0.f1) → (srt L Q).reverse = srtr L.reverse Q
  | [], _, _ => fun _ _ _ _ => rfl
  | e :: r, L, m => by
    intro ho hL hp hQ
    obtain ⟨h1, h2⟩ := List.pairwise_cons.1 hp
    have hn : ∀ x ∈ L, kE x e ≠ 0 := by
      intro x hx h0
      have := (kc_zero.1 h0).2.1
      have ha := hL x hx; have hb := hQ e List.mem_cons_self
      omega
    obtain ⟨i1, i2, i3⟩ := ins_ord e L ho hn
    rw [srt, srtr, ← i2]
    refine srt_both r (ins e L) (e.f0.f1 + 1) i1 ?_ h2 ?_
    · intro y hy
      rcases i3 y hy with rfl | hy
      · omega
      · have := hL y hy; have hb := hQ e List.mem_cons_self
        omega
    · intro y hy
      have := h1 y hy; omega
theorem rdE_mid (p : List S78) (e : S78) (Q : List S78) : rd_T78 (p ++ e :: Q) (p.length : Int) = e := by
  unfold rd_T78
  rw [Int.toNat_natCast, List.getD_eq_getElem?_getD, List.getElem?_append_right (Nat.le_refl _), Nat.sub_self]; rfl
theorem set_mid {α : Type} (e a : α) (Q : List α) : ∀ (p : List α) (n : Nat), p.length = n → (p ++ e :: Q).set n a = p ++ a :: Q
  | [], _, h => by subst h; rfl
  | x :: r, n, h => by
    subst h
    show x :: (r ++ e :: Q).set r.length a = x :: (r ++ a :: Q)
    rw [set_mid e a Q r r.length rfl]
theorem icmpe (k : Nat) (hk : 4 ≤ k) (a b : S78) : impl_cmpEntries.f k a.f0.f0 a.f0.f1 a.f0.f2 a.f1 b.f0.f0 b.f0.f1 b.f0.f2 b.f1 = some (kE a b) := by
  unfold impl_cmpEntries.f
  rw [icmpk k hk]; rfl
/-- the inner loop of the library's insertion sort: one entry moves to its place -/
theorem isort_l1 (n : Int) (x8 : Int) (r : List S78) (m : Nat) (hm : 4 ≤ m) : ∀ (p Q : List S78) (e : S78), p.length + Q.length < 1000 → (∀ k, m ≤ k → impl_Entry_83.l0 k ((insr e p).reverse ++ Q) 0 n (wrap64 (x8 + 1)) = some r) → ∀ k, m + p.length + 1 ≤ k → impl_Entry_83.l1 k (p.reverse ++ e :: Q) 0 n x8 p.length = some r
  | [], Q, e => by
    intro _ hr k hk
    obtain ⟨k, rfl⟩ : ∃ j, k = j + 1 := ⟨k - 1, by omega⟩
    rw [impl_Entry_83.l1, if_neg (by simp)]
    exact hr k (by simp at hk; omega)
  | x :: p, Q, e => by
    intro hl hr k hk
    rw [List.length_cons] at hk hl
    obtain ⟨k, rfl⟩ : ∃ j, k = j + 1 := ⟨k - 1, by omega⟩
    have w : wrap64 (((x :: p).length : Int) - 1) = (p.length : Int) := by
      rw [List.length_cons]; rw [w64] <;> omega
    have hlen : (((x :: p).reverse ++ e :: Q).length : Int) = (p.length : Int) + 1 + 1 + Q.length := by
      rw [List.length_append, List.length_reverse, List.length_cons, List.length_cons]; omega
    have r1 : rd_T78 ((x :: p).reverse ++ e :: Q) (((x :: p).length : Nat) : Int) = e := by
      have := rdE_mid (x :: p).reverse e Q
      rw [List.length_reverse] at this; exact this
    have r2 : rd_T78 ((x :: p).reverse ++ e :: Q) (p.length : Int) = x := by
      have := rdE_mid p.reverse x (e :: Q)
      rw [List.length_reverse] at this
      rw [List.reverse_cons, List.append_assoc]; exact this
    have s1 : ((x :: p).reverse ++ e :: Q).set (p.length + 1) x = p.reverse ++ x :: x :: Q := by
      rw [set_mid _ _ _ _ _ (by rw [List.length_reverse, List.length_cons]), List.reverse_cons, List.append_assoc]; rfl
    have s2 : (p.reverse ++ x :: x :: Q).set p.length e = p.reverse ++ e :: x :: Q := set_mid _ _ _ _ _ (List.length_reverse)
    rw [impl_Entry_83.l1, w, r1, r2, if_pos (by rw [List.length_cons]; omega), if_pos (by omega), if_pos (by rw [hlen, List.length_cons]; omega), if_pos (by omega), if_pos (by rw [hlen]; omega), icmpe k (by omega)]
    simp only [Option.bind_some]
    rw [Int.toNat_natCast, Int.toNat_natCast]
    by_cases c : kE e x < 0
    · rw [if_pos c]
      show impl_Entry_83.l1 k ((((x :: p).reverse ++ e :: Q).set (p.length + 1) x).set p.length e) 0 n x8 p.length = some r
      rw [s1, s2]
      refine isort_l1 n x8 r m hm p (x :: Q) e (by rw [List.length_cons]; omega) (fun k' hk' => ?_) k (by omega)
      have := hr k' hk'
      rw [insr, if_pos c, List.reverse_cons, List.append_assoc] at this
      exact this
    · rw [if_neg c]
      have := hr k (by omega)
      rw [insr, if_neg c, List.reverse_cons, List.append_assoc] at this
      exact this
theorem isort_l0 : ∀ (Q p : List S78), p.length + Q.length < 1000 → ∀ k, Q.length * 1010 + 10 ≤ k → impl_Entry_83.l0 k (p.reverse ++ Q) 0 ((p.length + Q.length : Nat) : Int) p.length = some (srtr p Q).reverse
  | [], p => by
    intro hl k hk
    obtain ⟨k, rfl⟩ : ∃ j, k = j + 1 := ⟨k - 1, by omega⟩
    rw [impl_Entry_83.l0, if_neg (by simp), List.append_nil]; rfl
  | e :: Q, p => by
    intro hl k hk
    rw [List.length_cons] at hk hl
    obtain ⟨k, rfl⟩ : ∃ j, k = j + 1 := ⟨k - 1, by omega⟩
    rw [impl_Entry_83.l0, if_pos (by rw [List.length_cons]; omega), srtr]
    refine isort_l1 _ _ _ (Q.length * 1010 + 10) (by omega) p Q e (by omega) (fun k' hk' => ?_) k (by omega)
    have h := isort_l0 Q (insr e p) (by rw [insr_length]; omega) k' hk'
    rw [insr_length] at h
    rw [w64s (n := 1000) (by omega) (by omega), show p.length + (e :: Q).length = p.length + 1 + Q.length by rw [List.length_cons]; omega]
    exact h
theorem isort (l : List S78) (hl : l.length < 1000) (k : Nat) (hk : l.length * 1010 + 10 ≤ k) : impl_Entry_83.f k l 0 l.length = some (srtr [] l).reverse := by
  unfold impl_Entry_83.f
  have w : wrap64 ((0 : Int) + 1) = ((1 : Nat) : Int) := by rw [w64] <;> omega
  rw [w]
  clear w
  cases l with
  | nil =>
    obtain ⟨k, rfl⟩ : ∃ j, k = j + 1 := ⟨k - 1, by omega⟩
    rw [impl_Entry_83.l0, if_neg (by simp)]; rfl
  | cons e Q =>
    have e1 : (e :: Q).length = Q.length + 1 := List.length_cons
    have e2 : ([e] : List S78).length = 1 := rfl
    have e3 : Q.length ≤ (e :: Q).length := by rw [e1]; exact Nat.le_succ _
    have h := isort_l0 Q [e] (by omega) k (Nat.le_trans (Nat.add_le_add_right (Nat.mul_le_mul_right 1010 e3) 10) hk)
    rw [e2, show 1 + Q.length = (e :: Q).length by omega] at h
    exact h
theorem isort_none (l : List S78) (n : Int) (h0 : 0 ≤ n) (h1 : n < 1000) (k : Nat) (hk : 1 ≤ k) : impl_Entry_83.f k l n n = some l := by
  unfold impl_Entry_83.f
  have w : wrap64 (n + 1) = n + 1 := by rw [w64] <;> omega
  obtain ⟨k, rfl⟩ : ∃ j, k = j + 1 := ⟨k - 1, by omega⟩
  rw [w, impl_Entry_83.l0, if_neg (by omega)]
theorem istable (l : List S78) (hl : l.length ≤ 20) (k : Nat) (hk : 21000 ≤ k) : impl_Entry_81.f k l l.length = some (srtr [] l).reverse := by
  unfold impl_Entry_81.f
  obtain ⟨k, rfl⟩ : ∃ j, k = j + 3 := ⟨k - 3, by omega⟩
  have hend : ∀ t : List S78, impl_Entry_81.l1 (k + 1) t l.length 20 = some t := fun t => by rw [impl_Entry_81.l1, if_neg (by omega)]
  have hend2 : ∀ t : List S78, impl_Entry_81.l1 (k + 2) t l.length 20 = some t := fun t => by rw [impl_Entry_81.l1, if_neg (by omega)]
  rw [impl_Entry_81.l0]
  by_cases c : (20 : Int) ≤ (l.length : Int)
  · have e : l.length = 20 := by omega
    have w : wrap64 ((20 : Int) + 20) = 40 := by rw [w64] <;> omega
    have h := isort l (by omega) (k + 2) (by omega)
    rw [show ((l.length : Nat) : Int) = 20 by omega] at h hend ⊢
    rw [if_pos (by omega), h]
    simp only [Option.bind_some]
    rw [w, impl_Entry_81.l0, if_neg (by omega), isort_none _ 20 (by omega) (by omega) (k + 1) (by omega)]
    simp only [Option.bind_some]
    exact hend _
  · rw [if_neg c, isort l (by omega) (k + 2) (by omega)]
    simp only [Option.bind_some]
    exact hend2 _
theorem iordered (l : List S78) (hl : l.length ≤ 20) (k : Nat) (hk : 21000 ≤ k) : impl_ordered.f k l = some (srtr [] l).reverse := by
  unfold impl_ordered.f impl_Entry_76.f impl_Entry_77.f
  simp only [Option.bind_some, List.nil_append, List.length_nil]
  rw [if_pos (by omega)]
  simp only [Option.bind_some]
  rw [istable l hl k hk]; rfl
theorem ibentries (seq : Int) (l : List S101) (hl : l.length ≤ 1048576) (k : Nat) (hk : 1048700 ≤ k) : impl_BatchEntries.f k seq l = some (if batchB seq l = true then (srtr [] (bents seq 0 l)).reverse else []) := by
  unfold impl_BatchEntries.f
  rw [ibok seq l hl k (by omega)]
  simp only [Option.bind_some]
  by_cases c : batchB seq l = true
  · rw [if_pos c, if_pos c, ientries seq l hl k (by omega)]
    simp only [Option.bind_some]
    have h20 : l.length ≤ 20 := by
      unfold batchB at c
      have := (Bool.and_eq_true _ _ ▸ c).1
      simp only [inB, decide_eq_true_eq] at this
      omega
    rw [iordered _ (by rw [bents_length]; exact h20) k (by omega)]; rfl
  · rw [if_neg c, if_neg c]

/-! ## section batchokspec -/
theorem sbok_l0 (seq : Int) (l : List S101) (hl : l.length ≤ 1048576) : ∀ (d k i : Nat), i ≤ l.length → l.length - i = d → d < k → spec_BatchOk.l0 k i seq l = some ((bents seq i (l.drop i)).all eOk) := by
  intro d
  induction d with
  | zero =>
    intro k i h1 h2 hk
    obtain ⟨k, rfl⟩ : ∃ m, k = m + 1 := ⟨k - 1, by omega⟩
    rw [spec_BatchOk.l0, if_neg (by omega), List.drop_eq_nil_of_le (by omega)]; rfl
  | succ d ih =>
    intro k i h1 h2 hk
    obtain ⟨k, rfl⟩ : ∃ m, k = m + 1 := ⟨k - 1, by omega⟩
    obtain ⟨u, hd, hu, hm⟩ := rdop_drop l i (by omega)
    rw [spec_BatchOk.l0, if_pos (by omega), spec_l7Entry.f, if_pos (by omega), if_pos (by omega), hu, hd, bents]
    simp only [Option.bind_some, List.all_cons]
    rw [sent]
    simp only [Option.bind_some]
    rw [show eOk (⟨⟨u.f1, wrap64 (seq + (i : Int)), u.f0⟩, u.f2⟩ : S78) = entB u.f1 (wrap64 (seq + (i : Int))) u.f0 u.f2 from rfl]
    cases entB u.f1 (wrap64 (seq + (i : Int))) u.f0 u.f2
    · rfl
    · rw [if_pos rfl, w64s (n := l.length) (by omega) (by omega), ih k (i + 1) (by omega) (by omega) (by omega), Bool.true_and]
theorem sbok (seq : Int) (l : List S101) (hl : l.length ≤ 1048576) (k : Nat) (hk : l.length + 5 < k) : spec_BatchOk.f k seq l = some (batchB seq l) := by
  obtain ⟨k, rfl⟩ : ∃ m, k = m + 1 := ⟨k - 1, by omega⟩
  have jt : spec_BatchOk.j0 (k + 1) true seq l = some false := by rw [spec_BatchOk.j0, if_pos rfl]
  unfold spec_BatchOk.f batchB
  by_cases c1 : (l.length : Int) < 1
  · rw [if_pos c1, jt]; simp [inB]; omega
  · rw [if_neg c1]
    by_cases c2 : (l.length : Int) > 20
    · rw [if_pos c2, jt]; simp [inB]; omega
    · rw [if_neg c2, swithin]
      simp only [Option.bind_some]
      have e : inB (l.length : Int) 1 20 = true := by simp only [inB, decide_eq_true_eq]; omega
      rw [e, Bool.true_and]
      cases inB seq 1 999999999980
      · rw [Bool.not_false, jt]; rfl
      · rw [Bool.not_true, spec_BatchOk.j0, if_neg (by decide), Bool.true_and]
        have h := sbok_l0 seq l hl l.length k 0 (by omega) (by omega) (by omega)
        simpa using h

/-! ## section keycmpspec -/
theorem skc_j0 (k : Nat) (u : ByteArray) (s d : Int) (u' : ByteArray) (s' d' : Int) : spec_KeyCmp.j0 (k + 1) false u s d u' s' d' = some (kc u s d u' s' d') := by
  rw [spec_KeyCmp.j0, if_neg (by decide)]
  by_cases e : u.toList = u'.toList
  · have hb : Op.bytesLess u.toList u'.toList = false := by rw [e]; exact bl_irrefl _
    have hc : cs u.toList u'.toList = 0 := cs_zero.2 e
    unfold kc
    rw [hc, if_pos rfl, hb, if_pos e]
    by_cases h1 : s = s'
    · by_cases h2 : d = d'
      · subst h1; subst h2
        rw [if_pos (by simp [e])]
        unfold ci; simp
      · rw [if_neg (by simp [h2]), if_neg (by decide), if_neg (by omega), if_pos h1]
        have c0 : ci s' s = 0 := by unfold ci; rw [if_neg (by omega), if_neg (by omega)]
        rw [c0, if_pos rfl]
        unfold ci
        by_cases h3 : d > d'
        · rw [if_pos h3, if_pos (by omega)]
        · rw [if_neg h3, if_neg (by omega), if_pos (by omega)]
    · rw [if_neg (by simp [h1]), if_neg (by decide)]
      unfold ci
      by_cases h3 : s > s'
      · rw [if_pos h3, if_pos (show s' < s from h3), if_neg (by decide)]
      · rw [if_neg h3, if_neg h1, if_neg (show ¬ s' < s by omega), if_pos (show s' > s by omega), if_neg (by decide)]
  · rw [if_neg (by simp [e])]
    have hc : ¬ cs u.toList u'.toList = 0 := fun h => e (cs_zero.1 h)
    unfold kc
    rw [if_neg hc]
    unfold cs
    by_cases hb : Op.bytesLess u.toList u'.toList = true
    · rw [if_pos hb, if_pos hb]
    · rw [if_neg hb, if_neg hb, if_neg e, if_neg e]
theorem skc (k : Nat) (hk : 1 ≤ k) (u : ByteArray) (s d : Int) (u' : ByteArray) (s' d' : Int) : spec_KeyCmp.f k u s d u' s' d' = some (KC u s d u' s' d') := by
  unfold KC
  obtain ⟨k, rfl⟩ : ∃ m, k = m + 1 := ⟨k - 1, by omega⟩
  unfold spec_KeyCmp.f
  rw [skeyok, skeyok]
  simp only [Option.bind_some]
  by_cases a : keyB u s d = true
  · by_cases b : keyB u' s' d' = true
    · rw [if_pos a, b, if_pos ⟨a, rfl⟩]; exact skc_j0 k u s d u' s' d'
    · have b' : keyB u' s' d' = false := by simpa using b
      rw [if_pos a, b', if_neg (fun h => by cases h.2), spec_KeyCmp.j0, if_pos (by decide)]
  · rw [if_neg a, if_neg (fun h => a h.1), spec_KeyCmp.j0, if_pos rfl]

/-! ## section bentriesspec -/
theorem kE_spec (k : Nat) (hk : 1 ≤ k) (a b : S78) (ha : keyB a.f0.f0 a.f0.f1 a.f0.f2 = true) (hb : keyB b.f0.f0 b.f0.f1 b.f0.f2 = true) : spec_KeyCmp.f k a.f0.f0 a.f0.f1 a.f0.f2 b.f0.f0 b.f0.f1 b.f0.f2 = some (kE a b) := by
  rw [skc k hk]; unfold KC; rw [if_pos ⟨ha, hb⟩]; rfl
theorem put_done (L : List S78) (e : S78) (hL : ∀ x ∈ L, keyB x.f0.f0 x.f0.f1 x.f0.f2 = true) (he : keyB e.f0.f0 e.f0.f1 e.f0.f2 = true) (hn : ∀ x ∈ L, kE x e ≠ 0) (hl : L.length < 1000) : ∀ (d k i : Nat) (acc : List S78), i ≤ L.length → L.length - i = d → 2 * d + 2 ≤ k → acc.length ≤ i + 1 → spec_l8Put.l0 k L acc true i e.f0.f0 e.f0.f1 e.f0.f2 e.f1 = some (acc ++ L.drop i) := by
  intro d
  induction d with
  | zero =>
    intro k i acc h1 h2 hk ha
    obtain ⟨k, rfl⟩ : ∃ m, k = m + 1 := ⟨k - 1, by omega⟩
    rw [spec_l8Put.l0, if_neg (by omega), if_pos rfl, List.drop_eq_nil_of_le (by omega), List.append_nil]
  | succ d ih =>
    intro k i acc h1 h2 hk ha
    obtain ⟨k, rfl⟩ : ∃ m, k = m + 2 := ⟨k - 2, by omega⟩
    obtain ⟨u, hd, hu, hm⟩ := rdien_drop L i (by omega)
    rw [spec_l8Put.l0, if_pos (by omega), if_pos (by omega), hu, kE_spec (k + 1) (by omega) u e (hL u hm) he]
    simp only [Option.bind_some]
    rw [if_pos trivial, spec_l8Put.j1, if_neg (by decide), if_neg (hn u hm), if_pos (by omega), if_pos (by omega), if_pos (by omega), hu, w64s (n := L.length) (by omega) (by omega), hd]
    have h := ih k (i + 1) (acc ++ [u]) (by omega) (by omega) (by omega) (by rw [List.length_append, List.length_cons, List.length_nil]; omega)
    rw [List.append_assoc] at h
    exact h
theorem put_go (L : List S78) (e : S78) (hL : ∀ x ∈ L, keyB x.f0.f0 x.f0.f1 x.f0.f2 = true) (he : keyB e.f0.f0 e.f0.f1 e.f0.f2 = true) (hn : ∀ x ∈ L, kE x e ≠ 0) (hl : L.length < 1000) : ∀ (d k i : Nat) (acc : List S78), i ≤ L.length → L.length - i = d → 2 * d + 2 ≤ k → acc.length ≤ i → spec_l8Put.l0 k L acc false i e.f0.f0 e.f0.f1 e.f0.f2 e.f1 = some (acc ++ ins e (L.drop i)) := by
  intro d
  induction d with
  | zero =>
    intro k i acc h1 h2 hk ha
    obtain ⟨k, rfl⟩ : ∃ m, k = m + 1 := ⟨k - 1, by omega⟩
    rw [spec_l8Put.l0, if_neg (by omega), if_neg (by decide), if_pos (by omega), List.drop_eq_nil_of_le (by omega)]; rfl
  | succ d ih =>
    intro k i acc h1 h2 hk ha
    obtain ⟨k, rfl⟩ : ∃ m, k = m + 2 := ⟨k - 2, by omega⟩
    obtain ⟨u, hd, hu, hm⟩ := rdien_drop L i (by omega)
    rw [spec_l8Put.l0, if_pos (by omega), if_pos (by omega), hu, kE_spec (k + 1) (by omega) u e (hL u hm) he]
    simp only [Option.bind_some]
    rw [if_neg (by decide), hd, ins]
    by_cases c : kE u e ≥ 0
    · rw [if_pos c, spec_l8Put.j1, if_pos (decide_eq_true c), if_pos (by omega)]
      simp only [Option.bind_some]
      rw [if_neg (hn u hm), if_pos (by omega), if_pos (by omega), if_pos (by rw [List.length_append, List.length_cons, List.length_nil]; omega), hu, w64s (n := L.length) (by omega) (by omega)]
      have h := put_done L e hL he hn hl d k (i + 1) (acc ++ [e] ++ [u]) (by omega) (by omega) (by omega) (by rw [List.length_append, List.length_append, List.length_cons, List.length_nil, List.length_cons, List.length_nil]; omega)
      rw [show acc ++ [e] ++ [u] ++ L.drop (i + 1) = acc ++ e :: u :: L.drop (i + 1) by simp] at h
      exact h
    · rw [if_neg c, spec_l8Put.j1, if_neg (by simpa using c), if_neg (hn u hm), if_pos (by omega), if_pos (by omega), if_pos (by omega), hu, w64s (n := L.length) (by omega) (by omega)]
      have h := ih k (i + 1) (acc ++ [u]) (by omega) (by omega) (by omega) (by rw [List.length_append, List.length_cons, List.length_nil]; omega)
      rw [List.append_assoc] at h
      exact h
theorem sput (L : List S78) (e : S78) (hL : ∀ x ∈ L, keyB x.f0.f0 x.f0.f1 x.f0.f2 = true) (he : keyB e.f0.f0 e.f0.f1 e.f0.f2 = true) (hn : ∀ x ∈ L, kE x e ≠ 0) (hl : L.length < 1000) (k : Nat) (hk : 3000 ≤ k) : spec_l8Put.f k L e.f0.f0 e.f0.f1 e.f0.f2 e.f1 = some (ins e L) := by
  unfold spec_l8Put.f
  have h := put_go L e hL he hn hl L.length k 0 [] (by omega) (by omega) (by omega) (by simp)
  rw [List.nil_append, List.drop_zero] at h
  exact h
theorem bents_ord (seq : Int) (h0 : 0 ≤ seq) (h1 : seq ≤ 999999999980) : ∀ (l : List S101) (i : Nat), i + l.length ≤ 20 → ((bents seq i l).Pairwise fun a b => a.f0.f1 < b.f0.f1) ∧ ∀ x ∈ bents seq i l, seq + i ≤ x.f0.f1
  | [], _, _ => ⟨List.Pairwise.nil, by simp [bents]⟩
  | o :: r, i, hi => by
    rw [List.length_cons] at hi
    obtain ⟨p, q⟩ := bents_ord seq h0 h1 r (i + 1) (by omega)
    have w : wrap64 (seq + (i : Int)) = seq + i := by rw [w64] <;> omega
    rw [bents]
    refine ⟨List.pairwise_cons.2 ⟨fun x hx => ?_, p⟩, fun x hx => ?_⟩
    · have := q x hx
      show wrap64 (seq + (i : Int)) < x.f0.f1
      rw [w]; omega
    · rcases List.mem_cons.1 hx with rfl | hx
      · show seq + (i : Int) ≤ wrap64 (seq + (i : Int))
        rw [w]; exact Int.le_refl _
      · have := q x hx; omega
theorem sents_l0 (seq : Int) (h0 : 0 ≤ seq) (h1 : seq ≤ 999999999980) (l : List S101) (hl : l.length ≤ 20) (hk : ∀ x ∈ bents seq 0 l, keyB x.f0.f0 x.f0.f1 x.f0.f2 = true) : ∀ (d k i : Nat) (L : List S78), i ≤ l.length → l.length - i = d → 3000 + d < k → (∀ x ∈ bents seq i (l.drop i), keyB x.f0.f0 x.f0.f1 x.f0.f2 = true) → L.length < 500 + i → Ord L → (∀ x ∈ L, x.f0.f1 < seq + i ∧ keyB x.f0.f0 x.f0.f1 x.f0.f2 = true) → spec_BatchEntries.l0 k L i seq l = some (srt L (bents seq i (l.drop i))) := by
  intro d
  induction d with
  | zero =>
    intro k i L h1 h2 hk hq hL ho hx
    obtain ⟨k, rfl⟩ : ∃ m, k = m + 1 := ⟨k - 1, by omega⟩
    rw [spec_BatchEntries.l0, if_neg (by omega), List.drop_eq_nil_of_le (by omega)]; rfl
  | succ d ih =>
    intro k i L h1 h2 hk hq hL ho hx
    obtain ⟨k, rfl⟩ : ∃ m, k = m + 1 := ⟨k - 1, by omega⟩
    obtain ⟨u, hd, hu, hm⟩ := rdop_drop l i (by omega)
    rw [hd, bents] at hq ⊢
    obtain ⟨e, he⟩ : ∃ e : S78, e = ⟨⟨u.f1, wrap64 (seq + (i : Int)), u.f0⟩, u.f2⟩ := ⟨_, rfl⟩
    have w : e.f0.f1 = seq + i := by rw [he]; show wrap64 (seq + (i : Int)) = _; rw [w64] <;> omega
    rw [← he] at hq ⊢
    have hke := hq e List.mem_cons_self
    have hn : ∀ x ∈ L, kE x e ≠ 0 := by
      intro x hxL hz
      have := (kc_zero.1 hz).2.1
      have := (hx x hxL).1
      omega
    obtain ⟨i1, _, i3⟩ := ins_ord e L ho hn
    have hp := sput L e (fun x h => (hx x h).2) hke hn (by omega) k (by omega)
    rw [spec_BatchEntries.l0, if_pos (by omega), spec_l7Entry.f, if_pos (by omega), if_pos (by omega), hu]
    simp only [Option.bind_some]
    rw [show spec_l8Put.f k L u.f1 (wrap64 (seq + (i : Int))) u.f0 u.f2 = some (ins e L) from by rw [← hp, he]]
    simp only [Option.bind_some]
    rw [w64s (n := l.length) (by omega) (by omega), srt]
    refine ih k (i + 1) (ins e L) (by omega) (by omega) (by omega) (fun x h => hq x (List.mem_cons_of_mem _ h)) ?_ i1 ?_
    · have := congrArg List.length (ins_ord e L ho hn).2.1
      rw [List.length_reverse, insr_length, List.length_reverse] at this
      omega
    · intro y hy
      rcases i3 y hy with rfl | hy
      · exact ⟨by omega, hke⟩
      · have := hx y hy
        exact ⟨by omega, this.2⟩
/-- what both say of a batch's entries -/
def bsort (seq : Int) (l : List S101) : List S78 := if batchB seq l = true then srt [] (bents seq 0 l) else []
theorem batchB_parts {seq : Int} {l : List S101} (c : batchB seq l = true) : l.length ≤ 20 ∧ 1 ≤ seq ∧ seq ≤ 999999999980 ∧ ∀ x ∈ bents seq 0 l, keyB x.f0.f0 x.f0.f1 x.f0.f2 = true := by
  unfold batchB at c
  rw [Bool.and_eq_true, Bool.and_eq_true] at c
  obtain ⟨c1, c2, c3⟩ := c
  simp only [inB, decide_eq_true_eq] at c1 c2
  refine ⟨by omega, c2.1, c2.2, fun x hx => ?_⟩
  have h := List.all_eq_true.1 c3 x hx
  unfold eOk entB at h
  rw [Bool.and_eq_true] at h
  exact h.1
theorem sbentries (seq : Int) (l : List S101) (hl : l.length ≤ 1048576) (k : Nat) (hk : 1048700 ≤ k) : spec_BatchEntries.f k seq l = some (bsort seq l) := by
  unfold spec_BatchEntries.f bsort
  simp only [Option.bind_some]
  rw [sbok seq l hl k (by omega)]
  simp only [Option.bind_some]
  by_cases c : batchB seq l = true
  · rw [if_pos c, if_pos c]
    obtain ⟨c1, c2, c3, c4⟩ := batchB_parts c
    have h := sents_l0 seq (by omega) c3 l c1 c4 l.length k 0 [] (by omega) (by omega) (by omega) (by rw [List.drop_zero]; exact c4) (by simp) List.Pairwise.nil (by simp)
    rw [List.drop_zero] at h
    exact h
  · rw [if_neg c, if_neg c]
theorem ibsort (seq : Int) (l : List S101) (hl : l.length ≤ 1048576) (k : Nat) (hk : 1048700 ≤ k) : impl_BatchEntries.f k seq l = some (bsort seq l) := by
  rw [ibentries seq l hl k hk]
  unfold bsort
  by_cases c : batchB seq l = true
  · rw [if_pos c, if_pos c]
    obtain ⟨c1, c2, c3, c4⟩ := batchB_parts c
    obtain ⟨o1, o2⟩ := bents_ord seq (by omega) c3 l 0 (by omega)
    have h := srt_both (bents seq 0 l) [] seq List.Pairwise.nil (by simp) o1 (fun x hx => by have := o2 x hx; omega)
    rw [List.reverse_nil] at h
    rw [← h, List.reverse_reverse]
  · rw [if_neg c, if_neg c]
theorem srt_length : ∀ (Q L : List S78), (∀ L e, (ins e L).length = L.length + 1) → (srt L Q).length = L.length + Q.length
  | [], _, _ => by simp [srt]
  | e :: r, L, hi => by rw [srt, srt_length r (ins e L) hi, hi, List.length_cons]; omega
theorem ins_length (e : S78) : ∀ L, (ins e L).length = L.length + 1
  | [] => rfl
  | x :: r => by
    rw [ins]
    split
    · rfl
    · rw [List.length_cons, ins_length e r, List.length_cons]
theorem bsort_length (seq : Int) (l : List S101) : (bsort seq l).length ≤ 20 := by
  unfold bsort
  by_cases c : batchB seq l = true
  · rw [if_pos c, srt_length _ _ (fun L e => ins_length e L), bents_length]
    have := (batchB_parts c).1
    simpa using this
  · rw [if_neg c]; simp

/-! ## section markents -/
theorem markb_l0 : ∀ (m n : Nat) (x : ByteArray), n ≤ m → n ≤ 4000000 → x.size + n ≤ 8000000 → ∃ t, ∀ k, n + 1 ≤ k → laws_markText.l0 k n x = some t := by
  intro m
  induction m with
  | zero =>
    intro n x h h2 hx
    refine ⟨(⟨#[109]⟩ : ByteArray) ++ x, fun k hk => ?_⟩
    · obtain ⟨k, rfl⟩ : ∃ j, k = j + 1 := ⟨k - 1, by omega⟩
      rw [laws_markText.l0, if_neg (by omega), if_pos (by omega)]
  | succ m ih =>
    intro n x h h2 hx
    by_cases z : n = 0
    · exact ih n x (by omega) h2 hx
    · have e : wrap64 (Int.tdiv (n : Int) 10) = ((n / 10 : Nat) : Int) := by
        rw [Int.tdiv_eq_ediv_of_nonneg (by omega)]; unfold wrap64; omega
      obtain ⟨t, ht⟩ := ih (n / 10) (strOfNums [(wrap64 (48 + (Int.tmod (n : Int) 10))) % 256] ++ x) (by omega) (by omega)
        (by rw [ByteArray.size_append]; have : (strOfNums [(wrap64 (48 + (Int.tmod (n : Int) 10))) % 256]).size = 1 := by simp [strOfNums, ByteArray.size]
            omega)
      refine ⟨t, fun k hk => ?_⟩
      obtain ⟨k, rfl⟩ : ∃ j, k = j + 1 := ⟨k - 1, by omega⟩
      have h1 : (strOfNums [(wrap64 (48 + (Int.tmod (n : Int) 10))) % 256]).size = 1 := by simp [strOfNums, ByteArray.size]
      rw [laws_markText.l0, if_pos (by omega), e]
      simp only [Option.bind_some]
      rw [if_pos (by rw [h1]; omega)]
      exact ht k (by omega)
theorem markTb : ∃ T : Nat → ByteArray, ∀ n : Nat, n ≤ 4000000 → ∀ k, 4000001 ≤ k → laws_markText.f k n = some (T n) := by
  have h : ∀ n : Nat, ∃ t : ByteArray, n ≤ 4000000 → ∀ k, 4000001 ≤ k → laws_markText.f k n = some t := by
    intro n
    by_cases c : n ≤ 4000000
    · by_cases z : n = 0
      · subst z; exact ⟨_, fun _ k _ => by unfold laws_markText.f; rw [if_pos (by omega)]⟩
      · obtain ⟨t, ht⟩ := markb_l0 n n (⟨#[]⟩ : ByteArray) (Nat.le_refl _) c (by show 0 + n ≤ _; omega)
        refine ⟨t, fun _ k hk => ?_⟩
        unfold laws_markText.f
        rw [if_neg (by omega), ht k (by omega)]
    · exact ⟨⟨#[]⟩, fun x => absurd x c⟩
  exact ⟨fun n => Classical.choose (h n), fun n => Classical.choose_spec (h n)⟩
theorem w64a {a b n : Nat} (h : a + b = n) (hn : n ≤ 9000000) : wrap64 ((a : Int) + (b : Int)) = ((n : Nat) : Int) := by rw [w64] <;> omega
/-- marks into operations: as many numbers as there are cells -/
theorem markops_l0 (T : Nat → ByteArray) (hT : ∀ n : Nat, n ≤ 4000000 → ∀ k, 4000001 ≤ k → laws_markText.f k n = some (T n)) : ∀ (d k i : Nat) (l : List S101), i ≤ l.length → l.length - i = d → l.length ≤ 1048576 → d + 4000001 < k →
    ∃ l', laws_markOpS.l0 k l ((3 * i + 1 : Nat) : Int) i = some (((3 * l.length + 1 : Nat) : Int), l') := by
  intro d
  induction d with
  | zero =>
    intro k i l h1 h2 hl hk
    obtain ⟨k, rfl⟩ : ∃ m, k = m + 1 := ⟨k - 1, by omega⟩
    refine ⟨l, ?_⟩
    rw [laws_markOpS.l0, if_neg (by omega), show i = l.length by omega]
  | succ d ih =>
    intro k i l h1 h2 hl hk
    obtain ⟨k, rfl⟩ : ∃ m, k = m + 1 := ⟨k - 1, by omega⟩
    have w1 : wrap64 (((3 * i + 1 : Nat) : Int) + 1) = ((3 * i + 2 : Nat) : Int) := by rw [w64] <;> omega
    have w2 : wrap64 (((3 * i + 2 : Nat) : Int) + 1) = ((3 * i + 3 : Nat) : Int) := by rw [w64] <;> omega
    have w3 : wrap64 (((3 * i + 3 : Nat) : Int) + 1) = ((3 * (i + 1) + 1 : Nat) : Int) := by rw [w64] <;> omega
    rw [laws_markOpS.l0, if_pos (by omega), if_pos (by omega), w1, w2, w3, hT (3 * i + 2) (by omega) k (by omega), hT (3 * i + 3) (by omega) k (by omega)]
    simp only [Option.bind_some]
    rw [Int.toNat_natCast, w64s (n := l.length) (by omega) (by omega)]
    generalize hl' : (((l.set i _).set i _).set i _ : List S101) = m
    have hm : m.length = l.length := by rw [← hl']; simp
    obtain ⟨l', e⟩ := ih k (i + 1) m (by omega) (by omega) (by omega) (by omega)
    rw [hm] at e
    exact ⟨l', e⟩
theorem markops (l : List S101) (hl : l.length ≤ 1048576) (k : Nat) (hk : 6000000 ≤ k) : ∃ l', laws_markOpS.f k l 1 = some (((3 * l.length + 1 : Nat) : Int), l') := by
  obtain ⟨T, hT⟩ := markTb
  exact markops_l0 T hT l.length k 0 l (by omega) (by omega) hl (by omega)
/-- entry j of a marked row -/
def ME (T : Nat → ByteArray) (j : Nat) : S78 := ⟨⟨T (4 * j + 1), ((4 * j + 2 : Nat) : Int), ((4 * j + 3 : Nat) : Int)⟩, T (4 * j + 4)⟩
theorem rdE_set (l : List S78) (i : Nat) (a : S78) (h : i < l.length) : rd_T78 (l.set i a) (i : Int) = a := by
  unfold rd_T78
  rw [Int.toNat_natCast, List.getD_eq_getElem?_getD, List.getElem?_set_self h]; rfl
theorem marke_l0 (T : Nat → ByteArray) (hT : ∀ n : Nat, n ≤ 4000000 → ∀ k, 4000001 ≤ k → laws_markText.f k n = some (T n)) : ∀ (d k i : Nat) (l : List S78), i ≤ l.length → l.length - i = d → l.length ≤ 1000 → d + 4000001 < k →
    ∃ l', laws_markEntryS.l0 k l ((4 * i + 1 : Nat) : Int) i = some (((4 * l.length + 1 : Nat) : Int), l') ∧ l'.length = l.length ∧ (∀ j, i ≤ j → j < l.length → l'[j]? = some (ME T j)) ∧ ∀ j, j < i → l'[j]? = l[j]? := by
  intro d
  induction d with
  | zero =>
    intro k i l h1 h2 hl hk
    obtain ⟨k, rfl⟩ : ∃ m, k = m + 1 := ⟨k - 1, by omega⟩
    refine ⟨l, ?_, rfl, fun j a b => absurd b (by omega), fun j _ => rfl⟩
    rw [laws_markEntryS.l0, if_neg (by omega), show i = l.length by omega]
  | succ d ih =>
    intro k i l h1 h2 hl hk
    obtain ⟨k, rfl⟩ : ∃ m, k = m + 1 := ⟨k - 1, by omega⟩
    obtain ⟨l', e, hlen, hge, hlt⟩ := ih k (i + 1) (l.set i (ME T i)) (by rw [List.length_set]; omega) (by rw [List.length_set]; omega) (by rw [List.length_set]; omega) (by omega)
    rw [List.length_set] at e hlen hge
    have w1 : wrap64 (((4 * i + 1 : Nat) : Int) + 1) = ((4 * i + 2 : Nat) : Int) := by rw [w64] <;> omega
    have w2 : wrap64 (((4 * i + 2 : Nat) : Int) + 1) = ((4 * i + 3 : Nat) : Int) := by rw [w64] <;> omega
    have w3 : wrap64 (((4 * i + 3 : Nat) : Int) + 1) = ((4 * i + 4 : Nat) : Int) := by rw [w64] <;> omega
    have w4 : wrap64 (((4 * i + 4 : Nat) : Int) + 1) = ((4 * (i + 1) + 1 : Nat) : Int) := by rw [w64] <;> omega
    refine ⟨l', ?_, hlen, ?_, ?_⟩
    · rw [laws_markEntryS.l0, if_pos (by omega), w1, w2, w3, w4, hT (4 * i + 1) (by omega) k (by omega), hT (4 * i + 4) (by omega) k (by omega)]
      simp only [Option.bind_some]
      rw [if_pos (by omega), Int.toNat_natCast, w64s (n := l.length) (by omega) (by omega)]
      have hi : i < l.length := by omega
      simp only [List.set_set, rdE_set l i _ hi]
      exact e
    · intro j a b
      by_cases c : j = i
      · subst c
        rw [hlt j (by omega), List.getElem?_set_self (by omega)]
      · exact hge j (by omega) b
    · intro j a
      rw [hlt j (by omega), List.getElem?_set_ne (by omega)]
theorem helde_l0 (T : Nat → ByteArray) (hT : ∀ n : Nat, n ≤ 4000000 → ∀ k, 4000001 ≤ k → laws_markText.f k n = some (T n)) (l : List S78) (hl : l.length ≤ 1000) (hm : ∀ j, j < l.length → l[j]? = some (ME T j)) : ∀ (d k i : Nat), i ≤ l.length → l.length - i = d → d + 4000001 < k →
    laws_heldEntryS.l0 k l ((4 * i + 1 : Nat) : Int) i = some ((4 * l.length + 1 : Nat) : Int) := by
  intro d
  induction d with
  | zero =>
    intro k i h1 h2 hk
    obtain ⟨k, rfl⟩ : ∃ m, k = m + 1 := ⟨k - 1, by omega⟩
    rw [laws_heldEntryS.l0, if_neg (by omega), show i = l.length by omega]
  | succ d ih =>
    intro k i h1 h2 hk
    obtain ⟨k, rfl⟩ : ∃ m, k = m + 1 := ⟨k - 1, by omega⟩
    have w1 : wrap64 (((4 * i + 1 : Nat) : Int) + 1) = ((4 * i + 2 : Nat) : Int) := by rw [w64] <;> omega
    have w2 : wrap64 (((4 * i + 2 : Nat) : Int) + 1) = ((4 * i + 3 : Nat) : Int) := by rw [w64] <;> omega
    have w3 : wrap64 (((4 * i + 3 : Nat) : Int) + 1) = ((4 * i + 4 : Nat) : Int) := by rw [w64] <;> omega
    have w4 : wrap64 (((4 * i + 4 : Nat) : Int) + 1) = ((4 * (i + 1) + 1 : Nat) : Int) := by rw [w64] <;> omega
    have er : rd_T78 l (i : Int) = ME T i := by
      unfold rd_T78; rw [Int.toNat_natCast, List.getD_eq_getElem?_getD, hm i (by omega)]; rfl
    rw [laws_heldEntryS.l0, if_pos (by omega), if_pos (by omega), w1, w2, w3, w4, hT (4 * i + 1) (by omega) k (by omega), hT (4 * i + 4) (by omega) k (by omega), er]
    simp only [Option.bind_some, ME]
    rw [if_pos trivial, if_pos trivial, if_pos trivial, if_pos trivial, w64s (n := l.length) (by omega) (by omega)]
    exact ih k (i + 1) (by omega) (by omega) (by omega)
theorem markents (l : List S78) (hl : l.length ≤ 1000) : ∃ l', (∀ k, 5000000 ≤ k → laws_markEntryS.f k l 1 = some (((4 * l.length + 1 : Nat) : Int), l')) ∧ ∀ k, 5000000 ≤ k → laws_heldEntryS.f k l' 1 = some ((4 * l.length + 1 : Nat) : Int) := by
  obtain ⟨T, hT⟩ := markTb
  refine ⟨(List.range l.length).map (fun j => ME T j), fun k hk => ?_, fun k hk => ?_⟩
  · obtain ⟨l', e, hlen, hge, _⟩ := marke_l0 T hT l.length k 0 l (by omega) (by omega) hl (by omega)
    have : l' = (List.range l.length).map (fun j => ME T j) := by
      apply List.ext_getElem?
      intro j
      by_cases c : j < l.length
      · rw [hge j (by omega) c, List.getElem?_map, List.getElem?_range c]; rfl
      · rw [List.getElem?_eq_none (by omega), List.getElem?_eq_none (by simp; omega)]
    rw [← this]; exact e
  · have hlen : ((List.range l.length).map (fun j => ME T j)).length = l.length := by simp
    have h := helde_l0 T hT ((List.range l.length).map (fun j => ME T j)) (by omega) (by
      intro j c
      rw [hlen] at c
      rw [List.getElem?_map, List.getElem?_range c]; rfl) l.length k 0 (by omega) (by omega) (by omega)
    rw [hlen] at h
    exact h
theorem eqes_l0 (l : List S78) (hl : l.length ≤ 1048576) : ∀ (d k i : Nat), i ≤ l.length → l.length - i = d → d < k → laws_eqEntryS.l0 k l l i = some true := by
  intro d
  induction d with
  | zero =>
    intro k i h1 h2 hk
    obtain ⟨k, rfl⟩ : ∃ m, k = m + 1 := ⟨k - 1, by omega⟩
    rw [laws_eqEntryS.l0, if_neg (by omega)]
  | succ d ih =>
    intro k i h1 h2 hk
    obtain ⟨k, rfl⟩ : ∃ m, k = m + 1 := ⟨k - 1, by omega⟩
    rw [laws_eqEntryS.l0, if_pos (by omega), if_pos (by omega), if_pos (by omega)]
    have e : laws_eqEntry.f (rd_T78 l (i : Int)).f0.f0 (rd_T78 l (i : Int)).f0.f1 (rd_T78 l (i : Int)).f0.f2 (rd_T78 l (i : Int)).f1 (rd_T78 l (i : Int)).f0.f0 (rd_T78 l (i : Int)).f0.f1 (rd_T78 l (i : Int)).f0.f2 (rd_T78 l (i : Int)).f1 = some true := by simp [laws_eqEntry.f, laws_eqKey.f]
    rw [e]
    simp only [Option.bind_some]
    rw [if_pos trivial, w64s (n := l.length) (by omega) (by omega)]
    exact ih k (i + 1) (by omega) (by omega) (by omega)
theorem eqes (l : List S78) (hl : l.length ≤ 1048576) (k : Nat) (hk : l.length < k) : laws_eqEntryS.f k l l = some true := by
  unfold laws_eqEntryS.f
  rw [if_pos rfl]
  exact eqes_l0 l hl l.length k 0 (by omega) (by omega) hk

theorem FnExactBatchEntries : laws_FnExactBatchEntries.Pure := by
  intro seq l _ ⟨hl, hs⟩
  obtain ⟨K, hK⟩ : ∃ K : Nat, 8000000 ≤ K := ⟨8000000, Nat.le_refl _⟩
  refine ⟨K + 1, ?_⟩
  unfold laws_FnExactBatchEntries.f laws_szBatch.f
  obtain ⟨r, hr, _, hb⟩ := szops l hl (fun z hz => ⟨(hs z hz).2.1, (hs z hz).2.2⟩) (K + 1) (by omega)
  rw [hr]
  simp only [Option.bind_some]
  by_cases c : r < 0
  · rw [if_pos c]; rfl
  · obtain ⟨h1, h2⟩ := hb c
    have h3 : (l.map convO).length ≤ 1048576 := by simpa using h1
    have hto : ∀ k, 8000000 ≤ k → laws_toBatch.f k seq l = some (seq, l.map convO) := fun k hk => by
      unfold laws_toBatch.f; rw [toops l h1 k (by omega)]; rfl
    generalize hq : l.map convO = q at h3 hto
    obtain ⟨X, hX⟩ : ∃ X, X = bsort seq q := ⟨_, rfl⟩
    have hXl : X.length ≤ 20 := by rw [hX]; exact bsort_length seq q
    have hi : ∀ k, 8000000 ≤ k → impl_BatchEntries.f k seq q = some X := fun k hk => by rw [ibsort seq q h3 k (by omega), hX]
    have hsp : spec_BatchEntries.f (K + 1) seq q = some X := by rw [sbentries seq q h3 (K + 1) (by omega), hX]
    have heq : ∀ k, 8000000 ≤ k → laws_eqEntryS.f k X X = some true := fun k hk => eqes X (by omega) k (by omega)
    obtain ⟨m, hm1, hm2⟩ := markents X (by omega)
    obtain ⟨q', ho⟩ := markops q h3 (K + 1) (by omega)
    have hj : laws_FnExactBatchEntries.j0 (K + 1) X X false seq l = some true := by
      rw [laws_FnExactBatchEntries.j0, if_neg (by decide), hm1 K (by omega)]
      simp only [Option.bind_some]
      rw [hm2 K (by omega)]
      simp only [Option.bind_some]
      rw [if_neg (by omega), if_pos trivial, hto K hK]
      simp only [Option.bind_some]
      rw [hi K hK]
      simp only [Option.bind_some]
      rw [heq K hK]
      simp only [Option.bind_some]
      rw [if_pos trivial, if_neg (by omega), if_pos trivial]
    rw [if_neg c]
    simp only [Option.bind_some]
    rw [if_neg c, hto (K + 1) (by omega)]
    simp only [Option.bind_some]
    rw [hsp, hi (K + 1) (by omega)]
    simp only [Option.bind_some]
    rw [heq (K + 1) (by omega)]
    simp only [Option.bind_some]
    rw [if_pos trivial, laws_eqBatch.f, if_pos rfl, eqops q h3 (K + 1) (by omega)]
    simp only [Option.bind_some]
    rw [if_pos trivial]
    simp only [Option.bind_some]
    rw [if_pos trivial, laws_markBatch.f, ho]
    simp only [Option.bind_some]
    rw [if_neg (by omega), Bool.not_true, hj]

end Go.Proofs.Ytfcjacncllmapad.Pure
