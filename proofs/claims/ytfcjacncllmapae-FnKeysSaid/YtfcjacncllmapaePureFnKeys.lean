/- Keys are in order: by user, and of one user the newest first; what is ahead of what is ahead is ahead: at every code. No condition. -/
import Derived.Test.YtfcjacncllmapaeQFnKeysx
namespace Go.Proofs.Ytfcjacncllmapae.Pure
open Go.RowKit Go.Proofs.Ytfcjacncllmapae.QFnKeys Go.Proofs.YtfcjacncllmapaeW.PrintWords Go.Proofs.YtfcjacncllmapaeW.PrintLast Go.Proofs.YtfcjacncllmapaeW.PrintMore
set_option linter.unusedVariables false
set_option linter.unusedSimpArgs false

/-! ## section isuser -/
def userB (s : ByteArray) : Bool := decide (1 ≤ s.size ∧ s.size ≤ 40)
theorem iuser (s : ByteArray) : impl_isUser.f s = some (userB s) := by
  unfold impl_isUser.f userB
  split
  · congr 1; rw [decide_eq_decide]; omega
  · congr 1; symm; rw [decide_eq_false_iff_not]; omega
theorem suser (s : ByteArray) : spec_l2User.f s = some (userB s) := by
  unfold spec_l2User.f userB
  split
  · congr 1; rw [decide_eq_decide]; omega
  · congr 1; symm; rw [decide_eq_false_iff_not]; omega

/-! ## section within -/
def inB (n lo hi : Int) : Bool := decide (lo ≤ n ∧ n ≤ hi)
theorem iwithin (n lo hi : Int) : impl_within.f n lo hi = some (inB n lo hi) := by
  unfold impl_within.f inB
  split
  · congr 1; rw [decide_eq_decide]; omega
  · congr 1; symm; rw [decide_eq_false_iff_not]; omega
theorem swithin (n lo hi : Int) : spec_l1In.f n lo hi = some (inB n lo hi) := by
  unfold spec_l1In.f inB
  split
  · congr 1; rw [decide_eq_decide]; omega
  · congr 1; symm; rw [decide_eq_false_iff_not]; omega

/-! ## section keyok -/
def keyB (u : ByteArray) (q d : Int) : Bool := userB u && inB q 0 1000000000000 && inB d 0 1
theorem ikeyok (u : ByteArray) (q d : Int) : impl_KeyOk.f u q d = some (keyB u q d) := by
  unfold impl_KeyOk.f keyB
  rw [iuser, iwithin, iwithin]
  simp only [Option.bind_some]
  cases userB u <;> cases inB q 0 1000000000000 <;> cases inB d 0 1 <;> rfl
theorem skeyok (u : ByteArray) (q d : Int) : spec_KeyOk.f u q d = some (keyB u q d) := by
  unfold spec_KeyOk.f keyB
  rw [suser, swithin, swithin]
  simp only [Option.bind_some]
  cases userB u <;> cases inB q 0 1000000000000 <;> cases inB d 0 1 <;> rfl

/-! ## section base -/
/-- an unsigned kind's number that fits is not wrapped -/
theorem wrapU (k : IntKind) (hs : k.signed = false) (n : Nat) (h : n < 2 ^ k.bits) : k.wrap (n : Int) = n := by
  unfold IntKind.wrap
  rw [Int.emod_eq_of_lt (by omega) (by exact_mod_cast h)]
  simp [hs]
/-- bits of unsigned numbers are those of natural numbers -/
theorem b_or (k : IntKind) (hs : k.signed = false) (a b : Nat) (ha : a < 2 ^ k.bits) (hb : b < 2 ^ k.bits) : Go.bits .or k a b = ((a ||| b : Nat) : Int) := by
  simp only [Go.bits, BitVec.ofInt_natCast, BitVec.toNat_or, BitVec.toNat_ofNat, Nat.mod_eq_of_lt ha, Nat.mod_eq_of_lt hb]
  exact wrapU k hs _ (Nat.or_lt_two_pow ha hb)
theorem b_xor (k : IntKind) (hs : k.signed = false) (a b : Nat) (ha : a < 2 ^ k.bits) (hb : b < 2 ^ k.bits) : Go.bits .xor k a b = ((a ^^^ b : Nat) : Int) := by
  simp only [Go.bits, BitVec.ofInt_natCast, BitVec.toNat_xor, BitVec.toNat_ofNat, Nat.mod_eq_of_lt ha, Nat.mod_eq_of_lt hb]
  exact wrapU k hs _ (Nat.xor_lt_two_pow ha hb)
theorem b_and (k : IntKind) (hs : k.signed = false) (a b : Nat) (ha : a < 2 ^ k.bits) (hb : b < 2 ^ k.bits) : Go.bits .and k a b = ((a &&& b : Nat) : Int) := by
  simp only [Go.bits, BitVec.ofInt_natCast, BitVec.toNat_and, BitVec.toNat_ofNat, Nat.mod_eq_of_lt ha, Nat.mod_eq_of_lt hb]
  exact wrapU k hs _ (Nat.and_lt_two_pow _ hb)
theorem b_or8 (a b : Nat) (ha : a < 256) (hb : b < 256) : Go.bits .or .u8 a b = ((a ||| b : Nat) : Int) := b_or .u8 rfl a b ha hb
theorem u64w (x : Int) : IntKind.u64.wrap x = x % 18446744073709551616 := by simp [IntKind.wrap, IntKind.bits, IntKind.signed]

/-! ## section bytes -/
/-- the bytes of a text, as natural numbers -/
def nb (s : ByteArray) : List Nat := s.data.toList.map UInt8.toNat
theorem nb_length (s : ByteArray) : (nb s).length = s.size := by rw [nb, List.length_map, Array.length_toList]; rfl
theorem nb_lt (s : ByteArray) : ∀ b ∈ nb s, b < 256 := by
  intro b hb
  simp only [nb, List.mem_map] at hb
  obtain ⟨u, _, rfl⟩ := hb
  exact u.toNat_lt
theorem bt_nb (s : ByteArray) (i : Nat) (h : i < s.size) : bt s i = (((nb s)[i]'(by rw [nb_length]; exact h) : Nat) : Int) := by
  simp only [bt, Int.toNat_natCast, h, nb]
  simp
  rfl
theorem nb_drop (s : ByteArray) (i : Nat) (h : i < s.size) : ∃ b, (nb s).drop i = b :: (nb s).drop (i + 1) ∧ bt s i = (b : Int) ∧ b < 256 := by
  have hl : i < (nb s).length := by rw [nb_length]; exact h
  exact ⟨(nb s)[i], List.drop_eq_getElem_cons hl, bt_nb s i h, nb_lt s _ (List.getElem_mem hl)⟩
theorem nb_end (s : ByteArray) (i : Nat) (h : s.size ≤ i) : (nb s).drop i = [] := List.drop_eq_nil_of_le (by rw [nb_length]; exact h)
theorem w64 {x : Int} (h0 : -9223372036854775808 ≤ x) (h1 : x < 9223372036854775808) : wrap64 x = x := by unfold wrap64; omega
theorem w64s {i n : Nat} (h : i < n) (hn : n ≤ 140737488351232) : wrap64 ((i : Int) + 1) = ((i + 1 : Nat) : Int) := by rw [w64] <;> omega
theorem bits_range (k : IntKind) (hs : k.signed = false) (op : BinOp) (x y : Int) : 0 ≤ Go.bits op k x y ∧ Go.bits op k x y < 2 ^ k.bits := by
  have hp : (0 : Int) < 2 ^ k.bits := by exact_mod_cast Nat.two_pow_pos k.bits
  unfold Go.bits IntKind.wrap
  simp only [hs, Bool.false_and]
  exact ⟨Int.emod_nonneg _ (by omega), Int.emod_lt_of_pos _ hp⟩

/-! ## section keycmp -/
theorem bl_irrefl : ∀ x : List UInt8, Op.bytesLess x x = false
  | [] => rfl
  | a :: x => by simp [Op.bytesLess, bl_irrefl x]
theorem bl_trans : ∀ x y z : List UInt8, Op.bytesLess x y = true → Op.bytesLess y z = true → Op.bytesLess x z = true
  | _, [], _ => by simp [Op.bytesLess]
  | _, _ :: _, [] => by simp [Op.bytesLess]
  | [], _ :: _, _ :: _ => by simp [Op.bytesLess]
  | a :: x, b :: y, c :: z => by
    intro h1 h2
    simp only [Op.bytesLess, Bool.or_eq_true, Bool.and_eq_true, decide_eq_true_eq, beq_iff_eq] at h1 h2 ⊢
    rcases h1 with h1 | ⟨rfl, h1⟩
    · rcases h2 with h2 | ⟨rfl, h2⟩
      · exact .inl (UInt8.lt_trans h1 h2)
      · exact .inl h1
    · rcases h2 with h2 | ⟨rfl, h2⟩
      · exact .inl h2
      · exact .inr ⟨rfl, bl_trans x y z h1 h2⟩
theorem bl_tri : ∀ x y : List UInt8, Op.bytesLess x y = false → x ≠ y → Op.bytesLess y x = true
  | [], [] => fun _ h => absurd rfl h
  | [], _ :: _ => by simp [Op.bytesLess]
  | _ :: _, [] => by simp [Op.bytesLess]
  | a :: x, b :: y => by
    intro h1 h2
    have h3 : ¬ (a < b ∨ (a = b ∧ Op.bytesLess x y = true)) := by
      intro h
      rw [Op.bytesLess] at h1
      have : (decide (a < b) || (a == b && Op.bytesLess x y)) = true := by simpa using h
      rw [this] at h1; cases h1
    rw [Op.bytesLess]
    simp only [Bool.or_eq_true, Bool.and_eq_true, decide_eq_true_eq, beq_iff_eq]
    by_cases e : a = b
    · subst e
      refine .inr ⟨rfl, bl_tri x y ?_ (fun e => h2 (by rw [e]))⟩
      cases hq : Op.bytesLess x y with
      | false => rfl
      | true => exact absurd (.inr ⟨rfl, hq⟩) h3
    · refine .inl ?_
      have h4 : ¬ a < b := fun h => h3 (.inl h)
      rw [UInt8.lt_iff_toNat_lt] at h4 ⊢
      have h5 : a.toNat ≠ b.toNat := fun h => e (UInt8.toNat_inj.1 h)
      omega
theorem bl_asymm {x y : List UInt8} (h : Op.bytesLess x y = true) : Op.bytesLess y x = false := by
  cases hq : Op.bytesLess y x with
  | false => rfl
  | true => have := bl_trans x y x h hq; rw [bl_irrefl] at this; cases this
/-- texts, numbers and keys compared -/
def cs (x y : List UInt8) : Int := if Op.bytesLess x y = true then -1 else if x = y then 0 else 1
def ci (a b : Int) : Int := if a < b then -1 else if a > b then 1 else 0
def kc (u : ByteArray) (s d : Int) (u' : ByteArray) (s' d' : Int) : Int := if cs u.toList u'.toList = 0 then (if ci s' s = 0 then ci d' d else ci s' s) else cs u.toList u'.toList
theorem cs_self (x : List UInt8) : cs x x = 0 := by unfold cs; rw [bl_irrefl]; simp
theorem cs_zero {x y : List UInt8} : cs x y = 0 ↔ x = y := by
  constructor
  · intro h; unfold cs at h; split at h
    · cases h
    · split at h
      · assumption
      · cases h
  · rintro rfl; exact cs_self _
theorem cs_neg {x y : List UInt8} : cs x y = -1 ↔ Op.bytesLess x y = true := by
  unfold cs; constructor
  · intro h; split at h
    · assumption
    · split at h <;> cases h
  · intro h; rw [if_pos h]
theorem cs_vals (x y : List UInt8) : cs x y = -1 ∨ cs x y = 0 ∨ cs x y = 1 := by unfold cs; split; simp; split <;> simp
theorem cs_anti (x y : List UInt8) : cs x y = - cs y x := by
  by_cases e : x = y
  · subst e; rw [cs_self]; rfl
  · by_cases h : Op.bytesLess x y = true
    · rw [cs_neg.2 h]; unfold cs; rw [bl_asymm h, if_neg (by simp), if_neg (Ne.symm e)]
    · have h2 := bl_tri x y (by simpa using h) e
      rw [cs_neg.2 h2]; unfold cs; rw [if_neg h, if_neg e]; rfl
theorem ccs (x y : ByteArray) : cmp_Compare_string.f x y = some (cs x.toList y.toList) := by
  unfold cmp_Compare_string.f cmp_isNaN_string.f cs
  simp only [Option.bind_some, bne_self_eq_false]
  rw [if_neg (by decide), if_neg (by decide)]
  split
  · rfl
  · split <;> rfl
theorem cci (a b : Int) : cmp_Compare_int64.f a b = some (ci a b) := by
  unfold cmp_Compare_int64.f cmp_isNaN_int64.f ci
  simp only [Option.bind_some, bne_self_eq_false]
  rw [if_neg (by decide), if_neg (by decide)]
  split
  · rfl
  · split <;> rfl
theorem cor3 (k : Nat) (hk : 4 ≤ k) (x y z : Int) : cmp_Or_int.f k [x, y, z] = some (if x = 0 then (if y = 0 then z else y) else x) := by
  obtain ⟨k, rfl⟩ : ∃ m, k = m + 4 := ⟨k - 4, by omega⟩
  have w0 : wrap64 ((0 : Int) + 1) = 1 := by unfold wrap64; omega
  have w1 : wrap64 ((1 : Int) + 1) = 2 := by unfold wrap64; omega
  have w2 : wrap64 ((2 : Int) + 1) = 3 := by unfold wrap64; omega
  have r0 : rd [x, y, z] 0 = x := rfl
  have r1 : rd [x, y, z] 1 = y := rfl
  have r2 : rd [x, y, z] 2 = z := rfl
  unfold cmp_Or_int.f
  rw [cmp_Or_int.l0, if_pos (by simp), if_pos (by decide), if_pos (by simp), r0, w0]
  by_cases hx : x = 0
  · rw [if_pos hx, if_pos hx, cmp_Or_int.l0, if_pos (by simp), if_pos (by decide), if_pos (by simp), r1, w1]
    by_cases hy : y = 0
    · rw [if_pos hy, if_pos hy, cmp_Or_int.l0, if_pos (by simp), if_pos (by decide), if_pos (by simp), r2, w2]
      by_cases hz : z = 0
      · rw [if_pos hz, cmp_Or_int.l0, if_neg (by simp), hz]
      · rw [if_neg hz]
    · rw [if_neg hy, if_neg hy]
  · rw [if_neg hx, if_neg hx]
theorem icmpk (k : Nat) (hk : 4 ≤ k) (u : ByteArray) (s d : Int) (u' : ByteArray) (s' d' : Int) : impl_cmpKeys.f k u s d u' s' d' = some (kc u s d u' s' d') := by
  unfold impl_cmpKeys.f kc
  rw [ccs, cci, cci]
  simp only [Option.bind_some]
  rw [cor3 k hk]; rfl
/-- what the comparison of two keys says: 0 where one is not right -/
def KC (u : ByteArray) (s d : Int) (u' : ByteArray) (s' d' : Int) : Int := if keyB u s d = true ∧ keyB u' s' d' = true then kc u s d u' s' d' else 0

/-! ## section keycmpboth -/
theorem ikc (k : Nat) (hk : 4 ≤ k) (u : ByteArray) (s d : Int) (u' : ByteArray) (s' d' : Int) : impl_KeyCmp.f k u s d u' s' d' = some (KC u s d u' s' d') := by
  unfold impl_KeyCmp.f KC
  rw [ikeyok, ikeyok, icmpk k hk]
  simp only [Option.bind_some]
  by_cases a : keyB u s d = true
  · by_cases b : keyB u' s' d' = true
    · rw [if_pos a, if_pos b, if_pos ⟨a, b⟩]
    · rw [if_pos a, if_neg b, if_neg (fun h => b h.2)]
  · rw [if_neg a, if_neg (fun h => a h.1)]

/-! ## section keycmpspec -/
theorem skc_j0 (k : Nat) (u : ByteArray) (s d : Int) (u' : ByteArray) (s' d' : Int) : spec_KeyCmp.j0 (k + 1) false u s d u' s' d' = some (kc u s d u' s' d') := by
  rw [spec_KeyCmp.j0, if_neg (by decide)]
  by_cases e : u.toList = u'.toList
  · have hb : Op.bytesLess u.toList u'.toList = false := by rw [e]; exact bl_irrefl _
    have hc : cs u.toList u'.toList = 0 := cs_zero.2 e
    unfold kc
    rw [hc, if_pos rfl, hb, if_pos e]
    by_cases h1 : s = s'
    · by_cases h2 : d = d'
      · subst h1; subst h2
        rw [if_pos (by simp [e])]
        unfold ci; simp
      · rw [if_neg (by simp [h2]), if_neg (by decide), if_neg (by omega), if_pos h1]
        have c0 : ci s' s = 0 := by unfold ci; rw [if_neg (by omega), if_neg (by omega)]
        rw [c0, if_pos rfl]
        unfold ci
        by_cases h3 : d > d'
        · rw [if_pos h3, if_pos (by omega)]
        · rw [if_neg h3, if_neg (by omega), if_pos (by omega)]
    · rw [if_neg (by simp [h1]), if_neg (by decide)]
      unfold ci
      by_cases h3 : s > s'
      · rw [if_pos h3, if_pos (show s' < s from h3), if_neg (by decide)]
      · rw [if_neg h3, if_neg h1, if_neg (show ¬ s' < s by omega), if_pos (show s' > s by omega), if_neg (by decide)]
  · rw [if_neg (by simp [e])]
    have hc : ¬ cs u.toList u'.toList = 0 := fun h => e (cs_zero.1 h)
    unfold kc
    rw [if_neg hc]
    unfold cs
    by_cases hb : Op.bytesLess u.toList u'.toList = true
    · rw [if_pos hb, if_pos hb]
    · rw [if_neg hb, if_neg hb, if_neg e, if_neg e]
theorem skc (k : Nat) (hk : 1 ≤ k) (u : ByteArray) (s d : Int) (u' : ByteArray) (s' d' : Int) : spec_KeyCmp.f k u s d u' s' d' = some (KC u s d u' s' d') := by
  unfold KC
  obtain ⟨k, rfl⟩ : ∃ m, k = m + 1 := ⟨k - 1, by omega⟩
  unfold spec_KeyCmp.f
  rw [skeyok, skeyok]
  simp only [Option.bind_some]
  by_cases a : keyB u s d = true
  · by_cases b : keyB u' s' d' = true
    · rw [if_pos a, b, if_pos ⟨a, rfl⟩]; exact skc_j0 k u s d u' s' d'
    · have b' : keyB u' s' d' = false := by simpa using b
      rw [if_pos a, b', if_neg (fun h => by cases h.2), spec_KeyCmp.j0, if_pos (by decide)]
  · rw [if_neg a, if_neg (fun h => a h.1), spec_KeyCmp.j0, if_pos rfl]

/-! ## section draw -/
/-- the code that things are drawn from: each cell is a byte -/
def isCode (l : List Int) : Prop := l.length ≤ 1048576 ∧ ∀ x ∈ l, 0 ≤ x ∧ x ≤ 255
theorem code_of {l : List Int} (h : ¬ ((l.length : Int) > 1048576)) (hw : ∀ x ∈ l, (Lit.int .u8 x).wf = true) : isCode l := by
  refine ⟨by omega, fun x hx => ?_⟩
  have := hw x hx
  simp [Lit.wf, IntKind.min, IntKind.max, IntKind.bits, IntKind.signed] at this
  omega
def posOk (l : List Int) (p : Int) : Prop := 0 ≤ p ∧ p ≤ l.length
theorem rd_code {l : List Int} (h : isCode l) (i : Int) : 0 ≤ rd l i ∧ rd l i ≤ 255 := by
  unfold rd
  rw [List.getD_eq_getElem?_getD]
  cases hi : l[i.toNat]? with
  | none => simp
  | some b => simpa using h.2 b (List.mem_of_getElem? hi)
theorem dnext {l : List Int} (h : isCode l) {p : Int} (hp : posOk l p) : ∃ v q, spec_l1Rd_next.f l p = some (v, q) ∧ 0 ≤ v ∧ v ≤ 255 ∧ posOk l q := by
  have hl := h.1
  obtain ⟨h0, h1⟩ := hp
  unfold spec_l1Rd_next.f
  by_cases c : p ≥ (l.length : Int)
  · rw [if_pos c]
    exact ⟨0, p, rfl, by omega, by omega, h0, h1⟩
  · have e1 : wrap64 (p + 1) = p + 1 := by unfold wrap64; omega
    have e2 : wrap64 (p + 1 - 1) = p := by unfold wrap64; omega
    have hr := rd_code h p
    have e3 : wrap64 (rd l p) = rd l p := by unfold wrap64; omega
    rw [if_neg c, e1, e2, if_pos h0, if_pos (by omega), e3]
    exact ⟨_, _, rfl, hr.1, hr.2, by omega, by omega⟩
theorem dbelow {l : List Int} (h : isCode l) {p : Int} (hp : posOk l p) {n : Int} (hn : 1 ≤ n) : ∃ v q, spec_l1Rd_below.f l p n = some (v, q) ∧ 0 ≤ v ∧ v < n ∧ posOk l q := by
  unfold spec_l1Rd_below.f
  by_cases c : n ≤ 1
  · rw [if_pos c]
    exact ⟨0, p, rfl, by omega, by omega, hp⟩
  · rw [if_neg c]
    obtain ⟨v, q, e, h0, h1, hq⟩ := dnext h hp
    by_cases c2 : n ≤ 256
    · rw [if_pos c2, e]
      simp only [Option.bind_some]
      rw [if_neg (by omega)]
      refine ⟨_, _, rfl, ?_, ?_, hq⟩
      · rw [Int.tmod_eq_emod_of_nonneg h0]; exact Int.emod_nonneg _ (by omega)
      · rw [Int.tmod_eq_emod_of_nonneg h0]; exact Int.emod_lt_of_pos _ (by omega)
    · rw [if_neg c2, e]
      simp only [Option.bind_some]
      obtain ⟨v2, q2, e2, h2, h3, hq2⟩ := dnext h hq
      rw [e2]
      simp only [Option.bind_some]
      rw [if_neg (by omega)]
      have ew : wrap64 (wrap64 (v * 256) + v2) = v * 256 + v2 := by unfold wrap64; omega
      rw [ew]
      refine ⟨_, _, rfl, ?_, ?_, hq2⟩
      · rw [Int.tmod_eq_emod_of_nonneg (by omega)]; exact Int.emod_nonneg _ (by omega)
      · rw [Int.tmod_eq_emod_of_nonneg (by omega)]; exact Int.emod_lt_of_pos _ (by omega)
theorem posOk0 (l : List Int) : posOk l 0 := ⟨Int.le_refl _, by omega⟩

/-! ## section drawuser -/
theorem duser {l : List Int} (h : isCode l) {p : Int} (hp : posOk l p) : ∃ s q, spec_l1Rd_user.f l p = some (s, q) ∧ 1 ≤ s.size ∧ s.size ≤ 4 ∧ posOk l q := by
  unfold spec_l1Rd_user.f
  simp only [Option.bind_some]
  obtain ⟨v, r, e2, hv0, hv1, hr⟩ := dbelow h hp (n := 10) (by omega)
  rw [e2]
  simp only [Option.bind_some]
  rw [if_pos hv0, if_pos (by simpa using hv1)]
  obtain ⟨n, rfl⟩ := Int.eq_ofNat_of_zero_le hv0
  have hn : n < 10 := by omega
  have key : ∀ n, n < 10 → 1 ≤ (rdOf ByteArray.empty ([(⟨#[97]⟩ : ByteArray), (⟨#[98]⟩ : ByteArray), (⟨#[97, 98]⟩ : ByteArray), (⟨#[97, 98, 99]⟩ : ByteArray), (⟨#[97, 98, 100]⟩ : ByteArray), (⟨#[107, 101, 121]⟩ : ByteArray), (⟨#[107, 101, 121, 49]⟩ : ByteArray), (⟨#[107, 101, 121, 50]⟩ : ByteArray), (⟨#[122, 122]⟩ : ByteArray), (⟨#[97, 0]⟩ : ByteArray)] : List ByteArray) ((n : Nat) : Int)).size ∧ (rdOf ByteArray.empty ([(⟨#[97]⟩ : ByteArray), (⟨#[98]⟩ : ByteArray), (⟨#[97, 98]⟩ : ByteArray), (⟨#[97, 98, 99]⟩ : ByteArray), (⟨#[97, 98, 100]⟩ : ByteArray), (⟨#[107, 101, 121]⟩ : ByteArray), (⟨#[107, 101, 121, 49]⟩ : ByteArray), (⟨#[107, 101, 121, 50]⟩ : ByteArray), (⟨#[122, 122]⟩ : ByteArray), (⟨#[97, 0]⟩ : ByteArray)] : List ByteArray) ((n : Nat) : Int)).size ≤ 4 := by decide +kernel
  have := key n hn
  exact ⟨_, _, rfl, this.1, this.2, hr⟩

/-! ## section drawword -/
theorem dword_l0 {l : List Int} (h : isCode l) : ∀ (d k i : Nat) (x p : Int), i ≤ 8 → 8 - i = d → d < k → 0 ≤ x → x < 18446744073709551616 → posOk l p → ∃ v q, spec_l1Rd_word.l0 k x i l p = some (v, q) ∧ 0 ≤ v ∧ v < 18446744073709551616 ∧ posOk l q := by
  intro d
  induction d with
  | zero =>
    intro k i x p h1 h2 hk hx0 hx1 hp
    obtain ⟨k, rfl⟩ : ∃ m, k = m + 1 := ⟨k - 1, by omega⟩
    rw [spec_l1Rd_word.l0, if_neg (by omega)]
    exact ⟨_, _, rfl, hx0, hx1, hp⟩
  | succ d ih =>
    intro k i x p h1 h2 hk hx0 hx1 hp
    obtain ⟨k, rfl⟩ : ∃ m, k = m + 1 := ⟨k - 1, by omega⟩
    obtain ⟨v, q, e, _, _, hq⟩ := dnext h hp
    have ei : wrap64 ((i : Int) + 1) = ((i + 1 : Nat) : Int) := by unfold wrap64; omega
    rw [spec_l1Rd_word.l0, if_pos (by omega), e]
    simp only [Option.bind_some]
    rw [ei]
    have hb := bits_range .u64 rfl .or (IntKind.u64.wrap (x * 256)) (IntKind.u64.wrap v)
    exact ih k (i + 1) _ q (by omega) (by omega) (by omega) hb.1 hb.2 hq
theorem dword {l : List Int} (h : isCode l) {p : Int} (hp : posOk l p) {k : Nat} (hk : 9 ≤ k) : ∃ v q, spec_l1Rd_word.f k l p = some (v, q) ∧ 0 ≤ v ∧ v < 18446744073709551616 ∧ posOk l q := by
  unfold spec_l1Rd_word.f
  exact dword_l0 h 8 k 0 0 p (by omega) (by omega) (by omega) (by omega) (by omega) hp

/-! ## section drawnear -/
theorem dnear {l : List Int} (h : isCode l) {p : Int} (hp : posOk l p) {k : Nat} (hk : 9 ≤ k) {lo hi : Int} (h0 : 0 ≤ lo) (h1 : lo ≤ hi) (h2 : hi ≤ 1000000000000000) : ∃ v q, spec_l1Rd_near.f k l p lo hi = some (v, q) ∧ lo ≤ v ∧ v ≤ hi ∧ posOk l q := by
  unfold spec_l1Rd_near.f
  obtain ⟨v, q, e, _, _, hq⟩ := dbelow h hp (n := 8) (by omega)
  rw [e]
  simp only [Option.bind_some]
  by_cases c0 : v = 0
  · rw [if_pos c0]; exact ⟨_, _, rfl, by omega, by omega, hq⟩
  · rw [if_neg c0]
    by_cases c1 : v = 1
    · rw [if_pos c1]; exact ⟨_, _, rfl, by omega, by omega, hq⟩
    · rw [if_neg c1, if_neg (by omega)]
      obtain ⟨x, r, e2, hx0, hx1, hr⟩ := dword h hq hk
      rw [e2]
      simp only [Option.bind_some]
      have ew : IntKind.u64.wrap (wrap64 ((wrap64 (hi - lo)) + 1)) = hi - lo + 1 := by
        have e3 : wrap64 (hi - lo) = hi - lo := by unfold wrap64; omega
        have e4 : wrap64 (hi - lo + 1) = hi - lo + 1 := by unfold wrap64; omega
        rw [e3, e4, u64w]; omega
      rw [ew, if_neg (by omega)]
      have hm : 0 ≤ Int.tmod (x / 2) (hi - lo + 1) ∧ Int.tmod (x / 2) (hi - lo + 1) < hi - lo + 1 := by
        rw [Int.tmod_eq_emod_of_nonneg (by omega)]
        exact ⟨Int.emod_nonneg _ (by omega), Int.emod_lt_of_pos _ (by omega)⟩
      have ez : wrap64 (lo + (wrap64 (Int.tmod (x / 2) (hi - lo + 1)))) = lo + Int.tmod (x / 2) (hi - lo + 1) := by
        have e5 : wrap64 (Int.tmod (x / 2) (hi - lo + 1)) = Int.tmod (x / 2) (hi - lo + 1) := by unfold wrap64; omega
        rw [e5]; unfold wrap64; omega
      rw [ez]
      exact ⟨_, _, rfl, by omega, by omega, hr⟩

/-! ## section drawonce -/
theorem donce {l : List Int} (h : isCode l) {p : Int} (hp : posOk l p) {n : Int} (hn : 1 ≤ n) : ∃ v q, spec_l1Rd_once.f l p n = some (v, q) ∧ posOk l q := by
  unfold spec_l1Rd_once.f
  obtain ⟨v, q, e, _, _, hq⟩ := dbelow h hp hn
  rw [e]
  exact ⟨_, _, rfl, hq⟩

/-! ## section drawoff -/
def i64r (v : Int) : Prop := -9223372036854775808 ≤ v ∧ v ≤ 9223372036854775807
theorem doff {l : List Int} (h : isCode l) {p : Int} (hp : posOk l p) {k : Nat} (hk : 9 ≤ k) {lo hi : Int} (h0 : 0 ≤ lo) (h1 : lo ≤ hi) (h2 : hi ≤ 1000000000000000) : ∃ v q, spec_l1Rd_off.f k l p lo hi = some (v, q) ∧ i64r v ∧ posOk l q := by
  unfold spec_l1Rd_off.f
  obtain ⟨b, q, e, hq⟩ := donce h hp (n := 24) (by omega)
  rw [e]
  simp only [Option.bind_some]
  by_cases c : b = true
  · rw [if_pos c]
    obtain ⟨v, r, e2, hv0, hv1, hr⟩ := dbelow h hq (n := 4) (by omega)
    rw [e2]
    simp only [Option.bind_some]
    rw [if_pos hv0, if_pos (by simpa using hv1)]
    have e3 : wrap64 (lo - 1) = lo - 1 := by unfold wrap64; omega
    have e4 : wrap64 (hi + 1) = hi + 1 := by unfold wrap64; omega
    rw [e3, e4]
    refine ⟨_, _, rfl, ?_, hr⟩
    obtain ⟨n, rfl⟩ := Int.eq_ofNat_of_zero_le hv0
    have hn : n < 4 := by omega
    unfold rd i64r
    rw [Int.toNat_natCast]
    match n, hn with
    | 0, _ => simp; omega
    | 1, _ => simp; omega
    | 2, _ => simp
    | 3, _ => simp
  · rw [if_neg c]
    obtain ⟨v, r, e2, a, b, hr⟩ := dnear h hq hk h0 h1 h2
    rw [e2]
    exact ⟨_, _, rfl, ⟨by omega, by omega⟩, hr⟩

/-! ## section putsize -/
theorem strOfNums_size (l : List Int) : (strOfNums l).size = l.length := by simp [strOfNums, ByteArray.size]

/-! ## section drawbytes -/
theorem dbytes_l0 {l : List Int} (h : isCode l) : ∀ (d k : Nat) (acc : List Int) (p : Int), d < k → acc.length + d < 140737488355328 → (∀ x ∈ acc, 0 ≤ x ∧ x < 256) → posOk l p → ∃ zs q, spec_l1Rd_bytes.l0 k acc d l p = some (strOfNums zs, q) ∧ zs.length = acc.length + d ∧ (∀ x ∈ zs, 0 ≤ x ∧ x < 256) ∧ posOk l q := by
  intro d
  induction d with
  | zero =>
    intro k acc p hk hl ha hp
    obtain ⟨k, rfl⟩ : ∃ m, k = m + 1 := ⟨k - 1, by omega⟩
    rw [spec_l1Rd_bytes.l0, if_neg (by omega)]
    exact ⟨acc, p, rfl, by omega, ha, hp⟩
  | succ d ih =>
    intro k acc p hk hl ha hp
    obtain ⟨k, rfl⟩ : ∃ m, k = m + 1 := ⟨k - 1, by omega⟩
    obtain ⟨v, q, e, v0, v1, hq⟩ := dbelow h hp (n := 256) (by omega)
    have ed : wrap64 (((d + 1 : Nat) : Int) - 1) = (d : Int) := by unfold wrap64; omega
    rw [spec_l1Rd_bytes.l0, if_pos (by omega), e]
    simp only [Option.bind_some]
    rw [if_pos (by omega), ed]
    obtain ⟨zs, r, e2, hz, hb, hr⟩ := ih k (acc ++ [v % 256]) q (by omega) (by simp; omega) (by
      intro x hx
      rcases List.mem_append.1 hx with hx | hx
      · exact ha x hx
      · simp at hx; omega) hq
    exact ⟨zs, r, e2, by rw [hz]; simp; omega, hb, hr⟩
/-- some bytes are drawn: at most 'most' -/
theorem dbytes {l : List Int} (h : isCode l) {p : Int} (hp : posOk l p) {most k : Nat} (hm : most ≤ 1000) (hk : most < k) : ∃ s q, spec_l1Rd_bytes.f k l p (most : Int) = some (s, q) ∧ s.size ≤ most ∧ posOk l q := by
  unfold spec_l1Rd_bytes.f
  have em : wrap64 ((most : Int) + 1) = (most : Int) + 1 := by unfold wrap64; omega
  rw [em]
  obtain ⟨v, q, e, v0, v1, hq⟩ := dbelow h hp (n := (most : Int) + 1) (by omega)
  rw [e]
  simp only [Option.bind_some]
  obtain ⟨d, rfl⟩ := Int.eq_ofNat_of_zero_le v0
  obtain ⟨zs, r, e2, hz, _, hr⟩ := dbytes_l0 h d k [] q (by omega) (by simp; omega) (by simp) hq
  exact ⟨_, r, e2, by rw [strOfNums_size, hz]; simp; omega, hr⟩

/-! ## section drawkey -/
/-- a key is drawn: any key whose user is short -/
theorem dkey {l : List Int} (h : isCode l) {p : Int} (hp : posOk l p) {k : Nat} (hk : 46 ≤ k) : ∃ u s d q, spec_l1Rd_key.f k l p = some (u, s, d, q) ∧ u.size ≤ 45 ∧ i64r s ∧ i64r d ∧ posOk l q := by
  unfold spec_l1Rd_key.f
  obtain ⟨u, q1, e1, hu0, hu1, hq1⟩ := duser h hp
  rw [e1]; simp only [Option.bind_some]
  obtain ⟨s, q2, e2, hs0, hs1, hq2⟩ := dnear h hq1 (k := k) (by omega) (lo := 0) (hi := 12) (by omega) (by omega) (by omega)
  rw [e2]; simp only [Option.bind_some]
  obtain ⟨d, q3, e3, hd0, hd1, hq3⟩ := dbelow h hq2 (n := 2) (by omega)
  rw [e3]; simp only [Option.bind_some]
  obtain ⟨c, q4, e4, hc0, hc1, hq4⟩ := dbelow h hq3 (n := 24) (by omega)
  rw [e4]; simp only [Option.bind_some]
  have hs : i64r s := ⟨by omega, by omega⟩
  have hd : i64r d := ⟨by omega, by omega⟩
  split
  · obtain ⟨v, q5, e5, hv, hq5⟩ := doff h hq4 (k := k) (by omega) (lo := 0) (hi := 1000000000000) (by omega) (by omega) (by omega)
    rw [e5]; exact ⟨_, _, _, _, rfl, by omega, hv, hd, hq5⟩
  · split
    · obtain ⟨v, q5, e5, hv, hq5⟩ := doff h hq4 (k := k) (by omega) (lo := 0) (hi := 1) (by omega) (by omega) (by omega)
      rw [e5]; exact ⟨_, _, _, _, rfl, by omega, hs, hv, hq5⟩
    · split
      · obtain ⟨v, q5, e5, hv, hq5⟩ := dbytes h hq4 (most := 45) (k := k) (by omega) (by omega)
        simp only [Int.cast_ofNat_Int] at e5
        rw [e5]; exact ⟨_, _, _, _, rfl, hv, hs, hd, hq5⟩
      · exact ⟨_, _, _, _, rfl, by omega, hs, hd, hq4⟩

theorem ci_anti (a b : Int) : ci a b = - ci b a := by unfold ci; repeat' split <;> omega
theorem ci_zero {a b : Int} : ci a b = 0 ↔ a = b := by unfold ci; repeat' split <;> omega
theorem kc_anti (u : ByteArray) (s d : Int) (u' : ByteArray) (s' d' : Int) : kc u s d u' s' d' = - kc u' s' d' u s d := by
  unfold kc
  rw [cs_anti u.toList u'.toList, ci_anti s' s, ci_anti d' d]
  by_cases a : cs u'.toList u.toList = 0
  · by_cases b : ci s s' = 0
    · simp [a, b]
    · simp [a, b]
  · simp [a]
theorem kc_vals (u : ByteArray) (s d : Int) (u' : ByteArray) (s' d' : Int) : -1 ≤ kc u s d u' s' d' ∧ kc u s d u' s' d' ≤ 1 := by
  have h := cs_vals u.toList u'.toList
  have hi : ∀ a b, -1 ≤ ci a b ∧ ci a b ≤ 1 := by intro a b; unfold ci; repeat' split <;> omega
  have h1 := hi s' s; have h2 := hi d' d
  unfold kc; split
  · split <;> omega
  · omega
theorem kc_zero {u : ByteArray} {s d : Int} {u' : ByteArray} {s' d' : Int} : kc u s d u' s' d' = 0 ↔ u.toList = u'.toList ∧ s = s' ∧ d = d' := by
  unfold kc
  by_cases a : cs u.toList u'.toList = 0
  · rw [if_pos a]
    have ea := cs_zero.1 a
    by_cases b : ci s' s = 0
    · rw [if_pos b]
      have eb := ci_zero.1 b
      rw [ci_zero]
      constructor
      · intro h; exact ⟨ea, eb.symm, h.symm⟩
      · intro h; exact h.2.2.symm
    · rw [if_neg b]
      constructor
      · intro h; exact absurd h b
      · intro h; exact absurd (ci_zero.2 h.2.1.symm) b
  · rw [if_neg a]
    constructor
    · intro h; exact absurd h a
    · intro h; exact absurd (cs_zero.2 h.1) a
theorem kc_le {u : ByteArray} {s d : Int} {u' : ByteArray} {s' d' : Int} : kc u s d u' s' d' ≤ 0 ↔ Op.bytesLess u.toList u'.toList = true ∨ (u.toList = u'.toList ∧ (s > s' ∨ (s = s' ∧ d ≥ d'))) := by
  unfold kc
  by_cases a : cs u.toList u'.toList = 0
  · rw [if_pos a]
    have ea := cs_zero.1 a
    have hb : ¬ Op.bytesLess u.toList u'.toList = true := by rw [ea, bl_irrefl]; simp
    by_cases b : ci s' s = 0
    · rw [if_pos b]
      have eb := ci_zero.1 b
      constructor
      · intro h; refine .inr ⟨ea, .inr ⟨eb.symm, ?_⟩⟩; unfold ci at h; repeat' split at h <;> omega
      · rintro (h | ⟨_, h⟩)
        · exact absurd h hb
        · unfold ci; repeat' split <;> omega
    · rw [if_neg b]
      have eb : s ≠ s' := fun e => b (ci_zero.2 e.symm)
      constructor
      · intro h; refine .inr ⟨ea, .inl ?_⟩; unfold ci at h; repeat' split at h <;> omega
      · rintro (h | ⟨_, h⟩)
        · exact absurd h hb
        · unfold ci; repeat' split <;> omega
  · rw [if_neg a]
    have ea : ¬ u.toList = u'.toList := fun e => a (cs_zero.2 e)
    constructor
    · intro h
      refine .inl (cs_neg.1 ?_)
      have := cs_vals u.toList u'.toList
      omega
    · rintro (h | ⟨h, _⟩)
      · rw [cs_neg.2 h]; omega
      · exact absurd h ea
theorem kc_trans {u : ByteArray} {s d : Int} {u' : ByteArray} {s' d' : Int} {v : ByteArray} {t e : Int} (h1 : kc u s d u' s' d' ≤ 0) (h2 : kc u' s' d' v t e ≤ 0) : kc u s d v t e ≤ 0 := by
  rw [kc_le] at *
  rcases h1 with h1 | ⟨e1, h1⟩
  · rcases h2 with h2 | ⟨e2, h2⟩
    · exact .inl (bl_trans _ _ _ h1 h2)
    · exact .inl (e2 ▸ h1)
  · rcases h2 with h2 | ⟨e2, h2⟩
    · exact .inl (e1.symm ▸ h2)
    · exact .inr ⟨e1.trans e2, by omega⟩
theorem FnKeys : laws_FnKeys.Pure := by
  intro l _ _ hw
  refine ⟨100, ?_⟩
  unfold laws_FnKeys.f laws_big.f
  simp only [Option.bind_some]
  by_cases hb : (l.length : Int) > 1048576
  · rw [if_pos (by simpa using hb)]
  · have hc := code_of hb hw
    rw [if_neg (by simpa using hb)]
    obtain ⟨u, s, d, u', s', d', e⟩ : ∃ u s d u' s' d', spec_DrawKeyCmp.f 100 l = some (u, s, d, u', s', d') := by
      unfold spec_DrawKeyCmp.f spec_l1Open.f
      simp only [Option.bind_some]
      obtain ⟨u, s, d, q, ek, hu, hs, hd, hq⟩ := dkey hc (posOk0 l) (k := 100) (by omega)
      rw [ek]; simp only [Option.bind_some]
      obtain ⟨u', s', d', q', ek', hu', hs', hd', hq'⟩ := dkey hc hq (k := 100) (by omega)
      rw [ek']; simp only [Option.bind_some]
      obtain ⟨b, q2, e2, hq2⟩ := donce hc hq' (n := 3) (by omega)
      rw [e2]; simp only [Option.bind_some]
      obtain ⟨b', q3, e3, hq3⟩ := donce hc hq2 (n := 8) (by omega)
      rw [e3]; simp only [Option.bind_some]
      split <;> split <;> exact ⟨_, _, _, _, _, _, rfl⟩
    obtain ⟨v, t, f, e'⟩ : ∃ v t f, spec_DrawKeyOk.f 100 l = some (v, t, f) := by
      unfold spec_DrawKeyOk.f spec_l1Open.f
      simp only [Option.bind_some]
      obtain ⟨u, s, d, q, ek, hu, hs, hd, hq⟩ := dkey hc (posOk0 l) (k := 100) (by omega)
      rw [ek]; exact ⟨_, _, _, rfl⟩
    rw [e, e']
    simp only [Option.bind_some]
    rw [ikc 100 (by omega), skc 100 (by omega), ikc 100 (by omega)]
    simp only [Option.bind_some]
    have hn : (KC u s d u' s' d' != wrap64 (-(KC u' s' d' u s d))) = false := by
      have h0 : KC u s d u' s' d' = - KC u' s' d' u s d := by
        unfold KC
        by_cases a : keyB u s d = true ∧ keyB u' s' d' = true
        · rw [if_pos a, if_pos ⟨a.2, a.1⟩]; exact kc_anti _ _ _ _ _ _
        · rw [if_neg a, if_neg (fun h => a ⟨h.2, h.1⟩)]; rfl
      have h1 : -1 ≤ KC u' s' d' u s d ∧ KC u' s' d' u s d ≤ 1 := by
        unfold KC; split
        · exact kc_vals _ _ _ _ _ _
        · omega
      have h2 : wrap64 (-(KC u' s' d' u s d)) = -(KC u' s' d' u s d) := by unfold wrap64; omega
      rw [h2, h0]; simp
    rw [hn, if_pos trivial, laws_FnKeys.j0, if_neg (by decide), ikeyok, ikeyok, ikeyok]
    simp only [Option.bind_some]
    have stop : laws_FnKeys.j1 99 (KC u s d u' s' d') true u s d u' s' d' v t f = some true := by
      rw [laws_FnKeys.j1, if_pos rfl]
    by_cases ka : keyB u s d = true
    · by_cases kb : keyB u' s' d' = true
      · rw [if_pos ka, if_pos kb]
        by_cases kd : keyB v t f = true
        · rw [kd]
          have hKC : KC u s d u' s' d' = kc u s d u' s' d' := by unfold KC; rw [if_pos ⟨ka, kb⟩]
          have hKC2 : KC u' s' d' v t f = kc u' s' d' v t f := by unfold KC; rw [if_pos ⟨kb, kd⟩]
          have hKC3 : KC u s d v t f = kc u s d v t f := by unfold KC; rw [if_pos ⟨ka, kd⟩]
          rw [hKC, laws_FnKeys.j1, if_neg (by decide)]
          have hz : ((kc u s d u' s' d' == 0) != (u.toList == u'.toList && (s == s' && (d == d')))) = false := by
            have : (kc u s d u' s' d' == 0) = (u.toList == u'.toList && (s == s' && (d == d'))) := by
              rw [Bool.eq_iff_iff]; simp [kc_zero]
            rw [this]; simp
          rw [hz, if_neg (by decide)]
          have last : (if u.toList = u'.toList then (if s = s' then (some true) else (some ((decide (kc u s d u' s' d' < 0)) == (decide (s > s'))))) else (some true)) = some true := by
            split
            · rename_i eu
              split
              · rfl
              · rename_i es
                have : decide (kc u s d u' s' d' < 0) = decide (s > s') := by
                  rw [decide_eq_decide]
                  unfold kc
                  rw [if_pos (cs_zero.2 eu), if_neg (fun h => es (ci_zero.1 h).symm)]
                  unfold ci; repeat' split <;> omega
                rw [this]; simp
            · rfl
          by_cases h1 : kc u s d u' s' d' ≤ 0
          · rw [if_pos h1, ikc 98 (by omega), hKC2]
            simp only [Option.bind_some]
            by_cases h2 : kc u' s' d' v t f ≤ 0
            · rw [if_pos h2, ikc 98 (by omega), hKC3]
              simp only [Option.bind_some]
              have h3 := kc_trans h1 h2
              rw [if_neg (by omega)]
              exact last
            · rw [if_neg h2]; exact last
          · rw [if_neg h1]; exact last
        · have kd' : keyB v t f = false := by simpa using kd
          rw [kd']; exact stop
      · rw [if_pos ka, if_neg kb]; exact stop
    · rw [if_neg ka]; exact stop

end Go.Proofs.Ytfcjacncllmapae.Pure
