/- All entries ahead of the place that is sought for a key are ahead of it, none behind is: at every code. No condition. -/
import Derived.Test.YtfcjacncllmapafQFnSoughtx
namespace Go.Proofs.Ytfcjacncllmapaf.Pure
open Go.RowKit Go.Proofs.Ytfcjacncllmapaf.QFnSought Go.Proofs.YtfcjacncllmapafW.PrintWords Go.Proofs.YtfcjacncllmapafW.PrintLast Go.Proofs.YtfcjacncllmapafW.PrintMore
set_option linter.unusedVariables false
set_option linter.unusedSimpArgs false

/-! ## section rdi -/
theorem rdi_drop (l : List S52) (i : Nat) (h : i < l.length) : ∃ u, l.drop i = u :: l.drop (i + 1) ∧ rd_T52 l (i : Int) = u ∧ u ∈ l := by
  refine ⟨l[i], List.drop_eq_getElem_cons h, ?_, List.getElem_mem h⟩
  unfold rd_T52
  rw [Int.toNat_natCast, List.getD_eq_getElem?_getD, List.getElem?_eq_getElem h]; rfl

/-! ## section isuser -/
def userB (s : ByteArray) : Bool := decide (1 ≤ s.size ∧ s.size ≤ 40)
theorem iuser (s : ByteArray) : impl_isUser.f s = some (userB s) := by
  unfold impl_isUser.f userB
  split
  · congr 1; rw [decide_eq_decide]; omega
  · congr 1; symm; rw [decide_eq_false_iff_not]; omega
theorem suser (s : ByteArray) : spec_l2User.f s = some (userB s) := by
  unfold spec_l2User.f userB
  split
  · congr 1; rw [decide_eq_decide]; omega
  · congr 1; symm; rw [decide_eq_false_iff_not]; omega

/-! ## section within -/
def inB (n lo hi : Int) : Bool := decide (lo ≤ n ∧ n ≤ hi)
theorem iwithin (n lo hi : Int) : impl_within.f n lo hi = some (inB n lo hi) := by
  unfold impl_within.f inB
  split
  · congr 1; rw [decide_eq_decide]; omega
  · congr 1; symm; rw [decide_eq_false_iff_not]; omega
theorem swithin (n lo hi : Int) : spec_l1In.f n lo hi = some (inB n lo hi) := by
  unfold spec_l1In.f inB
  split
  · congr 1; rw [decide_eq_decide]; omega
  · congr 1; symm; rw [decide_eq_false_iff_not]; omega

/-! ## section keyok -/
def keyB (u : ByteArray) (q d : Int) : Bool := userB u && inB q 0 1000000000000 && inB d 0 1
theorem ikeyok (u : ByteArray) (q d : Int) : impl_KeyOk.f u q d = some (keyB u q d) := by
  unfold impl_KeyOk.f keyB
  rw [iuser, iwithin, iwithin]
  simp only [Option.bind_some]
  cases userB u <;> cases inB q 0 1000000000000 <;> cases inB d 0 1 <;> rfl
theorem skeyok (u : ByteArray) (q d : Int) : spec_KeyOk.f u q d = some (keyB u q d) := by
  unfold spec_KeyOk.f keyB
  rw [suser, swithin, swithin]
  simp only [Option.bind_some]
  cases userB u <;> cases inB q 0 1000000000000 <;> cases inB d 0 1 <;> rfl

/-! ## section entryok -/
def entB (u : ByteArray) (q d : Int) (v : ByteArray) : Bool := keyB u q d && (decide (v.size ≤ 200) && (decide (d = 1) || (v.toList == ([] : List UInt8))))
theorem ient (u : ByteArray) (q d : Int) (v : ByteArray) : impl_EntryOk.f u q d v = some (entB u q d v) := by
  unfold impl_EntryOk.f entB
  rw [ikeyok]
  simp only [Option.bind_some]
  cases keyB u q d
  · rfl
  · rw [if_pos rfl]
    by_cases h : v.size ≤ 200
    · rw [if_pos (by omega)]
      by_cases h1 : d = 1 <;> simp [h, h1]
    · rw [if_neg (by omega)]; simp [h]
theorem sent (u : ByteArray) (q d : Int) (v : ByteArray) : spec_EntryOk.f u q d v = some (entB u q d v) := by
  unfold spec_EntryOk.f entB
  rw [skeyok]
  simp only [Option.bind_some]
  cases keyB u q d
  · rfl
  · rw [if_pos rfl]
    by_cases h : v.size ≤ 200
    · rw [if_pos (by omega)]
      by_cases h1 : d = 1 <;> simp [h, h1]
    · rw [if_neg (by omega)]; simp [h]

/-! ## section base -/
/-- an unsigned kind's number that fits is not wrapped -/
theorem wrapU (k : IntKind) (hs : k.signed = false) (n : Nat) (h : n < 2 ^ k.bits) : k.wrap (n : Int) = n := by
  unfold IntKind.wrap
  rw [Int.emod_eq_of_lt (by omega) (by exact_mod_cast h)]
  simp [hs]
/-- bits of unsigned numbers are those of natural numbers -/
theorem b_or (k : IntKind) (hs : k.signed = false) (a b : Nat) (ha : a < 2 ^ k.bits) (hb : b < 2 ^ k.bits) : Go.bits .or k a b = ((a ||| b : Nat) : Int) := by
  simp only [Go.bits, BitVec.ofInt_natCast, BitVec.toNat_or, BitVec.toNat_ofNat, Nat.mod_eq_of_lt ha, Nat.mod_eq_of_lt hb]
  exact wrapU k hs _ (Nat.or_lt_two_pow ha hb)
theorem b_xor (k : IntKind) (hs : k.signed = false) (a b : Nat) (ha : a < 2 ^ k.bits) (hb : b < 2 ^ k.bits) : Go.bits .xor k a b = ((a ^^^ b : Nat) : Int) := by
  simp only [Go.bits, BitVec.ofInt_natCast, BitVec.toNat_xor, BitVec.toNat_ofNat, Nat.mod_eq_of_lt ha, Nat.mod_eq_of_lt hb]
  exact wrapU k hs _ (Nat.xor_lt_two_pow ha hb)
theorem b_and (k : IntKind) (hs : k.signed = false) (a b : Nat) (ha : a < 2 ^ k.bits) (hb : b < 2 ^ k.bits) : Go.bits .and k a b = ((a &&& b : Nat) : Int) := by
  simp only [Go.bits, BitVec.ofInt_natCast, BitVec.toNat_and, BitVec.toNat_ofNat, Nat.mod_eq_of_lt ha, Nat.mod_eq_of_lt hb]
  exact wrapU k hs _ (Nat.and_lt_two_pow _ hb)
theorem b_or8 (a b : Nat) (ha : a < 256) (hb : b < 256) : Go.bits .or .u8 a b = ((a ||| b : Nat) : Int) := b_or .u8 rfl a b ha hb
theorem u64w (x : Int) : IntKind.u64.wrap x = x % 18446744073709551616 := by simp [IntKind.wrap, IntKind.bits, IntKind.signed]

/-! ## section bytes -/
/-- the bytes of a text, as natural numbers -/
def nb (s : ByteArray) : List Nat := s.data.toList.map UInt8.toNat
theorem nb_length (s : ByteArray) : (nb s).length = s.size := by rw [nb, List.length_map, Array.length_toList]; rfl
theorem nb_lt (s : ByteArray) : ∀ b ∈ nb s, b < 256 := by
  intro b hb
  simp only [nb, List.mem_map] at hb
  obtain ⟨u, _, rfl⟩ := hb
  exact u.toNat_lt
theorem bt_nb (s : ByteArray) (i : Nat) (h : i < s.size) : bt s i = (((nb s)[i]'(by rw [nb_length]; exact h) : Nat) : Int) := by
  simp only [bt, Int.toNat_natCast, h, nb]
  simp
  rfl
theorem nb_drop (s : ByteArray) (i : Nat) (h : i < s.size) : ∃ b, (nb s).drop i = b :: (nb s).drop (i + 1) ∧ bt s i = (b : Int) ∧ b < 256 := by
  have hl : i < (nb s).length := by rw [nb_length]; exact h
  exact ⟨(nb s)[i], List.drop_eq_getElem_cons hl, bt_nb s i h, nb_lt s _ (List.getElem_mem hl)⟩
theorem nb_end (s : ByteArray) (i : Nat) (h : s.size ≤ i) : (nb s).drop i = [] := List.drop_eq_nil_of_le (by rw [nb_length]; exact h)
theorem w64 {x : Int} (h0 : -9223372036854775808 ≤ x) (h1 : x < 9223372036854775808) : wrap64 x = x := by unfold wrap64; omega
theorem w64s {i n : Nat} (h : i < n) (hn : n ≤ 140737488351232) : wrap64 ((i : Int) + 1) = ((i + 1 : Nat) : Int) := by rw [w64] <;> omega
theorem bits_range (k : IntKind) (hs : k.signed = false) (op : BinOp) (x y : Int) : 0 ≤ Go.bits op k x y ∧ Go.bits op k x y < 2 ^ k.bits := by
  have hp : (0 : Int) < 2 ^ k.bits := by exact_mod_cast Nat.two_pow_pos k.bits
  unfold Go.bits IntKind.wrap
  simp only [hs, Bool.false_and]
  exact ⟨Int.emod_nonneg _ (by omega), Int.emod_lt_of_pos _ hp⟩

/-! ## section keycmp -/
theorem bl_irrefl : ∀ x : List UInt8, Op.bytesLess x x = false
  | [] => rfl
  | a :: x => by simp [Op.bytesLess, bl_irrefl x]
theorem bl_trans : ∀ x y z : List UInt8, Op.bytesLess x y = true → Op.bytesLess y z = true → Op.bytesLess x z = true
  | _, [], _ => by simp [Op.bytesLess]
  | _, _ :: _, [] => by simp [Op.bytesLess]
  | [], _ :: _, _ :: _ => by simp [Op.bytesLess]
  | a :: x, b :: y, c :: z => by
    intro h1 h2
    simp only [Op.bytesLess, Bool.or_eq_true, Bool.and_eq_true, decide_eq_true_eq, beq_iff_eq] at h1 h2 ⊢
    rcases h1 with h1 | ⟨rfl, h1⟩
    · rcases h2 with h2 | ⟨rfl, h2⟩
      · exact .inl (UInt8.lt_trans h1 h2)
      · exact .inl h1
    · rcases h2 with h2 | ⟨rfl, h2⟩
      · exact .inl h2
      · exact .inr ⟨rfl, bl_trans x y z h1 h2⟩
theorem bl_tri : ∀ x y : List UInt8, Op.bytesLess x y = false → x ≠ y → Op.bytesLess y x = true
  | [], [] => fun _ h => absurd rfl h
  | [], _ :: _ => by simp [Op.bytesLess]
  | _ :: _, [] => by simp [Op.bytesLess]
  | a :: x, b :: y => by
    intro h1 h2
    have h3 : ¬ (a < b ∨ (a = b ∧ Op.bytesLess x y = true)) := by
      intro h
      rw [Op.bytesLess] at h1
      have : (decide (a < b) || (a == b && Op.bytesLess x y)) = true := by simpa using h
      rw [this] at h1; cases h1
    rw [Op.bytesLess]
    simp only [Bool.or_eq_true, Bool.and_eq_true, decide_eq_true_eq, beq_iff_eq]
    by_cases e : a = b
    · subst e
      refine .inr ⟨rfl, bl_tri x y ?_ (fun e => h2 (by rw [e]))⟩
      cases hq : Op.bytesLess x y with
      | false => rfl
      | true => exact absurd (.inr ⟨rfl, hq⟩) h3
    · refine .inl ?_
      have h4 : ¬ a < b := fun h => h3 (.inl h)
      rw [UInt8.lt_iff_toNat_lt] at h4 ⊢
      have h5 : a.toNat ≠ b.toNat := fun h => e (UInt8.toNat_inj.1 h)
      omega
theorem bl_asymm {x y : List UInt8} (h : Op.bytesLess x y = true) : Op.bytesLess y x = false := by
  cases hq : Op.bytesLess y x with
  | false => rfl
  | true => have := bl_trans x y x h hq; rw [bl_irrefl] at this; cases this
/-- texts, numbers and keys compared -/
def cs (x y : List UInt8) : Int := if Op.bytesLess x y = true then -1 else if x = y then 0 else 1
def ci (a b : Int) : Int := if a < b then -1 else if a > b then 1 else 0
def kc (u : ByteArray) (s d : Int) (u' : ByteArray) (s' d' : Int) : Int := if cs u.toList u'.toList = 0 then (if ci s' s = 0 then ci d' d else ci s' s) else cs u.toList u'.toList
theorem cs_self (x : List UInt8) : cs x x = 0 := by unfold cs; rw [bl_irrefl]; simp
theorem cs_zero {x y : List UInt8} : cs x y = 0 ↔ x = y := by
  constructor
  · intro h; unfold cs at h; split at h
    · cases h
    · split at h
      · assumption
      · cases h
  · rintro rfl; exact cs_self _
theorem cs_neg {x y : List UInt8} : cs x y = -1 ↔ Op.bytesLess x y = true := by
  unfold cs; constructor
  · intro h; split at h
    · assumption
    · split at h <;> cases h
  · intro h; rw [if_pos h]
theorem cs_vals (x y : List UInt8) : cs x y = -1 ∨ cs x y = 0 ∨ cs x y = 1 := by unfold cs; split; simp; split <;> simp
theorem cs_anti (x y : List UInt8) : cs x y = - cs y x := by
  by_cases e : x = y
  · subst e; rw [cs_self]; rfl
  · by_cases h : Op.bytesLess x y = true
    · rw [cs_neg.2 h]; unfold cs; rw [bl_asymm h, if_neg (by simp), if_neg (Ne.symm e)]
    · have h2 := bl_tri x y (by simpa using h) e
      rw [cs_neg.2 h2]; unfold cs; rw [if_neg h, if_neg e]; rfl
theorem ccs (x y : ByteArray) : cmp_Compare_string.f x y = some (cs x.toList y.toList) := by
  unfold cmp_Compare_string.f cmp_isNaN_string.f cs
  simp only [Option.bind_some, bne_self_eq_false]
  rw [if_neg (by decide), if_neg (by decide)]
  split
  · rfl
  · split <;> rfl
theorem cci (a b : Int) : cmp_Compare_int64.f a b = some (ci a b) := by
  unfold cmp_Compare_int64.f cmp_isNaN_int64.f ci
  simp only [Option.bind_some, bne_self_eq_false]
  rw [if_neg (by decide), if_neg (by decide)]
  split
  · rfl
  · split <;> rfl
theorem cor3 (k : Nat) (hk : 4 ≤ k) (x y z : Int) : cmp_Or_int.f k [x, y, z] = some (if x = 0 then (if y = 0 then z else y) else x) := by
  obtain ⟨k, rfl⟩ : ∃ m, k = m + 4 := ⟨k - 4, by omega⟩
  have w0 : wrap64 ((0 : Int) + 1) = 1 := by unfold wrap64; omega
  have w1 : wrap64 ((1 : Int) + 1) = 2 := by unfold wrap64; omega
  have w2 : wrap64 ((2 : Int) + 1) = 3 := by unfold wrap64; omega
  have r0 : rd [x, y, z] 0 = x := rfl
  have r1 : rd [x, y, z] 1 = y := rfl
  have r2 : rd [x, y, z] 2 = z := rfl
  unfold cmp_Or_int.f
  rw [cmp_Or_int.l0, if_pos (by simp), if_pos (by decide), if_pos (by simp), r0, w0]
  by_cases hx : x = 0
  · rw [if_pos hx, if_pos hx, cmp_Or_int.l0, if_pos (by simp), if_pos (by decide), if_pos (by simp), r1, w1]
    by_cases hy : y = 0
    · rw [if_pos hy, if_pos hy, cmp_Or_int.l0, if_pos (by simp), if_pos (by decide), if_pos (by simp), r2, w2]
      by_cases hz : z = 0
      · rw [if_pos hz, cmp_Or_int.l0, if_neg (by simp), hz]
      · rw [if_neg hz]
    · rw [if_neg hy, if_neg hy]
  · rw [if_neg hx, if_neg hx]
theorem icmpk (k : Nat) (hk : 4 ≤ k) (u : ByteArray) (s d : Int) (u' : ByteArray) (s' d' : Int) : impl_cmpKeys.f k u s d u' s' d' = some (kc u s d u' s' d') := by
  unfold impl_cmpKeys.f kc
  rw [ccs, cci, cci]
  simp only [Option.bind_some]
  rw [cor3 k hk]; rfl
/-- what the comparison of two keys says: 0 where one is not right -/
def KC (u : ByteArray) (s d : Int) (u' : ByteArray) (s' d' : Int) : Int := if keyB u s d = true ∧ keyB u' s' d' = true then kc u s d u' s' d' else 0

/-! ## section entriesokj -/
def entOkB (e : S52) : Bool := entB e.f0.f0 e.f0.f1 e.f0.f2 e.f1
def entKc (a b : S52) : Int := kc a.f0.f0 a.f0.f1 a.f0.f2 b.f0.f0 b.f0.f1 b.f0.f2
/-- each entry is right, and ahead of the next one -/
def entsG : Option S52 → List S52 → Bool
  | _, [] => true
  | none, e :: r => entOkB e && entsG (some e) r
  | some p, e :: r => entOkB e && (decide (entKc p e < 0) && entsG (some e) r)
def entsB (l : List S52) : Bool := decide (l.length ≤ 400) && entsG none l
theorem iaeo_l0 (l : List S52) (hl : l.length ≤ 1048576) : ∀ (d k i : Nat) (p : S52), i + 1 ≤ l.length → l.length - (i + 1) = d → 2 * d + 8 < k → l[i]? = some p → impl_EntriesOk.l0 k l l l.length ((i + 1 : Nat) : Int) = some (entsG (some p) (l.drop (i + 1))) := by
  intro d
  induction d with
  | zero =>
    intro k i p h1 h2 hk hp
    obtain ⟨k, rfl⟩ : ∃ m, k = m + 1 := ⟨k - 1, by omega⟩
    rw [impl_EntriesOk.l0, if_neg (by omega), List.drop_eq_nil_of_le (by omega)]; rfl
  | succ d ih =>
    intro k i p h1 h2 hk hp
    obtain ⟨k, rfl⟩ : ∃ m, k = m + 2 := ⟨k - 2, by omega⟩
    obtain ⟨u, hd, hu, hm⟩ := rdi_drop l (i + 1) (by omega)
    have hpr : rd_T52 l (i : Int) = p := by
      unfold rd_T52
      rw [Int.toNat_natCast, List.getD_eq_getElem?_getD, hp]; rfl
    have hup : l[i + 1]? = some u := by
      have hlt : i + 1 < l.length := by omega
      have := List.drop_eq_getElem_cons hlt
      rw [hd] at this
      rw [List.getElem?_eq_getElem hlt, (List.cons.inj this).1]
    rw [impl_EntriesOk.l0, if_pos (by omega), if_pos (by omega), if_pos (by omega), hu, ient, hd]
    simp only [Option.bind_some, entsG]
    have ew : wrap64 (((i + 1 : Nat) : Int) - 1) = (i : Int) := by unfold wrap64; omega
    rw [show entB u.f0.f0 u.f0.f1 u.f0.f2 u.f1 = entOkB u from rfl]
    cases entOkB u
    · rw [if_neg (by decide), impl_EntriesOk.j1, if_pos rfl]; rfl
    · rw [if_pos rfl, if_pos (by omega), ew, if_pos (by omega), if_pos (by omega), hpr, icmpk (k + 1) (by omega)]
      simp only [Option.bind_some]
      rw [show kc p.f0.f0 p.f0.f1 p.f0.f2 u.f0.f0 u.f0.f1 u.f0.f2 = entKc p u from rfl]
      by_cases c : entKc p u < 0
      · rw [decide_eq_false (show ¬ (entKc p u ≥ 0) by omega), impl_EntriesOk.j1, if_neg (by decide), w64s (n := l.length) (by omega) (by omega), ih k (i + 1) u (by omega) (by omega) (by omega) hup]; simp [c]
      · rw [decide_eq_true (show entKc p u ≥ 0 by omega), impl_EntriesOk.j1, if_pos rfl]; simp [c]
theorem ieo (l : List S52) (hl : l.length ≤ 1048576) (k : Nat) (hk : 2 * l.length + 20 < k) : impl_EntriesOk.f k l = some (entsB l) := by
  unfold impl_EntriesOk.f entsB
  by_cases c : l.length ≤ 400
  · rw [if_neg (by omega)]
    have e : impl_EntriesOk.l0 k l l l.length 0 = some (entsG none l) := by
      obtain ⟨k, rfl⟩ : ∃ m, k = m + 2 := ⟨k - 2, by omega⟩
      cases l with
      | nil => rw [impl_EntriesOk.l0, if_neg (by simp)]; rfl
      | cons p r =>
        rw [impl_EntriesOk.l0, if_pos (by simp <;> omega), if_pos (by decide), if_pos (by simp <;> omega)]
        have hr : rd_T52 (p :: r) 0 = p := rfl
        rw [hr, ient]
        simp only [Option.bind_some, entsG]
        rw [show entB p.f0.f0 p.f0.f1 p.f0.f2 p.f1 = entOkB p from rfl]
        cases entOkB p
        · rw [if_neg (by decide), impl_EntriesOk.j1, if_pos rfl]; rfl
        · rw [if_pos rfl, if_neg (by decide), impl_EntriesOk.j1, if_neg (by decide), show wrap64 (0 + 1) = ((0 + 1 : Nat) : Int) by unfold wrap64; omega]
          rw [iaeo_l0 (p :: r) hl ((p :: r).length - 1) k 0 p (by simp) (by omega) (by omega) rfl]; simp
    rw [e]; simp [c]
  · rw [if_pos (by omega)]; simp [c]
theorem ent_key {u : ByteArray} {q d : Int} {v : ByteArray} (h : entB u q d v = true) : keyB u q d = true := by
  unfold entB at h; cases hk : keyB u q d with
  | true => rfl
  | false => rw [hk] at h; cases h

/-! ## section keyord -/
theorem ci_anti (a b : Int) : ci a b = - ci b a := by unfold ci; repeat' split <;> omega
theorem ci_zero {a b : Int} : ci a b = 0 ↔ a = b := by unfold ci; repeat' split <;> omega
theorem kc_anti (u : ByteArray) (s d : Int) (u' : ByteArray) (s' d' : Int) : kc u s d u' s' d' = - kc u' s' d' u s d := by
  unfold kc
  rw [cs_anti u.toList u'.toList, ci_anti s' s, ci_anti d' d]
  by_cases a : cs u'.toList u.toList = 0
  · by_cases b : ci s s' = 0
    · simp [a, b]
    · simp [a, b]
  · simp [a]
theorem kc_vals (u : ByteArray) (s d : Int) (u' : ByteArray) (s' d' : Int) : -1 ≤ kc u s d u' s' d' ∧ kc u s d u' s' d' ≤ 1 := by
  have h := cs_vals u.toList u'.toList
  have hi : ∀ a b, -1 ≤ ci a b ∧ ci a b ≤ 1 := by intro a b; unfold ci; repeat' split <;> omega
  have h1 := hi s' s; have h2 := hi d' d
  unfold kc; split
  · split <;> omega
  · omega
theorem kc_zero {u : ByteArray} {s d : Int} {u' : ByteArray} {s' d' : Int} : kc u s d u' s' d' = 0 ↔ u.toList = u'.toList ∧ s = s' ∧ d = d' := by
  unfold kc
  by_cases a : cs u.toList u'.toList = 0
  · rw [if_pos a]
    have ea := cs_zero.1 a
    by_cases b : ci s' s = 0
    · rw [if_pos b]
      have eb := ci_zero.1 b
      rw [ci_zero]
      constructor
      · intro h; exact ⟨ea, eb.symm, h.symm⟩
      · intro h; exact h.2.2.symm
    · rw [if_neg b]
      constructor
      · intro h; exact absurd h b
      · intro h; exact absurd (ci_zero.2 h.2.1.symm) b
  · rw [if_neg a]
    constructor
    · intro h; exact absurd h a
    · intro h; exact absurd (cs_zero.2 h.1) a
theorem kc_le {u : ByteArray} {s d : Int} {u' : ByteArray} {s' d' : Int} : kc u s d u' s' d' ≤ 0 ↔ Op.bytesLess u.toList u'.toList = true ∨ (u.toList = u'.toList ∧ (s > s' ∨ (s = s' ∧ d ≥ d'))) := by
  unfold kc
  by_cases a : cs u.toList u'.toList = 0
  · rw [if_pos a]
    have ea := cs_zero.1 a
    have hb : ¬ Op.bytesLess u.toList u'.toList = true := by rw [ea, bl_irrefl]; simp
    by_cases b : ci s' s = 0
    · rw [if_pos b]
      have eb := ci_zero.1 b
      constructor
      · intro h; refine .inr ⟨ea, .inr ⟨eb.symm, ?_⟩⟩; unfold ci at h; repeat' split at h <;> omega
      · rintro (h | ⟨_, h⟩)
        · exact absurd h hb
        · unfold ci; repeat' split <;> omega
    · rw [if_neg b]
      have eb : s ≠ s' := fun e => b (ci_zero.2 e.symm)
      constructor
      · intro h; refine .inr ⟨ea, .inl ?_⟩; unfold ci at h; repeat' split at h <;> omega
      · rintro (h | ⟨_, h⟩)
        · exact absurd h hb
        · unfold ci; repeat' split <;> omega
  · rw [if_neg a]
    have ea : ¬ u.toList = u'.toList := fun e => a (cs_zero.2 e)
    constructor
    · intro h
      refine .inl (cs_neg.1 ?_)
      have := cs_vals u.toList u'.toList
      omega
    · rintro (h | ⟨h, _⟩)
      · rw [cs_neg.2 h]; omega
      · exact absurd h ea
theorem kc_trans {u : ByteArray} {s d : Int} {u' : ByteArray} {s' d' : Int} {v : ByteArray} {t e : Int} (h1 : kc u s d u' s' d' ≤ 0) (h2 : kc u' s' d' v t e ≤ 0) : kc u s d v t e ≤ 0 := by
  rw [kc_le] at *
  rcases h1 with h1 | ⟨e1, h1⟩
  · rcases h2 with h2 | ⟨e2, h2⟩
    · exact .inl (bl_trans _ _ _ h1 h2)
    · exact .inl (e2 ▸ h1)
  · rcases h2 with h2 | ⟨e2, h2⟩
    · exact .inl (e1.symm ▸ h2)
    · exact .inr ⟨e1.trans e2, by omega⟩

/-! ## section seek -/
theorem kc_same {u v : ByteArray} (h : u.toList = v.toList) (s d : Int) (w : ByteArray) (t e : Int) : kc w t e u s d = kc w t e v s d := by
  unfold kc; rw [h]
theorem kc_lt_trans {u : ByteArray} {s d : Int} {u' : ByteArray} {s' d' : Int} {v : ByteArray} {t e : Int} (h1 : kc u s d u' s' d' < 0) (h2 : kc u' s' d' v t e < 0) : kc u s d v t e < 0 := by
  have h3 := kc_trans (Int.le_of_lt h1) (Int.le_of_lt h2)
  rcases Int.lt_or_eq_of_le h3 with h | h
  · exact h
  · obtain ⟨e1, e2, e3⟩ := kc_zero.1 h
    exfalso
    rw [← kc_same e1, ← e2, ← e3, kc_anti] at h2
    omega
/-- an entry against a key -/
def eK (e : S52) (u : ByteArray) (s d : Int) : Int := kc e.f0.f0 e.f0.f1 e.f0.f2 u s d
theorem entsG_next : ∀ (l : List S52) (p : Option S52), entsG p l = true → (∀ e ∈ l, entOkB e = true) ∧ (∀ i, i + 1 < l.length → ∀ x y, l[i]? = some x → l[i + 1]? = some y → entKc x y < 0)
  | [], _, _ => ⟨by simp, by simp⟩
  | e :: r, p, h => by
    have hh : entOkB e = true ∧ entsG (some e) r = true := by
      cases p with
      | none => simpa [entsG] using h
      | some q =>
        rw [entsG] at h
        simp only [Bool.and_eq_true] at h
        exact ⟨h.1, h.2.2⟩
    obtain ⟨h1, h2⟩ := entsG_next r (some e) hh.2
    refine ⟨fun x hx => ?_, fun i hi x y hx hy => ?_⟩
    · rcases List.mem_cons.1 hx with rfl | hx
      · exact hh.1
      · exact h1 x hx
    · cases i with
      | zero =>
        simp only [List.getElem?_cons_zero, Option.some.injEq] at hx
        subst hx
        cases r with
        | nil => simp at hi
        | cons z r =>
          simp only [List.getElem?_cons_succ, List.getElem?_cons_zero, Option.some.injEq] at hy
          subst hy
          have := hh.2
          rw [entsG] at this
          simp only [Bool.and_eq_true, decide_eq_true_eq] at this
          exact this.2.1
      | succ i =>
        simp only [List.getElem?_cons_succ] at hx hy
        exact h2 i (by simpa using hi) x y hx hy
/-- how many entries stand ahead of a key -/
def seekN (l : List S52) (u : ByteArray) (s d : Int) : Nat := (l.takeWhile (fun e => decide (eK e u s d < 0))).length
theorem seek_le (l : List S52) (u : ByteArray) (s d : Int) : seekN l u s d ≤ l.length := List.Sublist.length_le (List.takeWhile_sublist _)
theorem tw_lt {α : Type} (p : α → Bool) : ∀ (l : List α) (i : Nat) (x : α), i < (l.takeWhile p).length → l[i]? = some x → p x = true
  | [], i, x, h, _ => by simp at h
  | a :: l, i, x, h, hx => by
    rw [List.takeWhile_cons] at h
    by_cases c : p a = true
    · rw [if_pos c] at h
      cases i with
      | zero => simp only [List.getElem?_cons_zero, Option.some.injEq] at hx; subst hx; exact c
      | succ i => exact tw_lt p l i x (by simpa using h) (by simpa using hx)
    · rw [if_neg c] at h; simp at h
theorem tw_at {α : Type} (p : α → Bool) : ∀ (l : List α) (x : α), l[(l.takeWhile p).length]? = some x → p x = false
  | [], x, hx => by simp at hx
  | a :: l, x, hx => by
    rw [List.takeWhile_cons] at hx
    by_cases c : p a = true
    · rw [if_pos c] at hx
      exact tw_at p l x (by simpa using hx)
    · rw [if_neg c] at hx
      simp only [List.length_nil, List.getElem?_cons_zero, Option.some.injEq] at hx
      subst hx; simpa using c
theorem tw_ge {α : Type} (p : α → Bool) : ∀ (l : List α) (n : Nat), n ≤ l.length → (∀ i x, i < n → l[i]? = some x → p x = true) → n ≤ (l.takeWhile p).length
  | [], n, h, _ => by simpa using h
  | a :: l, 0, _, _ => Nat.zero_le _
  | a :: l, n + 1, h, hp => by
    have c : p a = true := hp 0 a (by omega) rfl
    rw [List.takeWhile_cons, if_pos c]
    have := tw_ge p l n (by simpa using h) (fun i x hi hx => hp (i + 1) x (by omega) (by simpa using hx))
    simpa using this
/-- what is ahead of what is ahead is ahead -/
theorem seek_down {l : List S52} (h : entsG none l = true) {u : ByteArray} {s d : Int} : ∀ (n i : Nat) (x y : S52), l[i]? = some x → l[i + n]? = some y → eK y u s d < 0 → eK x u s d < 0
  | 0, i, x, y, hx, hy, hk => by
    rw [Nat.add_zero, hx] at hy
    cases hy; exact hk
  | n + 1, i, x, y, hx, hy, hk => by
    have hlen : i + (n + 1) < l.length := (List.getElem?_eq_some_iff.1 hy).1
    have hz : l[i + n]? = some l[i + n] := List.getElem?_eq_getElem (by omega)
    have hn := (entsG_next l none h).2 (i + n) (by omega) _ _ hz (by rw [← hy]; congr 1)
    exact seek_down h n i x l[i + n] hx hz (kc_lt_trans hn hk)
theorem seek_mid {l : List S52} (h : entsG none l = true) {u : ByteArray} {s d : Int} (i : Nat) (x : S52) (hx : l[i]? = some x) : (eK x u s d < 0 → i < seekN l u s d) ∧ (¬ eK x u s d < 0 → seekN l u s d ≤ i) := by
  refine ⟨fun hk => ?_, fun hk => ?_⟩
  · have hlen : i < l.length := (List.getElem?_eq_some_iff.1 hx).1
    refine tw_ge _ l (i + 1) (by omega) (fun j y hj hy => ?_)
    rw [decide_eq_true_eq]
    exact seek_down h (i - j) j y x hy (by rw [show j + (i - j) = i by omega]; exact hx) hk
  · rcases Nat.lt_or_ge i (seekN l u s d) with c | c
    · have := tw_lt _ l i x c hx
      rw [decide_eq_true_eq] at this
      exact absurd this hk
    · exact c
theorem rdi_at (l : List S52) (i : Nat) (h : i < l.length) : ∃ x, l[i]? = some x ∧ rd_T52 l (i : Int) = x := by
  refine ⟨l[i], List.getElem?_eq_getElem h, ?_⟩
  unfold rd_T52
  rw [Int.toNat_natCast, List.getD_eq_getElem?_getD, List.getElem?_eq_getElem h]; rfl
theorem mid_val (a b : Nat) (h : a + b ≤ 10000000) : wrap64 ((IntKind.u64.wrap (wrap64 ((a : Int) + (b : Int)))) / 2) = (((a + b) / 2 : Nat) : Int) := by
  have e1 : wrap64 ((a : Int) + (b : Int)) = ((a + b : Nat) : Int) := by rw [w64 (by omega) (by omega)]; push_cast; rfl
  rw [e1]
  clear e1
  have e2 : IntKind.u64.wrap ((a + b : Nat) : Int) = ((a + b : Nat) : Int) := wrapU .u64 rfl _ (by show a + b < 18446744073709551616; omega)
  rw [e2]
  clear e2
  have e3 : ((a + b : Nat) : Int) / 2 = (((a + b) / 2 : Nat) : Int) := by omega
  rw [e3]
  exact w64 (by omega) (by omega)
theorem icmpe (k : Nat) (hk : 4 ≤ k) (e : S52) (u : ByteArray) (s d : Int) (v : ByteArray) : impl_cmpEntries.f k e.f0.f0 e.f0.f1 e.f0.f2 e.f1 u s d v = some (eK e u s d) := by
  unfold impl_cmpEntries.f
  rw [icmpk k hk]; rfl
theorem ibs (l : List S52) (hl : l.length ≤ 1000000) (h : entsG none l = true) (u : ByteArray) (s d : Int) (v : ByteArray) : ∀ (m k lo hi : Nat), hi - lo ≤ m → lo ≤ hi → hi ≤ l.length → lo ≤ seekN l u s d → seekN l u s d ≤ hi → m + 10 < k → ∃ b, impl_Entry.l0 k l l.length lo hi u s d v = some (((seekN l u s d : Nat) : Int), b) := by
  intro m
  induction m with
  | zero =>
    intro k lo hi h1 h2 h3 h4 h5 hk
    obtain ⟨k, rfl⟩ : ∃ j, k = j + 1 := ⟨k - 1, by omega⟩
    have e : seekN l u s d = lo := by omega
    rw [impl_Entry.l0, if_neg (by omega), e]
    by_cases c : lo < l.length
    · obtain ⟨x, _, hx⟩ := rdi_at l lo c
      rw [if_pos (by omega), if_pos (by omega), if_pos (by omega), hx, icmpe k (by omega)]
      exact ⟨_, rfl⟩
    · rw [if_neg (by omega)]; exact ⟨_, rfl⟩
  | succ m ih =>
    intro k lo hi h1 h2 h3 h4 h5 hk
    by_cases c : lo < hi
    · obtain ⟨k, rfl⟩ : ∃ j, k = j + 1 := ⟨k - 1, by omega⟩
      obtain ⟨x, hx, hr⟩ := rdi_at l ((lo + hi) / 2) (by omega)
      have hm := seek_mid h (u := u) (s := s) (d := d) _ x hx
      have ew : wrap64 ((((lo + hi) / 2 : Nat) : Int) + 1) = (((lo + hi) / 2 + 1 : Nat) : Int) := w64s (n := 10000000) (by omega) (by omega)
      rw [impl_Entry.l0, if_pos (show (lo : Int) < (hi : Int) by clear ew; omega), mid_val lo hi (by clear ew; omega), if_pos (show (0 : Int) ≤ (((lo + hi) / 2 : Nat) : Int) from Int.natCast_nonneg _), if_pos (show (((lo + hi) / 2 : Nat) : Int) < (l.length : Int) by clear ew; omega), hr, icmpe k (by clear ew; omega), Option.bind_some, ew]
      clear ew
      by_cases g : eK x u s d < 0
      · rw [if_pos g]
        exact ih k _ hi (by omega) (by omega) h3 (hm.1 g) h5 (by omega)
      · rw [if_neg g]
        exact ih k lo _ (by omega) (by omega) (by omega) h4 (hm.2 g) (by omega)
    · have e : hi - lo ≤ m := by omega
      exact ih k lo hi e h2 h3 h4 h5 (by omega)
theorem iseek (l : List S52) (hl : l.length ≤ 1048576) (u : ByteArray) (s d : Int) (k : Nat) (hk : 2 * l.length + 30 < k) : impl_SeekEntry.f k l u s d = some (if entsB l = true ∧ keyB u s d = true then ((seekN l u s d : Nat) : Int) else -1) := by
  unfold impl_SeekEntry.f
  rw [ieo l hl k (by omega), Option.bind_some]
  by_cases g : entsB l = true
  · rw [if_pos g, ikeyok, Option.bind_some]
    have g' := g
    simp only [entsB, Bool.and_eq_true, decide_eq_true_eq] at g'
    by_cases q : keyB u s d = true
    · rw [if_pos q, if_pos ⟨g, q⟩]
      unfold impl_Entry.f
      obtain ⟨b, e⟩ := ibs l (by omega) g'.2 u s d (⟨#[]⟩ : ByteArray) l.length k 0 l.length (by omega) (by omega) (by omega) (by omega) (seek_le l u s d) (by omega)
      rw [show ((0 : Nat) : Int) = 0 from rfl] at e
      rw [e]; rfl
    · rw [if_neg q, if_neg (fun h => q h.2)]
  · rw [if_neg g, if_neg (fun h => g h.1)]

/-! ## section keycmpspec -/
theorem skc_j0 (k : Nat) (u : ByteArray) (s d : Int) (u' : ByteArray) (s' d' : Int) : spec_KeyCmp.j0 (k + 1) false u s d u' s' d' = some (kc u s d u' s' d') := by
  rw [spec_KeyCmp.j0, if_neg (by decide)]
  by_cases e : u.toList = u'.toList
  · have hb : Op.bytesLess u.toList u'.toList = false := by rw [e]; exact bl_irrefl _
    have hc : cs u.toList u'.toList = 0 := cs_zero.2 e
    unfold kc
    rw [hc, if_pos rfl, hb, if_pos e]
    by_cases h1 : s = s'
    · by_cases h2 : d = d'
      · subst h1; subst h2
        rw [if_pos (by simp [e])]
        unfold ci; simp
      · rw [if_neg (by simp [h2]), if_neg (by decide), if_neg (by omega), if_pos h1]
        have c0 : ci s' s = 0 := by unfold ci; rw [if_neg (by omega), if_neg (by omega)]
        rw [c0, if_pos rfl]
        unfold ci
        by_cases h3 : d > d'
        · rw [if_pos h3, if_pos (by omega)]
        · rw [if_neg h3, if_neg (by omega), if_pos (by omega)]
    · rw [if_neg (by simp [h1]), if_neg (by decide)]
      unfold ci
      by_cases h3 : s > s'
      · rw [if_pos h3, if_pos (show s' < s from h3), if_neg (by decide)]
      · rw [if_neg h3, if_neg h1, if_neg (show ¬ s' < s by omega), if_pos (show s' > s by omega), if_neg (by decide)]
  · rw [if_neg (by simp [e])]
    have hc : ¬ cs u.toList u'.toList = 0 := fun h => e (cs_zero.1 h)
    unfold kc
    rw [if_neg hc]
    unfold cs
    by_cases hb : Op.bytesLess u.toList u'.toList = true
    · rw [if_pos hb, if_pos hb]
    · rw [if_neg hb, if_neg hb, if_neg e, if_neg e]
theorem skc (k : Nat) (hk : 1 ≤ k) (u : ByteArray) (s d : Int) (u' : ByteArray) (s' d' : Int) : spec_KeyCmp.f k u s d u' s' d' = some (KC u s d u' s' d') := by
  unfold KC
  obtain ⟨k, rfl⟩ : ∃ m, k = m + 1 := ⟨k - 1, by omega⟩
  unfold spec_KeyCmp.f
  rw [skeyok, skeyok]
  simp only [Option.bind_some]
  by_cases a : keyB u s d = true
  · by_cases b : keyB u' s' d' = true
    · rw [if_pos a, b, if_pos ⟨a, rfl⟩]; exact skc_j0 k u s d u' s' d'
    · have b' : keyB u' s' d' = false := by simpa using b
      rw [if_pos a, b', if_neg (fun h => by cases h.2), spec_KeyCmp.j0, if_pos (by decide)]
  · rw [if_neg a, if_neg (fun h => a h.1), spec_KeyCmp.j0, if_pos rfl]

/-! ## section entriesokspecj -/
theorem saeo_l0 (l : List S52) (hl : l.length ≤ 1048576) : ∀ (d k i : Nat) (p : S52), i + 1 ≤ l.length → l.length - (i + 1) = d → 2 * d + 8 < k → l[i]? = some p → entOkB p = true → spec_EntriesOk.l0 k l ((i + 1 : Nat) : Int) = some (entsG (some p) (l.drop (i + 1))) := by
  intro d
  induction d with
  | zero =>
    intro k i p h1 h2 hk hp _
    obtain ⟨k, rfl⟩ : ∃ m, k = m + 1 := ⟨k - 1, by omega⟩
    rw [spec_EntriesOk.l0, if_neg (by omega), List.drop_eq_nil_of_le (by omega)]; rfl
  | succ d ih =>
    intro k i p h1 h2 hk hp hok
    obtain ⟨k, rfl⟩ : ∃ m, k = m + 2 := ⟨k - 2, by omega⟩
    obtain ⟨u, hd, hu, hm⟩ := rdi_drop l (i + 1) (by omega)
    have hpr : rd_T52 l (i : Int) = p := by
      unfold rd_T52
      rw [Int.toNat_natCast, List.getD_eq_getElem?_getD, hp]; rfl
    have hup : l[i + 1]? = some u := by
      have hlt : i + 1 < l.length := by omega
      have := List.drop_eq_getElem_cons hlt
      rw [hd] at this
      rw [List.getElem?_eq_getElem hlt, (List.cons.inj this).1]
    rw [spec_EntriesOk.l0, if_pos (by omega), if_pos (by omega), hu, sent, hd]
    simp only [Option.bind_some, entsG]
    have ew : wrap64 (((i + 1 : Nat) : Int) - 1) = (i : Int) := by unfold wrap64; omega
    rw [show entB u.f0.f0 u.f0.f1 u.f0.f2 u.f1 = entOkB u from rfl]
    cases hq : entOkB u
    · rw [if_neg (by decide), spec_EntriesOk.j1, if_pos rfl]; rfl
    · have hKC : KC p.f0.f0 p.f0.f1 p.f0.f2 u.f0.f0 u.f0.f1 u.f0.f2 = entKc p u := by
        unfold KC
        rw [if_pos ⟨ent_key (v := p.f1) hok, ent_key (v := u.f1) hq⟩]; rfl
      rw [if_pos rfl, if_pos (by omega), ew, if_pos (by omega), if_pos (by omega), hpr, skc (k + 1) (by omega), hKC]
      simp only [Option.bind_some]
      by_cases c : entKc p u < 0
      · rw [decide_eq_false (show ¬ (entKc p u ≥ 0) by omega), spec_EntriesOk.j1, if_neg (by decide), w64s (n := l.length) (by omega) (by omega), ih k (i + 1) u (by omega) (by omega) (by omega) hup hq]; simp [c]
      · rw [decide_eq_true (show entKc p u ≥ 0 by omega), spec_EntriesOk.j1, if_pos rfl]; simp [c]
theorem seo (l : List S52) (hl : l.length ≤ 1048576) (k : Nat) (hk : 2 * l.length + 20 < k) : spec_EntriesOk.f k l = some (entsB l) := by
  unfold spec_EntriesOk.f entsB
  by_cases c : l.length ≤ 400
  · rw [if_neg (by omega)]
    have e : spec_EntriesOk.l0 k l 0 = some (entsG none l) := by
      obtain ⟨k, rfl⟩ : ∃ m, k = m + 2 := ⟨k - 2, by omega⟩
      cases l with
      | nil => rw [spec_EntriesOk.l0, if_neg (by simp)]; rfl
      | cons p r =>
        rw [spec_EntriesOk.l0, if_pos (by simp <;> omega), if_pos (by decide)]
        have hr : rd_T52 (p :: r) 0 = p := rfl
        rw [hr, sent]
        simp only [Option.bind_some, entsG]
        rw [show entB p.f0.f0 p.f0.f1 p.f0.f2 p.f1 = entOkB p from rfl]
        cases hq : entOkB p
        · rw [if_neg (by decide), spec_EntriesOk.j1, if_pos rfl]; rfl
        · rw [if_pos rfl, if_neg (by decide), spec_EntriesOk.j1, if_neg (by decide), show wrap64 (0 + 1) = ((0 + 1 : Nat) : Int) by unfold wrap64; omega]
          rw [saeo_l0 (p :: r) hl ((p :: r).length - 1) k 0 p (by simp) (by omega) (by omega) rfl hq]; simp
    rw [e]; simp [c]
  · rw [if_pos (by omega)]; simp [c]

/-! ## section seekspec -/
theorem sseek_l0 (l : List S52) (hl : l.length ≤ 1000000) (hok : ∀ e ∈ l, entOkB e = true) (u : ByteArray) (s d : Int) (hq : keyB u s d = true) : ∀ (m k i : Nat), i + m = seekN l u s d → m + 5 < k → spec_SeekEntry.l0 k l i u s d = some ((seekN l u s d : Nat) : Int) := by
  have hle := seek_le l u s d
  have KCe : ∀ e ∈ l, KC e.f0.f0 e.f0.f1 e.f0.f2 u s d = eK e u s d := by
    intro e he
    unfold KC
    rw [if_pos ⟨ent_key (v := e.f1) (hok e he), hq⟩]; rfl
  intro m
  induction m with
  | zero =>
    intro k i h1 hk
    obtain ⟨k, rfl⟩ : ∃ j, k = j + 1 := ⟨k - 1, by omega⟩
    obtain rfl : i = seekN l u s d := by omega
    by_cases c : seekN l u s d < l.length
    · obtain ⟨x, hx, hr⟩ := rdi_at l _ c
      have hn := tw_at _ l x hx
      rw [decide_eq_false_iff_not] at hn
      rw [spec_SeekEntry.l0, if_pos (by omega), if_pos (by omega), hr, skc k (by omega), KCe x (List.mem_of_getElem? hx), Option.bind_some, if_neg hn]
    · rw [spec_SeekEntry.l0, if_neg (by omega)]
  | succ m ih =>
    intro k i h1 hk
    obtain ⟨k, rfl⟩ : ∃ j, k = j + 1 := ⟨k - 1, by omega⟩
    obtain ⟨x, hx, hr⟩ := rdi_at l i (by omega)
    have hn := tw_lt _ l i x (show i < seekN l u s d by omega) hx
    rw [decide_eq_true_eq] at hn
    rw [spec_SeekEntry.l0, if_pos (by omega), if_pos (by omega), hr, skc k (by omega), KCe x (List.mem_of_getElem? hx), Option.bind_some, if_pos hn, w64s (n := l.length) (by omega) (by omega)]
    exact ih k (i + 1) (by omega) (by omega)
theorem sseek (l : List S52) (hl : l.length ≤ 1048576) (u : ByteArray) (s d : Int) (k : Nat) (hk : 2 * l.length + 30 < k) : spec_SeekEntry.f k l u s d = some (if entsB l = true ∧ keyB u s d = true then ((seekN l u s d : Nat) : Int) else -1) := by
  obtain ⟨k, rfl⟩ : ∃ j, k = j + 1 := ⟨k - 1, by omega⟩
  unfold spec_SeekEntry.f
  rw [seo l hl _ (by omega), Option.bind_some]
  by_cases g : entsB l = true
  · rw [if_pos g, skeyok, Option.bind_some]
    have g' := g
    simp only [entsB, Bool.and_eq_true, decide_eq_true_eq] at g'
    by_cases q : keyB u s d = true
    · rw [if_pos ⟨g, q⟩, q, spec_SeekEntry.j0, if_neg (by decide)]
      have hle := seek_le l u s d
      exact sseek_l0 l (by omega) (entsG_next l none g'.2).1 u s d q (seekN l u s d) k 0 (by omega) (by omega)
    · have q' : keyB u s d = false := by simpa using q
      rw [if_neg (fun h => q h.2), q', spec_SeekEntry.j0, if_pos (by decide)]
  · rw [if_neg g, if_neg (fun h => g h.1), spec_SeekEntry.j0, if_pos rfl]

/-! ## section keycmpboth -/
theorem ikc (k : Nat) (hk : 4 ≤ k) (u : ByteArray) (s d : Int) (u' : ByteArray) (s' d' : Int) : impl_KeyCmp.f k u s d u' s' d' = some (KC u s d u' s' d') := by
  unfold impl_KeyCmp.f KC
  rw [ikeyok, ikeyok, icmpk k hk]
  simp only [Option.bind_some]
  by_cases a : keyB u s d = true
  · by_cases b : keyB u' s' d' = true
    · rw [if_pos a, if_pos b, if_pos ⟨a, b⟩]
    · rw [if_pos a, if_neg b, if_neg (fun h => b h.2)]
  · rw [if_neg a, if_neg (fun h => a h.1)]

/-! ## section draw -/
/-- the code that things are drawn from: each cell is a byte -/
def isCode (l : List Int) : Prop := l.length ≤ 1048576 ∧ ∀ x ∈ l, 0 ≤ x ∧ x ≤ 255
theorem code_of {l : List Int} (h : ¬ ((l.length : Int) > 1048576)) (hw : ∀ x ∈ l, (Lit.int .u8 x).wf = true) : isCode l := by
  refine ⟨by omega, fun x hx => ?_⟩
  have := hw x hx
  simp [Lit.wf, IntKind.min, IntKind.max, IntKind.bits, IntKind.signed] at this
  omega
def posOk (l : List Int) (p : Int) : Prop := 0 ≤ p ∧ p ≤ l.length
theorem rd_code {l : List Int} (h : isCode l) (i : Int) : 0 ≤ rd l i ∧ rd l i ≤ 255 := by
  unfold rd
  rw [List.getD_eq_getElem?_getD]
  cases hi : l[i.toNat]? with
  | none => simp
  | some b => simpa using h.2 b (List.mem_of_getElem? hi)
theorem dnext {l : List Int} (h : isCode l) {p : Int} (hp : posOk l p) : ∃ v q, spec_l1Rd_next.f l p = some (v, q) ∧ 0 ≤ v ∧ v ≤ 255 ∧ posOk l q := by
  have hl := h.1
  obtain ⟨h0, h1⟩ := hp
  unfold spec_l1Rd_next.f
  by_cases c : p ≥ (l.length : Int)
  · rw [if_pos c]
    exact ⟨0, p, rfl, by omega, by omega, h0, h1⟩
  · have e1 : wrap64 (p + 1) = p + 1 := by unfold wrap64; omega
    have e2 : wrap64 (p + 1 - 1) = p := by unfold wrap64; omega
    have hr := rd_code h p
    have e3 : wrap64 (rd l p) = rd l p := by unfold wrap64; omega
    rw [if_neg c, e1, e2, if_pos h0, if_pos (by omega), e3]
    exact ⟨_, _, rfl, hr.1, hr.2, by omega, by omega⟩
theorem dbelow {l : List Int} (h : isCode l) {p : Int} (hp : posOk l p) {n : Int} (hn : 1 ≤ n) : ∃ v q, spec_l1Rd_below.f l p n = some (v, q) ∧ 0 ≤ v ∧ v < n ∧ posOk l q := by
  unfold spec_l1Rd_below.f
  by_cases c : n ≤ 1
  · rw [if_pos c]
    exact ⟨0, p, rfl, by omega, by omega, hp⟩
  · rw [if_neg c]
    obtain ⟨v, q, e, h0, h1, hq⟩ := dnext h hp
    by_cases c2 : n ≤ 256
    · rw [if_pos c2, e]
      simp only [Option.bind_some]
      rw [if_neg (by omega)]
      refine ⟨_, _, rfl, ?_, ?_, hq⟩
      · rw [Int.tmod_eq_emod_of_nonneg h0]; exact Int.emod_nonneg _ (by omega)
      · rw [Int.tmod_eq_emod_of_nonneg h0]; exact Int.emod_lt_of_pos _ (by omega)
    · rw [if_neg c2, e]
      simp only [Option.bind_some]
      obtain ⟨v2, q2, e2, h2, h3, hq2⟩ := dnext h hq
      rw [e2]
      simp only [Option.bind_some]
      rw [if_neg (by omega)]
      have ew : wrap64 (wrap64 (v * 256) + v2) = v * 256 + v2 := by unfold wrap64; omega
      rw [ew]
      refine ⟨_, _, rfl, ?_, ?_, hq2⟩
      · rw [Int.tmod_eq_emod_of_nonneg (by omega)]; exact Int.emod_nonneg _ (by omega)
      · rw [Int.tmod_eq_emod_of_nonneg (by omega)]; exact Int.emod_lt_of_pos _ (by omega)
theorem posOk0 (l : List Int) : posOk l 0 := ⟨Int.le_refl _, by omega⟩

/-! ## section drawuser -/
theorem duser {l : List Int} (h : isCode l) {p : Int} (hp : posOk l p) : ∃ s q, spec_l1Rd_user.f l p = some (s, q) ∧ 1 ≤ s.size ∧ s.size ≤ 4 ∧ posOk l q := by
  unfold spec_l1Rd_user.f
  simp only [Option.bind_some]
  obtain ⟨v, r, e2, hv0, hv1, hr⟩ := dbelow h hp (n := 10) (by omega)
  rw [e2]
  simp only [Option.bind_some]
  rw [if_pos hv0, if_pos (by simpa using hv1)]
  obtain ⟨n, rfl⟩ := Int.eq_ofNat_of_zero_le hv0
  have hn : n < 10 := by omega
  have key : ∀ n, n < 10 → 1 ≤ (rdOf ByteArray.empty ([(⟨#[97]⟩ : ByteArray), (⟨#[98]⟩ : ByteArray), (⟨#[97, 98]⟩ : ByteArray), (⟨#[97, 98, 99]⟩ : ByteArray), (⟨#[97, 98, 100]⟩ : ByteArray), (⟨#[107, 101, 121]⟩ : ByteArray), (⟨#[107, 101, 121, 49]⟩ : ByteArray), (⟨#[107, 101, 121, 50]⟩ : ByteArray), (⟨#[122, 122]⟩ : ByteArray), (⟨#[97, 0]⟩ : ByteArray)] : List ByteArray) ((n : Nat) : Int)).size ∧ (rdOf ByteArray.empty ([(⟨#[97]⟩ : ByteArray), (⟨#[98]⟩ : ByteArray), (⟨#[97, 98]⟩ : ByteArray), (⟨#[97, 98, 99]⟩ : ByteArray), (⟨#[97, 98, 100]⟩ : ByteArray), (⟨#[107, 101, 121]⟩ : ByteArray), (⟨#[107, 101, 121, 49]⟩ : ByteArray), (⟨#[107, 101, 121, 50]⟩ : ByteArray), (⟨#[122, 122]⟩ : ByteArray), (⟨#[97, 0]⟩ : ByteArray)] : List ByteArray) ((n : Nat) : Int)).size ≤ 4 := by decide +kernel
  have := key n hn
  exact ⟨_, _, rfl, this.1, this.2, hr⟩

/-! ## section drawword -/
theorem dword_l0 {l : List Int} (h : isCode l) : ∀ (d k i : Nat) (x p : Int), i ≤ 8 → 8 - i = d → d < k → 0 ≤ x → x < 18446744073709551616 → posOk l p → ∃ v q, spec_l1Rd_word.l0 k x i l p = some (v, q) ∧ 0 ≤ v ∧ v < 18446744073709551616 ∧ posOk l q := by
  intro d
  induction d with
  | zero =>
    intro k i x p h1 h2 hk hx0 hx1 hp
    obtain ⟨k, rfl⟩ : ∃ m, k = m + 1 := ⟨k - 1, by omega⟩
    rw [spec_l1Rd_word.l0, if_neg (by omega)]
    exact ⟨_, _, rfl, hx0, hx1, hp⟩
  | succ d ih =>
    intro k i x p h1 h2 hk hx0 hx1 hp
    obtain ⟨k, rfl⟩ : ∃ m, k = m + 1 := ⟨k - 1, by omega⟩
    obtain ⟨v, q, e, _, _, hq⟩ := dnext h hp
    have ei : wrap64 ((i : Int) + 1) = ((i + 1 : Nat) : Int) := by unfold wrap64; omega
    rw [spec_l1Rd_word.l0, if_pos (by omega), e]
    simp only [Option.bind_some]
    rw [ei]
    have hb := bits_range .u64 rfl .or (IntKind.u64.wrap (x * 256)) (IntKind.u64.wrap v)
    exact ih k (i + 1) _ q (by omega) (by omega) (by omega) hb.1 hb.2 hq
theorem dword {l : List Int} (h : isCode l) {p : Int} (hp : posOk l p) {k : Nat} (hk : 9 ≤ k) : ∃ v q, spec_l1Rd_word.f k l p = some (v, q) ∧ 0 ≤ v ∧ v < 18446744073709551616 ∧ posOk l q := by
  unfold spec_l1Rd_word.f
  exact dword_l0 h 8 k 0 0 p (by omega) (by omega) (by omega) (by omega) (by omega) hp

/-! ## section drawnear -/
theorem dnear {l : List Int} (h : isCode l) {p : Int} (hp : posOk l p) {k : Nat} (hk : 9 ≤ k) {lo hi : Int} (h0 : 0 ≤ lo) (h1 : lo ≤ hi) (h2 : hi ≤ 1000000000000000) : ∃ v q, spec_l1Rd_near.f k l p lo hi = some (v, q) ∧ lo ≤ v ∧ v ≤ hi ∧ posOk l q := by
  unfold spec_l1Rd_near.f
  obtain ⟨v, q, e, _, _, hq⟩ := dbelow h hp (n := 8) (by omega)
  rw [e]
  simp only [Option.bind_some]
  by_cases c0 : v = 0
  · rw [if_pos c0]; exact ⟨_, _, rfl, by omega, by omega, hq⟩
  · rw [if_neg c0]
    by_cases c1 : v = 1
    · rw [if_pos c1]; exact ⟨_, _, rfl, by omega, by omega, hq⟩
    · rw [if_neg c1, if_neg (by omega)]
      obtain ⟨x, r, e2, hx0, hx1, hr⟩ := dword h hq hk
      rw [e2]
      simp only [Option.bind_some]
      have ew : IntKind.u64.wrap (wrap64 ((wrap64 (hi - lo)) + 1)) = hi - lo + 1 := by
        have e3 : wrap64 (hi - lo) = hi - lo := by unfold wrap64; omega
        have e4 : wrap64 (hi - lo + 1) = hi - lo + 1 := by unfold wrap64; omega
        rw [e3, e4, u64w]; omega
      rw [ew, if_neg (by omega)]
      have hm : 0 ≤ Int.tmod (x / 2) (hi - lo + 1) ∧ Int.tmod (x / 2) (hi - lo + 1) < hi - lo + 1 := by
        rw [Int.tmod_eq_emod_of_nonneg (by omega)]
        exact ⟨Int.emod_nonneg _ (by omega), Int.emod_lt_of_pos _ (by omega)⟩
      have ez : wrap64 (lo + (wrap64 (Int.tmod (x / 2) (hi - lo + 1)))) = lo + Int.tmod (x / 2) (hi - lo + 1) := by
        have e5 : wrap64 (Int.tmod (x / 2) (hi - lo + 1)) = Int.tmod (x / 2) (hi - lo + 1) := by unfold wrap64; omega
        rw [e5]; unfold wrap64; omega
      rw [ez]
      exact ⟨_, _, rfl, by omega, by omega, hr⟩

/-! ## section drawonce -/
theorem donce {l : List Int} (h : isCode l) {p : Int} (hp : posOk l p) {n : Int} (hn : 1 ≤ n) : ∃ v q, spec_l1Rd_once.f l p n = some (v, q) ∧ posOk l q := by
  unfold spec_l1Rd_once.f
  obtain ⟨v, q, e, _, _, hq⟩ := dbelow h hp hn
  rw [e]
  exact ⟨_, _, rfl, hq⟩

/-! ## section drawoff -/
def i64r (v : Int) : Prop := -9223372036854775808 ≤ v ∧ v ≤ 9223372036854775807
theorem doff {l : List Int} (h : isCode l) {p : Int} (hp : posOk l p) {k : Nat} (hk : 9 ≤ k) {lo hi : Int} (h0 : 0 ≤ lo) (h1 : lo ≤ hi) (h2 : hi ≤ 1000000000000000) : ∃ v q, spec_l1Rd_off.f k l p lo hi = some (v, q) ∧ i64r v ∧ posOk l q := by
  unfold spec_l1Rd_off.f
  obtain ⟨b, q, e, hq⟩ := donce h hp (n := 24) (by omega)
  rw [e]
  simp only [Option.bind_some]
  by_cases c : b = true
  · rw [if_pos c]
    obtain ⟨v, r, e2, hv0, hv1, hr⟩ := dbelow h hq (n := 4) (by omega)
    rw [e2]
    simp only [Option.bind_some]
    rw [if_pos hv0, if_pos (by simpa using hv1)]
    have e3 : wrap64 (lo - 1) = lo - 1 := by unfold wrap64; omega
    have e4 : wrap64 (hi + 1) = hi + 1 := by unfold wrap64; omega
    rw [e3, e4]
    refine ⟨_, _, rfl, ?_, hr⟩
    obtain ⟨n, rfl⟩ := Int.eq_ofNat_of_zero_le hv0
    have hn : n < 4 := by omega
    unfold rd i64r
    rw [Int.toNat_natCast]
    match n, hn with
    | 0, _ => simp; omega
    | 1, _ => simp; omega
    | 2, _ => simp
    | 3, _ => simp
  · rw [if_neg c]
    obtain ⟨v, r, e2, a, b, hr⟩ := dnear h hq hk h0 h1 h2
    rw [e2]
    exact ⟨_, _, rfl, ⟨by omega, by omega⟩, hr⟩

/-! ## section putsize -/
theorem strOfNums_size (l : List Int) : (strOfNums l).size = l.length := by simp [strOfNums, ByteArray.size]

/-! ## section drawbytes -/
theorem dbytes_l0 {l : List Int} (h : isCode l) : ∀ (d k : Nat) (acc : List Int) (p : Int), d < k → acc.length + d < 140737488355328 → (∀ x ∈ acc, 0 ≤ x ∧ x < 256) → posOk l p → ∃ zs q, spec_l1Rd_bytes.l0 k acc d l p = some (strOfNums zs, q) ∧ zs.length = acc.length + d ∧ (∀ x ∈ zs, 0 ≤ x ∧ x < 256) ∧ posOk l q := by
  intro d
  induction d with
  | zero =>
    intro k acc p hk hl ha hp
    obtain ⟨k, rfl⟩ : ∃ m, k = m + 1 := ⟨k - 1, by omega⟩
    rw [spec_l1Rd_bytes.l0, if_neg (by omega)]
    exact ⟨acc, p, rfl, by omega, ha, hp⟩
  | succ d ih =>
    intro k acc p hk hl ha hp
    obtain ⟨k, rfl⟩ : ∃ m, k = m + 1 := ⟨k - 1, by omega⟩
    obtain ⟨v, q, e, v0, v1, hq⟩ := dbelow h hp (n := 256) (by omega)
    have ed : wrap64 (((d + 1 : Nat) : Int) - 1) = (d : Int) := by unfold wrap64; omega
    rw [spec_l1Rd_bytes.l0, if_pos (by omega), e]
    simp only [Option.bind_some]
    rw [if_pos (by omega), ed]
    obtain ⟨zs, r, e2, hz, hb, hr⟩ := ih k (acc ++ [v % 256]) q (by omega) (by simp; omega) (by
      intro x hx
      rcases List.mem_append.1 hx with hx | hx
      · exact ha x hx
      · simp at hx; omega) hq
    exact ⟨zs, r, e2, by rw [hz]; simp; omega, hb, hr⟩
/-- some bytes are drawn: at most 'most' -/
theorem dbytes {l : List Int} (h : isCode l) {p : Int} (hp : posOk l p) {most k : Nat} (hm : most ≤ 1000) (hk : most < k) : ∃ s q, spec_l1Rd_bytes.f k l p (most : Int) = some (s, q) ∧ s.size ≤ most ∧ posOk l q := by
  unfold spec_l1Rd_bytes.f
  have em : wrap64 ((most : Int) + 1) = (most : Int) + 1 := by unfold wrap64; omega
  rw [em]
  obtain ⟨v, q, e, v0, v1, hq⟩ := dbelow h hp (n := (most : Int) + 1) (by omega)
  rw [e]
  simp only [Option.bind_some]
  obtain ⟨d, rfl⟩ := Int.eq_ofNat_of_zero_le v0
  obtain ⟨zs, r, e2, hz, _, hr⟩ := dbytes_l0 h d k [] q (by omega) (by simp; omega) (by simp) hq
  exact ⟨_, r, e2, by rw [strOfNums_size, hz]; simp; omega, hr⟩

/-! ## section drawkey -/
/-- a key is drawn: any key whose user is short -/
theorem dkey {l : List Int} (h : isCode l) {p : Int} (hp : posOk l p) {k : Nat} (hk : 46 ≤ k) : ∃ u s d q, spec_l1Rd_key.f k l p = some (u, s, d, q) ∧ u.size ≤ 45 ∧ i64r s ∧ i64r d ∧ posOk l q := by
  unfold spec_l1Rd_key.f
  obtain ⟨u, q1, e1, hu0, hu1, hq1⟩ := duser h hp
  rw [e1]; simp only [Option.bind_some]
  obtain ⟨s, q2, e2, hs0, hs1, hq2⟩ := dnear h hq1 (k := k) (by omega) (lo := 0) (hi := 12) (by omega) (by omega) (by omega)
  rw [e2]; simp only [Option.bind_some]
  obtain ⟨d, q3, e3, hd0, hd1, hq3⟩ := dbelow h hq2 (n := 2) (by omega)
  rw [e3]; simp only [Option.bind_some]
  obtain ⟨c, q4, e4, hc0, hc1, hq4⟩ := dbelow h hq3 (n := 24) (by omega)
  rw [e4]; simp only [Option.bind_some]
  have hs : i64r s := ⟨by omega, by omega⟩
  have hd : i64r d := ⟨by omega, by omega⟩
  split
  · obtain ⟨v, q5, e5, hv, hq5⟩ := doff h hq4 (k := k) (by omega) (lo := 0) (hi := 1000000000000) (by omega) (by omega) (by omega)
    rw [e5]; exact ⟨_, _, _, _, rfl, by omega, hv, hd, hq5⟩
  · split
    · obtain ⟨v, q5, e5, hv, hq5⟩ := doff h hq4 (k := k) (by omega) (lo := 0) (hi := 1) (by omega) (by omega) (by omega)
      rw [e5]; exact ⟨_, _, _, _, rfl, by omega, hs, hv, hq5⟩
    · split
      · obtain ⟨v, q5, e5, hv, hq5⟩ := dbytes h hq4 (most := 45) (k := k) (by omega) (by omega)
        simp only [Int.cast_ofNat_Int] at e5
        rw [e5]; exact ⟨_, _, _, _, rfl, hv, hs, hd, hq5⟩
      · exact ⟨_, _, _, _, rfl, by omega, hs, hd, hq4⟩

/-! ## section drawentries -/
theorem dvalue {l : List Int} (h : isCode l) {p : Int} (hp : posOk l p) : ∃ s q, spec_l1Rd_value.f l p = some (s, q) ∧ posOk l q := by
  unfold spec_l1Rd_value.f
  simp only [Option.bind_some]
  obtain ⟨v, r, e2, hv0, hv1, hr⟩ := dbelow h hp (n := 5) (by omega)
  rw [e2]
  simp only [Option.bind_some]
  rw [if_pos (by omega), if_pos (by simp; omega)]
  exact ⟨_, _, rfl, hr⟩
theorem dentry {l : List Int} (h : isCode l) {p : Int} (hp : posOk l p) {k : Nat} (hk : 46 ≤ k) : ∃ x, spec_l1Rd_entry.f k l p = some x ∧ posOk l x.2.2.2.2 := by
  unfold spec_l1Rd_entry.f
  obtain ⟨u, s, d, q, e1, _, _, _, hq⟩ := dkey h hp hk
  rw [e1]; simp only [Option.bind_some]
  obtain ⟨v, q2, e2, hq2⟩ := dvalue h hq
  rw [e2]; simp only [Option.bind_some]
  by_cases c : d = 0
  · rw [if_pos c]
    obtain ⟨b, q3, e3, hq3⟩ := donce h hq2 (n := 12) (by omega)
    rw [e3]; simp only [Option.bind_some]
    by_cases c2 : b = true
    · rw [if_pos c2]; exact ⟨_, rfl, hq3⟩
    · rw [if_neg c2]; exact ⟨_, rfl, hq3⟩
  · rw [if_neg c]; exact ⟨_, rfl, hq2⟩
theorem dents_l1 {l : List Int} {p : Int} (u : ByteArray) (s d : Int) (v : ByteArray) (x : List S52) (hx : x.length ≤ 100) (y : Int) : ∀ (m k i : Nat), i ≤ x.length → x.length - i = m → m + 10 < k → ∃ k' x', k ≤ k' + (m + 1) ∧ x'.length ≤ x.length + 1 ∧ spec_l1Rd_entries.l1 k x y i l p u s d v = spec_l1Rd_entries.l0 k' x' (wrap64 (y - 1)) l p := by
  intro m
  induction m with
  | zero =>
    intro k i h1 h2 hk
    obtain ⟨k, rfl⟩ : ∃ j, k = j + 1 := ⟨k - 1, by omega⟩
    rw [spec_l1Rd_entries.l1, if_neg (by omega)]
    simp only [Option.bind_some]
    rw [if_pos (by omega), if_pos (by omega), if_pos (by simp [List.length_take]; omega), if_pos (by simp [List.length_take]; omega), if_pos (by simp [List.length_take]; omega)]
    exact ⟨k, _, by omega, by simp [List.length_take]; omega, rfl⟩
  | succ m ih =>
    intro k i h1 h2 hk
    obtain ⟨k, rfl⟩ : ∃ j, k = j + 1 := ⟨k - 1, by omega⟩
    rw [spec_l1Rd_entries.l1, if_pos (by omega), if_pos (by omega), skc k (by omega), Option.bind_some]
    split
    · rw [w64s (n := 1000) (by omega) (by omega)]
      obtain ⟨k', x', g1, g2, g3⟩ := ih k (i + 1) (by omega) (by omega) (by omega)
      exact ⟨k', x', by omega, g2, g3⟩
    · split
      · exact ⟨k, x, by omega, by omega, rfl⟩
      · simp only [Option.bind_some]
        rw [if_pos (by omega), if_pos (by simp [List.length_take]; omega), if_pos (by simp [List.length_take]; omega), if_pos (by simp [List.length_take]; omega)]
        exact ⟨k, _, by omega, by simp [List.length_take]; omega, rfl⟩
theorem dents_l0 {l : List Int} (h : isCode l) : ∀ (n k : Nat) (p : Int) (x : List S52), posOk l p → x.length + n ≤ 50 → 200 * n + 100 ≤ k → ∃ r, spec_l1Rd_entries.l0 k x n l p = some r ∧ r.1.length ≤ x.length + n + 1 ∧ posOk l r.2 := by
  intro n
  induction n with
  | zero =>
    intro k p x hp hx hk
    obtain ⟨k, rfl⟩ : ∃ j, k = j + 1 := ⟨k - 1, by omega⟩
    rw [spec_l1Rd_entries.l0, if_neg (by omega)]
    obtain ⟨b, q3, e3, hq3⟩ := donce h hp (n := 24) (by omega)
    rw [e3, Option.bind_some]
    by_cases c : b = true
    · rw [if_pos c]
      obtain ⟨y, e4, hq4⟩ := dentry h hq3 (k := k) (by omega)
      rw [e4, Option.bind_some, if_pos (by omega)]
      exact ⟨_, rfl, by simp, hq4⟩
    · rw [if_neg c]; exact ⟨_, rfl, by simp, hq3⟩
  | succ n ih =>
    intro k p x hp hx hk
    obtain ⟨k, rfl⟩ : ∃ j, k = j + 1 := ⟨k - 1, by omega⟩
    obtain ⟨y, e1, hq⟩ := dentry h hp (k := k) (by omega)
    have ew : wrap64 (((n + 1 : Nat) : Int) - 1) = (n : Int) := by rw [w64 (by omega) (by omega)]; omega
    rw [spec_l1Rd_entries.l0, if_pos (show ((n + 1 : Nat) : Int) > 0 by clear ew; omega), e1, Option.bind_some, sent, Option.bind_some]
    by_cases c : entB y.1 y.2.1 y.2.2.1 y.2.2.2.1 = true
    · rw [if_pos c]
      obtain ⟨k', x', g1, g2, g3⟩ := dents_l1 (l := l) (p := y.2.2.2.2) y.1 y.2.1 y.2.2.1 y.2.2.2.1 x (by clear ew; omega) ((n + 1 : Nat) : Int) x.length k 0 (by clear ew; omega) (by clear ew; omega) (by clear ew; omega)
      rw [show ((0 : Nat) : Int) = 0 from rfl] at g3
      rw [g3, ew]
      obtain ⟨r, h1, h2, h3⟩ := ih k' y.2.2.2.2 x' hq (by clear ew; omega) (by clear ew; omega)
      exact ⟨r, h1, by clear ew; omega, h3⟩
    · rw [if_neg c, ew]
      obtain ⟨r, h1, h2, h3⟩ := ih k y.2.2.2.2 x hq (by clear ew; omega) (by clear ew; omega)
      exact ⟨r, h1, by clear ew; omega, h3⟩
theorem dentries {l : List Int} (h : isCode l) {p : Int} (hp : posOk l p) {most k : Nat} (hm : most ≤ 30) (hk : 7000 ≤ k) : ∃ r, spec_l1Rd_entries.f k l p (most : Int) = some r ∧ r.1.length ≤ most + 2 ∧ posOk l r.2 := by
  unfold spec_l1Rd_entries.f
  have em : wrap64 ((most : Int) + 1) = (most : Int) + 1 := by rw [w64 (by omega) (by omega)]
  rw [em]
  clear em
  obtain ⟨v, r, e2, hv0, hv1, hr⟩ := dbelow h hp (n := (most : Int) + 1) (by omega)
  rw [e2, Option.bind_some]
  obtain ⟨n, rfl⟩ := Int.eq_ofNat_of_zero_le hv0
  obtain ⟨x, h1, h2, h3⟩ := dents_l0 h n k r [] hr (by simp; omega) (by omega)
  exact ⟨x, h1, by simp at h2; omega, h3⟩

theorem FnSought : laws_FnSought.Pure := by
  intro l _ _ hw
  obtain ⟨k, hk⟩ : ∃ k : Nat, 100000 = k := ⟨_, rfl⟩
  refine ⟨k, ?_⟩
  unfold laws_FnSought.f laws_big.f
  rw [Option.bind_some]
  by_cases hb : (l.length : Int) > 1048576
  · rw [if_pos (by simpa using hb)]
  · have hc := code_of hb hw
    rw [if_neg (by simpa using hb)]
    obtain ⟨x, e, hx⟩ : ∃ x, spec_DrawSeekEntry.f k l = some x ∧ x.1.length ≤ 100 := by
      unfold spec_DrawSeekEntry.f spec_l1Open.f
      rw [Option.bind_some]
      obtain ⟨r, e1, h1, hq⟩ := dentries hc (posOk0 l) (most := 9) (k := k) (by omega) (by omega)
      simp only [Int.cast_ofNat_Int] at e1
      rw [e1, Option.bind_some]
      obtain ⟨u, s, d, q, e2, _, _, _, _⟩ := dkey hc hq (k := k) (by omega)
      rw [e2, Option.bind_some]
      exact ⟨_, rfl, by simp only; omega⟩
    rw [e, Option.bind_some]
    clear e
    generalize x.1 = L at hx ⊢
    generalize x.2.1 = u
    generalize x.2.2.1 = s
    generalize x.2.2.2 = d
    rw [iseek L (by omega) u s d k (by omega), sseek L (by omega) u s d k (by omega), Option.bind_some, Option.bind_some, if_pos rfl]
    obtain ⟨k, rfl⟩ : ∃ j, k = j + 1 := ⟨k - 1, by omega⟩
    by_cases g : entsB L = true ∧ keyB u s d = true
    · rw [if_pos g]
      have hG : entsG none L = true := by have := g.1; simp only [entsB, Bool.and_eq_true] at this; exact this.2
      have hle := seek_le L u s d
      have hok := (entsG_next L none hG).1
      have hn : decide (((seekN L u s d : Nat) : Int) < 0) = false := by rw [decide_eq_false_iff_not]; omega
      rw [hn, laws_FnSought.j0, if_neg (by decide)]
      have loop : ∀ (m k i : Nat), i ≤ L.length → L.length - i = m → m + 10 < k → laws_FnSought.l0 k L ((seekN L u s d : Nat) : Int) i u s d = some true := by
        intro m
        induction m with
        | zero =>
          intro k i h1 h2 hk
          obtain ⟨k, rfl⟩ : ∃ j, k = j + 1 := ⟨k - 1, by omega⟩
          rw [laws_FnSought.l0, if_neg (by omega), decide_eq_true (by omega)]
        | succ m ih =>
          intro k i h1 h2 hk
          obtain ⟨k, rfl⟩ : ∃ j, k = j + 1 := ⟨k - 1, by omega⟩
          obtain ⟨y, hy, hr⟩ := rdi_at L i (by omega)
          have hKC : KC y.f0.f0 y.f0.f1 y.f0.f2 u s d = eK y u s d := by
            unfold KC
            rw [if_pos ⟨ent_key (v := y.f1) (hok y (List.mem_of_getElem? hy)), g.2⟩]; rfl
          have hm := seek_mid hG (u := u) (s := s) (d := d) i y hy
          have same : decide (eK y u s d < 0) = decide ((i : Int) < ((seekN L u s d : Nat) : Int)) := by
            rw [decide_eq_decide]
            constructor
            · intro h; have := hm.1 h; omega
            · intro h
              rcases Int.lt_or_le (eK y u s d) 0 with h3 | h3
              · exact h3
              · have := hm.2 (by omega); omega
          rw [laws_FnSought.l0, if_pos (by omega), if_pos (by omega), hr, ikc k (by omega), hKC, Option.bind_some, same, if_neg (by simp), w64s (n := 1000) (by omega) (by omega)]
          exact ih k (i + 1) (by omega) (by omega) (by omega)
      exact loop L.length k 0 (by omega) (by omega) (by omega)
    · rw [if_neg g, laws_FnSought.j0, if_pos (by decide), sseek L (by omega) u s d k (by omega), Option.bind_some, if_neg g, if_pos rfl, ieo L (by omega) k (by omega), Option.bind_some]
      by_cases q : entsB L = true
      · rw [if_pos q, ikeyok, Option.bind_some]
        have : keyB u s d = false := by
          cases h : keyB u s d with
          | false => rfl
          | true => exact absurd ⟨q, h⟩ g
        rw [this]; rfl
      · rw [if_neg q]

end Go.Proofs.Ytfcjacncllmapaf.Pure
