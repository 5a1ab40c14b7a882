-- This session's own text: written by a program of this session, begun from the kit's printer.
import Derived.Test.YtfcjacncllmapagQFnLogHurtx0
import Derived.Test.YtfcjacncllmapagQFnLogHurtx1
namespace Go.Proofs.Ytfcjacncllmapag.QFnLogHurt
open Go.RowKit Go.Proofs.YtfcjacncllmapagW.PrintWords Go.Proofs.YtfcjacncllmapagW.PrintLast Go.Proofs.YtfcjacncllmapagW.PrintMore
attribute [local go_sem] max2_int min2_int max_two min_two max_three min_three max_four min_four   -- for this text's walks alone
set_option linter.unusedVariables false
set_option linter.unusedSimpArgs false
set_option maxRecDepth 100000

/-! ### spec_ReadLog: function 6 -/
theorem sz_cut_ (x s : ByteArray) (a b : Int) (h : b ≤ (s.size : Int)) : ((x ++ s.extract a.toNat b.toNat).size : Int) = (x.size : Int) + ((b.toNat - a.toNat : Nat) : Int) := by rw [ByteArray.size_append, ByteArray.size_extract]; omega
mutual
def spec_ReadLog.l0 : Nat → ByteArray → List ByteArray → Int → Int → Bool → ByteArray → Option (List ByteArray × Int)
  | 0, _, _, _, _, _, _ => none
  | k + 1, x0, x4, x5, x6, x7, x8 => if (x4.length : Int) < 500 then (if (wrap64 (64 - (Int.tmod x6 64))) < 7 then (if (wrap64 (x6 + (wrap64 (64 - (Int.tmod x6 64))))) > (x0.size : Int) then (some (x4, x5)) else (if 0 ≤ x6 then (if x6 ≤ (wrap64 (x6 + (wrap64 (64 - (Int.tmod x6 64))))) then (if (wrap64 (x6 + (wrap64 (64 - (Int.tmod x6 64))))) ≤ (x0.size : Int) then (if 0 ≤ (wrap64 (64 - (Int.tmod x6 64))) then (if (wrap64 (64 - (Int.tmod x6 64)) : Int).toNat ≤ 281474976710656 then (if (x0.extract (x6 : Int).toNat ((wrap64 (x6 + (wrap64 (64 - (Int.tmod x6 64))))) : Int).toNat).toList = (strOfNums (List.replicate (wrap64 (64 - (Int.tmod x6 64)) : Int).toNat 0)).toList then (spec_ReadLog.l0 k x0 x4 x5 (wrap64 (x6 + (wrap64 (64 - (Int.tmod x6 64))))) x7 x8) else (some (x4, x5))) else (none)) else (none)) else (none)) else (none)) else (none))) else (if (wrap64 (x6 + 6)) > (x0.size : Int) then (some (x4, x5)) else (if 0 ≤ x6 then (if x6 ≤ (wrap64 (x6 + 4)) then (if (wrap64 (x6 + 4)) ≤ (x0.size : Int) then ((spec_TakeFixed.f (x0.extract (x6 : Int).toNat ((wrap64 (x6 + 4)) : Int).toNat)).bind fun bt107 => (if 0 ≤ (wrap64 (x6 + 4)) then (if (wrap64 (x6 + 4)) < (x0.size : Int) then (if 0 ≤ (wrap64 (x6 + 5)) then (if (wrap64 (x6 + 5)) < (x0.size : Int) then (if (wrap64 (bt x0 (wrap64 (x6 + 4)))) > (wrap64 ((wrap64 (64 - (Int.tmod x6 64))) - 6)) then (spec_ReadLog.j1 k x0 x4 x5 x6 x7 x8 (wrap64 (64 - (Int.tmod x6 64))) (wrap64 (bt x0 (wrap64 (x6 + 4)))) (bt x0 (wrap64 (x6 + 5))) true) else (if (wrap64 ((wrap64 (x6 + 6)) + (wrap64 (bt x0 (wrap64 (x6 + 4)))))) > (x0.size : Int) then (spec_ReadLog.j1 k x0 x4 x5 x6 x7 x8 (wrap64 (64 - (Int.tmod x6 64))) (wrap64 (bt x0 (wrap64 (x6 + 4)))) (bt x0 (wrap64 (x6 + 5))) true) else (if (wrap64 (x6 + 4)) ≤ (wrap64 ((wrap64 (x6 + 6)) + (wrap64 (bt x0 (wrap64 (x6 + 4)))))) then (if (wrap64 ((wrap64 (x6 + 6)) + (wrap64 (bt x0 (wrap64 (x6 + 4)))))) ≤ (x0.size : Int) then ((spec_Crc.f k (x0.extract ((wrap64 (x6 + 4)) : Int).toNat ((wrap64 ((wrap64 (x6 + 6)) + (wrap64 (bt x0 (wrap64 (x6 + 4)))))) : Int).toNat)).bind fun t110 => (spec_ReadLog.j1 k x0 x4 x5 x6 x7 x8 (wrap64 (64 - (Int.tmod x6 64))) (wrap64 (bt x0 (wrap64 (x6 + 4)))) (bt x0 (wrap64 (x6 + 5))) (t110 != bt107.1))) else (none)) else (none)))) else (none)) else (none)) else (none)) else (none))) else (none)) else (none)) else (none)))) else (some (x4, x5))
def spec_ReadLog.j1 : Nat → ByteArray → List ByteArray → Int → Int → Bool → ByteArray → Int → Int → Int → Bool → Option (List ByteArray × Int)
  | 0, _, _, _, _, _, _, _, _, _, _ => none
  | k + 1, x0, x4, x5, x6, x7, x8, x9, x13, x14, x96 => if x96 = true then (some (x4, x5)) else (if x14 = 1 then (spec_ReadLog.j2 k x0 x4 x5 x6 x7 x8 x9 x13 x14 true) else (spec_ReadLog.j2 k x0 x4 x5 x6 x7 x8 x9 x13 x14 (x14 == 2)))
def spec_ReadLog.j2 : Nat → ByteArray → List ByteArray → Int → Int → Bool → ByteArray → Int → Int → Int → Bool → Option (List ByteArray × Int)
  | 0, _, _, _, _, _, _, _, _, _, _ => none
  | k + 1, x0, x4, x5, x6, x7, x8, x9, x13, x14, x15 => if x14 = 1 then (spec_ReadLog.j3 k x0 x4 x5 x6 x7 x8 x9 x13 x14 x15 true) else (spec_ReadLog.j3 k x0 x4 x5 x6 x7 x8 x9 x13 x14 x15 (x14 == 4))
def spec_ReadLog.j3 : Nat → ByteArray → List ByteArray → Int → Int → Bool → ByteArray → Int → Int → Int → Bool → Bool → Option (List ByteArray × Int)
  | 0, _, _, _, _, _, _, _, _, _, _, _ => none
  | k + 1, x0, x4, x5, x6, x7, x8, x9, x13, x14, x15, x16 => if x14 < 1 then (spec_ReadLog.j4 k x0 x4 x5 x6 x8 x13 x16 true) else (if x14 > 4 then (spec_ReadLog.j4 k x0 x4 x5 x6 x8 x13 x16 true) else (if (x15 == x7) = true then (spec_ReadLog.j4 k x0 x4 x5 x6 x8 x13 x16 true) else (if x16 = true then (if x14 = 4 then (spec_ReadLog.j4 k x0 x4 x5 x6 x8 x13 x16 (x13 == 0)) else (spec_ReadLog.j4 k x0 x4 x5 x6 x8 x13 x16 false)) else (if x13 < (wrap64 (x9 - 6)) then (spec_ReadLog.j4 k x0 x4 x5 x6 x8 x13 x16 true) else (if x14 = 4 then (spec_ReadLog.j4 k x0 x4 x5 x6 x8 x13 x16 (x13 == 0)) else (spec_ReadLog.j4 k x0 x4 x5 x6 x8 x13 x16 false))))))
def spec_ReadLog.j4 : Nat → ByteArray → List ByteArray → Int → Int → ByteArray → Int → Bool → Bool → Option (List ByteArray × Int)
  | 0, _, _, _, _, _, _, _, _ => none
  | k + 1, x0, x4, x5, x6, x8, x13, x16, x137 => if x137 = true then (some (x4, x5)) else (if 0 ≤ (wrap64 (x6 + 6)) then (if (wrap64 (x6 + 6)) ≤ (wrap64 ((wrap64 (x6 + 6)) + x13)) then (if (wrap64 ((wrap64 (x6 + 6)) + x13)) ≤ (x0.size : Int) then (if x8.size + (x0.extract ((wrap64 (x6 + 6)) : Int).toNat ((wrap64 ((wrap64 (x6 + 6)) + x13)) : Int).toNat).size ≤ 9223372036854775807 then (if ((x8 ++ (x0.extract ((wrap64 (x6 + 6)) : Int).toNat ((wrap64 ((wrap64 (x6 + 6)) + x13)) : Int).toNat)).size : Int) > 8000 then (some (x4, x5)) else (if x16 = true then (if x4.length < 8796093022208 then (spec_ReadLog.l0 k x0 (x4 ++ [x8 ++ (x0.extract ((wrap64 (x6 + 6)) : Int).toNat ((wrap64 ((wrap64 (x6 + 6)) + x13)) : Int).toNat)]) (wrap64 ((wrap64 (x6 + 6)) + x13)) (wrap64 ((wrap64 (x6 + 6)) + x13)) (!x16) (⟨#[]⟩ : ByteArray)) else (none)) else (spec_ReadLog.l0 k x0 x4 x5 (wrap64 ((wrap64 (x6 + 6)) + x13)) (!x16) (x8 ++ (x0.extract ((wrap64 (x6 + 6)) : Int).toNat ((wrap64 ((wrap64 (x6 + 6)) + x13)) : Int).toNat))))) else (none)) else (none)) else (none)) else (none))
end
def spec_ReadLog.f (k : Nat) (a0 : ByteArray) : Option (List ByteArray × Int) := spec_ReadLog.l0 k a0 (([] : List ByteArray)) 0 0 false (⟨#[]⟩ : ByteArray)
set_option maxRecDepth 100000 in
theorem spec_ReadLog.mono_l : ∀ k, (∀ y0 y1 y2 y3 y4 y5, LeO (spec_ReadLog.l0 k y0 y1 y2 y3 y4 y5) (spec_ReadLog.l0 (k + 1) y0 y1 y2 y3 y4 y5)) ∧ (∀ y0 y1 y2 y3 y4 y5 y6 y7 y8 y9, LeO (spec_ReadLog.j1 k y0 y1 y2 y3 y4 y5 y6 y7 y8 y9) (spec_ReadLog.j1 (k + 1) y0 y1 y2 y3 y4 y5 y6 y7 y8 y9)) ∧ (∀ y0 y1 y2 y3 y4 y5 y6 y7 y8 y9, LeO (spec_ReadLog.j2 k y0 y1 y2 y3 y4 y5 y6 y7 y8 y9) (spec_ReadLog.j2 (k + 1) y0 y1 y2 y3 y4 y5 y6 y7 y8 y9)) ∧ (∀ y0 y1 y2 y3 y4 y5 y6 y7 y8 y9 y10, LeO (spec_ReadLog.j3 k y0 y1 y2 y3 y4 y5 y6 y7 y8 y9 y10) (spec_ReadLog.j3 (k + 1) y0 y1 y2 y3 y4 y5 y6 y7 y8 y9 y10)) ∧ (∀ y0 y1 y2 y3 y4 y5 y6 y7, LeO (spec_ReadLog.j4 k y0 y1 y2 y3 y4 y5 y6 y7) (spec_ReadLog.j4 (k + 1) y0 y1 y2 y3 y4 y5 y6 y7))
  | 0 => ⟨fun _ _ _ _ _ _ r h => by simp [spec_ReadLog.l0] at h, fun _ _ _ _ _ _ _ _ _ _ r h => by simp [spec_ReadLog.j1] at h, fun _ _ _ _ _ _ _ _ _ _ r h => by simp [spec_ReadLog.j2] at h, fun _ _ _ _ _ _ _ _ _ _ _ r h => by simp [spec_ReadLog.j3] at h, fun _ _ _ _ _ _ _ _ r h => by simp [spec_ReadLog.j4] at h⟩
  | k + 1 => by
    obtain ⟨ih0, ih1, ih2, ih3, ih4⟩ := spec_ReadLog.mono_l k
    refine ⟨?_, ?_, ?_, ?_, ?_⟩
    · intro y0 y1 y2 y3 y4 y5
      unfold spec_ReadLog.l0
      repeat' first
      | (with_reducible exact ih0 _ _ _ _ _ _)
      | (with_reducible exact ih1 _ _ _ _ _ _ _ _ _ _)
      | (with_reducible exact ih2 _ _ _ _ _ _ _ _ _ _)
      | (with_reducible exact ih3 _ _ _ _ _ _ _ _ _ _ _)
      | (with_reducible exact ih4 _ _ _ _ _ _ _ _)
      | (with_reducible exact spec_Crc.mono _ _)
      | (with_reducible exact LeO.refl _)
      | (with_reducible exact LeO.none _)
      | (with_reducible refine LeO.ite ?_ ?_)
      | (with_reducible refine LeO.bind ?_ (fun _ => ?_))
      | exact ih0 _ _ _ _ _ _
      | exact ih1 _ _ _ _ _ _ _ _ _ _
      | exact ih2 _ _ _ _ _ _ _ _ _ _
      | exact ih3 _ _ _ _ _ _ _ _ _ _ _
      | exact ih4 _ _ _ _ _ _ _ _
      | exact spec_Crc.mono _ _
      | exact LeO.none _
      | refine LeO.ite ?_ ?_
      | refine LeO.bind ?_ (fun _ => ?_)
    · intro y0 y1 y2 y3 y4 y5 y6 y7 y8 y9
      unfold spec_ReadLog.j1
      repeat' first
      | (with_reducible exact ih0 _ _ _ _ _ _)
      | (with_reducible exact ih1 _ _ _ _ _ _ _ _ _ _)
      | (with_reducible exact ih2 _ _ _ _ _ _ _ _ _ _)
      | (with_reducible exact ih3 _ _ _ _ _ _ _ _ _ _ _)
      | (with_reducible exact ih4 _ _ _ _ _ _ _ _)
      | (with_reducible exact spec_Crc.mono _ _)
      | (with_reducible exact LeO.refl _)
      | (with_reducible exact LeO.none _)
      | (with_reducible refine LeO.ite ?_ ?_)
      | (with_reducible refine LeO.bind ?_ (fun _ => ?_))
      | exact ih0 _ _ _ _ _ _
      | exact ih1 _ _ _ _ _ _ _ _ _ _
      | exact ih2 _ _ _ _ _ _ _ _ _ _
      | exact ih3 _ _ _ _ _ _ _ _ _ _ _
      | exact ih4 _ _ _ _ _ _ _ _
      | exact spec_Crc.mono _ _
      | exact LeO.none _
      | refine LeO.ite ?_ ?_
      | refine LeO.bind ?_ (fun _ => ?_)
    · intro y0 y1 y2 y3 y4 y5 y6 y7 y8 y9
      unfold spec_ReadLog.j2
      repeat' first
      | (with_reducible exact ih0 _ _ _ _ _ _)
      | (with_reducible exact ih1 _ _ _ _ _ _ _ _ _ _)
      | (with_reducible exact ih2 _ _ _ _ _ _ _ _ _ _)
      | (with_reducible exact ih3 _ _ _ _ _ _ _ _ _ _ _)
      | (with_reducible exact ih4 _ _ _ _ _ _ _ _)
      | (with_reducible exact spec_Crc.mono _ _)
      | (with_reducible exact LeO.refl _)
      | (with_reducible exact LeO.none _)
      | (with_reducible refine LeO.ite ?_ ?_)
      | (with_reducible refine LeO.bind ?_ (fun _ => ?_))
      | exact ih0 _ _ _ _ _ _
      | exact ih1 _ _ _ _ _ _ _ _ _ _
      | exact ih2 _ _ _ _ _ _ _ _ _ _
      | exact ih3 _ _ _ _ _ _ _ _ _ _ _
      | exact ih4 _ _ _ _ _ _ _ _
      | exact spec_Crc.mono _ _
      | exact LeO.none _
      | refine LeO.ite ?_ ?_
      | refine LeO.bind ?_ (fun _ => ?_)
    · intro y0 y1 y2 y3 y4 y5 y6 y7 y8 y9 y10
      unfold spec_ReadLog.j3
      repeat' first
      | (with_reducible exact ih0 _ _ _ _ _ _)
      | (with_reducible exact ih1 _ _ _ _ _ _ _ _ _ _)
      | (with_reducible exact ih2 _ _ _ _ _ _ _ _ _ _)
      | (with_reducible exact ih3 _ _ _ _ _ _ _ _ _ _ _)
      | (with_reducible exact ih4 _ _ _ _ _ _ _ _)
      | (with_reducible exact spec_Crc.mono _ _)
      | (with_reducible exact LeO.refl _)
      | (with_reducible exact LeO.none _)
      | (with_reducible refine LeO.ite ?_ ?_)
      | (with_reducible refine LeO.bind ?_ (fun _ => ?_))
      | exact ih0 _ _ _ _ _ _
      | exact ih1 _ _ _ _ _ _ _ _ _ _
      | exact ih2 _ _ _ _ _ _ _ _ _ _
      | exact ih3 _ _ _ _ _ _ _ _ _ _ _
      | exact ih4 _ _ _ _ _ _ _ _
      | exact spec_Crc.mono _ _
      | exact LeO.none _
      | refine LeO.ite ?_ ?_
      | refine LeO.bind ?_ (fun _ => ?_)
    · intro y0 y1 y2 y3 y4 y5 y6 y7
      unfold spec_ReadLog.j4
      repeat' first
      | (with_reducible exact ih0 _ _ _ _ _ _)
      | (with_reducible exact ih1 _ _ _ _ _ _ _ _ _ _)
      | (with_reducible exact ih2 _ _ _ _ _ _ _ _ _ _)
      | (with_reducible exact ih3 _ _ _ _ _ _ _ _ _ _ _)
      | (with_reducible exact ih4 _ _ _ _ _ _ _ _)
      | (with_reducible exact spec_Crc.mono _ _)
      | (with_reducible exact LeO.refl _)
      | (with_reducible exact LeO.none _)
      | (with_reducible refine LeO.ite ?_ ?_)
      | (with_reducible refine LeO.bind ?_ (fun _ => ?_))
      | exact ih0 _ _ _ _ _ _
      | exact ih1 _ _ _ _ _ _ _ _ _ _
      | exact ih2 _ _ _ _ _ _ _ _ _ _
      | exact ih3 _ _ _ _ _ _ _ _ _ _ _
      | exact ih4 _ _ _ _ _ _ _ _
      | exact spec_Crc.mono _ _
      | exact LeO.none _
      | refine LeO.ite ?_ ?_
      | refine LeO.bind ?_ (fun _ => ?_)
theorem spec_ReadLog.mono : ∀ a0 k, LeO (spec_ReadLog.f k a0) (spec_ReadLog.f (k + 1) a0) := by
  intro a0 k
  obtain ⟨ih0, ih1, ih2, ih3, ih4⟩ := spec_ReadLog.mono_l k
  unfold spec_ReadLog.f
  repeat' first
      | (with_reducible exact ih0 _ _ _ _ _ _)
      | (with_reducible exact ih1 _ _ _ _ _ _ _ _ _ _)
      | (with_reducible exact ih2 _ _ _ _ _ _ _ _ _ _)
      | (with_reducible exact ih3 _ _ _ _ _ _ _ _ _ _ _)
      | (with_reducible exact ih4 _ _ _ _ _ _ _ _)
      | (with_reducible exact spec_Crc.mono _ _)
      | (with_reducible exact LeO.refl _)
      | (with_reducible exact LeO.none _)
      | (with_reducible refine LeO.ite ?_ ?_)
      | (with_reducible refine LeO.bind ?_ (fun _ => ?_))
      | exact ih0 _ _ _ _ _ _
      | exact ih1 _ _ _ _ _ _ _ _ _ _
      | exact ih2 _ _ _ _ _ _ _ _ _ _
      | exact ih3 _ _ _ _ _ _ _ _ _ _ _
      | exact ih4 _ _ _ _ _ _ _ _
      | exact spec_Crc.mono _ _
      | exact LeO.none _
      | refine LeO.ite ?_ ?_
      | refine LeO.bind ?_ (fun _ => ?_)
def spec_ReadLog.T9 : Bool × List (List Nat × List Nat) := (true, [([], []), ([], []), ([0, 1], [0, 1]), ([], []), ([3], [3]), ([2, 4], [2, 4]), ([5], [5]), ([6], [6]), ([6], [6]), ([6], [6]), ([6], [6]), ([9, 10, 6], [6, 9, 10]), ([7, 8, 11, 6], [6, 7, 8, 11]), ([6], [6]), ([13, 13, 6], [6, 13]), ([14, 6], [6, 14]), ([12, 15, 6], [6, 12, 15]), ([6, 16], [6, 16])])
def spec_ReadLog.B9 : List Nat := [0, 0, 3, 0, 8, 31, 63, 127, 127, 127, 127, 1663, 4095, 127, 8319, 24703, 65535, 131071]
theorem spec_ReadLog.tab9 : rtab .any (opsOf Try.f6 9) = spec_ReadLog.T9 := by kernel_rfl
theorem spec_ReadLog.bits9 : waitsOk spec_ReadLog.T9.2 spec_ReadLog.B9 = true := by kernel_rfl
set_option maxHeartbeats 8000000 in
set_option maxRecDepth 100000 in
theorem spec_ReadLog.calls (k : Nat) (a0 : ByteArray) (r1 : List ByteArray) (r2 : Int) (w : World) (h : spec_ReadLog.f k a0 = some (r1, r2)) :
    Calls Try.prog 6 #[.string a0] w fun e w' => ∃ v0_ : Value, e = .returned (.tuple #[v0_, .int .i64 r2]) ∧ Kd.R Kd.string 9 w' w.heap.size (fun _ => True) v0_ r1 ∧ Below w.heap.size w w' := by
  have HB := Aside0.mk (Below.refl w.heap.size w)
  have H : (spec_ReadLog.l0 k a0 (([] : List ByteArray)) 0 0 false (⟨#[]⟩ : ByteArray)) = some (r1, r2) := h
  clear h
  obtain ⟨y101, hy101⟩ : ∃ y_ : List ByteArray, y_ = (([] : List ByteArray)) := ⟨_, rfl⟩
  replace H : (spec_ReadLog.l0 k a0 y101 0 0 false (⟨#[]⟩ : ByteArray)) = some (r1, r2) := by first | (rw [hy101]; with_reducible exact H) | (have H2_ := (Option.bind_some _ _).symm.trans H; rw [hy101]; with_reducible exact H2_) | (have H2_ := (Option.bind_some _ _).symm.trans H; with_reducible exact H2_) | with_reducible exact H | (rw [hy101]; exact H) | exact H
  have Ny101 := Aside0.mk hy101
  clear hy101
  have H' := Aside0.mk H
  clear H
  go_enter Try.func6, Try.ntmps6
  go_wp2_with (first | ((with_reducible refine gate_dst (N := 17) rfl ?_); (try (refine gate_guard (by rfl) ?_; dsimp only)); refine Kd.R_lit Kd.string _ 9 ?hg (N := 17) ?hd (xs := ([] : List ByteArray)) (inner := []) (ok := fun _ => True) (okp := fun _ => True) ?hr ?hp (fun _ hk => hk) trivial (Below.refl _ _) (Nat.le_refl _) (by simp) ?_; (case hd => rfl); (case hg => rfl); (case hr => first | (go_simp; done) | (go_simp; rfl)); (case hp => exact (Reps.none _ _)); intro v102 w2 ho3 hb hg_ hnew_; clear hg_ hnew_; (first | rw [← Ny101.out] at ho3 | (simp only [Int.reduceToNat] at ho3; rw [← Ny101.out] at ho3)); have n0_ := Aside0.mk (Kd.R_lower ho3 (below_size (by repeat (first | (with_reducible first | exact HB.out | apply below_alloc | apply pw_below_drewN | apply below_drew1) | exact HB.out)))); have n1_ := Aside0.mk (below_step (by repeat (first | (with_reducible first | exact HB.out | apply below_alloc | apply pw_below_drewN | apply below_drew1) | exact HB.out)) hb); clear HB; have HO103 := n0_; have HB := n1_; clear n0_ n1_; clear hb ho3))
  go_loopg [4, 5, 6, 7, 8] k (fun kq v4 v5 v6 v7 v8 w' => ∃ (x4_1 : List ByteArray) (x5_1 : Int) (x6_1 : Int) (x7_1 : Bool) (x8_1 : ByteArray), v5 = .int .i64 x5_1 ∧ v6 = .int .i64 x6_1 ∧ v7 = .bool x7_1 ∧ v8 = .string x8_1 ∧ Aside0 (spec_ReadLog.l0 kq a0 x4_1 x5_1 x6_1 x7_1 x8_1 = some (r1, r2)) ∧ Aside0 (kq ≤ k) ∧ Aside0 (Kd.R Kd.string 9 w' w.heap.size (fun _ => True) v4 x4_1) ∧ Aside0 (Below w.heap.size w w'))
  case atStart => exact ⟨(y101), (0), (0), (false), ((⟨#[]⟩ : ByteArray)), (by first | rfl | (simp; done) | (simp [*]; done)), (by first | rfl | (simp; done) | (simp [*]; done)), (by first | rfl | (simp; done) | (simp [*]; done)), (by first | rfl | (simp; done) | (simp [*]; done)), H', ⟨Nat.le_refl _⟩, ⟨by (with_reducible repeat (first | apply Kd.R_alloc | apply Kd.R_drewN | apply Kd.R_drew)); exact HO103.out⟩, ⟨by repeat (first | (with_reducible first | exact HB.out | apply below_alloc | apply pw_below_drewN | apply below_drew1) | exact HB.out)⟩⟩
  case round =>
    clear H'
    try clear p2
    obtain ⟨x4_1, x5_1, x6_1, x7_1, x8_1, rfl, rfl, rfl, rfl, HA, HK1, HO_4, HB⟩ := hrel
    cases gk with
    | zero => exact absurd HA.out (by simp [spec_ReadLog.l0])
    | succ k1 =>
      have H := HA.out
      clear HA
      simp only [spec_ReadLog.l0] at H
      by_cases c4 : (x4_1.length : Int) < 500
      · rw [if_pos c4] at H
        have c4b0 : decide ((x4_1.length : Int) < 500) = true := decide_eq_true c4
        have c4b1 : decide (x4_1.length < 500) = true := decide_eq_true (by omega)
        clear c4
        by_cases c5 : (wrap64 (64 - (Int.tmod x6_1 64))) < 7
        · rw [if_pos c5] at H
          have c5b0 : decide ((wrap64 (64 - (Int.tmod x6_1 64))) < 7) = true := decide_eq_true c5
          clear c5
          by_cases c6 : (wrap64 (x6_1 + (wrap64 (64 - (Int.tmod x6_1 64))))) > (a0.size : Int)
          · rw [if_pos c6] at H
            have c6b0 : decide ((a0.size : Int) < (wrap64 (x6_1 + (wrap64 (64 - (Int.tmod x6_1 64)))))) = true := decide_eq_true c6
            clear c6
            simp only [Option.some.injEq, Prod.mk.injEq] at H
            obtain ⟨rfl, rfl⟩ := H
            obtain ⟨Ao7, co7, eo7⟩ := Kd.R_slice HO_4.out
            subst eo7
            try go_wp2
            have n0_ := Aside0.mk (Kd.R_drew HO_4.out)
            have n1_ := Aside0.mk (below_drew1 HB.out)
            clear HO_4
            clear HB
            have HO_4 := n0_
            have HB := n1_
            clear n0_ n1_
            refine start_ (n := 18) (S := fun w' => True) (ds := []) #[false, false, false, false, false, false, false, false, false, false, false, false, false, false, false, false, false, false] (by kernel_rfl) rfl rfl trivial (fun hHeld => ?_); refine with_tabW spec_ReadLog.tab9 spec_ReadLog.bits9 (fun HT_ HW_ => ?_)
            generalize wr.drew = w8 at HO_4 HB hHeld ⊢
            refine pure_ (i := 0) (N := some 26) (v := ?_) (a' := ?_) #[true, false, false, false, false, false, false, false, false, false, false, false, false, false, false, false, false, false] rfl rfl (any_of HT_.out (by kernel_rfl)) (fun _ _ _ h => h) (Or.inl ⟨by rfl, ?_⟩) ?_ ?_
            rotate_left
            · intro w'
              go_simp
              with_reducible rfl
            rotate_left
            · simp only [Act.put, List.setIfInBounds_toArray, List.set_cons_zero, List.set_cons_succ, i64_w, i32_w]
              rfl
            refine pure_ (i := 1) (N := some 27) (v := ?_) (a' := ?_) #[true, true, false, false, false, false, false, false, false, false, false, false, false, false, false, false, false, false] rfl rfl (any_of HT_.out (by kernel_rfl)) (fun _ _ _ h => h) (Or.inl ⟨by rfl, ?_⟩) ?_ ?_
            rotate_left
            · intro w'
              go_simp
              with_reducible rfl
            rotate_left
            · simp only [Act.put, List.setIfInBounds_toArray, List.set_cons_zero, List.set_cons_succ, i64_w, i32_w]
              rfl
            refine pure_ (i := 2) (N := some 28) (v := ?_) (a' := ?_) #[true, true, true, false, false, false, false, false, false, false, false, false, false, false, false, false, false, false] rfl rfl (any_of HT_.out (by kernel_rfl)) (fun _ _ _ h => h) (Or.inl ⟨by rfl, ?_⟩) ?_ ?_
            rotate_left
            · intro w'
              go_simp
              with_reducible rfl
            rotate_left
            · simp only [Act.put, List.setIfInBounds_toArray, List.set_cons_zero, List.set_cons_succ, i64_w, i32_w]
              rfl
            refine pure_ (i := 3) (N := some 29) (v := ?_) (a' := ?_) #[true, true, true, true, false, false, false, false, false, false, false, false, false, false, false, false, false, false] rfl rfl (any_of HT_.out (by kernel_rfl)) (fun _ _ _ h => h) (Or.inl ⟨by rfl, ?_⟩) ?_ ?_
            rotate_left
            · intro w'
              go_simp
              with_reducible rfl
            rotate_left
            · simp only [Act.put, List.setIfInBounds_toArray, List.set_cons_zero, List.set_cons_succ, i64_w, i32_w]
              rfl
            refine pure_ (i := 4) (N := some 30) (v := ?_) (a' := ?_) #[true, true, true, true, true, false, false, false, false, false, false, false, false, false, false, false, false, false] rfl rfl (any_of HT_.out (by kernel_rfl)) (fun _ _ _ h => h) (Or.inl ⟨by rfl, ?_⟩) ?_ ?_
            rotate_left
            · intro w'
              go_simp
              with_reducible rfl
            rotate_left
            · simp only [Act.put, List.setIfInBounds_toArray, List.set_cons_zero, List.set_cons_succ, i64_w, i32_w]
              rfl
            refine pure_ (i := 5) (N := some 31) (v := ?_) (a' := ?_) #[true, true, true, true, true, true, false, false, false, false, false, false, false, false, false, false, false, false] rfl rfl (any_of HT_.out (by kernel_rfl)) (fun _ _ _ h => h) (Or.inl ⟨by rfl, ?_⟩) ?_ ?_
            rotate_left
            · intro w'
              go_simp
              with_reducible rfl
            rotate_left
            · simp only [Act.put, List.setIfInBounds_toArray, List.set_cons_zero, List.set_cons_succ, i64_w, i32_w]
              rfl
            refine pure_ (i := 6) (N := some 32) (v := ?_) (a' := ?_) #[true, true, true, true, true, true, true, false, false, false, false, false, false, false, false, false, false, false] rfl rfl (any_of HT_.out (by kernel_rfl)) (fun _ _ _ h => h) (Or.inl ⟨by rfl, ?_⟩) ?_ ?_
            rotate_left
            · intro w'
              go_simp
              with_reducible rfl
            rotate_left
            · simp only [Act.put, List.setIfInBounds_toArray, List.set_cons_zero, List.set_cons_succ, i64_w, i32_w]
              rfl
            refine pure_ (i := 7) (N := some 33) (v := undef) (a' := ?_) #[true, true, true, true, true, true, true, true, false, false, false, false, false, false, false, false, false, false] rfl rfl (any_of HT_.out (by kernel_rfl)) (fun _ _ _ h => h) (Or.inr ⟨by rfl, rfl⟩) ?_ ?_
            rotate_left
            · simp only [Act.put, List.setIfInBounds_toArray, List.set_cons_zero, List.set_cons_succ, i64_w, i32_w]
              rfl
            refine pure_ (i := 8) (N := some 34) (v := undef) (a' := ?_) #[true, true, true, true, true, true, true, true, true, false, false, false, false, false, false, false, false, false] rfl rfl (any_of HT_.out (by kernel_rfl)) (fun _ _ _ h => h) (Or.inr ⟨by rfl, rfl⟩) ?_ ?_
            rotate_left
            · simp only [Act.put, List.setIfInBounds_toArray, List.set_cons_zero, List.set_cons_succ, i64_w, i32_w]
              rfl
            refine pure_ (i := 9) (N := some 35) (v := undef) (a' := ?_) #[true, true, true, true, true, true, true, true, true, true, false, false, false, false, false, false, false, false] rfl rfl (any_of HT_.out (by kernel_rfl)) (fun _ _ _ h => h) (Or.inr ⟨by rfl, rfl⟩) ?_ ?_
            rotate_left
            · simp only [Act.put, List.setIfInBounds_toArray, List.set_cons_zero, List.set_cons_succ, i64_w, i32_w]
              rfl
            refine pure_ (i := 10) (N := some 36) (v := undef) (a' := ?_) #[true, true, true, true, true, true, true, true, true, true, true, false, false, false, false, false, false, false] rfl rfl (any_of HT_.out (by kernel_rfl)) (fun _ _ _ h => h) (Or.inr ⟨by rfl, rfl⟩) ?_ ?_
            rotate_left
            · simp only [Act.put, List.setIfInBounds_toArray, List.set_cons_zero, List.set_cons_succ, i64_w, i32_w]
              rfl
            refine pure_ (i := 11) (N := some 37) (v := undef) (a' := ?_) #[true, true, true, true, true, true, true, true, true, true, true, true, false, false, false, false, false, false] rfl rfl (any_of HT_.out (by kernel_rfl)) (fun _ _ _ h => h) (Or.inr ⟨by rfl, rfl⟩) ?_ ?_
            rotate_left
            · simp only [Act.put, List.setIfInBounds_toArray, List.set_cons_zero, List.set_cons_succ, i64_w, i32_w]
              rfl
            refine pure_ (i := 12) (N := some 38) (v := undef) (a' := ?_) #[true, true, true, true, true, true, true, true, true, true, true, true, true, false, false, false, false, false] rfl rfl (any_of HT_.out (by kernel_rfl)) (fun _ _ _ h => h) (Or.inr ⟨by rfl, rfl⟩) ?_ ?_
            rotate_left
            · simp only [Act.put, List.setIfInBounds_toArray, List.set_cons_zero, List.set_cons_succ, i64_w, i32_w]
              rfl
            refine pure_ (i := 13) (N := some 39) (v := undef) (a' := ?_) #[true, true, true, true, true, true, true, true, true, true, true, true, true, true, false, false, false, false] rfl rfl (any_of HT_.out (by kernel_rfl)) (fun _ _ _ h => h) (Or.inr ⟨by rfl, rfl⟩) ?_ ?_
            rotate_left
            · simp only [Act.put, List.setIfInBounds_toArray, List.set_cons_zero, List.set_cons_succ, i64_w, i32_w]
              rfl
            refine pure_ (i := 14) (N := some 40) (v := undef) (a' := ?_) #[true, true, true, true, true, true, true, true, true, true, true, true, true, true, true, false, false, false] rfl rfl (any_of HT_.out (by kernel_rfl)) (fun _ _ _ h => h) (Or.inr ⟨by rfl, rfl⟩) ?_ ?_
            rotate_left
            · simp only [Act.put, List.setIfInBounds_toArray, List.set_cons_zero, List.set_cons_succ, i64_w, i32_w]
              rfl
            refine pure_ (i := 15) (N := some 41) (v := undef) (a' := ?_) #[true, true, true, true, true, true, true, true, true, true, true, true, true, true, true, true, false, false] rfl rfl (any_of HT_.out (by kernel_rfl)) (fun _ _ _ h => h) (Or.inr ⟨by rfl, rfl⟩) ?_ ?_
            rotate_left
            · simp only [Act.put, List.setIfInBounds_toArray, List.set_cons_zero, List.set_cons_succ, i64_w, i32_w]
              rfl
            refine pure_ (i := 16) (N := some 42) (v := undef) (a' := ?_) #[true, true, true, true, true, true, true, true, true, true, true, true, true, true, true, true, true, false] rfl rfl (any_of HT_.out (by kernel_rfl)) (fun _ _ _ h => h) (Or.inr ⟨by rfl, rfl⟩) ?_ ?_
            rotate_left
            · simp only [Act.put, List.setIfInBounds_toArray, List.set_cons_zero, List.set_cons_succ, i64_w, i32_w]
              rfl
            refine pure_ (i := 17) (N := some 43) (v := ?_) (a' := ?_) #[true, true, true, true, true, true, true, true, true, true, true, true, true, true, true, true, true, true] rfl rfl (any_of HT_.out (by kernel_rfl)) (fun _ _ _ h => h) (Or.inl ⟨by rfl, ?_⟩) ?_ ?_
            rotate_left
            · intro w'
              go_simp
              with_reducible rfl
            rotate_left
            · simp only [Act.put, List.setIfInBounds_toArray, List.set_cons_zero, List.set_cons_succ, i64_w, i32_w]
              rfl
            refine done_ (done_of HT_.out (by kernel_rfl)) ?_
            try go_wp2
            go_ret2
            exact ⟨_, by first | rfl | (simp [errW_none, errW_some] <;> rfl) | (simp [*, errW_none, errW_some] <;> rfl), by (with_reducible repeat (first | apply Kd.R_alloc | apply Kd.R_drewN | apply Kd.R_drew)); exact HO_4.out, by repeat (first | (with_reducible first | exact HB.out | apply below_alloc | apply pw_below_drewN | apply below_drew1) | exact HB.out)⟩
          · rw [if_neg c6] at H
            have c6b0 : decide ((a0.size : Int) < (wrap64 (x6_1 + (wrap64 (64 - (Int.tmod x6_1 64)))))) = false := decide_eq_false c6
            clear c6
            by_cases c9 : 0 ≤ x6_1
            · rw [if_pos c9] at H
              have c9b0 := eq_true c9
              have c9b1 : decide (0 ≤ x6_1) = true := decide_eq_true c9
              clear c9
              by_cases c10 : x6_1 ≤ (wrap64 (x6_1 + (wrap64 (64 - (Int.tmod x6_1 64)))))
              · rw [if_pos c10] at H
                have c10b0 := eq_true c10
                have c10b1 : decide (x6_1 ≤ (wrap64 (x6_1 + (wrap64 (64 - (Int.tmod x6_1 64)))))) = true := decide_eq_true c10
                by_cases c11 : (wrap64 (x6_1 + (wrap64 (64 - (Int.tmod x6_1 64))))) ≤ (a0.size : Int)
                · rw [if_pos c11] at H
                  have c11b0 := eq_true c11
                  have c11b1 : decide ((wrap64 (x6_1 + (wrap64 (64 - (Int.tmod x6_1 64))))) ≤ (a0.size : Int)) = true := decide_eq_true c11
                  obtain ⟨ji12, hji12⟩ : ∃ j_ : Int, (wrap64 (64 - (Int.tmod x6_1 64))) = j_ := ⟨_, rfl⟩
                  replace H : (if 0 ≤ (ji12) then (if (ji12 : Int).toNat ≤ 281474976710656 then (if (a0.extract (x6_1 : Int).toNat ((wrap64 (x6_1 + (ji12))) : Int).toNat).toList = (strOfNums (List.replicate (ji12 : Int).toNat 0)).toList then (spec_ReadLog.l0 k1 a0 x4_1 x5_1 (wrap64 (x6_1 + (ji12))) x7_1 x8_1) else (some (x4_1, x5_1))) else (none)) else (none)) = some (r1, r2) := by first | (rw [hji12] at H; exact H) | (simp only [hji12] at H ⊢; exact H)
                  (try rw [hji12] at c5b0)
                  (try rw [hji12] at c6b0)
                  (try rw [hji12] at c10b0)
                  (try rw [hji12] at c10b1)
                  (try rw [hji12] at c10)
                  (try rw [hji12] at c11b0)
                  (try rw [hji12] at c11b1)
                  (try rw [hji12] at c11)
                  have hji12w : (IntKind.i64.wrap (64 - (Int.tmod x6_1 64))) = ji12 := (i64_w _).trans hji12
                  by_cases c13 : 0 ≤ (ji12)
                  · rw [if_pos c13] at H
                    have c13b0 := eq_true c13
                    have c13b1 : decide (0 ≤ (ji12)) = true := decide_eq_true c13
                    clear c13
                    by_cases c14 : (ji12 : Int).toNat ≤ 281474976710656
                    · rw [if_pos c14] at H
                      have c14b0 := eq_true c14
                      have c14b1 : decide ((ji12 : Int).toNat ≤ 281474976710656) = true := decide_eq_true c14
                      clear c14
                      obtain ⟨y104, hy104⟩ : ∃ y_ : List Int, y_ = (List.replicate (ji12 : Int).toNat 0) := ⟨_, rfl⟩
                      replace H : (if (a0.extract (x6_1 : Int).toNat ((wrap64 (x6_1 + (ji12))) : Int).toNat).toList = (strOfNums y104).toList then (spec_ReadLog.l0 k1 a0 x4_1 x5_1 (wrap64 (x6_1 + (ji12))) x7_1 x8_1) else (some (x4_1, x5_1))) = some (r1, r2) := by first | (rw [hy104]; with_reducible exact H) | (have H2_ := (Option.bind_some _ _).symm.trans H; rw [hy104]; with_reducible exact H2_) | (have H2_ := (Option.bind_some _ _).symm.trans H; with_reducible exact H2_) | with_reducible exact H | (rw [hy104]; exact H) | exact H
                      have Ny104 := Aside0.mk hy104
                      clear hy104
                      by_cases c15 : (a0.extract (x6_1 : Int).toNat ((wrap64 (x6_1 + (ji12))) : Int).toNat).toList = (strOfNums y104).toList
                      · rw [if_pos c15] at H
                        have c15b0 : ((a0.extract (x6_1 : Int).toNat ((wrap64 (x6_1 + (ji12))) : Int).toNat).toList == (strOfNums y104).toList) = true := beq_iff_eq.mpr c15
                        have c15b1 : ((a0.extract (x6_1 : Int).toNat ((wrap64 (x6_1 + (ji12))) : Int).toNat).toList != (strOfNums y104).toList) = false := bne_eq_false_iff_eq.mpr c15
                        clear c15
                        have H' := Aside0.mk H
                        clear H
                        obtain ⟨Ao16, co16, eo16⟩ := Kd.R_slice HO_4.out
                        subst eo16
                        try go_wp2
                        have n0_ := Aside0.mk (Kd.R_drew HO_4.out)
                        have n1_ := Aside0.mk (below_drew1 HB.out)
                        clear HO_4
                        clear HB
                        have HO_4 := n0_
                        have HB := n1_
                        clear n0_ n1_
                        refine start_ (n := 18) (S := fun w' => True) (ds := []) #[false, false, false, false, false, false, false, false, false, false, false, false, false, false, false, false, false, false] (by kernel_rfl) rfl rfl trivial (fun hHeld => ?_); refine with_tabW spec_ReadLog.tab9 spec_ReadLog.bits9 (fun HT_ HW_ => ?_)
                        generalize wr.drew = w17 at HO_4 HB hHeld ⊢
                        refine pure_ (i := 0) (N := some 26) (v := ?_) (a' := ?_) #[true, false, false, false, false, false, false, false, false, false, false, false, false, false, false, false, false, false] rfl rfl (any_of HT_.out (by kernel_rfl)) (fun _ _ _ h => h) (Or.inl ⟨by rfl, ?_⟩) ?_ ?_
                        rotate_left
                        · intro w'
                          go_simp
                          with_reducible rfl
                        rotate_left
                        · simp only [Act.put, List.setIfInBounds_toArray, List.set_cons_zero, List.set_cons_succ, i64_w, i32_w]
                          rfl
                        refine pure_ (i := 1) (N := some 27) (v := ?_) (a' := ?_) #[true, true, false, false, false, false, false, false, false, false, false, false, false, false, false, false, false, false] rfl rfl (any_of HT_.out (by kernel_rfl)) (fun _ _ _ h => h) (Or.inl ⟨by rfl, ?_⟩) ?_ ?_
                        rotate_left
                        · intro w'
                          go_simp
                          with_reducible rfl
                        rotate_left
                        · simp only [Act.put, List.setIfInBounds_toArray, List.set_cons_zero, List.set_cons_succ, i64_w, i32_w]
                          rfl
                        refine pure_ (i := 2) (N := some 28) (v := ?_) (a' := ?_) #[true, true, true, false, false, false, false, false, false, false, false, false, false, false, false, false, false, false] rfl rfl (any_of HT_.out (by kernel_rfl)) (fun _ _ _ h => h) (Or.inl ⟨by rfl, ?_⟩) ?_ ?_
                        rotate_left
                        · intro w'
                          go_simp
                          with_reducible rfl
                        rotate_left
                        · simp only [Act.put, List.setIfInBounds_toArray, List.set_cons_zero, List.set_cons_succ, i64_w, i32_w]
                          rfl
                        refine pure_ (i := 3) (N := some 29) (v := ?_) (a' := ?_) #[true, true, true, true, false, false, false, false, false, false, false, false, false, false, false, false, false, false] rfl rfl (any_of HT_.out (by kernel_rfl)) (fun _ _ _ h => h) (Or.inl ⟨by rfl, ?_⟩) ?_ ?_
                        rotate_left
                        · intro w'
                          go_simp
                          with_reducible rfl
                        rotate_left
                        · simp only [Act.put, List.setIfInBounds_toArray, List.set_cons_zero, List.set_cons_succ, i64_w, i32_w]
                          rfl
                        refine pure_ (i := 4) (N := some 30) (v := ?_) (a' := ?_) #[true, true, true, true, true, false, false, false, false, false, false, false, false, false, false, false, false, false] rfl rfl (any_of HT_.out (by kernel_rfl)) (fun _ _ _ h => h) (Or.inl ⟨by rfl, ?_⟩) ?_ ?_
                        rotate_left
                        · intro w'
                          go_simp
                          with_reducible rfl
                        rotate_left
                        · simp only [Act.put, List.setIfInBounds_toArray, List.set_cons_zero, List.set_cons_succ, i64_w, i32_w]
                          rfl
                        refine pure_ (i := 5) (N := some 31) (v := ?_) (a' := ?_) #[true, true, true, true, true, true, false, false, false, false, false, false, false, false, false, false, false, false] rfl rfl (any_of HT_.out (by kernel_rfl)) (fun _ _ _ h => h) (Or.inl ⟨by rfl, ?_⟩) ?_ ?_
                        rotate_left
                        · intro w'
                          go_simp
                          with_reducible rfl
                        rotate_left
                        · simp only [Act.put, List.setIfInBounds_toArray, List.set_cons_zero, List.set_cons_succ, i64_w, i32_w]
                          rfl
                        refine pure_ (i := 6) (N := some 32) (v := ?_) (a' := ?_) #[true, true, true, true, true, true, true, false, false, false, false, false, false, false, false, false, false, false] rfl rfl (any_of HT_.out (by kernel_rfl)) (fun _ _ _ h => h) (Or.inl ⟨by rfl, ?_⟩) ?_ ?_
                        rotate_left
                        · intro w'
                          go_simp
                          with_reducible rfl
                        rotate_left
                        · simp only [Act.put, List.setIfInBounds_toArray, List.set_cons_zero, List.set_cons_succ, i64_w, i32_w]
                          rfl
                        refine pure_ (i := 7) (N := some 33) (v := ?_) (a' := ?_) #[true, true, true, true, true, true, true, true, false, false, false, false, false, false, false, false, false, false] rfl rfl (any_of HT_.out (by kernel_rfl)) (fun _ _ _ h => h) (Or.inl ⟨by rfl, ?_⟩) ?_ ?_
                        rotate_left
                        · intro w'
                          go_simp
                          with_reducible rfl
                        rotate_left
                        · simp only [Act.put, List.setIfInBounds_toArray, List.set_cons_zero, List.set_cons_succ, i64_w, i32_w]
                          rfl
                        refine pure_ (i := 8) (N := some 34) (v := ?_) (a' := ?_) #[true, true, true, true, true, true, true, true, true, false, false, false, false, false, false, false, false, false] rfl rfl (any_of HT_.out (by kernel_rfl)) (fun _ _ _ h => h) (Or.inl ⟨by rfl, ?_⟩) ?_ ?_
                        rotate_left
                        · intro w'
                          go_simp
                          with_reducible rfl
                        rotate_left
                        · simp only [Act.put, List.setIfInBounds_toArray, List.set_cons_zero, List.set_cons_succ, i64_w, i32_w]
                          rfl
                        refine pure_ (i := 9) (N := some 35) (v := ?_) (a' := ?_) #[true, true, true, true, true, true, true, true, true, true, false, false, false, false, false, false, false, false] rfl rfl (any_of HT_.out (by kernel_rfl)) (fun _ _ _ h => h) (Or.inl ⟨by rfl, ?_⟩) ?_ ?_
                        rotate_left
                        · intro w'
                          go_simp
                          with_reducible rfl
                        rotate_left
                        · simp only [Act.put, List.setIfInBounds_toArray, List.set_cons_zero, List.set_cons_succ, i64_w, i32_w]
                          rfl
                        refine pure_ (i := 10) (N := some 36) (v := ?_) (a' := ?_) #[true, true, true, true, true, true, true, true, true, true, true, false, false, false, false, false, false, false] rfl rfl (any_of HT_.out (by kernel_rfl)) (fun _ _ _ h => h) (Or.inl ⟨by rfl, ?_⟩) ?_ ?_
                        rotate_left
                        · intro w'
                          go_simp
                          with_reducible rfl
                        rotate_left
                        · simp only [Act.put, List.setIfInBounds_toArray, List.set_cons_zero, List.set_cons_succ, i64_w, i32_w]
                          rfl
                        refine pure_ (i := 11) (N := some 37) (v := ?_) (a' := ?_) #[true, true, true, true, true, true, true, true, true, true, true, true, false, false, false, false, false, false] rfl rfl (any_of HT_.out (by kernel_rfl)) (fun _ _ _ h => h) (Or.inl ⟨by rfl, ?_⟩) ?_ ?_
                        rotate_left
                        · intro w'
                          go_simp
                          with_reducible rfl
                        rotate_left
                        · simp only [Act.put, List.setIfInBounds_toArray, List.set_cons_zero, List.set_cons_succ, i64_w, i32_w]
                          rfl
                        refine pure_ (i := 12) (N := some 38) (v := ?_) (a' := ?_) #[true, true, true, true, true, true, true, true, true, true, true, true, true, false, false, false, false, false] rfl rfl (any_of HT_.out (by kernel_rfl)) (fun _ _ _ h => h) (Or.inl ⟨by rfl, ?_⟩) ?_ ?_
                        rotate_left
                        · intro w'
                          go_simp
                          with_reducible rfl
                        rotate_left
                        · simp only [Act.put, List.setIfInBounds_toArray, List.set_cons_zero, List.set_cons_succ, i64_w, i32_w]
                          rfl
                        refine pure_ (i := 13) (N := some 39) (v := ?_) (a' := ?_) #[true, true, true, true, true, true, true, true, true, true, true, true, true, true, false, false, false, false] rfl rfl (any_of HT_.out (by kernel_rfl)) (fun _ _ _ h => h) (Or.inl ⟨by rfl, ?_⟩) ?_ ?_
                        rotate_left
                        · intro w'
                          go_simp
                          with_reducible rfl
                        rotate_left
                        · simp only [Act.put, List.setIfInBounds_toArray, List.set_cons_zero, List.set_cons_succ, i64_w, i32_w]
                          rfl
                        refine one_ (i := 14) (N := some 40) #[true, true, true, true, true, true, true, true, true, true, true, true, true, true, true, false, false, false] rfl rfl (one_of HT_.out (by kernel_rfl)) (by decide) (fun K hK => ?_)
                        refine Kd.R_make_step (Kd.int .u8) _ 5 (by rfl) (N := 40) rfl 22 _ _ rfl ji12 rfl rfl Try.underlying22 (.int .u8 0) 1 info5 rfl (by decide) (by omega) 0 (ok := fun _ => True) (okp := fun _ => True) rfl (fun _ hk => hk) trivial (of_decide_eq_true (by first | (with_reducible assumption) | assumption)) (Nat.le_trans (Nat.mul_le_mul_right _ (of_decide_eq_true (by first | (with_reducible assumption) | assumption) : ji12.toNat ≤ 281474976710656)) (by omega)) (Below.refl _ _) (Nat.le_refl _) ?_
                        intro v105 w18 ho19 hb hg_ hnew_
                        clear hg_ hnew_
                        (first | rw [← Ny104.out] at ho19 | (simp only [Int.reduceToNat] at ho19; rw [← Ny104.out] at ho19))
                        have n0_ := Aside0.mk (Kd.R_below (by (with_reducible repeat (first | apply Kd.R_alloc | apply Kd.R_drewN | apply Kd.R_drew)); exact HO_4.out) hb)
                        have n1_ := Aside0.mk (Kd.R_lower ho19 (below_size (by repeat (first | (with_reducible first | exact HB.out | apply below_alloc | apply pw_below_drewN | apply below_drew1) | exact HB.out))))
                        have n2_ := Aside0.mk (below_step (by repeat (first | (with_reducible first | exact HB.out | apply below_alloc | apply pw_below_drewN | apply below_drew1) | exact HB.out)) hb)
                        clear HO_4
                        clear HB
                        have HO_4 := n0_
                        have HO106 := n1_
                        have HB := n2_
                        clear n0_ n1_ n2_
                        clear hb ho19
                        refine hK.out _ _ trivial (fun hHeld => ?_)
                        clear hK K
                        refine norm_ (a' := ?_) ?_ ?_
                        rotate_left
                        · show Act.put _ (some 40) _ = _
                          simp only [Act.put, List.setIfInBounds_toArray, List.set_cons_zero, List.set_cons_succ, i64_w, i32_w]
                          rfl
                        refine one_ (i := 15) (N := some 41) #[true, true, true, true, true, true, true, true, true, true, true, true, true, true, true, true, false, false] rfl rfl (one_of HT_.out (by kernel_rfl)) (by decide) (fun K hK => ?_)
                        have hcv20 := own_string (P := Try.prog) Try.underlying22 Try.underlying5 Try.underlying9 (Kd.own_of_R HO106.out)
                        refine value_ (w1 := ?_) (v := ?_) (by rfl) rfl ?_ ?_
                        rotate_left 2
                        · go_simp
                          constructor
                          · rfl
                          · rfl
                        clear hcv20
                        refine hK.out _ _ trivial (fun hHeld => ?_)
                        clear hK K
                        refine norm_ (a' := ?_) ?_ ?_
                        rotate_left
                        · show Act.put _ (some 41) _ = _
                          simp only [Act.put, List.setIfInBounds_toArray, List.set_cons_zero, List.set_cons_succ, i64_w, i32_w]
                          rfl
                        refine pure_ (i := 16) (N := some 42) (v := ?_) (a' := ?_) #[true, true, true, true, true, true, true, true, true, true, true, true, true, true, true, true, true, false] rfl rfl (any_of HT_.out (by kernel_rfl)) (fun _ _ _ h => h) (Or.inl ⟨by rfl, ?_⟩) ?_ ?_
                        rotate_left
                        · intro w'
                          go_simp
                          with_reducible rfl
                        rotate_left
                        · simp only [Act.put, List.setIfInBounds_toArray, List.set_cons_zero, List.set_cons_succ, i64_w, i32_w]
                          rfl
                        refine pure_ (i := 17) (N := some 43) (v := ?_) (a' := ?_) #[true, true, true, true, true, true, true, true, true, true, true, true, true, true, true, true, true, true] rfl rfl (any_of HT_.out (by kernel_rfl)) (fun _ _ _ h => h) (Or.inl ⟨by rfl, ?_⟩) ?_ ?_
                        rotate_left
                        · intro w'
                          go_simp
                          with_reducible rfl
                        rotate_left
                        · simp only [Act.put, List.setIfInBounds_toArray, List.set_cons_zero, List.set_cons_succ, i64_w, i32_w]
                          rfl
                        refine done_ (done_of HT_.out (by kernel_rfl)) ?_
                        try go_wp2
                        go_roundg k1
                        case measure => have := HK1.out; omega
                        case rel => exact ⟨(x4_1), (x5_1), (wrap64 (x6_1 + (ji12))), (x7_1), (x8_1), (by first | rfl | (simp; done) | (simp [*]; done)), (by first | rfl | (simp; done) | (simp [*]; done) | (simp only [← hji12] <;> (first | rfl | (simp; done))) | (simp [*]; done)), (by first | rfl | (simp; done) | (simp [*]; done)), (by first | rfl | (simp; done) | (simp [*]; done)), H', ⟨by have := HK1.out; omega⟩, ⟨by (with_reducible repeat (first | apply Kd.R_alloc | apply Kd.R_drewN | apply Kd.R_drew)); exact HO_4.out⟩, ⟨by repeat (first | (with_reducible first | exact HB.out | apply below_alloc | apply pw_below_drewN | apply below_drew1) | exact HB.out)⟩⟩
                      · rw [if_neg c15] at H
                        have c15b0 : ((a0.extract (x6_1 : Int).toNat ((wrap64 (x6_1 + (ji12))) : Int).toNat).toList == (strOfNums y104).toList) = false := beq_eq_false_iff_ne.mpr c15
                        have c15b1 : ((a0.extract (x6_1 : Int).toNat ((wrap64 (x6_1 + (ji12))) : Int).toNat).toList != (strOfNums y104).toList) = true := bne_iff_ne.mpr c15
                        simp only [Option.some.injEq, Prod.mk.injEq] at H
                        obtain ⟨rfl, rfl⟩ := H
                        obtain ⟨Ao21, co21, eo21⟩ := Kd.R_slice HO_4.out
                        subst eo21
                        try go_wp2
                        have n0_ := Aside0.mk (Kd.R_drew HO_4.out)
                        have n1_ := Aside0.mk (below_drew1 HB.out)
                        clear HO_4
                        clear HB
                        have HO_4 := n0_
                        have HB := n1_
                        clear n0_ n1_
                        refine start_ (n := 18) (S := fun w' => True) (ds := []) #[false, false, false, false, false, false, false, false, false, false, false, false, false, false, false, false, false, false] (by kernel_rfl) rfl rfl trivial (fun hHeld => ?_); refine with_tabW spec_ReadLog.tab9 spec_ReadLog.bits9 (fun HT_ HW_ => ?_)
                        generalize wr.drew = w22 at HO_4 HB hHeld ⊢
                        refine pure_ (i := 0) (N := some 26) (v := ?_) (a' := ?_) #[true, false, false, false, false, false, false, false, false, false, false, false, false, false, false, false, false, false] rfl rfl (any_of HT_.out (by kernel_rfl)) (fun _ _ _ h => h) (Or.inl ⟨by rfl, ?_⟩) ?_ ?_
                        rotate_left
                        · intro w'
                          go_simp
                          with_reducible rfl
                        rotate_left
                        · simp only [Act.put, List.setIfInBounds_toArray, List.set_cons_zero, List.set_cons_succ, i64_w, i32_w]
                          rfl
                        refine pure_ (i := 1) (N := some 27) (v := ?_) (a' := ?_) #[true, true, false, false, false, false, false, false, false, false, false, false, false, false, false, false, false, false] rfl rfl (any_of HT_.out (by kernel_rfl)) (fun _ _ _ h => h) (Or.inl ⟨by rfl, ?_⟩) ?_ ?_
                        rotate_left
                        · intro w'
                          go_simp
                          with_reducible rfl
                        rotate_left
                        · simp only [Act.put, List.setIfInBounds_toArray, List.set_cons_zero, List.set_cons_succ, i64_w, i32_w]
                          rfl
                        refine pure_ (i := 2) (N := some 28) (v := ?_) (a' := ?_) #[true, true, true, false, false, false, false, false, false, false, false, false, false, false, false, false, false, false] rfl rfl (any_of HT_.out (by kernel_rfl)) (fun _ _ _ h => h) (Or.inl ⟨by rfl, ?_⟩) ?_ ?_
                        rotate_left
                        · intro w'
                          go_simp
                          with_reducible rfl
                        rotate_left
                        · simp only [Act.put, List.setIfInBounds_toArray, List.set_cons_zero, List.set_cons_succ, i64_w, i32_w]
                          rfl
                        refine pure_ (i := 3) (N := some 29) (v := ?_) (a' := ?_) #[true, true, true, true, false, false, false, false, false, false, false, false, false, false, false, false, false, false] rfl rfl (any_of HT_.out (by kernel_rfl)) (fun _ _ _ h => h) (Or.inl ⟨by rfl, ?_⟩) ?_ ?_
                        rotate_left
                        · intro w'
                          go_simp
                          with_reducible rfl
                        rotate_left
                        · simp only [Act.put, List.setIfInBounds_toArray, List.set_cons_zero, List.set_cons_succ, i64_w, i32_w]
                          rfl
                        refine pure_ (i := 4) (N := some 30) (v := ?_) (a' := ?_) #[true, true, true, true, true, false, false, false, false, false, false, false, false, false, false, false, false, false] rfl rfl (any_of HT_.out (by kernel_rfl)) (fun _ _ _ h => h) (Or.inl ⟨by rfl, ?_⟩) ?_ ?_
                        rotate_left
                        · intro w'
                          go_simp
                          with_reducible rfl
                        rotate_left
                        · simp only [Act.put, List.setIfInBounds_toArray, List.set_cons_zero, List.set_cons_succ, i64_w, i32_w]
                          rfl
                        refine pure_ (i := 5) (N := some 31) (v := ?_) (a' := ?_) #[true, true, true, true, true, true, false, false, false, false, false, false, false, false, false, false, false, false] rfl rfl (any_of HT_.out (by kernel_rfl)) (fun _ _ _ h => h) (Or.inl ⟨by rfl, ?_⟩) ?_ ?_
                        rotate_left
                        · intro w'
                          go_simp
                          with_reducible rfl
                        rotate_left
                        · simp only [Act.put, List.setIfInBounds_toArray, List.set_cons_zero, List.set_cons_succ, i64_w, i32_w]
                          rfl
                        refine pure_ (i := 6) (N := some 32) (v := ?_) (a' := ?_) #[true, true, true, true, true, true, true, false, false, false, false, false, false, false, false, false, false, false] rfl rfl (any_of HT_.out (by kernel_rfl)) (fun _ _ _ h => h) (Or.inl ⟨by rfl, ?_⟩) ?_ ?_
                        rotate_left
                        · intro w'
                          go_simp
                          with_reducible rfl
                        rotate_left
                        · simp only [Act.put, List.setIfInBounds_toArray, List.set_cons_zero, List.set_cons_succ, i64_w, i32_w]
                          rfl
                        refine pure_ (i := 7) (N := some 33) (v := ?_) (a' := ?_) #[true, true, true, true, true, true, true, true, false, false, false, false, false, false, false, false, false, false] rfl rfl (any_of HT_.out (by kernel_rfl)) (fun _ _ _ h => h) (Or.inl ⟨by rfl, ?_⟩) ?_ ?_
                        rotate_left
                        · intro w'
                          go_simp
                          with_reducible rfl
                        rotate_left
                        · simp only [Act.put, List.setIfInBounds_toArray, List.set_cons_zero, List.set_cons_succ, i64_w, i32_w]
                          rfl
                        refine pure_ (i := 8) (N := some 34) (v := ?_) (a' := ?_) #[true, true, true, true, true, true, true, true, true, false, false, false, false, false, false, false, false, false] rfl rfl (any_of HT_.out (by kernel_rfl)) (fun _ _ _ h => h) (Or.inl ⟨by rfl, ?_⟩) ?_ ?_
                        rotate_left
                        · intro w'
                          go_simp
                          with_reducible rfl
                        rotate_left
                        · simp only [Act.put, List.setIfInBounds_toArray, List.set_cons_zero, List.set_cons_succ, i64_w, i32_w]
                          rfl
                        refine pure_ (i := 9) (N := some 35) (v := ?_) (a' := ?_) #[true, true, true, true, true, true, true, true, true, true, false, false, false, false, false, false, false, false] rfl rfl (any_of HT_.out (by kernel_rfl)) (fun _ _ _ h => h) (Or.inl ⟨by rfl, ?_⟩) ?_ ?_
                        rotate_left
                        · intro w'
                          go_simp
                          with_reducible rfl
                        rotate_left
                        · simp only [Act.put, List.setIfInBounds_toArray, List.set_cons_zero, List.set_cons_succ, i64_w, i32_w]
                          rfl
                        refine pure_ (i := 10) (N := some 36) (v := ?_) (a' := ?_) #[true, true, true, true, true, true, true, true, true, true, true, false, false, false, false, false, false, false] rfl rfl (any_of HT_.out (by kernel_rfl)) (fun _ _ _ h => h) (Or.inl ⟨by rfl, ?_⟩) ?_ ?_
                        rotate_left
                        · intro w'
                          go_simp
                          with_reducible rfl
                        rotate_left
                        · simp only [Act.put, List.setIfInBounds_toArray, List.set_cons_zero, List.set_cons_succ, i64_w, i32_w]
                          rfl
                        refine pure_ (i := 11) (N := some 37) (v := ?_) (a' := ?_) #[true, true, true, true, true, true, true, true, true, true, true, true, false, false, false, false, false, false] rfl rfl (any_of HT_.out (by kernel_rfl)) (fun _ _ _ h => h) (Or.inl ⟨by rfl, ?_⟩) ?_ ?_
                        rotate_left
                        · intro w'
                          go_simp
                          with_reducible rfl
                        rotate_left
                        · simp only [Act.put, List.setIfInBounds_toArray, List.set_cons_zero, List.set_cons_succ, i64_w, i32_w]
                          rfl
                        refine pure_ (i := 12) (N := some 38) (v := ?_) (a' := ?_) #[true, true, true, true, true, true, true, true, true, true, true, true, true, false, false, false, false, false] rfl rfl (any_of HT_.out (by kernel_rfl)) (fun _ _ _ h => h) (Or.inl ⟨by rfl, ?_⟩) ?_ ?_
                        rotate_left
                        · intro w'
                          go_simp
                          with_reducible rfl
                        rotate_left
                        · simp only [Act.put, List.setIfInBounds_toArray, List.set_cons_zero, List.set_cons_succ, i64_w, i32_w]
                          rfl
                        refine pure_ (i := 13) (N := some 39) (v := ?_) (a' := ?_) #[true, true, true, true, true, true, true, true, true, true, true, true, true, true, false, false, false, false] rfl rfl (any_of HT_.out (by kernel_rfl)) (fun _ _ _ h => h) (Or.inl ⟨by rfl, ?_⟩) ?_ ?_
                        rotate_left
                        · intro w'
                          go_simp
                          with_reducible rfl
                        rotate_left
                        · simp only [Act.put, List.setIfInBounds_toArray, List.set_cons_zero, List.set_cons_succ, i64_w, i32_w]
                          rfl
                        refine one_ (i := 14) (N := some 40) #[true, true, true, true, true, true, true, true, true, true, true, true, true, true, true, false, false, false] rfl rfl (one_of HT_.out (by kernel_rfl)) (by decide) (fun K hK => ?_)
                        refine Kd.R_make_step (Kd.int .u8) _ 5 (by rfl) (N := 40) rfl 22 _ _ rfl ji12 rfl rfl Try.underlying22 (.int .u8 0) 1 info5 rfl (by decide) (by omega) 0 (ok := fun _ => True) (okp := fun _ => True) rfl (fun _ hk => hk) trivial (of_decide_eq_true (by first | (with_reducible assumption) | assumption)) (Nat.le_trans (Nat.mul_le_mul_right _ (of_decide_eq_true (by first | (with_reducible assumption) | assumption) : ji12.toNat ≤ 281474976710656)) (by omega)) (Below.refl _ _) (Nat.le_refl _) ?_
                        intro v105 w23 ho24 hb hg_ hnew_
                        clear hg_ hnew_
                        (first | rw [← Ny104.out] at ho24 | (simp only [Int.reduceToNat] at ho24; rw [← Ny104.out] at ho24))
                        have n0_ := Aside0.mk (Kd.R_below (by (with_reducible repeat (first | apply Kd.R_alloc | apply Kd.R_drewN | apply Kd.R_drew)); exact HO_4.out) hb)
                        have n1_ := Aside0.mk (Kd.R_lower ho24 (below_size (by repeat (first | (with_reducible first | exact HB.out | apply below_alloc | apply pw_below_drewN | apply below_drew1) | exact HB.out))))
                        have n2_ := Aside0.mk (below_step (by repeat (first | (with_reducible first | exact HB.out | apply below_alloc | apply pw_below_drewN | apply below_drew1) | exact HB.out)) hb)
                        clear HO_4
                        clear HB
                        have HO_4 := n0_
                        have HO106 := n1_
                        have HB := n2_
                        clear n0_ n1_ n2_
                        clear hb ho24
                        refine hK.out _ _ trivial (fun hHeld => ?_)
                        clear hK K
                        refine norm_ (a' := ?_) ?_ ?_
                        rotate_left
                        · show Act.put _ (some 40) _ = _
                          simp only [Act.put, List.setIfInBounds_toArray, List.set_cons_zero, List.set_cons_succ, i64_w, i32_w]
                          rfl
                        refine one_ (i := 15) (N := some 41) #[true, true, true, true, true, true, true, true, true, true, true, true, true, true, true, true, false, false] rfl rfl (one_of HT_.out (by kernel_rfl)) (by decide) (fun K hK => ?_)
                        have hcv25 := own_string (P := Try.prog) Try.underlying22 Try.underlying5 Try.underlying9 (Kd.own_of_R HO106.out)
                        refine value_ (w1 := ?_) (v := ?_) (by rfl) rfl ?_ ?_
                        rotate_left 2
                        · go_simp
                          constructor
                          · rfl
                          · rfl
                        clear hcv25
                        refine hK.out _ _ trivial (fun hHeld => ?_)
                        clear hK K
                        refine norm_ (a' := ?_) ?_ ?_
                        rotate_left
                        · show Act.put _ (some 41) _ = _
                          simp only [Act.put, List.setIfInBounds_toArray, List.set_cons_zero, List.set_cons_succ, i64_w, i32_w]
                          rfl
                        refine pure_ (i := 16) (N := some 42) (v := ?_) (a' := ?_) #[true, true, true, true, true, true, true, true, true, true, true, true, true, true, true, true, true, false] rfl rfl (any_of HT_.out (by kernel_rfl)) (fun _ _ _ h => h) (Or.inl ⟨by rfl, ?_⟩) ?_ ?_
                        rotate_left
                        · intro w'
                          go_simp
                          with_reducible rfl
                        rotate_left
                        · simp only [Act.put, List.setIfInBounds_toArray, List.set_cons_zero, List.set_cons_succ, i64_w, i32_w]
                          rfl
                        refine pure_ (i := 17) (N := some 43) (v := ?_) (a' := ?_) #[true, true, true, true, true, true, true, true, true, true, true, true, true, true, true, true, true, true] rfl rfl (any_of HT_.out (by kernel_rfl)) (fun _ _ _ h => h) (Or.inl ⟨by rfl, ?_⟩) ?_ ?_
                        rotate_left
                        · intro w'
                          go_simp
                          with_reducible rfl
                        rotate_left
                        · simp only [Act.put, List.setIfInBounds_toArray, List.set_cons_zero, List.set_cons_succ, i64_w, i32_w]
                          rfl
                        refine done_ (done_of HT_.out (by kernel_rfl)) ?_
                        try go_wp2
                        go_ret2
                        exact ⟨_, by first | rfl | (simp [errW_none, errW_some] <;> rfl) | (simp only [← hji12]; first | rfl | (simp [errW_none, errW_some] <;> rfl)) | (simp [*, errW_none, errW_some] <;> rfl), by (with_reducible repeat (first | apply Kd.R_alloc | apply Kd.R_drewN | apply Kd.R_drew)); exact HO_4.out, by repeat (first | (with_reducible first | exact HB.out | apply below_alloc | apply pw_below_drewN | apply below_drew1) | exact HB.out)⟩
                    · rw [if_neg c14] at H
                      exact absurd H (by simp)
                  · rw [if_neg c13] at H
                    exact absurd H (by simp)
                · rw [if_neg c11] at H
                  exact absurd H (by simp)
              · rw [if_neg c10] at H
                exact absurd H (by simp)
            · rw [if_neg c9] at H
              exact absurd H (by simp)
        · rw [if_neg c5] at H
          have c5b0 : decide ((wrap64 (64 - (Int.tmod x6_1 64))) < 7) = false := decide_eq_false c5
          clear c5
          by_cases c26 : (wrap64 (x6_1 + 6)) > (a0.size : Int)
          · rw [if_pos c26] at H
            have c26b0 : decide ((a0.size : Int) < (wrap64 (x6_1 + 6))) = true := decide_eq_true c26
            clear c26
            simp only [Option.some.injEq, Prod.mk.injEq] at H
            obtain ⟨rfl, rfl⟩ := H
            obtain ⟨Ao27, co27, eo27⟩ := Kd.R_slice HO_4.out
            subst eo27
            go_wp2
            go_ret2
            exact ⟨_, by first | rfl | (simp [errW_none, errW_some] <;> rfl) | (simp [*, errW_none, errW_some] <;> rfl), by (with_reducible repeat (first | apply Kd.R_alloc | apply Kd.R_drewN | apply Kd.R_drew)); exact HO_4.out, by repeat (first | (with_reducible first | exact HB.out | apply below_alloc | apply pw_below_drewN | apply below_drew1) | exact HB.out)⟩
          · rw [if_neg c26] at H
            have c26b0 : decide ((a0.size : Int) < (wrap64 (x6_1 + 6))) = false := decide_eq_false c26
            clear c26
            by_cases c28 : 0 ≤ x6_1
            · rw [if_pos c28] at H
              have c28b0 := eq_true c28
              have c28b1 : decide (0 ≤ x6_1) = true := decide_eq_true c28
              clear c28
              by_cases c29 : x6_1 ≤ (wrap64 (x6_1 + 4))
              · rw [if_pos c29] at H
                have c29b0 := eq_true c29
                have c29b1 : decide (x6_1 ≤ (wrap64 (x6_1 + 4))) = true := decide_eq_true c29
                by_cases c30 : (wrap64 (x6_1 + 4)) ≤ (a0.size : Int)
                · rw [if_pos c30] at H
                  have c30b0 := eq_true c30
                  have c30b1 : decide ((wrap64 (x6_1 + 4)) ≤ (a0.size : Int)) = true := decide_eq_true c30
                  replace H := Option.bind_eq_some_iff.mp H
                  obtain ⟨⟨t107, t108, t109⟩, A310, H⟩ := H
                  replace H : (if 0 ≤ (wrap64 (x6_1 + 4)) then (if (wrap64 (x6_1 + 4)) < (a0.size : Int) then (if 0 ≤ (wrap64 (x6_1 + 5)) then (if (wrap64 (x6_1 + 5)) < (a0.size : Int) then (if (wrap64 (bt a0 (wrap64 (x6_1 + 4)))) > (wrap64 ((wrap64 (64 - (Int.tmod x6_1 64))) - 6)) then (spec_ReadLog.j1 k1 a0 x4_1 x5_1 x6_1 x7_1 x8_1 (wrap64 (64 - (Int.tmod x6_1 64))) (wrap64 (bt a0 (wrap64 (x6_1 + 4)))) (bt a0 (wrap64 (x6_1 + 5))) true) else (if (wrap64 ((wrap64 (x6_1 + 6)) + (wrap64 (bt a0 (wrap64 (x6_1 + 4)))))) > (a0.size : Int) then (spec_ReadLog.j1 k1 a0 x4_1 x5_1 x6_1 x7_1 x8_1 (wrap64 (64 - (Int.tmod x6_1 64))) (wrap64 (bt a0 (wrap64 (x6_1 + 4)))) (bt a0 (wrap64 (x6_1 + 5))) true) else (if (wrap64 (x6_1 + 4)) ≤ (wrap64 ((wrap64 (x6_1 + 6)) + (wrap64 (bt a0 (wrap64 (x6_1 + 4)))))) then (if (wrap64 ((wrap64 (x6_1 + 6)) + (wrap64 (bt a0 (wrap64 (x6_1 + 4)))))) ≤ (a0.size : Int) then ((spec_Crc.f k1 (a0.extract ((wrap64 (x6_1 + 4)) : Int).toNat ((wrap64 ((wrap64 (x6_1 + 6)) + (wrap64 (bt a0 (wrap64 (x6_1 + 4)))))) : Int).toNat)).bind fun t110 => (spec_ReadLog.j1 k1 a0 x4_1 x5_1 x6_1 x7_1 x8_1 (wrap64 (64 - (Int.tmod x6_1 64))) (wrap64 (bt a0 (wrap64 (x6_1 + 4)))) (bt a0 (wrap64 (x6_1 + 5))) (t110 != t107))) else (none)) else (none)))) else (none)) else (none)) else (none)) else (none)) = some (r1, r2) := H
                  have A31 := Aside0.mk A310
                  clear A310
                  obtain ⟨ji32, hji32⟩ : ∃ j_ : Int, (wrap64 (x6_1 + 4)) = j_ := ⟨_, rfl⟩
                  replace H : (if 0 ≤ (ji32) then (if (ji32) < (a0.size : Int) then (if 0 ≤ (wrap64 (x6_1 + 5)) then (if (wrap64 (x6_1 + 5)) < (a0.size : Int) then (if (wrap64 (bt a0 (ji32))) > (wrap64 ((wrap64 (64 - (Int.tmod x6_1 64))) - 6)) then (spec_ReadLog.j1 k1 a0 x4_1 x5_1 x6_1 x7_1 x8_1 (wrap64 (64 - (Int.tmod x6_1 64))) (wrap64 (bt a0 (ji32))) (bt a0 (wrap64 (x6_1 + 5))) true) else (if (wrap64 ((wrap64 (x6_1 + 6)) + (wrap64 (bt a0 (ji32))))) > (a0.size : Int) then (spec_ReadLog.j1 k1 a0 x4_1 x5_1 x6_1 x7_1 x8_1 (wrap64 (64 - (Int.tmod x6_1 64))) (wrap64 (bt a0 (ji32))) (bt a0 (wrap64 (x6_1 + 5))) true) else (if (ji32) ≤ (wrap64 ((wrap64 (x6_1 + 6)) + (wrap64 (bt a0 (ji32))))) then (if (wrap64 ((wrap64 (x6_1 + 6)) + (wrap64 (bt a0 (ji32))))) ≤ (a0.size : Int) then ((spec_Crc.f k1 (a0.extract ((ji32) : Int).toNat ((wrap64 ((wrap64 (x6_1 + 6)) + (wrap64 (bt a0 (ji32))))) : Int).toNat)).bind fun t110 => (spec_ReadLog.j1 k1 a0 x4_1 x5_1 x6_1 x7_1 x8_1 (wrap64 (64 - (Int.tmod x6_1 64))) (wrap64 (bt a0 (ji32))) (bt a0 (wrap64 (x6_1 + 5))) (t110 != t107))) else (none)) else (none)))) else (none)) else (none)) else (none)) else (none)) = some (r1, r2) := by first | (rw [hji32] at H; exact H) | (simp only [hji32] at H ⊢; exact H)
                  (try rw [hji32] at c29b0)
                  (try rw [hji32] at c29b1)
                  (try rw [hji32] at c29)
                  (try rw [hji32] at c30b0)
                  (try rw [hji32] at c30b1)
                  (try rw [hji32] at c30)
                  (try rw [hji32] at A31)
                  have hji32w : (IntKind.i64.wrap (x6_1 + 4)) = ji32 := (i64_w _).trans hji32
                  by_cases c33 : 0 ≤ (ji32)
                  · rw [if_pos c33] at H
                    have c33b0 : decide (0 ≤ (ji32)) = true := decide_eq_true c33
                    clear c33
                    by_cases c34 : (ji32) < (a0.size : Int)
                    · rw [if_pos c34] at H
                      have c34b0 : decide ((ji32) < (a0.size : Int)) = true := decide_eq_true c34
                      clear c34
                      obtain ⟨ji36, hji36⟩ : ∃ j_ : Int, (wrap64 (x6_1 + 5)) = j_ := ⟨_, rfl⟩
                      replace H : (if 0 ≤ (ji36) then (if (ji36) < (a0.size : Int) then (if (wrap64 (bt a0 (ji32))) > (wrap64 ((wrap64 (64 - (Int.tmod x6_1 64))) - 6)) then (spec_ReadLog.j1 k1 a0 x4_1 x5_1 x6_1 x7_1 x8_1 (wrap64 (64 - (Int.tmod x6_1 64))) (wrap64 (bt a0 (ji32))) (bt a0 (ji36)) true) else (if (wrap64 ((wrap64 (x6_1 + 6)) + (wrap64 (bt a0 (ji32))))) > (a0.size : Int) then (spec_ReadLog.j1 k1 a0 x4_1 x5_1 x6_1 x7_1 x8_1 (wrap64 (64 - (Int.tmod x6_1 64))) (wrap64 (bt a0 (ji32))) (bt a0 (ji36)) true) else (if (ji32) ≤ (wrap64 ((wrap64 (x6_1 + 6)) + (wrap64 (bt a0 (ji32))))) then (if (wrap64 ((wrap64 (x6_1 + 6)) + (wrap64 (bt a0 (ji32))))) ≤ (a0.size : Int) then ((spec_Crc.f k1 (a0.extract ((ji32) : Int).toNat ((wrap64 ((wrap64 (x6_1 + 6)) + (wrap64 (bt a0 (ji32))))) : Int).toNat)).bind fun t110 => (spec_ReadLog.j1 k1 a0 x4_1 x5_1 x6_1 x7_1 x8_1 (wrap64 (64 - (Int.tmod x6_1 64))) (wrap64 (bt a0 (ji32))) (bt a0 (ji36)) (t110 != t107))) else (none)) else (none)))) else (none)) else (none)) = some (r1, r2) := by first | (rw [hji36] at H; exact H) | (simp only [hji36] at H ⊢; exact H)
                      (try rw [hji36] at A31)
                      have hji36w : (IntKind.i64.wrap (x6_1 + 5)) = ji36 := (i64_w _).trans hji36
                      by_cases c37 : 0 ≤ (ji36)
                      · rw [if_pos c37] at H
                        have c37b0 : decide (0 ≤ (ji36)) = true := decide_eq_true c37
                        clear c37
                        by_cases c38 : (ji36) < (a0.size : Int)
                        · rw [if_pos c38] at H
                          have c38b0 : decide ((ji36) < (a0.size : Int)) = true := decide_eq_true c38
                          clear c38
                          have HC40 := Aside0.mk H
                          clear H
                          obtain ⟨Ao41, co41, eo41⟩ := Kd.R_slice HO_4.out
                          subst eo41
                          go_upto_region 15 with (first | ((with_reducible refine gate_callee (f := 12) rfl ?_); refine goesL_ (some 58) rfl rfl Try.func12 (by kernel_rfl) rfl #[.string (a0.extract (x6_1 : Int).toNat ((ji32) : Int).toNat)] rfl (by (try simp only [List.map_toArray, List.map_cons, List.map_nil]); first | done | (simp only [hji32]; rfl) | rfl | (simp only [List.length_drop, List.length_take]; rfl)) ?_; (with_reducible refine (spec_TakeFixed.calls (a0.extract (x6_1 : Int).toNat ((ji32) : Int).toNat) t107 t108 t109 _ A31.out).mono ?_); rintro e w' ⟨rfl, ⟨nd, rfl⟩⟩; refine ⟨_, rfl, ?_⟩; have p35 : 0 ≤ ((ji32) : Int) := of_decide_eq_true (by first | (with_reducible assumption) | assumption); have q35 : (ji32) < (a0.size : Int) := of_decide_eq_true (by first | (with_reducible assumption) | assumption); have hx35 := bt_at a0 (ji32); replace p35 := eq_true p35; replace q35 := eq_true q35; have p39 : 0 ≤ ((ji36) : Int) := of_decide_eq_true (by first | (with_reducible assumption) | assumption); have q39 : (ji36) < (a0.size : Int) := of_decide_eq_true (by first | (with_reducible assumption) | assumption); have hx39 := bt_at a0 (ji36); replace p39 := eq_true p39; replace q39 := eq_true q39))
                          (try simp only [Act.put, List.setIfInBounds_toArray, List.set_cons_zero, List.set_cons_succ])
                          go_cut [96] (fun v96 wc => ∃ (kq : Nat) (x96_39 : Bool), v96 = .bool x96_39 ∧ Aside0 (spec_ReadLog.j1 kq a0 x4_1 x5_1 x6_1 x7_1 x8_1 (wrap64 (64 - (Int.tmod x6_1 64))) (wrap64 (bt a0 (ji32))) (bt a0 (ji36)) x96_39 = some (r1, r2)) ∧ Aside0 (kq ≤ k1) ∧ Aside0 (Kd.R Kd.string 9 wc w.heap.size (fun _ => True) (.slice Ao41 x4_1.length co41) x4_1) ∧ Aside0 (Below w.heap.size w wc))
                          case first =>
                            have H := HC40.out
                            clear HC40
                            by_cases c42 : (wrap64 (bt a0 (ji32))) > (wrap64 ((wrap64 (64 - (Int.tmod x6_1 64))) - 6))
                            · rw [if_pos c42] at H
                              have c42b0 : decide ((wrap64 ((wrap64 (64 - (Int.tmod x6_1 64))) - 6)) < (wrap64 (bt a0 (ji32)))) = true := decide_eq_true c42
                              clear c42
                              (first | rw [c42b0] | (simp only [i64_w, i32_w]; rw [c42b0]) | skip)
                              have H' := Aside0.mk H
                              clear H
                              go_wp2
                              go_meet
                              case rel => exact ⟨_, (true), (by first | rfl | (simp; done) | (simp [*]; done)), H', ⟨by have := HK1.out; first | omega | exact Nat.le_refl _⟩, ⟨by (with_reducible repeat (first | apply Kd.R_alloc | apply Kd.R_drewN | apply Kd.R_drew)); exact HO_4.out⟩, ⟨by repeat (first | (with_reducible first | exact HB.out | apply below_alloc | apply pw_below_drewN | apply below_drew1) | exact HB.out)⟩⟩
                            · rw [if_neg c42] at H
                              have c42b0 : decide ((wrap64 ((wrap64 (64 - (Int.tmod x6_1 64))) - 6)) < (wrap64 (bt a0 (ji32)))) = false := decide_eq_false c42
                              clear c42
                              (first | rw [c42b0] | (simp only [i64_w, i32_w]; rw [c42b0]) | skip)
                              by_cases c43 : (wrap64 ((wrap64 (x6_1 + 6)) + (wrap64 (bt a0 (ji32))))) > (a0.size : Int)
                              · rw [if_pos c43] at H
                                have c43b0 : decide ((a0.size : Int) < (wrap64 ((wrap64 (x6_1 + 6)) + (wrap64 (bt a0 (ji32)))))) = true := decide_eq_true c43
                                clear c43
                                have H' := Aside0.mk H
                                clear H
                                go_wp2
                                go_meet
                                case rel => exact ⟨_, (true), (by first | rfl | (simp; done) | (simp [*]; done)), H', ⟨by have := HK1.out; first | omega | exact Nat.le_refl _⟩, ⟨by (with_reducible repeat (first | apply Kd.R_alloc | apply Kd.R_drewN | apply Kd.R_drew)); exact HO_4.out⟩, ⟨by repeat (first | (with_reducible first | exact HB.out | apply below_alloc | apply pw_below_drewN | apply below_drew1) | exact HB.out)⟩⟩
                              · rw [if_neg c43] at H
                                have c43b0 : decide ((a0.size : Int) < (wrap64 ((wrap64 (x6_1 + 6)) + (wrap64 (bt a0 (ji32)))))) = false := decide_eq_false c43
                                clear c43
                                have c44b0 := eq_true (of_decide_eq_true (by first | (with_reducible assumption) | assumption) : 0 ≤ (ji32))
                                by_cases c45 : (ji32) ≤ (wrap64 ((wrap64 (x6_1 + 6)) + (wrap64 (bt a0 (ji32)))))
                                · rw [if_pos c45] at H
                                  have c45b0 := eq_true c45
                                  have c45b1 : decide ((ji32) ≤ (wrap64 ((wrap64 (x6_1 + 6)) + (wrap64 (bt a0 (ji32)))))) = true := decide_eq_true c45
                                  by_cases c46 : (wrap64 ((wrap64 (x6_1 + 6)) + (wrap64 (bt a0 (ji32))))) ≤ (a0.size : Int)
                                  · rw [if_pos c46] at H
                                    have c46b0 := eq_true c46
                                    have c46b1 : decide ((wrap64 ((wrap64 (x6_1 + 6)) + (wrap64 (bt a0 (ji32))))) ≤ (a0.size : Int)) = true := decide_eq_true c46
                                    replace H := Option.bind_eq_some_iff.mp H
                                    obtain ⟨t110, A470, H⟩ := H
                                    replace H : (spec_ReadLog.j1 k1 a0 x4_1 x5_1 x6_1 x7_1 x8_1 (wrap64 (64 - (Int.tmod x6_1 64))) (wrap64 (bt a0 (ji32))) (bt a0 (ji36)) (t110 != t107)) = some (r1, r2) := H
                                    have A47 := Aside0.mk A470
                                    clear A470
                                    have H' := Aside0.mk H
                                    clear H
                                    go_wp2_with (first | (go_at_call 13; (with_reducible refine (spec_Crc.calls k1 (a0.extract ((ji32) : Int).toNat ((wrap64 ((wrap64 (x6_1 + 6)) + (wrap64 (bt a0 (ji32))))) : Int).toNat) t110 _ A47.out).mono ?_); rintro e w' ⟨rfl, ⟨nd, rfl⟩⟩))
                                    go_meet
                                    case rel => exact ⟨_, ((t110 != t107)), (by first | rfl | (simp; done) | (simp [*]; done)), H', ⟨by have := HK1.out; first | omega | exact Nat.le_refl _⟩, ⟨by (with_reducible repeat (first | apply Kd.R_alloc | apply Kd.R_drewN | apply Kd.R_drew)); exact HO_4.out⟩, ⟨by repeat (first | (with_reducible first | exact HB.out | apply below_alloc | apply pw_below_drewN | apply below_drew1) | exact HB.out)⟩⟩
                                  · rw [if_neg c46] at H
                                    exact absurd H (by simp)
                                · rw [if_neg c45] at H
                                  exact absurd H (by simp)
                          case rest =>
                            clear HC40
                            try clear c1
                            try clear c2
                            try clear p2
                            try clear hcv2
                            try clear c3
                            try clear p3
                            try clear q3
                            try clear hx3
                            try clear c4
                            try clear c5
                            try clear c5b0
                            try clear c6
                            try clear c6b0
                            try clear p6
                            try clear c9
                            try clear c9b0
                            try clear c9b1
                            try clear c10
                            try clear c10b0
                            try clear c10b1
                            try clear c11
                            try clear c11b0
                            try clear c11b1
                            try clear c12
                            try clear c13
                            try clear c13b0
                            try clear c13b1
                            try clear c14
                            try clear c14b0
                            try clear c14b1
                            try clear c15
                            try clear c15b0
                            try clear c15b1
                            try clear hcv20
                            try clear hcv25
                            try clear c26
                            try clear c26b0
                            try clear c28
                            try clear c28b0
                            try clear c28b1
                            try clear c29
                            try clear c29b0
                            try clear c29b1
                            try clear c30
                            try clear c30b0
                            try clear c30b1
                            try clear c33
                            try clear c33b0
                            try clear c34
                            try clear c34b0
                            try clear p35
                            try clear q35
                            try clear hx35
                            try clear c37
                            try clear c37b0
                            try clear c38
                            try clear c38b0
                            try clear p39
                            try clear q39
                            try clear hx39
                            try clear c42
                            try clear c42b0
                            try clear c43
                            try clear c43b0
                            try clear c44
                            try clear c44b0
                            try clear c45
                            try clear c45b0
                            try clear c45b1
                            try clear c46
                            try clear c46b0
                            try clear c46b1
                            try clear p35
                            try clear p39
                            try clear q35
                            try clear q39
                            obtain ⟨kq, x96_39, rfl, HA, HJ39, HO_4, HB⟩ := hcut
                            cases kq with
                            | zero => exact absurd HA.out (by simp [spec_ReadLog.j1])
                            | succ kj39 =>
                              have H := HA.out
                              clear HA
                              simp only [spec_ReadLog.j1] at H
                              by_cases c48 : x96_39 = true
                              · subst c48
                                have H1 : (some (x4_1, x5_1)) = some (r1, r2) := by rw [if_pos rfl] at H; exact H
                                clear H
                                have H := H1
                                clear H1
                                simp only [Option.some.injEq, Prod.mk.injEq] at H
                                obtain ⟨rfl, rfl⟩ := H
                                go_wp2
                                go_ret2
                                exact ⟨_, by first | rfl | (simp [errW_none, errW_some] <;> rfl) | (simp only [← hji32, ← hji36]; first | rfl | (simp [errW_none, errW_some] <;> rfl)) | (simp [*, errW_none, errW_some] <;> rfl), by (with_reducible repeat (first | apply Kd.R_alloc | apply Kd.R_drewN | apply Kd.R_drew)); exact HO_4.out, by repeat (first | (with_reducible first | exact HB.out | apply below_alloc | apply pw_below_drewN | apply below_drew1) | exact HB.out)⟩
                              · replace c48 := Bool.eq_false_iff.mpr c48
                                subst c48
                                have H1 : (if (bt a0 (ji36)) = 1 then (spec_ReadLog.j2 kj39 a0 x4_1 x5_1 x6_1 x7_1 x8_1 (wrap64 (64 - (Int.tmod x6_1 64))) (wrap64 (bt a0 (ji32))) (bt a0 (ji36)) true) else (spec_ReadLog.j2 kj39 a0 x4_1 x5_1 x6_1 x7_1 x8_1 (wrap64 (64 - (Int.tmod x6_1 64))) (wrap64 (bt a0 (ji32))) (bt a0 (ji36)) ((bt a0 (ji36)) == 2))) = some (r1, r2) := by rw [if_neg (show ¬ (false = true) by decide)] at H; exact H
                                clear H
                                have H := H1
                                clear H1
                                have HC49 := Aside0.mk H
                                clear H
                                go_upto_region 16 with (fail)
                                go_cut [15] (fun v15 wc => ∃ (kq : Nat) (x15_48 : Bool), v15 = .bool x15_48 ∧ Aside0 (spec_ReadLog.j2 kq a0 x4_1 x5_1 x6_1 x7_1 x8_1 (wrap64 (64 - (Int.tmod x6_1 64))) (wrap64 (bt a0 (ji32))) (bt a0 (ji36)) x15_48 = some (r1, r2)) ∧ Aside0 (kq ≤ kj39) ∧ Aside0 (Kd.R Kd.string 9 wc w.heap.size (fun _ => True) (.slice Ao41 x4_1.length co41) x4_1) ∧ Aside0 (Below w.heap.size w wc))
                                case first =>
                                  have H := HC49.out
                                  clear HC49
                                  by_cases c50 : (bt a0 (ji36)) = 1
                                  · rw [if_pos c50] at H
                                    have c50b0 : ((bt a0 (ji36)) == 1) = true := beq_iff_eq.mpr c50
                                    have c50b1 : ((bt a0 (ji36)) != 1) = false := bne_eq_false_iff_eq.mpr c50
                                    clear c50
                                    (first | rw [c50b0] | (simp only [i64_w, i32_w]; rw [c50b0]) | skip)
                                    have H' := Aside0.mk H
                                    clear H
                                    go_wp2
                                    go_meet
                                    case rel => exact ⟨_, (true), (by first | rfl | (simp; done) | (simp [*]; done)), H', ⟨by have := HK1.out; have := HJ39.out; first | omega | exact Nat.le_refl _⟩, ⟨by (with_reducible repeat (first | apply Kd.R_alloc | apply Kd.R_drewN | apply Kd.R_drew)); exact HO_4.out⟩, ⟨by repeat (first | (with_reducible first | exact HB.out | apply below_alloc | apply pw_below_drewN | apply below_drew1) | exact HB.out)⟩⟩
                                  · rw [if_neg c50] at H
                                    have c50b0 : ((bt a0 (ji36)) == 1) = false := beq_eq_false_iff_ne.mpr c50
                                    have c50b1 : ((bt a0 (ji36)) != 1) = true := bne_iff_ne.mpr c50
                                    (first | rw [c50b0] | (simp only [i64_w, i32_w]; rw [c50b0]) | skip)
                                    have H' := Aside0.mk H
                                    clear H
                                    go_wp2
                                    go_meet
                                    case rel => exact ⟨_, (((bt a0 (ji36)) == 2)), (by first | rfl | (simp; done) | (simp [*]; done) | (simp only [← hji36] <;> (first | rfl | (simp; done))) | (simp [*]; done)), H', ⟨by have := HK1.out; have := HJ39.out; first | omega | exact Nat.le_refl _⟩, ⟨by (with_reducible repeat (first | apply Kd.R_alloc | apply Kd.R_drewN | apply Kd.R_drew)); exact HO_4.out⟩, ⟨by repeat (first | (with_reducible first | exact HB.out | apply below_alloc | apply pw_below_drewN | apply below_drew1) | exact HB.out)⟩⟩
                                case rest =>
                                  clear HC49
                                  try clear c1
                                  try clear c2
                                  try clear p2
                                  try clear hcv2
                                  try clear c3
                                  try clear p3
                                  try clear q3
                                  try clear hx3
                                  try clear c4
                                  try clear c5
                                  try clear c5b0
                                  try clear c6
                                  try clear c6b0
                                  try clear p6
                                  try clear c9
                                  try clear c9b0
                                  try clear c9b1
                                  try clear c10
                                  try clear c10b0
                                  try clear c10b1
                                  try clear c11
                                  try clear c11b0
                                  try clear c11b1
                                  try clear c12
                                  try clear c13
                                  try clear c13b0
                                  try clear c13b1
                                  try clear c14
                                  try clear c14b0
                                  try clear c14b1
                                  try clear c15
                                  try clear c15b0
                                  try clear c15b1
                                  try clear hcv20
                                  try clear hcv25
                                  try clear c26
                                  try clear c26b0
                                  try clear c28
                                  try clear c28b0
                                  try clear c28b1
                                  try clear c29
                                  try clear c29b0
                                  try clear c29b1
                                  try clear c30
                                  try clear c30b0
                                  try clear c30b1
                                  try clear c33
                                  try clear c33b0
                                  try clear c34
                                  try clear c34b0
                                  try clear p35
                                  try clear q35
                                  try clear hx35
                                  try clear c37
                                  try clear c37b0
                                  try clear c38
                                  try clear c38b0
                                  try clear p39
                                  try clear q39
                                  try clear hx39
                                  try clear c42
                                  try clear c42b0
                                  try clear c43
                                  try clear c43b0
                                  try clear c44
                                  try clear c44b0
                                  try clear c45
                                  try clear c45b0
                                  try clear c45b1
                                  try clear c46
                                  try clear c46b0
                                  try clear c46b1
                                  try clear c48
                                  try clear c50
                                  try clear c50b0
                                  try clear c50b1
                                  try clear p2
                                  try clear p3
                                  try clear p35
                                  try clear p39
                                  try clear p6
                                  try clear q3
                                  try clear q35
                                  try clear q39
                                  obtain ⟨kq, x15_48, rfl, HA, HJ48, HO_4, HB⟩ := hcut
                                  cases kq with
                                  | zero => exact absurd HA.out (by simp [spec_ReadLog.j2])
                                  | succ kj48 =>
                                    have H := HA.out
                                    clear HA
                                    simp only [spec_ReadLog.j2] at H
                                    have HC51 := Aside0.mk H
                                    clear H
                                    go_upto_region 17 with (fail)
                                    go_cut [16] (fun v16 wc => ∃ (kq : Nat) (x16_50 : Bool), v16 = .bool x16_50 ∧ Aside0 (spec_ReadLog.j3 kq a0 x4_1 x5_1 x6_1 x7_1 x8_1 (wrap64 (64 - (Int.tmod x6_1 64))) (wrap64 (bt a0 (ji32))) (bt a0 (ji36)) x15_48 x16_50 = some (r1, r2)) ∧ Aside0 (kq ≤ kj48) ∧ Aside0 (Kd.R Kd.string 9 wc w.heap.size (fun _ => True) (.slice Ao41 x4_1.length co41) x4_1) ∧ Aside0 (Below w.heap.size w wc))
                                    case first =>
                                      have H := HC51.out
                                      clear HC51
                                      by_cases c52 : (bt a0 (ji36)) = 1
                                      · rw [if_pos c52] at H
                                        have c52b0 : ((bt a0 (ji36)) == 1) = true := beq_iff_eq.mpr c52
                                        have c52b1 : ((bt a0 (ji36)) != 1) = false := bne_eq_false_iff_eq.mpr c52
                                        clear c52
                                        (first | rw [c52b0] | (simp only [i64_w, i32_w]; rw [c52b0]) | skip)
                                        have H' := Aside0.mk H
                                        clear H
                                        go_wp2
                                        go_meet
                                        case rel => exact ⟨_, (true), (by first | rfl | (simp; done) | (simp [*]; done)), H', ⟨by have := HK1.out; have := HJ39.out; have := HJ48.out; first | omega | exact Nat.le_refl _⟩, ⟨by (with_reducible repeat (first | apply Kd.R_alloc | apply Kd.R_drewN | apply Kd.R_drew)); exact HO_4.out⟩, ⟨by repeat (first | (with_reducible first | exact HB.out | apply below_alloc | apply pw_below_drewN | apply below_drew1) | exact HB.out)⟩⟩
                                      · rw [if_neg c52] at H
                                        have c52b0 : ((bt a0 (ji36)) == 1) = false := beq_eq_false_iff_ne.mpr c52
                                        have c52b1 : ((bt a0 (ji36)) != 1) = true := bne_iff_ne.mpr c52
                                        (first | rw [c52b0] | (simp only [i64_w, i32_w]; rw [c52b0]) | skip)
                                        have H' := Aside0.mk H
                                        clear H
                                        go_wp2
                                        go_meet
                                        case rel => exact ⟨_, (((bt a0 (ji36)) == 4)), (by first | rfl | (simp; done) | (simp [*]; done) | (simp only [← hji36] <;> (first | rfl | (simp; done))) | (simp [*]; done)), H', ⟨by have := HK1.out; have := HJ39.out; have := HJ48.out; first | omega | exact Nat.le_refl _⟩, ⟨by (with_reducible repeat (first | apply Kd.R_alloc | apply Kd.R_drewN | apply Kd.R_drew)); exact HO_4.out⟩, ⟨by repeat (first | (with_reducible first | exact HB.out | apply below_alloc | apply pw_below_drewN | apply below_drew1) | exact HB.out)⟩⟩
                                    case rest =>
                                      clear HC51
                                      try clear c1
                                      try clear c2
                                      try clear p2
                                      try clear hcv2
                                      try clear c3
                                      try clear p3
                                      try clear q3
                                      try clear hx3
                                      try clear c4
                                      try clear c5
                                      try clear c5b0
                                      try clear c6
                                      try clear c6b0
                                      try clear p6
                                      try clear c9
                                      try clear c9b0
                                      try clear c9b1
                                      try clear c10
                                      try clear c10b0
                                      try clear c10b1
                                      try clear c11
                                      try clear c11b0
                                      try clear c11b1
                                      try clear c12
                                      try clear c13
                                      try clear c13b0
                                      try clear c13b1
                                      try clear c14
                                      try clear c14b0
                                      try clear c14b1
                                      try clear c15
                                      try clear c15b0
                                      try clear c15b1
                                      try clear hcv20
                                      try clear hcv25
                                      try clear c26
                                      try clear c26b0
                                      try clear c28
                                      try clear c28b0
                                      try clear c28b1
                                      try clear c29
                                      try clear c29b0
                                      try clear c29b1
                                      try clear c30
                                      try clear c30b0
                                      try clear c30b1
                                      try clear c33
                                      try clear c33b0
                                      try clear c34
                                      try clear c34b0
                                      try clear p35
                                      try clear q35
                                      try clear hx35
                                      try clear c37
                                      try clear c37b0
                                      try clear c38
                                      try clear c38b0
                                      try clear p39
                                      try clear q39
                                      try clear hx39
                                      try clear c42
                                      try clear c42b0
                                      try clear c43
                                      try clear c43b0
                                      try clear c44
                                      try clear c44b0
                                      try clear c45
                                      try clear c45b0
                                      try clear c45b1
                                      try clear c46
                                      try clear c46b0
                                      try clear c46b1
                                      try clear c48
                                      try clear c50
                                      try clear c50b0
                                      try clear c50b1
                                      try clear c52
                                      try clear c52b0
                                      try clear c52b1
                                      try clear p2
                                      try clear p3
                                      try clear p35
                                      try clear p39
                                      try clear p6
                                      try clear q3
                                      try clear q35
                                      try clear q39
                                      obtain ⟨kq, x16_50, rfl, HA, HJ50, HO_4, HB⟩ := hcut
                                      cases kq with
                                      | zero => exact absurd HA.out (by simp [spec_ReadLog.j3])
                                      | succ kj50 =>
                                        have H := HA.out
                                        clear HA
                                        simp only [spec_ReadLog.j3] at H
                                        have HC53 := Aside0.mk H
                                        clear H
                                        go_upto_region 18 with (fail)
                                        go_cut [137] (fun v137 wc => ∃ (kq : Nat) (x137_52 : Bool), v137 = .bool x137_52 ∧ Aside0 (spec_ReadLog.j4 kq a0 x4_1 x5_1 x6_1 x8_1 (wrap64 (bt a0 (ji32))) x16_50 x137_52 = some (r1, r2)) ∧ Aside0 (kq ≤ kj50) ∧ Aside0 (Kd.R Kd.string 9 wc w.heap.size (fun _ => True) (.slice Ao41 x4_1.length co41) x4_1) ∧ Aside0 (Below w.heap.size w wc))
                                        case first =>
                                          have H := HC53.out
                                          clear HC53
                                          by_cases c54 : (bt a0 (ji36)) < 1
                                          · rw [if_pos c54] at H
                                            have c54b0 : decide ((bt a0 (ji36)) < 1) = true := decide_eq_true c54
                                            clear c54
                                            (first | rw [c54b0] | (simp only [i64_w, i32_w]; rw [c54b0]) | skip)
                                            have H' := Aside0.mk H
                                            clear H
                                            go_wp2
                                            go_meet
                                            case rel => exact ⟨_, (true), (by first | rfl | (simp; done) | (simp [*]; done)), H', ⟨by have := HK1.out; have := HJ39.out; have := HJ48.out; have := HJ50.out; first | omega | exact Nat.le_refl _⟩, ⟨by (with_reducible repeat (first | apply Kd.R_alloc | apply Kd.R_drewN | apply Kd.R_drew)); exact HO_4.out⟩, ⟨by repeat (first | (with_reducible first | exact HB.out | apply below_alloc | apply pw_below_drewN | apply below_drew1) | exact HB.out)⟩⟩
                                          · rw [if_neg c54] at H
                                            have c54b0 : decide ((bt a0 (ji36)) < 1) = false := decide_eq_false c54
                                            clear c54
                                            (first | rw [c54b0] | (simp only [i64_w, i32_w]; rw [c54b0]) | skip)
                                            by_cases c55 : (bt a0 (ji36)) > 4
                                            · rw [if_pos c55] at H
                                              have c55b0 : decide (4 < (bt a0 (ji36))) = true := decide_eq_true c55
                                              clear c55
                                              have H' := Aside0.mk H
                                              clear H
                                              go_wp2
                                              go_meet
                                              case rel => exact ⟨_, (true), (by first | rfl | (simp; done) | (simp [*]; done)), H', ⟨by have := HK1.out; have := HJ39.out; have := HJ48.out; have := HJ50.out; first | omega | exact Nat.le_refl _⟩, ⟨by (with_reducible repeat (first | apply Kd.R_alloc | apply Kd.R_drewN | apply Kd.R_drew)); exact HO_4.out⟩, ⟨by repeat (first | (with_reducible first | exact HB.out | apply below_alloc | apply pw_below_drewN | apply below_drew1) | exact HB.out)⟩⟩
                                            · rw [if_neg c55] at H
                                              have c55b0 : decide (4 < (bt a0 (ji36))) = false := decide_eq_false c55
                                              clear c55
                                              by_cases c56 : (x15_48 == x7_1) = true
                                              · rw [if_pos c56] at H
                                                have c56b0 : (x15_48 == x7_1) = true := c56
                                                (try (have c56b1 : decide (x15_48 = x7_1) = true := by simpa using c56))
                                                (try (have c56b2 : (x15_48 == x7_1) = true := by simpa using c56))
                                                clear c56
                                                have H' := Aside0.mk H
                                                clear H
                                                go_wp2
                                                go_meet
                                                case rel => exact ⟨_, (true), (by first | rfl | (simp; done) | (simp [*]; done)), H', ⟨by have := HK1.out; have := HJ39.out; have := HJ48.out; have := HJ50.out; first | omega | exact Nat.le_refl _⟩, ⟨by (with_reducible repeat (first | apply Kd.R_alloc | apply Kd.R_drewN | apply Kd.R_drew)); exact HO_4.out⟩, ⟨by repeat (first | (with_reducible first | exact HB.out | apply below_alloc | apply pw_below_drewN | apply below_drew1) | exact HB.out)⟩⟩
                                              · rw [if_neg c56] at H
                                                have c56b0 : (x15_48 == x7_1) = false := by simpa using c56
                                                (try (have c56b1 : decide (x15_48 = x7_1) = false := by simpa using c56))
                                                (try (have c56b2 : (x15_48 == x7_1) = false := by simpa using c56))
                                                (try (have c56b3 : ¬ (x15_48 = x7_1) := by simpa using c56))
                                                clear c56
                                                by_cases c57 : x16_50 = true
                                                · subst c57
                                                  have H1 : (if (bt a0 (ji36)) = 4 then (spec_ReadLog.j4 kj50 a0 x4_1 x5_1 x6_1 x8_1 (wrap64 (bt a0 (ji32))) true ((wrap64 (bt a0 (ji32))) == 0)) else (spec_ReadLog.j4 kj50 a0 x4_1 x5_1 x6_1 x8_1 (wrap64 (bt a0 (ji32))) true false)) = some (r1, r2) := by rw [if_pos rfl] at H; exact H
                                                  clear H
                                                  have H := H1
                                                  clear H1
                                                  by_cases c58 : (bt a0 (ji36)) = 4
                                                  · rw [if_pos c58] at H
                                                    have c58b0 : ((bt a0 (ji36)) == 4) = true := beq_iff_eq.mpr c58
                                                    have c58b1 : ((bt a0 (ji36)) != 4) = false := bne_eq_false_iff_eq.mpr c58
                                                    clear c58
                                                    have H' := Aside0.mk H
                                                    clear H
                                                    go_wp2
                                                    go_meet
                                                    case rel => exact ⟨_, (((wrap64 (bt a0 (ji32))) == 0)), (by first | rfl | (simp; done) | (simp [*]; done) | (simp only [← hji32] <;> (first | rfl | (simp; done))) | (simp [*]; done)), H', ⟨by have := HK1.out; have := HJ39.out; have := HJ48.out; have := HJ50.out; first | omega | exact Nat.le_refl _⟩, ⟨by (with_reducible repeat (first | apply Kd.R_alloc | apply Kd.R_drewN | apply Kd.R_drew)); exact HO_4.out⟩, ⟨by repeat (first | (with_reducible first | exact HB.out | apply below_alloc | apply pw_below_drewN | apply below_drew1) | exact HB.out)⟩⟩
                                                  · rw [if_neg c58] at H
                                                    have c58b0 : ((bt a0 (ji36)) == 4) = false := beq_eq_false_iff_ne.mpr c58
                                                    have c58b1 : ((bt a0 (ji36)) != 4) = true := bne_iff_ne.mpr c58
                                                    have H' := Aside0.mk H
                                                    clear H
                                                    go_wp2
                                                    go_meet
                                                    case rel => exact ⟨_, (false), (by first | rfl | (simp; done) | (simp [*]; done)), H', ⟨by have := HK1.out; have := HJ39.out; have := HJ48.out; have := HJ50.out; first | omega | exact Nat.le_refl _⟩, ⟨by (with_reducible repeat (first | apply Kd.R_alloc | apply Kd.R_drewN | apply Kd.R_drew)); exact HO_4.out⟩, ⟨by repeat (first | (with_reducible first | exact HB.out | apply below_alloc | apply pw_below_drewN | apply below_drew1) | exact HB.out)⟩⟩
                                                · replace c57 := Bool.eq_false_iff.mpr c57
                                                  subst c57
                                                  have H1 : (if (wrap64 (bt a0 (ji32))) < (wrap64 ((wrap64 (64 - (Int.tmod x6_1 64))) - 6)) then (spec_ReadLog.j4 kj50 a0 x4_1 x5_1 x6_1 x8_1 (wrap64 (bt a0 (ji32))) false true) else (if (bt a0 (ji36)) = 4 then (spec_ReadLog.j4 kj50 a0 x4_1 x5_1 x6_1 x8_1 (wrap64 (bt a0 (ji32))) false ((wrap64 (bt a0 (ji32))) == 0)) else (spec_ReadLog.j4 kj50 a0 x4_1 x5_1 x6_1 x8_1 (wrap64 (bt a0 (ji32))) false false))) = some (r1, r2) := by rw [if_neg (show ¬ (false = true) by decide)] at H; exact H
                                                  clear H
                                                  have H := H1
                                                  clear H1
                                                  by_cases c59 : (wrap64 (bt a0 (ji32))) < (wrap64 ((wrap64 (64 - (Int.tmod x6_1 64))) - 6))
                                                  · rw [if_pos c59] at H
                                                    have c59b0 : decide ((wrap64 (bt a0 (ji32))) < (wrap64 ((wrap64 (64 - (Int.tmod x6_1 64))) - 6))) = true := decide_eq_true c59
                                                    clear c59
                                                    have H' := Aside0.mk H
                                                    clear H
                                                    go_wp2
                                                    go_meet
                                                    case rel => exact ⟨_, (true), (by first | rfl | (simp; done) | (simp [*]; done)), H', ⟨by have := HK1.out; have := HJ39.out; have := HJ48.out; have := HJ50.out; first | omega | exact Nat.le_refl _⟩, ⟨by (with_reducible repeat (first | apply Kd.R_alloc | apply Kd.R_drewN | apply Kd.R_drew)); exact HO_4.out⟩, ⟨by repeat (first | (with_reducible first | exact HB.out | apply below_alloc | apply pw_below_drewN | apply below_drew1) | exact HB.out)⟩⟩
                                                  · rw [if_neg c59] at H
                                                    have c59b0 : decide ((wrap64 (bt a0 (ji32))) < (wrap64 ((wrap64 (64 - (Int.tmod x6_1 64))) - 6))) = false := decide_eq_false c59
                                                    clear c59
                                                    by_cases c60 : (bt a0 (ji36)) = 4
                                                    · rw [if_pos c60] at H
                                                      have c60b0 : ((bt a0 (ji36)) == 4) = true := beq_iff_eq.mpr c60
                                                      have c60b1 : ((bt a0 (ji36)) != 4) = false := bne_eq_false_iff_eq.mpr c60
                                                      clear c60
                                                      have H' := Aside0.mk H
                                                      clear H
                                                      go_wp2
                                                      go_meet
                                                      case rel => exact ⟨_, (((wrap64 (bt a0 (ji32))) == 0)), (by first | rfl | (simp; done) | (simp [*]; done) | (simp only [← hji32] <;> (first | rfl | (simp; done))) | (simp [*]; done)), H', ⟨by have := HK1.out; have := HJ39.out; have := HJ48.out; have := HJ50.out; first | omega | exact Nat.le_refl _⟩, ⟨by (with_reducible repeat (first | apply Kd.R_alloc | apply Kd.R_drewN | apply Kd.R_drew)); exact HO_4.out⟩, ⟨by repeat (first | (with_reducible first | exact HB.out | apply below_alloc | apply pw_below_drewN | apply below_drew1) | exact HB.out)⟩⟩
                                                    · rw [if_neg c60] at H
                                                      have c60b0 : ((bt a0 (ji36)) == 4) = false := beq_eq_false_iff_ne.mpr c60
                                                      have c60b1 : ((bt a0 (ji36)) != 4) = true := bne_iff_ne.mpr c60
                                                      have H' := Aside0.mk H
                                                      clear H
                                                      go_wp2
                                                      go_meet
                                                      case rel => exact ⟨_, (false), (by first | rfl | (simp; done) | (simp [*]; done)), H', ⟨by have := HK1.out; have := HJ39.out; have := HJ48.out; have := HJ50.out; first | omega | exact Nat.le_refl _⟩, ⟨by (with_reducible repeat (first | apply Kd.R_alloc | apply Kd.R_drewN | apply Kd.R_drew)); exact HO_4.out⟩, ⟨by repeat (first | (with_reducible first | exact HB.out | apply below_alloc | apply pw_below_drewN | apply below_drew1) | exact HB.out)⟩⟩
                                        case rest =>
                                          clear HC53
                                          try clear c1
                                          try clear c2
                                          try clear p2
                                          try clear hcv2
                                          try clear c3
                                          try clear p3
                                          try clear q3
                                          try clear hx3
                                          try clear c4
                                          try clear c5
                                          try clear c5b0
                                          try clear c6
                                          try clear c6b0
                                          try clear p6
                                          try clear c9
                                          try clear c9b0
                                          try clear c9b1
                                          try clear c10
                                          try clear c10b0
                                          try clear c10b1
                                          try clear c11
                                          try clear c11b0
                                          try clear c11b1
                                          try clear c12
                                          try clear c13
                                          try clear c13b0
                                          try clear c13b1
                                          try clear c14
                                          try clear c14b0
                                          try clear c14b1
                                          try clear c15
                                          try clear c15b0
                                          try clear c15b1
                                          try clear hcv20
                                          try clear hcv25
                                          try clear c26
                                          try clear c26b0
                                          try clear c28
                                          try clear c28b0
                                          try clear c28b1
                                          try clear c29
                                          try clear c29b0
                                          try clear c29b1
                                          try clear c30
                                          try clear c30b0
                                          try clear c30b1
                                          try clear c33
                                          try clear c33b0
                                          try clear c34
                                          try clear c34b0
                                          try clear p35
                                          try clear q35
                                          try clear hx35
                                          try clear c37
                                          try clear c37b0
                                          try clear c38
                                          try clear c38b0
                                          try clear p39
                                          try clear q39
                                          try clear hx39
                                          try clear c42
                                          try clear c42b0
                                          try clear c43
                                          try clear c43b0
                                          try clear c44
                                          try clear c44b0
                                          try clear c45
                                          try clear c45b0
                                          try clear c45b1
                                          try clear c46
                                          try clear c46b0
                                          try clear c46b1
                                          try clear c48
                                          try clear c50
                                          try clear c50b0
                                          try clear c50b1
                                          try clear c52
                                          try clear c52b0
                                          try clear c52b1
                                          try clear c54
                                          try clear c54b0
                                          try clear c55
                                          try clear c55b0
                                          try clear c56
                                          try clear c56b0
                                          try clear c56b1
                                          try clear c56b2
                                          try clear c57
                                          try clear c58
                                          try clear c58b0
                                          try clear c58b1
                                          try clear c59
                                          try clear c59b0
                                          try clear c60
                                          try clear c60b0
                                          try clear c60b1
                                          try clear p2
                                          try clear p3
                                          try clear p35
                                          try clear p39
                                          try clear p6
                                          try clear q3
                                          try clear q35
                                          try clear q39
                                          obtain ⟨kq, x137_52, rfl, HA, HJ52, HO_4, HB⟩ := hcut
                                          cases kq with
                                          | zero => exact absurd HA.out (by simp [spec_ReadLog.j4])
                                          | succ kj52 =>
                                            have H := HA.out
                                            clear HA
                                            simp only [spec_ReadLog.j4] at H
                                            by_cases c61 : x137_52 = true
                                            · subst c61
                                              have H1 : (some (x4_1, x5_1)) = some (r1, r2) := by rw [if_pos rfl] at H; exact H
                                              clear H
                                              have H := H1
                                              clear H1
                                              simp only [Option.some.injEq, Prod.mk.injEq] at H
                                              obtain ⟨rfl, rfl⟩ := H
                                              go_wp2
                                              go_ret2
                                              exact ⟨_, by first | rfl | (simp [errW_none, errW_some] <;> rfl) | (simp only [← hji32, ← hji36]; first | rfl | (simp [errW_none, errW_some] <;> rfl)) | (simp [*, errW_none, errW_some] <;> rfl), by (with_reducible repeat (first | apply Kd.R_alloc | apply Kd.R_drewN | apply Kd.R_drew)); exact HO_4.out, by repeat (first | (with_reducible first | exact HB.out | apply below_alloc | apply pw_below_drewN | apply below_drew1) | exact HB.out)⟩
                                            · replace c61 := Bool.eq_false_iff.mpr c61
                                              subst c61
                                              have H1 : (if 0 ≤ (wrap64 (x6_1 + 6)) then (if (wrap64 (x6_1 + 6)) ≤ (wrap64 ((wrap64 (x6_1 + 6)) + (wrap64 (bt a0 (ji32))))) then (if (wrap64 ((wrap64 (x6_1 + 6)) + (wrap64 (bt a0 (ji32))))) ≤ (a0.size : Int) then (if x8_1.size + (a0.extract ((wrap64 (x6_1 + 6)) : Int).toNat ((wrap64 ((wrap64 (x6_1 + 6)) + (wrap64 (bt a0 (ji32))))) : Int).toNat).size ≤ 9223372036854775807 then (if ((x8_1 ++ (a0.extract ((wrap64 (x6_1 + 6)) : Int).toNat ((wrap64 ((wrap64 (x6_1 + 6)) + (wrap64 (bt a0 (ji32))))) : Int).toNat)).size : Int) > 8000 then (some (x4_1, x5_1)) else (if x16_50 = true then (if x4_1.length < 8796093022208 then (spec_ReadLog.l0 kj52 a0 (x4_1 ++ [x8_1 ++ (a0.extract ((wrap64 (x6_1 + 6)) : Int).toNat ((wrap64 ((wrap64 (x6_1 + 6)) + (wrap64 (bt a0 (ji32))))) : Int).toNat)]) (wrap64 ((wrap64 (x6_1 + 6)) + (wrap64 (bt a0 (ji32))))) (wrap64 ((wrap64 (x6_1 + 6)) + (wrap64 (bt a0 (ji32))))) (!x16_50) (⟨#[]⟩ : ByteArray)) else (none)) else (spec_ReadLog.l0 kj52 a0 x4_1 x5_1 (wrap64 ((wrap64 (x6_1 + 6)) + (wrap64 (bt a0 (ji32))))) (!x16_50) (x8_1 ++ (a0.extract ((wrap64 (x6_1 + 6)) : Int).toNat ((wrap64 ((wrap64 (x6_1 + 6)) + (wrap64 (bt a0 (ji32))))) : Int).toNat))))) else (none)) else (none)) else (none)) else (none)) = some (r1, r2) := by rw [if_neg (show ¬ (false = true) by decide)] at H; exact H
                                              clear H
                                              have H := H1
                                              clear H1
                                              obtain ⟨ji62, hji62⟩ : ∃ j_ : Int, (wrap64 (x6_1 + 6)) = j_ := ⟨_, rfl⟩
                                              replace H : (if 0 ≤ (ji62) then (if (ji62) ≤ (wrap64 ((ji62) + (wrap64 (bt a0 (ji32))))) then (if (wrap64 ((ji62) + (wrap64 (bt a0 (ji32))))) ≤ (a0.size : Int) then (if x8_1.size + (a0.extract ((ji62) : Int).toNat ((wrap64 ((ji62) + (wrap64 (bt a0 (ji32))))) : Int).toNat).size ≤ 9223372036854775807 then (if ((x8_1 ++ (a0.extract ((ji62) : Int).toNat ((wrap64 ((ji62) + (wrap64 (bt a0 (ji32))))) : Int).toNat)).size : Int) > 8000 then (some (x4_1, x5_1)) else (if x16_50 = true then (if x4_1.length < 8796093022208 then (spec_ReadLog.l0 kj52 a0 (x4_1 ++ [x8_1 ++ (a0.extract ((ji62) : Int).toNat ((wrap64 ((ji62) + (wrap64 (bt a0 (ji32))))) : Int).toNat)]) (wrap64 ((ji62) + (wrap64 (bt a0 (ji32))))) (wrap64 ((ji62) + (wrap64 (bt a0 (ji32))))) (!x16_50) (⟨#[]⟩ : ByteArray)) else (none)) else (spec_ReadLog.l0 kj52 a0 x4_1 x5_1 (wrap64 ((ji62) + (wrap64 (bt a0 (ji32))))) (!x16_50) (x8_1 ++ (a0.extract ((ji62) : Int).toNat ((wrap64 ((ji62) + (wrap64 (bt a0 (ji32))))) : Int).toNat))))) else (none)) else (none)) else (none)) else (none)) = some (r1, r2) := by first | (rw [hji62] at H; exact H) | (simp only [hji62] at H ⊢; exact H)
                                              (try rw [hji62] at c26b0)
                                              have hji62w : (IntKind.i64.wrap (x6_1 + 6)) = ji62 := (i64_w _).trans hji62
                                              by_cases c63 : 0 ≤ (ji62)
                                              · rw [if_pos c63] at H
                                                have c63b0 := eq_true c63
                                                have c63b1 : decide (0 ≤ (ji62)) = true := decide_eq_true c63
                                                clear c63
                                                by_cases c64 : (ji62) ≤ (wrap64 ((ji62) + (wrap64 (bt a0 (ji32)))))
                                                · rw [if_pos c64] at H
                                                  have c64b0 := eq_true c64
                                                  have c64b1 : decide ((ji62) ≤ (wrap64 ((ji62) + (wrap64 (bt a0 (ji32)))))) = true := decide_eq_true c64
                                                  by_cases c65 : (wrap64 ((ji62) + (wrap64 (bt a0 (ji32))))) ≤ (a0.size : Int)
                                                  · rw [if_pos c65] at H
                                                    have c65b0 := eq_true c65
                                                    have c65b1 : decide ((wrap64 ((ji62) + (wrap64 (bt a0 (ji32))))) ≤ (a0.size : Int)) = true := decide_eq_true c65
                                                    by_cases c66 : x8_1.size + (a0.extract ((ji62) : Int).toNat ((wrap64 ((ji62) + (wrap64 (bt a0 (ji32))))) : Int).toNat).size ≤ 9223372036854775807
                                                    · rw [if_pos c66] at H
                                                      have c66b0 := eq_true c66
                                                      have c66b1 : decide (x8_1.size + (a0.extract ((ji62) : Int).toNat ((wrap64 ((ji62) + (wrap64 (bt a0 (ji32))))) : Int).toNat).size ≤ 9223372036854775807) = true := decide_eq_true c66
                                                      try have c66b2 : (9223372036854775807 < x8_1.size + (a0.extract ((ji62) : Int).toNat ((wrap64 ((ji62) + (wrap64 (bt a0 (ji32))))) : Int).toNat).size) = False := eq_false (Nat.not_lt.2 c66)
                                                      by_cases c67 : ((x8_1 ++ (a0.extract ((ji62) : Int).toNat ((wrap64 ((ji62) + (wrap64 (bt a0 (ji32))))) : Int).toNat)).size : Int) > 8000
                                                      · rw [if_pos c67] at H
                                                        have c67b0 : decide (8000 < ((x8_1 ++ (a0.extract ((ji62) : Int).toNat ((wrap64 ((ji62) + (wrap64 (bt a0 (ji32))))) : Int).toNat)).size : Int)) = true := decide_eq_true c67
                                                        have c67n : decide (8000 < (x8_1.size : Int) + ((((wrap64 ((ji62) + (wrap64 (bt a0 (ji32)))))).toNat - (ji62).toNat : Nat) : Int)) = true := by rw [← sz_cut_ x8_1 a0 (ji62) ((wrap64 ((ji62) + (wrap64 (bt a0 (ji32)))))) (of_decide_eq_true (by first | (with_reducible assumption) | assumption))]; exact c67b0
                                                        have c67b1 : decide (8000 < (x8_1 ++ (a0.extract ((ji62) : Int).toNat ((wrap64 ((ji62) + (wrap64 (bt a0 (ji32))))) : Int).toNat)).size) = true := decide_eq_true (by omega)
                                                        clear c67
                                                        simp only [Option.some.injEq, Prod.mk.injEq] at H
                                                        obtain ⟨rfl, rfl⟩ := H
                                                        go_wp2
                                                        go_ret2
                                                        exact ⟨_, by first | rfl | (simp [errW_none, errW_some] <;> rfl) | (simp only [← hji32, ← hji36, ← hji62]; first | rfl | (simp [errW_none, errW_some] <;> rfl)) | (simp [*, errW_none, errW_some] <;> rfl), by (with_reducible repeat (first | apply Kd.R_alloc | apply Kd.R_drewN | apply Kd.R_drew)); exact HO_4.out, by repeat (first | (with_reducible first | exact HB.out | apply below_alloc | apply pw_below_drewN | apply below_drew1) | exact HB.out)⟩
                                                      · rw [if_neg c67] at H
                                                        have c67b0 : decide (8000 < ((x8_1 ++ (a0.extract ((ji62) : Int).toNat ((wrap64 ((ji62) + (wrap64 (bt a0 (ji32))))) : Int).toNat)).size : Int)) = false := decide_eq_false c67
                                                        have c67n : decide (8000 < (x8_1.size : Int) + ((((wrap64 ((ji62) + (wrap64 (bt a0 (ji32)))))).toNat - (ji62).toNat : Nat) : Int)) = false := by rw [← sz_cut_ x8_1 a0 (ji62) ((wrap64 ((ji62) + (wrap64 (bt a0 (ji32)))))) (of_decide_eq_true (by first | (with_reducible assumption) | assumption))]; exact c67b0
                                                        have c67b1 : decide (8000 < (x8_1 ++ (a0.extract ((ji62) : Int).toNat ((wrap64 ((ji62) + (wrap64 (bt a0 (ji32))))) : Int).toNat)).size) = false := decide_eq_false (by omega)
                                                        clear c67
                                                        by_cases c68 : x16_50 = true
                                                        · subst c68
                                                          have H1 : (if x4_1.length < 8796093022208 then (spec_ReadLog.l0 kj52 a0 (x4_1 ++ [x8_1 ++ (a0.extract ((ji62) : Int).toNat ((wrap64 ((ji62) + (wrap64 (bt a0 (ji32))))) : Int).toNat)]) (wrap64 ((ji62) + (wrap64 (bt a0 (ji32))))) (wrap64 ((ji62) + (wrap64 (bt a0 (ji32))))) (!true) (⟨#[]⟩ : ByteArray)) else (none)) = some (r1, r2) := by rw [if_pos rfl] at H; exact H
                                                          clear H
                                                          have H := H1
                                                          clear H1
                                                          by_cases c69 : x4_1.length < 8796093022208
                                                          · rw [if_pos c69] at H
                                                            have LMc69 := Aside0.mk c69
                                                            clear c69
                                                            obtain ⟨y111, hy111⟩ : ∃ y_ : List ByteArray, y_ = (x4_1 ++ [x8_1 ++ (a0.extract ((ji62) : Int).toNat ((wrap64 ((ji62) + (wrap64 (bt a0 (ji32))))) : Int).toNat)]) := ⟨_, rfl⟩
                                                            replace H : (spec_ReadLog.l0 kj52 a0 y111 (wrap64 ((ji62) + (wrap64 (bt a0 (ji32))))) (wrap64 ((ji62) + (wrap64 (bt a0 (ji32))))) (!true) (⟨#[]⟩ : ByteArray)) = some (r1, r2) := by first | (rw [hy111]; with_reducible exact H) | (have H2_ := (Option.bind_some _ _).symm.trans H; rw [hy111]; with_reducible exact H2_) | (have H2_ := (Option.bind_some _ _).symm.trans H; with_reducible exact H2_) | with_reducible exact H | (rw [hy111]; exact H) | exact H
                                                            have Ny111 := Aside0.mk hy111
                                                            clear hy111
                                                            have H' := Aside0.mk H
                                                            clear H
                                                            go_wp2_with (first | ((with_reducible refine gate_builtin (b := .append) (xs := #[.tmp 158, .tmp 160]) rfl ?_); (try (refine gate_guard (by rfl) ?_; dsimp only)); at_builtin; refine Kd.R_append Kd.string (w0 := w) w.heap.size rfl (.tmp 158) (.tmp 160) 24 9 (.string ⟨#[]⟩) 16 rfl Try.underlying24 info9 rfl (by decide) (by omega) (.slice Ao41 x4_1.length co41) x4_1 (x8_1 ++ (a0.extract ((ji62) : Int).toNat ((wrap64 ((ji62) + (wrap64 (bt a0 (ji32))))) : Int).toNat)) [.string (x8_1 ++ (a0.extract ((ji62) : Int).toNat ((wrap64 ((ji62) + (wrap64 (bt a0 (ji32))))) : Int).toNat))] (fun _ => True) (fun _ => False) rfl rfl ?aP (fun _ hk => hk.elim) ?aF ?aO ?aB ?aS ?aL ?_; (case aP => exact rfl); (case aB => exact (by repeat (first | (with_reducible first | exact HB.out | apply below_alloc | apply pw_below_drewN | apply below_drew1) | exact HB.out))); (case aF => exact (fun _ _ => trivial)); (case aO => exact (by (with_reducible repeat (first | apply Kd.R_alloc | apply Kd.R_drewN | apply Kd.R_drew)); exact HO_4.out)); (case aS => exact (below_size (by repeat (first | (with_reducible first | exact HB.out | apply below_alloc | apply pw_below_drewN | apply below_drew1) | exact HB.out)))); (case aL => have := LMc69.out; omega); intro v112 w70 ho hb hg hat; rw [← Ny111.out] at ho; have n0_ := Aside0.mk (hb); have n1_ := Aside0.mk (ho); clear HB; clear HO_4; have HB := n0_; have HO113 := n1_; clear n0_ n1_; clear ho hb hg hat))
                                                            go_roundg kj52
                                                            case measure => have := HK1.out; have := HJ39.out; have := HJ48.out; have := HJ50.out; have := HJ52.out; omega
                                                            case rel => exact ⟨(y111), (wrap64 ((ji62) + (wrap64 (bt a0 (ji32))))), (wrap64 ((ji62) + (wrap64 (bt a0 (ji32))))), (!true), ((⟨#[]⟩ : ByteArray)), (by first | rfl | (simp; done) | (simp only [← hji32, ← hji62] <;> (first | rfl | simp)) | (simp [*]; done)), (by first | rfl | (simp; done) | (simp only [← hji32, ← hji62] <;> (first | rfl | simp)) | (simp [*]; done)), (by first | rfl | (simp; done) | (simp [*]; done)), (by first | rfl | (simp; done) | (simp [*]; done)), H', ⟨by have := HK1.out; have := HJ39.out; have := HJ48.out; have := HJ50.out; have := HJ52.out; omega⟩, ⟨by (with_reducible repeat (first | apply Kd.R_alloc | apply Kd.R_drewN | apply Kd.R_drew)); exact HO113.out⟩, ⟨by repeat (first | (with_reducible first | exact HB.out | apply below_alloc | apply pw_below_drewN | apply below_drew1) | exact HB.out)⟩⟩
                                                          · rw [if_neg c69] at H
                                                            exact absurd H (by simp)
                                                        · replace c68 := Bool.eq_false_iff.mpr c68
                                                          subst c68
                                                          have H1 : (spec_ReadLog.l0 kj52 a0 x4_1 x5_1 (wrap64 ((ji62) + (wrap64 (bt a0 (ji32))))) (!false) (x8_1 ++ (a0.extract ((ji62) : Int).toNat ((wrap64 ((ji62) + (wrap64 (bt a0 (ji32))))) : Int).toNat))) = some (r1, r2) := by rw [if_neg (show ¬ (false = true) by decide)] at H; exact H
                                                          clear H
                                                          have H := H1
                                                          clear H1
                                                          have H' := Aside0.mk H
                                                          clear H
                                                          go_wp2
                                                          go_roundg kj52
                                                          case measure => have := HK1.out; have := HJ39.out; have := HJ48.out; have := HJ50.out; have := HJ52.out; omega
                                                          case rel => exact ⟨(x4_1), (x5_1), (wrap64 ((ji62) + (wrap64 (bt a0 (ji32))))), (!false), (x8_1 ++ (a0.extract ((ji62) : Int).toNat ((wrap64 ((ji62) + (wrap64 (bt a0 (ji32))))) : Int).toNat)), (by first | rfl | (simp; done) | (simp [*]; done)), (by first | rfl | (simp; done) | (simp only [← hji32, ← hji62] <;> (first | rfl | simp)) | (simp [*]; done)), (by first | rfl | (simp; done) | (simp [*]; done)), (by first | rfl | (simp; done) | (simp only [← hji32, ← hji62] <;> (first | rfl | simp)) | (simp [*]; done)), H', ⟨by have := HK1.out; have := HJ39.out; have := HJ48.out; have := HJ50.out; have := HJ52.out; omega⟩, ⟨by (with_reducible repeat (first | apply Kd.R_alloc | apply Kd.R_drewN | apply Kd.R_drew)); exact HO_4.out⟩, ⟨by repeat (first | (with_reducible first | exact HB.out | apply below_alloc | apply pw_below_drewN | apply below_drew1) | exact HB.out)⟩⟩
                                                    · rw [if_neg c66] at H
                                                      exact absurd H (by simp)
                                                  · rw [if_neg c65] at H
                                                    exact absurd H (by simp)
                                                · rw [if_neg c64] at H
                                                  exact absurd H (by simp)
                                              · rw [if_neg c63] at H
                                                exact absurd H (by simp)
                        · rw [if_neg c38] at H
                          exact absurd H (by simp)
                      · rw [if_neg c37] at H
                        exact absurd H (by simp)
                    · rw [if_neg c34] at H
                      exact absurd H (by simp)
                  · rw [if_neg c33] at H
                    exact absurd H (by simp)
                · rw [if_neg c30] at H
                  exact absurd H (by simp)
              · rw [if_neg c29] at H
                exact absurd H (by simp)
            · rw [if_neg c28] at H
              exact absurd H (by simp)
      · rw [if_neg c4] at H
        have c4b0 : decide ((x4_1.length : Int) < 500) = false := decide_eq_false c4
        have c4b1 : decide (x4_1.length < 500) = false := decide_eq_false (by omega)
        clear c4
        simp only [Option.some.injEq, Prod.mk.injEq] at H
        obtain ⟨rfl, rfl⟩ := H
        obtain ⟨Ao71, co71, eo71⟩ := Kd.R_slice HO_4.out
        subst eo71
        go_wp2
        go_ret2
        exact ⟨_, by first | rfl | (simp [errW_none, errW_some] <;> rfl) | (simp [*, errW_none, errW_some] <;> rfl), by (with_reducible repeat (first | apply Kd.R_alloc | apply Kd.R_drewN | apply Kd.R_drew)); exact HO_4.out, by repeat (first | (with_reducible first | exact HB.out | apply below_alloc | apply pw_below_drewN | apply below_drew1) | exact HB.out)⟩

end Go.Proofs.Ytfcjacncllmapag.QFnLogHurt
