-- This session's own text: written by a program of this session, begun from the kit's printer.
import Derived.Test.YtfcjacncllmapagQFnLogHurtx0
import Derived.Test.YtfcjacncllmapagQFnLogHurtx5
import Derived.Test.YtfcjacncllmapagQFnLogHurtx7
namespace Go.Proofs.Ytfcjacncllmapag.QFnLogHurt
open Go.RowKit Go.Proofs.YtfcjacncllmapagW.PrintWords Go.Proofs.YtfcjacncllmapagW.PrintLast Go.Proofs.YtfcjacncllmapagW.PrintMore
attribute [local go_sem] max2_int min2_int max_two min_two max_three min_three max_four min_four   -- for this text's walks alone
set_option linter.unusedVariables false
set_option linter.unusedSimpArgs false
set_option maxRecDepth 100000

/-! ### impl_ReadLog: function 10 -/
mutual
def impl_ReadLog.l0 : Nat → ByteArray → List ByteArray → Int → ByteArray → Bool → Int → Option (List ByteArray × Int)
  | 0, _, _, _, _, _, _ => none
  | k + 1, x0, x4, x5, x6, x7, x8 => if (x4.length : Int) < 500 then (if (wrap64 (64 - (Int.tmod x8 64))) ≤ 6 then (impl_ReadLog.l1 k x0 x4 x5 x6 x7 x8 (wrap64 (64 - (Int.tmod x8 64))) 0) else (if (wrap64 (x8 + 6)) > (x0.size : Int) then (some (x4, x5)) else (if 0 ≤ x8 then (if x8 ≤ (x0.size : Int) then ((impl_TakeFixed.f (x0.extract (x8 : Int).toNat x0.size)).bind fun bt189 => (if 0 ≤ (wrap64 (x8 + 4)) then (if (wrap64 (x8 + 4)) < (x0.size : Int) then (if 0 ≤ (wrap64 (x8 + 5)) then (if (wrap64 (x8 + 5)) < (x0.size : Int) then (if (wrap64 (6 + (wrap64 (bt x0 (wrap64 (x8 + 4)))))) > (wrap64 (64 - (Int.tmod x8 64))) then (impl_ReadLog.j2 k x0 x4 x5 x6 x7 x8 (wrap64 (64 - (Int.tmod x8 64))) (wrap64 (bt x0 (wrap64 (x8 + 4)))) (bt x0 (wrap64 (x8 + 5))) true) else (if (wrap64 ((wrap64 (x8 + 6)) + (wrap64 (bt x0 (wrap64 (x8 + 4)))))) > (x0.size : Int) then (impl_ReadLog.j2 k x0 x4 x5 x6 x7 x8 (wrap64 (64 - (Int.tmod x8 64))) (wrap64 (bt x0 (wrap64 (x8 + 4)))) (bt x0 (wrap64 (x8 + 5))) true) else (if (wrap64 (x8 + 4)) ≤ (wrap64 ((wrap64 (x8 + 6)) + (wrap64 (bt x0 (wrap64 (x8 + 4)))))) then (if (wrap64 ((wrap64 (x8 + 6)) + (wrap64 (bt x0 (wrap64 (x8 + 4)))))) ≤ (x0.size : Int) then ((impl_Crc.f k (x0.extract ((wrap64 (x8 + 4)) : Int).toNat ((wrap64 ((wrap64 (x8 + 6)) + (wrap64 (bt x0 (wrap64 (x8 + 4)))))) : Int).toNat)).bind fun t192 => (if t192 = bt189.1 then (if (bt x0 (wrap64 (x8 + 5))) < 1 then (impl_ReadLog.j2 k x0 x4 x5 x6 x7 x8 (wrap64 (64 - (Int.tmod x8 64))) (wrap64 (bt x0 (wrap64 (x8 + 4)))) (bt x0 (wrap64 (x8 + 5))) true) else (impl_ReadLog.j2 k x0 x4 x5 x6 x7 x8 (wrap64 (64 - (Int.tmod x8 64))) (wrap64 (bt x0 (wrap64 (x8 + 4)))) (bt x0 (wrap64 (x8 + 5))) (decide ((bt x0 (wrap64 (x8 + 5))) > 4)))) else (impl_ReadLog.j2 k x0 x4 x5 x6 x7 x8 (wrap64 (64 - (Int.tmod x8 64))) (wrap64 (bt x0 (wrap64 (x8 + 4)))) (bt x0 (wrap64 (x8 + 5))) true))) else (none)) else (none)))) else (none)) else (none)) else (none)) else (none))) else (none)) else (none)))) else (some (x4, x5))
def impl_ReadLog.l1 : Nat → ByteArray → List ByteArray → Int → ByteArray → Bool → Int → Int → Int → Option (List ByteArray × Int)
  | 0, _, _, _, _, _, _, _, _ => none
  | k + 1, x0, x4, x5, x6, x7, x8, x26, x27 => if x27 < x26 then (if x8 ≥ (x0.size : Int) then (some (x4, x5)) else (if 0 ≤ x8 then (if x8 < (x0.size : Int) then (if (bt x0 x8) = 0 then (impl_ReadLog.l1 k x0 x4 x5 x6 x7 (wrap64 (x8 + 1)) x26 (wrap64 (x27 + 1))) else (some (x4, x5))) else (none)) else (none))) else (impl_ReadLog.l0 k x0 x4 x5 x6 x7 x8)
def impl_ReadLog.j2 : Nat → ByteArray → List ByteArray → Int → ByteArray → Bool → Int → Int → Int → Int → Bool → Option (List ByteArray × Int)
  | 0, _, _, _, _, _, _, _, _, _, _ => none
  | k + 1, x0, x4, x5, x6, x7, x8, x9, x13, x14, x99 => if x99 = true then (some (x4, x5)) else (if x14 = 1 then (if x14 = 2 then (impl_ReadLog.j3 k x0 x4 x5 x6 x7 x8 x9 x13 x14 true true) else (impl_ReadLog.j3 k x0 x4 x5 x6 x7 x8 x9 x13 x14 true (x14 == 3))) else (if x14 = 2 then (impl_ReadLog.j3 k x0 x4 x5 x6 x7 x8 x9 x13 x14 (x14 == 2) true) else (impl_ReadLog.j3 k x0 x4 x5 x6 x7 x8 x9 x13 x14 (x14 == 2) (x14 == 3))))
def impl_ReadLog.j3 : Nat → ByteArray → List ByteArray → Int → ByteArray → Bool → Int → Int → Int → Int → Bool → Bool → Option (List ByteArray × Int)
  | 0, _, _, _, _, _, _, _, _, _, _, _ => none
  | k + 1, x0, x4, x5, x6, x7, x8, x9, x13, x14, x15, x16 => if (x15 == x7) = true then (impl_ReadLog.j4 k x0 x4 x5 x6 x8 x13 x16 true) else (if x16 = true then (if (wrap64 (6 + x13)) = x9 then (if x14 = 4 then (if x13 = 0 then (impl_ReadLog.j4 k x0 x4 x5 x6 x8 x13 x16 true) else (impl_ReadLog.j4 k x0 x4 x5 x6 x8 x13 x16 (decide ((wrap64 ((x6.size : Int) + x13)) > 8000)))) else (impl_ReadLog.j4 k x0 x4 x5 x6 x8 x13 x16 (decide ((wrap64 ((x6.size : Int) + x13)) > 8000)))) else (impl_ReadLog.j4 k x0 x4 x5 x6 x8 x13 x16 true)) else (if x14 = 4 then (if x13 = 0 then (impl_ReadLog.j4 k x0 x4 x5 x6 x8 x13 x16 true) else (impl_ReadLog.j4 k x0 x4 x5 x6 x8 x13 x16 (decide ((wrap64 ((x6.size : Int) + x13)) > 8000)))) else (impl_ReadLog.j4 k x0 x4 x5 x6 x8 x13 x16 (decide ((wrap64 ((x6.size : Int) + x13)) > 8000)))))
def impl_ReadLog.j4 : Nat → ByteArray → List ByteArray → Int → ByteArray → Int → Int → Bool → Bool → Option (List ByteArray × Int)
  | 0, _, _, _, _, _, _, _, _ => none
  | k + 1, x0, x4, x5, x6, x8, x13, x16, x138 => if x138 = true then (some (x4, x5)) else (if 0 ≤ (wrap64 (x8 + 6)) then (if (wrap64 (x8 + 6)) ≤ (wrap64 ((wrap64 (x8 + 6)) + x13)) then (if (wrap64 ((wrap64 (x8 + 6)) + x13)) ≤ (x0.size : Int) then (if x6.size + (x0.extract ((wrap64 (x8 + 6)) : Int).toNat ((wrap64 ((wrap64 (x8 + 6)) + x13)) : Int).toNat).size ≤ 9223372036854775807 then (if x16 = true then (impl_ReadLog.l0 k x0 x4 x5 (x6 ++ (x0.extract ((wrap64 (x8 + 6)) : Int).toNat ((wrap64 ((wrap64 (x8 + 6)) + x13)) : Int).toNat)) x16 (wrap64 (x8 + (wrap64 (6 + x13))))) else (if x4.length < 8796093022208 then (impl_ReadLog.l0 k x0 (x4 ++ [x6 ++ (x0.extract ((wrap64 (x8 + 6)) : Int).toNat ((wrap64 ((wrap64 (x8 + 6)) + x13)) : Int).toNat)]) (wrap64 (x8 + (wrap64 (6 + x13)))) (⟨#[]⟩ : ByteArray) x16 (wrap64 (x8 + (wrap64 (6 + x13))))) else (none))) else (none)) else (none)) else (none)) else (none))
end
def impl_ReadLog.f (k : Nat) (a0 : ByteArray) : Option (List ByteArray × Int) := impl_ReadLog.l0 k a0 (([] : List ByteArray)) 0 (⟨#[]⟩ : ByteArray) false 0
set_option maxRecDepth 100000 in
theorem impl_ReadLog.mono_l : ∀ k, (∀ y0 y1 y2 y3 y4 y5, LeO (impl_ReadLog.l0 k y0 y1 y2 y3 y4 y5) (impl_ReadLog.l0 (k + 1) y0 y1 y2 y3 y4 y5)) ∧ (∀ y0 y1 y2 y3 y4 y5 y6 y7, LeO (impl_ReadLog.l1 k y0 y1 y2 y3 y4 y5 y6 y7) (impl_ReadLog.l1 (k + 1) y0 y1 y2 y3 y4 y5 y6 y7)) ∧ (∀ y0 y1 y2 y3 y4 y5 y6 y7 y8 y9, LeO (impl_ReadLog.j2 k y0 y1 y2 y3 y4 y5 y6 y7 y8 y9) (impl_ReadLog.j2 (k + 1) y0 y1 y2 y3 y4 y5 y6 y7 y8 y9)) ∧ (∀ y0 y1 y2 y3 y4 y5 y6 y7 y8 y9 y10, LeO (impl_ReadLog.j3 k y0 y1 y2 y3 y4 y5 y6 y7 y8 y9 y10) (impl_ReadLog.j3 (k + 1) y0 y1 y2 y3 y4 y5 y6 y7 y8 y9 y10)) ∧ (∀ y0 y1 y2 y3 y4 y5 y6 y7, LeO (impl_ReadLog.j4 k y0 y1 y2 y3 y4 y5 y6 y7) (impl_ReadLog.j4 (k + 1) y0 y1 y2 y3 y4 y5 y6 y7))
  | 0 => ⟨fun _ _ _ _ _ _ r h => by simp [impl_ReadLog.l0] at h, fun _ _ _ _ _ _ _ _ r h => by simp [impl_ReadLog.l1] at h, fun _ _ _ _ _ _ _ _ _ _ r h => by simp [impl_ReadLog.j2] at h, fun _ _ _ _ _ _ _ _ _ _ _ r h => by simp [impl_ReadLog.j3] at h, fun _ _ _ _ _ _ _ _ r h => by simp [impl_ReadLog.j4] at h⟩
  | k + 1 => by
    obtain ⟨ih0, ih1, ih2, ih3, ih4⟩ := impl_ReadLog.mono_l k
    refine ⟨?_, ?_, ?_, ?_, ?_⟩
    · intro y0 y1 y2 y3 y4 y5
      unfold impl_ReadLog.l0
      repeat' first
      | (with_reducible exact ih0 _ _ _ _ _ _)
      | (with_reducible exact ih1 _ _ _ _ _ _ _ _)
      | (with_reducible exact ih2 _ _ _ _ _ _ _ _ _ _)
      | (with_reducible exact ih3 _ _ _ _ _ _ _ _ _ _ _)
      | (with_reducible exact ih4 _ _ _ _ _ _ _ _)
      | (with_reducible exact impl_Crc.mono _ _)
      | (with_reducible exact LeO.refl _)
      | (with_reducible exact LeO.none _)
      | (with_reducible refine LeO.ite ?_ ?_)
      | (with_reducible refine LeO.bind ?_ (fun _ => ?_))
      | exact ih0 _ _ _ _ _ _
      | exact ih1 _ _ _ _ _ _ _ _
      | exact ih2 _ _ _ _ _ _ _ _ _ _
      | exact ih3 _ _ _ _ _ _ _ _ _ _ _
      | exact ih4 _ _ _ _ _ _ _ _
      | exact impl_Crc.mono _ _
      | exact LeO.none _
      | refine LeO.ite ?_ ?_
      | refine LeO.bind ?_ (fun _ => ?_)
    · intro y0 y1 y2 y3 y4 y5 y6 y7
      unfold impl_ReadLog.l1
      repeat' first
      | (with_reducible exact ih0 _ _ _ _ _ _)
      | (with_reducible exact ih1 _ _ _ _ _ _ _ _)
      | (with_reducible exact ih2 _ _ _ _ _ _ _ _ _ _)
      | (with_reducible exact ih3 _ _ _ _ _ _ _ _ _ _ _)
      | (with_reducible exact ih4 _ _ _ _ _ _ _ _)
      | (with_reducible exact impl_Crc.mono _ _)
      | (with_reducible exact LeO.refl _)
      | (with_reducible exact LeO.none _)
      | (with_reducible refine LeO.ite ?_ ?_)
      | (with_reducible refine LeO.bind ?_ (fun _ => ?_))
      | exact ih0 _ _ _ _ _ _
      | exact ih1 _ _ _ _ _ _ _ _
      | exact ih2 _ _ _ _ _ _ _ _ _ _
      | exact ih3 _ _ _ _ _ _ _ _ _ _ _
      | exact ih4 _ _ _ _ _ _ _ _
      | exact impl_Crc.mono _ _
      | exact LeO.none _
      | refine LeO.ite ?_ ?_
      | refine LeO.bind ?_ (fun _ => ?_)
    · intro y0 y1 y2 y3 y4 y5 y6 y7 y8 y9
      unfold impl_ReadLog.j2
      repeat' first
      | (with_reducible exact ih0 _ _ _ _ _ _)
      | (with_reducible exact ih1 _ _ _ _ _ _ _ _)
      | (with_reducible exact ih2 _ _ _ _ _ _ _ _ _ _)
      | (with_reducible exact ih3 _ _ _ _ _ _ _ _ _ _ _)
      | (with_reducible exact ih4 _ _ _ _ _ _ _ _)
      | (with_reducible exact impl_Crc.mono _ _)
      | (with_reducible exact LeO.refl _)
      | (with_reducible exact LeO.none _)
      | (with_reducible refine LeO.ite ?_ ?_)
      | (with_reducible refine LeO.bind ?_ (fun _ => ?_))
      | exact ih0 _ _ _ _ _ _
      | exact ih1 _ _ _ _ _ _ _ _
      | exact ih2 _ _ _ _ _ _ _ _ _ _
      | exact ih3 _ _ _ _ _ _ _ _ _ _ _
      | exact ih4 _ _ _ _ _ _ _ _
      | exact impl_Crc.mono _ _
      | exact LeO.none _
      | refine LeO.ite ?_ ?_
      | refine LeO.bind ?_ (fun _ => ?_)
    · intro y0 y1 y2 y3 y4 y5 y6 y7 y8 y9 y10
      unfold impl_ReadLog.j3
      repeat' first
      | (with_reducible exact ih0 _ _ _ _ _ _)
      | (with_reducible exact ih1 _ _ _ _ _ _ _ _)
      | (with_reducible exact ih2 _ _ _ _ _ _ _ _ _ _)
      | (with_reducible exact ih3 _ _ _ _ _ _ _ _ _ _ _)
      | (with_reducible exact ih4 _ _ _ _ _ _ _ _)
      | (with_reducible exact impl_Crc.mono _ _)
      | (with_reducible exact LeO.refl _)
      | (with_reducible exact LeO.none _)
      | (with_reducible refine LeO.ite ?_ ?_)
      | (with_reducible refine LeO.bind ?_ (fun _ => ?_))
      | exact ih0 _ _ _ _ _ _
      | exact ih1 _ _ _ _ _ _ _ _
      | exact ih2 _ _ _ _ _ _ _ _ _ _
      | exact ih3 _ _ _ _ _ _ _ _ _ _ _
      | exact ih4 _ _ _ _ _ _ _ _
      | exact impl_Crc.mono _ _
      | exact LeO.none _
      | refine LeO.ite ?_ ?_
      | refine LeO.bind ?_ (fun _ => ?_)
    · intro y0 y1 y2 y3 y4 y5 y6 y7
      unfold impl_ReadLog.j4
      repeat' first
      | (with_reducible exact ih0 _ _ _ _ _ _)
      | (with_reducible exact ih1 _ _ _ _ _ _ _ _)
      | (with_reducible exact ih2 _ _ _ _ _ _ _ _ _ _)
      | (with_reducible exact ih3 _ _ _ _ _ _ _ _ _ _ _)
      | (with_reducible exact ih4 _ _ _ _ _ _ _ _)
      | (with_reducible exact impl_Crc.mono _ _)
      | (with_reducible exact LeO.refl _)
      | (with_reducible exact LeO.none _)
      | (with_reducible refine LeO.ite ?_ ?_)
      | (with_reducible refine LeO.bind ?_ (fun _ => ?_))
      | exact ih0 _ _ _ _ _ _
      | exact ih1 _ _ _ _ _ _ _ _
      | exact ih2 _ _ _ _ _ _ _ _ _ _
      | exact ih3 _ _ _ _ _ _ _ _ _ _ _
      | exact ih4 _ _ _ _ _ _ _ _
      | exact impl_Crc.mono _ _
      | exact LeO.none _
      | refine LeO.ite ?_ ?_
      | refine LeO.bind ?_ (fun _ => ?_)
theorem impl_ReadLog.mono : ∀ a0 k, LeO (impl_ReadLog.f k a0) (impl_ReadLog.f (k + 1) a0) := by
  intro a0 k
  obtain ⟨ih0, ih1, ih2, ih3, ih4⟩ := impl_ReadLog.mono_l k
  unfold impl_ReadLog.f
  repeat' first
      | (with_reducible exact ih0 _ _ _ _ _ _)
      | (with_reducible exact ih1 _ _ _ _ _ _ _ _)
      | (with_reducible exact ih2 _ _ _ _ _ _ _ _ _ _)
      | (with_reducible exact ih3 _ _ _ _ _ _ _ _ _ _ _)
      | (with_reducible exact ih4 _ _ _ _ _ _ _ _)
      | (with_reducible exact impl_Crc.mono _ _)
      | (with_reducible exact LeO.refl _)
      | (with_reducible exact LeO.none _)
      | (with_reducible refine LeO.ite ?_ ?_)
      | (with_reducible refine LeO.bind ?_ (fun _ => ?_))
      | exact ih0 _ _ _ _ _ _
      | exact ih1 _ _ _ _ _ _ _ _
      | exact ih2 _ _ _ _ _ _ _ _ _ _
      | exact ih3 _ _ _ _ _ _ _ _ _ _ _
      | exact ih4 _ _ _ _ _ _ _ _
      | exact impl_Crc.mono _ _
      | exact LeO.none _
      | refine LeO.ite ?_ ?_
      | refine LeO.bind ?_ (fun _ => ?_)
set_option maxHeartbeats 8000000 in
set_option maxRecDepth 100000 in
theorem impl_ReadLog.calls (k : Nat) (a0 : ByteArray) (r1 : List ByteArray) (r2 : Int) (w : World) (h : impl_ReadLog.f k a0 = some (r1, r2)) :
    Calls Try.prog 10 #[.string a0] w fun e w' => ∃ v0_ : Value, e = .returned (.tuple #[v0_, .int .i64 r2]) ∧ Kd.R Kd.string 9 w' w.heap.size (fun _ => True) v0_ r1 ∧ Below w.heap.size w w' := by
  have HB := Aside0.mk (Below.refl w.heap.size w)
  have H : (impl_ReadLog.l0 k a0 (([] : List ByteArray)) 0 (⟨#[]⟩ : ByteArray) false 0) = some (r1, r2) := h
  clear h
  obtain ⟨y186, hy186⟩ : ∃ y_ : List ByteArray, y_ = (([] : List ByteArray)) := ⟨_, rfl⟩
  replace H : (impl_ReadLog.l0 k a0 y186 0 (⟨#[]⟩ : ByteArray) false 0) = some (r1, r2) := by first | (rw [hy186]; with_reducible exact H) | (have H2_ := (Option.bind_some _ _).symm.trans H; rw [hy186]; with_reducible exact H2_) | (have H2_ := (Option.bind_some _ _).symm.trans H; with_reducible exact H2_) | with_reducible exact H | (rw [hy186]; exact H) | exact H
  have Ny186 := Aside0.mk hy186
  clear hy186
  have H' := Aside0.mk H
  clear H
  go_enter Try.func10, Try.ntmps10
  go_wp2_with (first | ((with_reducible refine gate_dst (N := 17) rfl ?_); (try (refine gate_guard (by rfl) ?_; dsimp only)); refine Kd.R_lit Kd.string _ 9 ?hg (N := 17) ?hd (xs := ([] : List ByteArray)) (inner := []) (ok := fun _ => True) (okp := fun _ => True) ?hr ?hp (fun _ hk => hk) trivial (Below.refl _ _) (Nat.le_refl _) (by simp) ?_; (case hd => rfl); (case hg => rfl); (case hr => first | (go_simp; done) | (go_simp; rfl)); (case hp => exact (Reps.none _ _)); intro v187 w2 ho3 hb hg_ hnew_; clear hg_ hnew_; (first | rw [← Ny186.out] at ho3 | (simp only [Int.reduceToNat] at ho3; rw [← Ny186.out] at ho3)); have n0_ := Aside0.mk (Kd.R_lower ho3 (below_size (by repeat (first | (with_reducible first | exact HB.out | apply below_alloc | apply pw_below_drewN | apply below_drew1) | exact HB.out)))); have n1_ := Aside0.mk (below_step (by repeat (first | (with_reducible first | exact HB.out | apply below_alloc | apply pw_below_drewN | apply below_drew1) | exact HB.out)) hb); clear HB; have HO188 := n0_; have HB := n1_; clear n0_ n1_; clear hb ho3))
  repeat (go_quiet (first | ((with_reducible refine gate_dst (N := 17) rfl ?_); (try (refine gate_guard (by rfl) ?_; dsimp only)); refine Kd.R_lit Kd.string _ 9 ?hg (N := 17) ?hd (xs := ([] : List ByteArray)) (inner := []) (ok := fun _ => True) (okp := fun _ => True) ?hr ?hp (fun _ hk => hk) trivial (Below.refl _ _) (Nat.le_refl _) (by simp) ?_; (case hd => rfl); (case hg => rfl); (case hr => first | (go_simp; done) | (go_simp; rfl)); (case hp => exact (Reps.none _ _)); intro v187 w2 ho3 hb hg_ hnew_; clear hg_ hnew_; (first | rw [← Ny186.out] at ho3 | (simp only [Int.reduceToNat] at ho3; rw [← Ny186.out] at ho3)); have n0_ := Aside0.mk (Kd.R_lower ho3 (below_size (by repeat (first | (with_reducible first | exact HB.out | apply below_alloc | apply pw_below_drewN | apply below_drew1) | exact HB.out)))); have n1_ := Aside0.mk (below_step (by repeat (first | (with_reducible first | exact HB.out | apply below_alloc | apply pw_below_drewN | apply below_drew1) | exact HB.out)) hb); clear HB; have HO188 := n0_; have HB := n1_; clear n0_ n1_; clear hb ho3)); try go_wp2_with (first | ((with_reducible refine gate_dst (N := 17) rfl ?_); (try (refine gate_guard (by rfl) ?_; dsimp only)); refine Kd.R_lit Kd.string _ 9 ?hg (N := 17) ?hd (xs := ([] : List ByteArray)) (inner := []) (ok := fun _ => True) (okp := fun _ => True) ?hr ?hp (fun _ hk => hk) trivial (Below.refl _ _) (Nat.le_refl _) (by simp) ?_; (case hd => rfl); (case hg => rfl); (case hr => first | (go_simp; done) | (go_simp; rfl)); (case hp => exact (Reps.none _ _)); intro v187 w2 ho3 hb hg_ hnew_; clear hg_ hnew_; (first | rw [← Ny186.out] at ho3 | (simp only [Int.reduceToNat] at ho3; rw [← Ny186.out] at ho3)); have n0_ := Aside0.mk (Kd.R_lower ho3 (below_size (by repeat (first | (with_reducible first | exact HB.out | apply below_alloc | apply pw_below_drewN | apply below_drew1) | exact HB.out)))); have n1_ := Aside0.mk (below_step (by repeat (first | (with_reducible first | exact HB.out | apply below_alloc | apply pw_below_drewN | apply below_drew1) | exact HB.out)) hb); clear HB; have HO188 := n0_; have HB := n1_; clear n0_ n1_; clear hb ho3)))
  go_loopg [4, 5, 6, 7, 8] k (fun kq v4 v5 v6 v7 v8 w' => ∃ (x4_1 : List ByteArray) (x5_1 : Int) (x6_1 : ByteArray) (x7_1 : Bool) (x8_1 : Int), v5 = .int .i64 x5_1 ∧ v6 = .string x6_1 ∧ v7 = .bool x7_1 ∧ v8 = .int .i64 x8_1 ∧ Aside0 (impl_ReadLog.l0 kq a0 x4_1 x5_1 x6_1 x7_1 x8_1 = some (r1, r2)) ∧ Aside0 (kq ≤ k) ∧ Aside0 (Kd.R Kd.string 9 w' w.heap.size (fun _ => True) v4 x4_1) ∧ Aside0 (Below w.heap.size w w'))
  case atStart => exact ⟨(y186), (0), ((⟨#[]⟩ : ByteArray)), (false), (0), (by first | rfl | (simp; done) | (simp [*]; done)), (by first | rfl | (simp; done) | (simp [*]; done)), (by first | rfl | (simp; done) | (simp [*]; done)), (by first | rfl | (simp; done) | (simp [*]; done)), H', ⟨Nat.le_refl _⟩, ⟨by (with_reducible repeat (first | apply Kd.R_alloc | apply Kd.R_drewN | apply Kd.R_drew)); exact HO188.out⟩, ⟨by repeat (first | (with_reducible first | exact HB.out | apply below_alloc | apply pw_below_drewN | apply below_drew1) | exact HB.out)⟩⟩
  case round =>
    clear H'
    try clear c1
    try clear p2
    obtain ⟨x4_1, x5_1, x6_1, x7_1, x8_1, rfl, rfl, rfl, rfl, HA, HK1, HO_4, HB⟩ := hrel
    cases gk with
    | zero => exact absurd HA.out (by simp [impl_ReadLog.l0])
    | succ k1 =>
      have H := HA.out
      clear HA
      simp only [impl_ReadLog.l0] at H
      by_cases c4 : (x4_1.length : Int) < 500
      · rw [if_pos c4] at H
        have c4b0 : decide ((x4_1.length : Int) < 500) = true := decide_eq_true c4
        have c4b1 : decide (x4_1.length < 500) = true := decide_eq_true (by omega)
        clear c4
        by_cases c5 : (wrap64 (64 - (Int.tmod x8_1 64))) ≤ 6
        · rw [if_pos c5] at H
          have c5b0 : decide ((wrap64 (64 - (Int.tmod x8_1 64))) ≤ 6) = true := decide_eq_true c5
          clear c5
          have H' := Aside0.mk H
          clear H
          obtain ⟨Ao6, co6, eo6⟩ := Kd.R_slice HO_4.out
          subst eo6
          go_wp2
          repeat (go_quiet (fail); try go_wp2)
          go_loopg [8, 27] k1 (fun kq v8 v27 w' => ∃ (x8_2 : Int) (x27_2 : Int), v8 = .int .i64 x8_2 ∧ v27 = .int .i64 x27_2 ∧ Aside0 (impl_ReadLog.l1 kq a0 x4_1 x5_1 x6_1 x7_1 x8_2 (wrap64 (64 - (Int.tmod x8_1 64))) x27_2 = some (r1, r2)) ∧ Aside0 (kq ≤ k1) ∧ Aside0 (Kd.R Kd.string 9 w' w.heap.size (fun _ => True) (.slice Ao6 x4_1.length co6) x4_1) ∧ Aside0 (Below w.heap.size w w'))
          case atStart => exact ⟨(x8_1), (0), (by first | rfl | (simp; done) | (simp [*]; done)), (by first | rfl | (simp; done) | (simp [*]; done)), H', ⟨Nat.le_refl _⟩, ⟨by (with_reducible repeat (first | apply Kd.R_alloc | apply Kd.R_drewN | apply Kd.R_drew)); exact HO_4.out⟩, ⟨by repeat (first | (with_reducible first | exact HB.out | apply below_alloc | apply pw_below_drewN | apply below_drew1) | exact HB.out)⟩⟩
          case round =>
            clear H'
            try clear c1
            try clear p2
            try clear c4
            try clear c4b0
            try clear c4b1
            try clear c5
            try clear c5b0
            try clear p6
            try clear p2
            obtain ⟨x8_2, x27_2, rfl, rfl, HA, HK2, HO_4, HB⟩ := hrel
            cases gk with
            | zero => exact absurd HA.out (by simp [impl_ReadLog.l1])
            | succ k2 =>
              have H := HA.out
              clear HA
              simp only [impl_ReadLog.l1] at H
              by_cases c7 : x27_2 < (wrap64 (64 - (Int.tmod x8_1 64)))
              · rw [if_pos c7] at H
                have c7b0 : decide (x27_2 < (wrap64 (64 - (Int.tmod x8_1 64)))) = true := decide_eq_true c7
                clear c7
                by_cases c8 : x8_2 ≥ (a0.size : Int)
                · rw [if_pos c8] at H
                  have c8b0 : decide ((a0.size : Int) ≤ x8_2) = true := decide_eq_true c8
                  clear c8
                  simp only [Option.some.injEq, Prod.mk.injEq] at H
                  obtain ⟨rfl, rfl⟩ := H
                  go_wp2
                  repeat (go_quiet (fail); try go_wp2)
                  go_ret2
                  exact ⟨_, by first | rfl | (simp [errW_none, errW_some] <;> rfl) | (simp [*, errW_none, errW_some] <;> rfl), by (with_reducible repeat (first | apply Kd.R_alloc | apply Kd.R_drewN | apply Kd.R_drew)); exact HO_4.out, by repeat (first | (with_reducible first | exact HB.out | apply below_alloc | apply pw_below_drewN | apply below_drew1) | exact HB.out)⟩
                · rw [if_neg c8] at H
                  have c8b0 : decide ((a0.size : Int) ≤ x8_2) = false := decide_eq_false c8
                  clear c8
                  by_cases c9 : 0 ≤ x8_2
                  · rw [if_pos c9] at H
                    have c9b0 : decide (0 ≤ x8_2) = true := decide_eq_true c9
                    clear c9
                    by_cases c10 : x8_2 < (a0.size : Int)
                    · rw [if_pos c10] at H
                      have c10b0 : decide (x8_2 < (a0.size : Int)) = true := decide_eq_true c10
                      clear c10
                      by_cases c12 : (bt a0 x8_2) = 0
                      · rw [if_pos c12] at H
                        have c12b0 : ((bt a0 x8_2) == 0) = true := beq_iff_eq.mpr c12
                        have c12b1 : ((bt a0 x8_2) != 0) = false := bne_eq_false_iff_eq.mpr c12
                        clear c12
                        have H' := Aside0.mk H
                        clear H
                        have p11 : 0 ≤ (x8_2 : Int) := of_decide_eq_true (by first | (with_reducible assumption) | assumption)
                        have q11 : x8_2 < (a0.size : Int) := of_decide_eq_true (by first | (with_reducible assumption) | assumption)
                        have hx11 := bt_at a0 x8_2
                        replace p11 := eq_true p11
                        replace q11 := eq_true q11
                        go_wp2
                        repeat (go_quiet (fail); try go_wp2)
                        go_roundg k2
                        case measure => have := HK1.out; have := HK2.out; omega
                        case rel => exact ⟨(wrap64 (x8_2 + 1)), (wrap64 (x27_2 + 1)), (by first | rfl | (simp; done) | (simp [*]; done)), (by first | rfl | (simp; done) | (simp [*]; done)), H', ⟨by have := HK1.out; have := HK2.out; omega⟩, ⟨by (with_reducible repeat (first | apply Kd.R_alloc | apply Kd.R_drewN | apply Kd.R_drew)); exact HO_4.out⟩, ⟨by repeat (first | (with_reducible first | exact HB.out | apply below_alloc | apply pw_below_drewN | apply below_drew1) | exact HB.out)⟩⟩
                      · rw [if_neg c12] at H
                        have c12b0 : ((bt a0 x8_2) == 0) = false := beq_eq_false_iff_ne.mpr c12
                        have c12b1 : ((bt a0 x8_2) != 0) = true := bne_iff_ne.mpr c12
                        simp only [Option.some.injEq, Prod.mk.injEq] at H
                        obtain ⟨rfl, rfl⟩ := H
                        have p11 : 0 ≤ (x8_2 : Int) := of_decide_eq_true (by first | (with_reducible assumption) | assumption)
                        have q11 : x8_2 < (a0.size : Int) := of_decide_eq_true (by first | (with_reducible assumption) | assumption)
                        have hx11 := bt_at a0 x8_2
                        replace p11 := eq_true p11
                        replace q11 := eq_true q11
                        go_wp2
                        repeat (go_quiet (fail); try go_wp2)
                        go_ret2
                        exact ⟨_, by first | rfl | (simp [errW_none, errW_some] <;> rfl) | (simp [*, errW_none, errW_some] <;> rfl), by (with_reducible repeat (first | apply Kd.R_alloc | apply Kd.R_drewN | apply Kd.R_drew)); exact HO_4.out, by repeat (first | (with_reducible first | exact HB.out | apply below_alloc | apply pw_below_drewN | apply below_drew1) | exact HB.out)⟩
                    · rw [if_neg c10] at H
                      exact absurd H (by simp)
                  · rw [if_neg c9] at H
                    exact absurd H (by simp)
              · rw [if_neg c7] at H
                have c7b0 : decide (x27_2 < (wrap64 (64 - (Int.tmod x8_1 64)))) = false := decide_eq_false c7
                clear c7
                have H' := Aside0.mk H
                clear H
                go_wp2
                repeat (go_quiet (fail); try go_wp2)
                go_roundg k2
                case measure => have := HK1.out; have := HK2.out; omega
                case rel => exact ⟨(x4_1), (x5_1), (x6_1), (x7_1), (x8_2), (by first | rfl | (simp; done) | (simp [*]; done)), (by first | rfl | (simp; done) | (simp [*]; done)), (by first | rfl | (simp; done) | (simp [*]; done)), (by first | rfl | (simp; done) | (simp [*]; done)), H', ⟨by have := HK1.out; have := HK2.out; omega⟩, ⟨by (with_reducible repeat (first | apply Kd.R_alloc | apply Kd.R_drewN | apply Kd.R_drew)); exact HO_4.out⟩, ⟨by repeat (first | (with_reducible first | exact HB.out | apply below_alloc | apply pw_below_drewN | apply below_drew1) | exact HB.out)⟩⟩
        · rw [if_neg c5] at H
          have c5b0 : decide ((wrap64 (64 - (Int.tmod x8_1 64))) ≤ 6) = false := decide_eq_false c5
          clear c5
          by_cases c13 : (wrap64 (x8_1 + 6)) > (a0.size : Int)
          · rw [if_pos c13] at H
            have c13b0 : decide ((a0.size : Int) < (wrap64 (x8_1 + 6))) = true := decide_eq_true c13
            clear c13
            simp only [Option.some.injEq, Prod.mk.injEq] at H
            obtain ⟨rfl, rfl⟩ := H
            obtain ⟨Ao14, co14, eo14⟩ := Kd.R_slice HO_4.out
            subst eo14
            go_wp2
            repeat (go_quiet (fail); try go_wp2)
            go_ret2
            exact ⟨_, by first | rfl | (simp [errW_none, errW_some] <;> rfl) | (simp [*, errW_none, errW_some] <;> rfl), by (with_reducible repeat (first | apply Kd.R_alloc | apply Kd.R_drewN | apply Kd.R_drew)); exact HO_4.out, by repeat (first | (with_reducible first | exact HB.out | apply below_alloc | apply pw_below_drewN | apply below_drew1) | exact HB.out)⟩
          · rw [if_neg c13] at H
            have c13b0 : decide ((a0.size : Int) < (wrap64 (x8_1 + 6))) = false := decide_eq_false c13
            clear c13
            by_cases c15 : 0 ≤ x8_1
            · rw [if_pos c15] at H
              have c15b0 := eq_true c15
              have c15b1 : decide (0 ≤ x8_1) = true := decide_eq_true c15
              clear c15
              by_cases c16 : x8_1 ≤ (a0.size : Int)
              · rw [if_pos c16] at H
                have c16b0 := eq_true c16
                have c16b1 : decide (x8_1 ≤ (a0.size : Int)) = true := decide_eq_true c16
                clear c16
                replace H := Option.bind_eq_some_iff.mp H
                obtain ⟨⟨t189, t190, t191⟩, A170, H⟩ := H
                replace H : (if 0 ≤ (wrap64 (x8_1 + 4)) then (if (wrap64 (x8_1 + 4)) < (a0.size : Int) then (if 0 ≤ (wrap64 (x8_1 + 5)) then (if (wrap64 (x8_1 + 5)) < (a0.size : Int) then (if (wrap64 (6 + (wrap64 (bt a0 (wrap64 (x8_1 + 4)))))) > (wrap64 (64 - (Int.tmod x8_1 64))) then (impl_ReadLog.j2 k1 a0 x4_1 x5_1 x6_1 x7_1 x8_1 (wrap64 (64 - (Int.tmod x8_1 64))) (wrap64 (bt a0 (wrap64 (x8_1 + 4)))) (bt a0 (wrap64 (x8_1 + 5))) true) else (if (wrap64 ((wrap64 (x8_1 + 6)) + (wrap64 (bt a0 (wrap64 (x8_1 + 4)))))) > (a0.size : Int) then (impl_ReadLog.j2 k1 a0 x4_1 x5_1 x6_1 x7_1 x8_1 (wrap64 (64 - (Int.tmod x8_1 64))) (wrap64 (bt a0 (wrap64 (x8_1 + 4)))) (bt a0 (wrap64 (x8_1 + 5))) true) else (if (wrap64 (x8_1 + 4)) ≤ (wrap64 ((wrap64 (x8_1 + 6)) + (wrap64 (bt a0 (wrap64 (x8_1 + 4)))))) then (if (wrap64 ((wrap64 (x8_1 + 6)) + (wrap64 (bt a0 (wrap64 (x8_1 + 4)))))) ≤ (a0.size : Int) then ((impl_Crc.f k1 (a0.extract ((wrap64 (x8_1 + 4)) : Int).toNat ((wrap64 ((wrap64 (x8_1 + 6)) + (wrap64 (bt a0 (wrap64 (x8_1 + 4)))))) : Int).toNat)).bind fun t192 => (if t192 = t189 then (if (bt a0 (wrap64 (x8_1 + 5))) < 1 then (impl_ReadLog.j2 k1 a0 x4_1 x5_1 x6_1 x7_1 x8_1 (wrap64 (64 - (Int.tmod x8_1 64))) (wrap64 (bt a0 (wrap64 (x8_1 + 4)))) (bt a0 (wrap64 (x8_1 + 5))) true) else (impl_ReadLog.j2 k1 a0 x4_1 x5_1 x6_1 x7_1 x8_1 (wrap64 (64 - (Int.tmod x8_1 64))) (wrap64 (bt a0 (wrap64 (x8_1 + 4)))) (bt a0 (wrap64 (x8_1 + 5))) (decide ((bt a0 (wrap64 (x8_1 + 5))) > 4)))) else (impl_ReadLog.j2 k1 a0 x4_1 x5_1 x6_1 x7_1 x8_1 (wrap64 (64 - (Int.tmod x8_1 64))) (wrap64 (bt a0 (wrap64 (x8_1 + 4)))) (bt a0 (wrap64 (x8_1 + 5))) true))) else (none)) else (none)))) else (none)) else (none)) else (none)) else (none)) = some (r1, r2) := H
                have A17 := Aside0.mk A170
                clear A170
                obtain ⟨ji18, hji18⟩ : ∃ j_ : Int, (wrap64 (x8_1 + 4)) = j_ := ⟨_, rfl⟩
                replace H : (if 0 ≤ (ji18) then (if (ji18) < (a0.size : Int) then (if 0 ≤ (wrap64 (x8_1 + 5)) then (if (wrap64 (x8_1 + 5)) < (a0.size : Int) then (if (wrap64 (6 + (wrap64 (bt a0 (ji18))))) > (wrap64 (64 - (Int.tmod x8_1 64))) then (impl_ReadLog.j2 k1 a0 x4_1 x5_1 x6_1 x7_1 x8_1 (wrap64 (64 - (Int.tmod x8_1 64))) (wrap64 (bt a0 (ji18))) (bt a0 (wrap64 (x8_1 + 5))) true) else (if (wrap64 ((wrap64 (x8_1 + 6)) + (wrap64 (bt a0 (ji18))))) > (a0.size : Int) then (impl_ReadLog.j2 k1 a0 x4_1 x5_1 x6_1 x7_1 x8_1 (wrap64 (64 - (Int.tmod x8_1 64))) (wrap64 (bt a0 (ji18))) (bt a0 (wrap64 (x8_1 + 5))) true) else (if (ji18) ≤ (wrap64 ((wrap64 (x8_1 + 6)) + (wrap64 (bt a0 (ji18))))) then (if (wrap64 ((wrap64 (x8_1 + 6)) + (wrap64 (bt a0 (ji18))))) ≤ (a0.size : Int) then ((impl_Crc.f k1 (a0.extract ((ji18) : Int).toNat ((wrap64 ((wrap64 (x8_1 + 6)) + (wrap64 (bt a0 (ji18))))) : Int).toNat)).bind fun t192 => (if t192 = t189 then (if (bt a0 (wrap64 (x8_1 + 5))) < 1 then (impl_ReadLog.j2 k1 a0 x4_1 x5_1 x6_1 x7_1 x8_1 (wrap64 (64 - (Int.tmod x8_1 64))) (wrap64 (bt a0 (ji18))) (bt a0 (wrap64 (x8_1 + 5))) true) else (impl_ReadLog.j2 k1 a0 x4_1 x5_1 x6_1 x7_1 x8_1 (wrap64 (64 - (Int.tmod x8_1 64))) (wrap64 (bt a0 (ji18))) (bt a0 (wrap64 (x8_1 + 5))) (decide ((bt a0 (wrap64 (x8_1 + 5))) > 4)))) else (impl_ReadLog.j2 k1 a0 x4_1 x5_1 x6_1 x7_1 x8_1 (wrap64 (64 - (Int.tmod x8_1 64))) (wrap64 (bt a0 (ji18))) (bt a0 (wrap64 (x8_1 + 5))) true))) else (none)) else (none)))) else (none)) else (none)) else (none)) else (none)) = some (r1, r2) := by first | (rw [hji18] at H; exact H) | (simp only [hji18] at H ⊢; exact H)
                (try rw [hji18] at A17)
                have hji18w : (IntKind.i64.wrap (x8_1 + 4)) = ji18 := (i64_w _).trans hji18
                by_cases c19 : 0 ≤ (ji18)
                · rw [if_pos c19] at H
                  have c19b0 : decide (0 ≤ (ji18)) = true := decide_eq_true c19
                  clear c19
                  by_cases c20 : (ji18) < (a0.size : Int)
                  · rw [if_pos c20] at H
                    have c20b0 : decide ((ji18) < (a0.size : Int)) = true := decide_eq_true c20
                    clear c20
                    obtain ⟨ji22, hji22⟩ : ∃ j_ : Int, (wrap64 (x8_1 + 5)) = j_ := ⟨_, rfl⟩
                    replace H : (if 0 ≤ (ji22) then (if (ji22) < (a0.size : Int) then (if (wrap64 (6 + (wrap64 (bt a0 (ji18))))) > (wrap64 (64 - (Int.tmod x8_1 64))) then (impl_ReadLog.j2 k1 a0 x4_1 x5_1 x6_1 x7_1 x8_1 (wrap64 (64 - (Int.tmod x8_1 64))) (wrap64 (bt a0 (ji18))) (bt a0 (ji22)) true) else (if (wrap64 ((wrap64 (x8_1 + 6)) + (wrap64 (bt a0 (ji18))))) > (a0.size : Int) then (impl_ReadLog.j2 k1 a0 x4_1 x5_1 x6_1 x7_1 x8_1 (wrap64 (64 - (Int.tmod x8_1 64))) (wrap64 (bt a0 (ji18))) (bt a0 (ji22)) true) else (if (ji18) ≤ (wrap64 ((wrap64 (x8_1 + 6)) + (wrap64 (bt a0 (ji18))))) then (if (wrap64 ((wrap64 (x8_1 + 6)) + (wrap64 (bt a0 (ji18))))) ≤ (a0.size : Int) then ((impl_Crc.f k1 (a0.extract ((ji18) : Int).toNat ((wrap64 ((wrap64 (x8_1 + 6)) + (wrap64 (bt a0 (ji18))))) : Int).toNat)).bind fun t192 => (if t192 = t189 then (if (bt a0 (ji22)) < 1 then (impl_ReadLog.j2 k1 a0 x4_1 x5_1 x6_1 x7_1 x8_1 (wrap64 (64 - (Int.tmod x8_1 64))) (wrap64 (bt a0 (ji18))) (bt a0 (ji22)) true) else (impl_ReadLog.j2 k1 a0 x4_1 x5_1 x6_1 x7_1 x8_1 (wrap64 (64 - (Int.tmod x8_1 64))) (wrap64 (bt a0 (ji18))) (bt a0 (ji22)) (decide ((bt a0 (ji22)) > 4)))) else (impl_ReadLog.j2 k1 a0 x4_1 x5_1 x6_1 x7_1 x8_1 (wrap64 (64 - (Int.tmod x8_1 64))) (wrap64 (bt a0 (ji18))) (bt a0 (ji22)) true))) else (none)) else (none)))) else (none)) else (none)) = some (r1, r2) := by first | (rw [hji22] at H; exact H) | (simp only [hji22] at H ⊢; exact H)
                    (try rw [hji22] at A17)
                    have hji22w : (IntKind.i64.wrap (x8_1 + 5)) = ji22 := (i64_w _).trans hji22
                    by_cases c23 : 0 ≤ (ji22)
                    · rw [if_pos c23] at H
                      have c23b0 : decide (0 ≤ (ji22)) = true := decide_eq_true c23
                      clear c23
                      by_cases c24 : (ji22) < (a0.size : Int)
                      · rw [if_pos c24] at H
                        have c24b0 : decide ((ji22) < (a0.size : Int)) = true := decide_eq_true c24
                        clear c24
                        have HC26 := Aside0.mk H
                        clear H
                        obtain ⟨Ao27, co27, eo27⟩ := Kd.R_slice HO_4.out
                        subst eo27
                        go_upto_region 15 with (first | (go_at_call 20; (with_reducible refine (impl_TakeFixed.calls (a0.extract (x8_1 : Int).toNat a0.size) t189 t190 t191 _ A17.out).mono ?_); rintro e w' ⟨rfl, ⟨nd, rfl⟩⟩; (try first | exact ⟨rfl, _, World.drewN_drewN _ _ _⟩ | exact ⟨rfl, _, Eq.trans (World.drewN_drewN _ _ _) (congrArg (World.drewN _) (Nat.add_assoc _ _ _))⟩); have p21 : 0 ≤ ((ji18) : Int) := of_decide_eq_true (by first | (with_reducible assumption) | assumption); have q21 : (ji18) < (a0.size : Int) := of_decide_eq_true (by first | (with_reducible assumption) | assumption); have hx21 := bt_at a0 (ji18); replace p21 := eq_true p21; replace q21 := eq_true q21; have p25 : 0 ≤ ((ji22) : Int) := of_decide_eq_true (by first | (with_reducible assumption) | assumption); have q25 : (ji22) < (a0.size : Int) := of_decide_eq_true (by first | (with_reducible assumption) | assumption); have hx25 := bt_at a0 (ji22); replace p25 := eq_true p25; replace q25 := eq_true q25))
                        repeat (go_quiet (first | (go_at_call 20; (with_reducible refine (impl_TakeFixed.calls (a0.extract (x8_1 : Int).toNat a0.size) t189 t190 t191 _ A17.out).mono ?_); rintro e w' ⟨rfl, ⟨nd, rfl⟩⟩; (try first | exact ⟨rfl, _, World.drewN_drewN _ _ _⟩ | exact ⟨rfl, _, Eq.trans (World.drewN_drewN _ _ _) (congrArg (World.drewN _) (Nat.add_assoc _ _ _))⟩); have p21 : 0 ≤ ((ji18) : Int) := of_decide_eq_true (by first | (with_reducible assumption) | assumption); have q21 : (ji18) < (a0.size : Int) := of_decide_eq_true (by first | (with_reducible assumption) | assumption); have hx21 := bt_at a0 (ji18); replace p21 := eq_true p21; replace q21 := eq_true q21; have p25 : 0 ≤ ((ji22) : Int) := of_decide_eq_true (by first | (with_reducible assumption) | assumption); have q25 : (ji22) < (a0.size : Int) := of_decide_eq_true (by first | (with_reducible assumption) | assumption); have hx25 := bt_at a0 (ji22); replace p25 := eq_true p25; replace q25 := eq_true q25)); go_upto_region 15 with (first | (go_at_call 20; (with_reducible refine (impl_TakeFixed.calls (a0.extract (x8_1 : Int).toNat a0.size) t189 t190 t191 _ A17.out).mono ?_); rintro e w' ⟨rfl, ⟨nd, rfl⟩⟩; (try first | exact ⟨rfl, _, World.drewN_drewN _ _ _⟩ | exact ⟨rfl, _, Eq.trans (World.drewN_drewN _ _ _) (congrArg (World.drewN _) (Nat.add_assoc _ _ _))⟩); have p21 : 0 ≤ ((ji18) : Int) := of_decide_eq_true (by first | (with_reducible assumption) | assumption); have q21 : (ji18) < (a0.size : Int) := of_decide_eq_true (by first | (with_reducible assumption) | assumption); have hx21 := bt_at a0 (ji18); replace p21 := eq_true p21; replace q21 := eq_true q21; have p25 : 0 ≤ ((ji22) : Int) := of_decide_eq_true (by first | (with_reducible assumption) | assumption); have q25 : (ji22) < (a0.size : Int) := of_decide_eq_true (by first | (with_reducible assumption) | assumption); have hx25 := bt_at a0 (ji22); replace p25 := eq_true p25; replace q25 := eq_true q25)))
                        (try simp only [Act.put, List.setIfInBounds_toArray, List.set_cons_zero, List.set_cons_succ])
                        go_cut [99] (fun v99 wc => ∃ (kq : Nat) (x99_25 : Bool), v99 = .bool x99_25 ∧ Aside0 (impl_ReadLog.j2 kq a0 x4_1 x5_1 x6_1 x7_1 x8_1 (wrap64 (64 - (Int.tmod x8_1 64))) (wrap64 (bt a0 (ji18))) (bt a0 (ji22)) x99_25 = some (r1, r2)) ∧ Aside0 (kq ≤ k1) ∧ Aside0 (Kd.R Kd.string 9 wc w.heap.size (fun _ => True) (.slice Ao27 x4_1.length co27) x4_1) ∧ Aside0 (Below w.heap.size w wc))
                        case first =>
                          have H := HC26.out
                          clear HC26
                          by_cases c28 : (wrap64 (6 + (wrap64 (bt a0 (ji18))))) > (wrap64 (64 - (Int.tmod x8_1 64)))
                          · rw [if_pos c28] at H
                            have c28b0 : decide ((wrap64 (64 - (Int.tmod x8_1 64))) < (wrap64 (6 + (wrap64 (bt a0 (ji18)))))) = true := decide_eq_true c28
                            clear c28
                            (first | rw [c28b0] | (simp only [i64_w, i32_w]; rw [c28b0]) | skip)
                            have H' := Aside0.mk H
                            clear H
                            go_wp2
                            repeat (go_quiet (fail); try go_wp2)
                            go_meet
                            case rel => exact ⟨_, (true), (by first | rfl | (simp; done) | (simp [*]; done)), H', ⟨by have := HK1.out; first | omega | exact Nat.le_refl _⟩, ⟨by (with_reducible repeat (first | apply Kd.R_alloc | apply Kd.R_drewN | apply Kd.R_drew)); exact HO_4.out⟩, ⟨by repeat (first | (with_reducible first | exact HB.out | apply below_alloc | apply pw_below_drewN | apply below_drew1) | exact HB.out)⟩⟩
                          · rw [if_neg c28] at H
                            have c28b0 : decide ((wrap64 (64 - (Int.tmod x8_1 64))) < (wrap64 (6 + (wrap64 (bt a0 (ji18)))))) = false := decide_eq_false c28
                            clear c28
                            (first | rw [c28b0] | (simp only [i64_w, i32_w]; rw [c28b0]) | skip)
                            by_cases c29 : (wrap64 ((wrap64 (x8_1 + 6)) + (wrap64 (bt a0 (ji18))))) > (a0.size : Int)
                            · rw [if_pos c29] at H
                              have c29b0 : decide ((a0.size : Int) < (wrap64 ((wrap64 (x8_1 + 6)) + (wrap64 (bt a0 (ji18)))))) = true := decide_eq_true c29
                              clear c29
                              have H' := Aside0.mk H
                              clear H
                              go_wp2
                              repeat (go_quiet (fail); try go_wp2)
                              go_meet
                              case rel => exact ⟨_, (true), (by first | rfl | (simp; done) | (simp [*]; done)), H', ⟨by have := HK1.out; first | omega | exact Nat.le_refl _⟩, ⟨by (with_reducible repeat (first | apply Kd.R_alloc | apply Kd.R_drewN | apply Kd.R_drew)); exact HO_4.out⟩, ⟨by repeat (first | (with_reducible first | exact HB.out | apply below_alloc | apply pw_below_drewN | apply below_drew1) | exact HB.out)⟩⟩
                            · rw [if_neg c29] at H
                              have c29b0 : decide ((a0.size : Int) < (wrap64 ((wrap64 (x8_1 + 6)) + (wrap64 (bt a0 (ji18)))))) = false := decide_eq_false c29
                              clear c29
                              have c30b0 := eq_true (of_decide_eq_true (by first | (with_reducible assumption) | assumption) : 0 ≤ (ji18))
                              by_cases c31 : (ji18) ≤ (wrap64 ((wrap64 (x8_1 + 6)) + (wrap64 (bt a0 (ji18)))))
                              · rw [if_pos c31] at H
                                have c31b0 := eq_true c31
                                have c31b1 : decide ((ji18) ≤ (wrap64 ((wrap64 (x8_1 + 6)) + (wrap64 (bt a0 (ji18)))))) = true := decide_eq_true c31
                                by_cases c32 : (wrap64 ((wrap64 (x8_1 + 6)) + (wrap64 (bt a0 (ji18))))) ≤ (a0.size : Int)
                                · rw [if_pos c32] at H
                                  have c32b0 := eq_true c32
                                  have c32b1 : decide ((wrap64 ((wrap64 (x8_1 + 6)) + (wrap64 (bt a0 (ji18))))) ≤ (a0.size : Int)) = true := decide_eq_true c32
                                  replace H := Option.bind_eq_some_iff.mp H
                                  obtain ⟨t192, A330, H⟩ := H
                                  replace H : (if t192 = t189 then (if (bt a0 (ji22)) < 1 then (impl_ReadLog.j2 k1 a0 x4_1 x5_1 x6_1 x7_1 x8_1 (wrap64 (64 - (Int.tmod x8_1 64))) (wrap64 (bt a0 (ji18))) (bt a0 (ji22)) true) else (impl_ReadLog.j2 k1 a0 x4_1 x5_1 x6_1 x7_1 x8_1 (wrap64 (64 - (Int.tmod x8_1 64))) (wrap64 (bt a0 (ji18))) (bt a0 (ji22)) (decide ((bt a0 (ji22)) > 4)))) else (impl_ReadLog.j2 k1 a0 x4_1 x5_1 x6_1 x7_1 x8_1 (wrap64 (64 - (Int.tmod x8_1 64))) (wrap64 (bt a0 (ji18))) (bt a0 (ji22)) true)) = some (r1, r2) := H
                                  have A33 := Aside0.mk A330
                                  clear A330
                                  by_cases c34 : t192 = t189
                                  · rw [if_pos c34] at H
                                    have c34b0 : (t192 == t189) = true := beq_iff_eq.mpr c34
                                    have c34b1 : (t192 != t189) = false := bne_eq_false_iff_eq.mpr c34
                                    clear c34
                                    by_cases c35 : (bt a0 (ji22)) < 1
                                    · rw [if_pos c35] at H
                                      have c35b0 : decide ((bt a0 (ji22)) < 1) = true := decide_eq_true c35
                                      clear c35
                                      have H' := Aside0.mk H
                                      clear H
                                      go_wp2_with (first | (go_at_call 21; (with_reducible refine (impl_Crc.calls k1 (a0.extract ((ji18) : Int).toNat ((wrap64 ((wrap64 (x8_1 + 6)) + (wrap64 (bt a0 (ji18))))) : Int).toNat) t192 _ A33.out).mono ?_); rintro e w' ⟨rfl, ⟨nd, rfl⟩⟩; (try first | exact ⟨rfl, _, World.drewN_drewN _ _ _⟩ | exact ⟨rfl, _, Eq.trans (World.drewN_drewN _ _ _) (congrArg (World.drewN _) (Nat.add_assoc _ _ _))⟩)))
                                      repeat (go_quiet (first | (go_at_call 21; (with_reducible refine (impl_Crc.calls k1 (a0.extract ((ji18) : Int).toNat ((wrap64 ((wrap64 (x8_1 + 6)) + (wrap64 (bt a0 (ji18))))) : Int).toNat) t192 _ A33.out).mono ?_); rintro e w' ⟨rfl, ⟨nd, rfl⟩⟩; (try first | exact ⟨rfl, _, World.drewN_drewN _ _ _⟩ | exact ⟨rfl, _, Eq.trans (World.drewN_drewN _ _ _) (congrArg (World.drewN _) (Nat.add_assoc _ _ _))⟩))); try go_wp2_with (first | (go_at_call 21; (with_reducible refine (impl_Crc.calls k1 (a0.extract ((ji18) : Int).toNat ((wrap64 ((wrap64 (x8_1 + 6)) + (wrap64 (bt a0 (ji18))))) : Int).toNat) t192 _ A33.out).mono ?_); rintro e w' ⟨rfl, ⟨nd, rfl⟩⟩; (try first | exact ⟨rfl, _, World.drewN_drewN _ _ _⟩ | exact ⟨rfl, _, Eq.trans (World.drewN_drewN _ _ _) (congrArg (World.drewN _) (Nat.add_assoc _ _ _))⟩))))
                                      go_meet
                                      case rel => exact ⟨_, (true), (by first | rfl | (simp; done) | (simp [*]; done)), H', ⟨by have := HK1.out; first | omega | exact Nat.le_refl _⟩, ⟨by (with_reducible repeat (first | apply Kd.R_alloc | apply Kd.R_drewN | apply Kd.R_drew)); exact HO_4.out⟩, ⟨by repeat (first | (with_reducible first | exact HB.out | apply below_alloc | apply pw_below_drewN | apply below_drew1) | exact HB.out)⟩⟩
                                    · rw [if_neg c35] at H
                                      have c35b0 : decide ((bt a0 (ji22)) < 1) = false := decide_eq_false c35
                                      clear c35
                                      have H' := Aside0.mk H
                                      clear H
                                      go_wp2_with (first | (go_at_call 21; (with_reducible refine (impl_Crc.calls k1 (a0.extract ((ji18) : Int).toNat ((wrap64 ((wrap64 (x8_1 + 6)) + (wrap64 (bt a0 (ji18))))) : Int).toNat) t192 _ A33.out).mono ?_); rintro e w' ⟨rfl, ⟨nd, rfl⟩⟩; (try first | exact ⟨rfl, _, World.drewN_drewN _ _ _⟩ | exact ⟨rfl, _, Eq.trans (World.drewN_drewN _ _ _) (congrArg (World.drewN _) (Nat.add_assoc _ _ _))⟩)))
                                      repeat (go_quiet (first | (go_at_call 21; (with_reducible refine (impl_Crc.calls k1 (a0.extract ((ji18) : Int).toNat ((wrap64 ((wrap64 (x8_1 + 6)) + (wrap64 (bt a0 (ji18))))) : Int).toNat) t192 _ A33.out).mono ?_); rintro e w' ⟨rfl, ⟨nd, rfl⟩⟩; (try first | exact ⟨rfl, _, World.drewN_drewN _ _ _⟩ | exact ⟨rfl, _, Eq.trans (World.drewN_drewN _ _ _) (congrArg (World.drewN _) (Nat.add_assoc _ _ _))⟩))); try go_wp2_with (first | (go_at_call 21; (with_reducible refine (impl_Crc.calls k1 (a0.extract ((ji18) : Int).toNat ((wrap64 ((wrap64 (x8_1 + 6)) + (wrap64 (bt a0 (ji18))))) : Int).toNat) t192 _ A33.out).mono ?_); rintro e w' ⟨rfl, ⟨nd, rfl⟩⟩; (try first | exact ⟨rfl, _, World.drewN_drewN _ _ _⟩ | exact ⟨rfl, _, Eq.trans (World.drewN_drewN _ _ _) (congrArg (World.drewN _) (Nat.add_assoc _ _ _))⟩))))
                                      go_meet
                                      case rel => exact ⟨_, (decide ((bt a0 (ji22)) > 4)), (by first | rfl | (simp; done) | (simp [*]; done) | (simp only [← hji22] <;> (first | rfl | (simp; done))) | (simp [*]; done)), H', ⟨by have := HK1.out; first | omega | exact Nat.le_refl _⟩, ⟨by (with_reducible repeat (first | apply Kd.R_alloc | apply Kd.R_drewN | apply Kd.R_drew)); exact HO_4.out⟩, ⟨by repeat (first | (with_reducible first | exact HB.out | apply below_alloc | apply pw_below_drewN | apply below_drew1) | exact HB.out)⟩⟩
                                  · rw [if_neg c34] at H
                                    have c34b0 : (t192 == t189) = false := beq_eq_false_iff_ne.mpr c34
                                    have c34b1 : (t192 != t189) = true := bne_iff_ne.mpr c34
                                    have H' := Aside0.mk H
                                    clear H
                                    go_wp2_with (first | (go_at_call 21; (with_reducible refine (impl_Crc.calls k1 (a0.extract ((ji18) : Int).toNat ((wrap64 ((wrap64 (x8_1 + 6)) + (wrap64 (bt a0 (ji18))))) : Int).toNat) t192 _ A33.out).mono ?_); rintro e w' ⟨rfl, ⟨nd, rfl⟩⟩; (try first | exact ⟨rfl, _, World.drewN_drewN _ _ _⟩ | exact ⟨rfl, _, Eq.trans (World.drewN_drewN _ _ _) (congrArg (World.drewN _) (Nat.add_assoc _ _ _))⟩)))
                                    repeat (go_quiet (first | (go_at_call 21; (with_reducible refine (impl_Crc.calls k1 (a0.extract ((ji18) : Int).toNat ((wrap64 ((wrap64 (x8_1 + 6)) + (wrap64 (bt a0 (ji18))))) : Int).toNat) t192 _ A33.out).mono ?_); rintro e w' ⟨rfl, ⟨nd, rfl⟩⟩; (try first | exact ⟨rfl, _, World.drewN_drewN _ _ _⟩ | exact ⟨rfl, _, Eq.trans (World.drewN_drewN _ _ _) (congrArg (World.drewN _) (Nat.add_assoc _ _ _))⟩))); try go_wp2_with (first | (go_at_call 21; (with_reducible refine (impl_Crc.calls k1 (a0.extract ((ji18) : Int).toNat ((wrap64 ((wrap64 (x8_1 + 6)) + (wrap64 (bt a0 (ji18))))) : Int).toNat) t192 _ A33.out).mono ?_); rintro e w' ⟨rfl, ⟨nd, rfl⟩⟩; (try first | exact ⟨rfl, _, World.drewN_drewN _ _ _⟩ | exact ⟨rfl, _, Eq.trans (World.drewN_drewN _ _ _) (congrArg (World.drewN _) (Nat.add_assoc _ _ _))⟩))))
                                    go_meet
                                    case rel => exact ⟨_, (true), (by first | rfl | (simp; done) | (simp [*]; done)), H', ⟨by have := HK1.out; first | omega | exact Nat.le_refl _⟩, ⟨by (with_reducible repeat (first | apply Kd.R_alloc | apply Kd.R_drewN | apply Kd.R_drew)); exact HO_4.out⟩, ⟨by repeat (first | (with_reducible first | exact HB.out | apply below_alloc | apply pw_below_drewN | apply below_drew1) | exact HB.out)⟩⟩
                                · rw [if_neg c32] at H
                                  exact absurd H (by simp)
                              · rw [if_neg c31] at H
                                exact absurd H (by simp)
                        case rest =>
                          clear HC26
                          try clear c1
                          try clear p1
                          try clear q1
                          try clear hx1
                          try clear c2
                          try clear p2
                          try clear q2
                          try clear hx2
                          try clear c3
                          try clear c4
                          try clear c4b0
                          try clear c4b1
                          try clear c5
                          try clear c5b0
                          try clear p6
                          try clear c7
                          try clear c7b0
                          try clear c8
                          try clear c8b0
                          try clear c9
                          try clear c9b0
                          try clear c10
                          try clear c10b0
                          try clear p11
                          try clear q11
                          try clear hx11
                          try clear c12
                          try clear c12b0
                          try clear c12b1
                          try clear c13
                          try clear c13b0
                          try clear c15
                          try clear c15b0
                          try clear c15b1
                          try clear c16
                          try clear c16b0
                          try clear c16b1
                          try clear c19
                          try clear c19b0
                          try clear c20
                          try clear c20b0
                          try clear p21
                          try clear q21
                          try clear hx21
                          try clear c23
                          try clear c23b0
                          try clear c24
                          try clear c24b0
                          try clear p25
                          try clear q25
                          try clear hx25
                          try clear c28
                          try clear c28b0
                          try clear c29
                          try clear c29b0
                          try clear c30
                          try clear c30b0
                          try clear c31
                          try clear c31b0
                          try clear c31b1
                          try clear c32
                          try clear c32b0
                          try clear c32b1
                          try clear c34
                          try clear c34b0
                          try clear c34b1
                          try clear c35
                          try clear c35b0
                          try clear p11
                          try clear p2
                          try clear p21
                          try clear p25
                          try clear p6
                          try clear q11
                          try clear q21
                          try clear q25
                          obtain ⟨kq, x99_25, rfl, HA, HJ25, HO_4, HB⟩ := hcut
                          cases kq with
                          | zero => exact absurd HA.out (by simp [impl_ReadLog.j2])
                          | succ kj25 =>
                            have H := HA.out
                            clear HA
                            simp only [impl_ReadLog.j2] at H
                            by_cases c36 : x99_25 = true
                            · subst c36
                              have H1 : (some (x4_1, x5_1)) = some (r1, r2) := by rw [if_pos rfl] at H; exact H
                              clear H
                              have H := H1
                              clear H1
                              simp only [Option.some.injEq, Prod.mk.injEq] at H
                              obtain ⟨rfl, rfl⟩ := H
                              go_wp2
                              repeat (go_quiet (fail); try go_wp2)
                              go_ret2
                              exact ⟨_, by first | rfl | (simp [errW_none, errW_some] <;> rfl) | (simp only [← hji18, ← hji22]; first | rfl | (simp [errW_none, errW_some] <;> rfl)) | (simp [*, errW_none, errW_some] <;> rfl), by (with_reducible repeat (first | apply Kd.R_alloc | apply Kd.R_drewN | apply Kd.R_drew)); exact HO_4.out, by repeat (first | (with_reducible first | exact HB.out | apply below_alloc | apply pw_below_drewN | apply below_drew1) | exact HB.out)⟩
                            · replace c36 := Bool.eq_false_iff.mpr c36
                              subst c36
                              have H1 : (if (bt a0 (ji22)) = 1 then (if (bt a0 (ji22)) = 2 then (impl_ReadLog.j3 kj25 a0 x4_1 x5_1 x6_1 x7_1 x8_1 (wrap64 (64 - (Int.tmod x8_1 64))) (wrap64 (bt a0 (ji18))) (bt a0 (ji22)) true true) else (impl_ReadLog.j3 kj25 a0 x4_1 x5_1 x6_1 x7_1 x8_1 (wrap64 (64 - (Int.tmod x8_1 64))) (wrap64 (bt a0 (ji18))) (bt a0 (ji22)) true ((bt a0 (ji22)) == 3))) else (if (bt a0 (ji22)) = 2 then (impl_ReadLog.j3 kj25 a0 x4_1 x5_1 x6_1 x7_1 x8_1 (wrap64 (64 - (Int.tmod x8_1 64))) (wrap64 (bt a0 (ji18))) (bt a0 (ji22)) ((bt a0 (ji22)) == 2) true) else (impl_ReadLog.j3 kj25 a0 x4_1 x5_1 x6_1 x7_1 x8_1 (wrap64 (64 - (Int.tmod x8_1 64))) (wrap64 (bt a0 (ji18))) (bt a0 (ji22)) ((bt a0 (ji22)) == 2) ((bt a0 (ji22)) == 3)))) = some (r1, r2) := by rw [if_neg (show ¬ (false = true) by decide)] at H; exact H
                              clear H
                              have H := H1
                              clear H1
                              have HC37 := Aside0.mk H
                              clear H
                              go_upto_region 16 with (fail)
                              repeat (go_quiet (fail); go_upto_region 16 with (fail))
                              go_cut [15, 16] (fun v15 v16 wc => ∃ (kq : Nat) (x15_36 : Bool) (x16_36 : Bool), v15 = .bool x15_36 ∧ v16 = .bool x16_36 ∧ Aside0 (impl_ReadLog.j3 kq a0 x4_1 x5_1 x6_1 x7_1 x8_1 (wrap64 (64 - (Int.tmod x8_1 64))) (wrap64 (bt a0 (ji18))) (bt a0 (ji22)) x15_36 x16_36 = some (r1, r2)) ∧ Aside0 (kq ≤ kj25) ∧ Aside0 (Kd.R Kd.string 9 wc w.heap.size (fun _ => True) (.slice Ao27 x4_1.length co27) x4_1) ∧ Aside0 (Below w.heap.size w wc))
                              case first =>
                                have H := HC37.out
                                clear HC37
                                by_cases c38 : (bt a0 (ji22)) = 1
                                · rw [if_pos c38] at H
                                  have c38b0 : ((bt a0 (ji22)) == 1) = true := beq_iff_eq.mpr c38
                                  have c38b1 : ((bt a0 (ji22)) != 1) = false := bne_eq_false_iff_eq.mpr c38
                                  clear c38
                                  (first | rw [c38b0] | (simp only [i64_w, i32_w]; rw [c38b0]) | skip)
                                  by_cases c39 : (bt a0 (ji22)) = 2
                                  · rw [if_pos c39] at H
                                    have c39b0 : ((bt a0 (ji22)) == 2) = true := beq_iff_eq.mpr c39
                                    have c39b1 : ((bt a0 (ji22)) != 2) = false := bne_eq_false_iff_eq.mpr c39
                                    clear c39
                                    have H' := Aside0.mk H
                                    clear H
                                    go_wp2
                                    repeat (go_quiet (fail); try go_wp2)
                                    go_meet
                                    case rel => exact ⟨_, (true), (true), (by first | rfl | (simp; done) | (simp [*]; done)), (by first | rfl | (simp; done) | (simp [*]; done)), H', ⟨by have := HK1.out; have := HJ25.out; first | omega | exact Nat.le_refl _⟩, ⟨by (with_reducible repeat (first | apply Kd.R_alloc | apply Kd.R_drewN | apply Kd.R_drew)); exact HO_4.out⟩, ⟨by repeat (first | (with_reducible first | exact HB.out | apply below_alloc | apply pw_below_drewN | apply below_drew1) | exact HB.out)⟩⟩
                                  · rw [if_neg c39] at H
                                    have c39b0 : ((bt a0 (ji22)) == 2) = false := beq_eq_false_iff_ne.mpr c39
                                    have c39b1 : ((bt a0 (ji22)) != 2) = true := bne_iff_ne.mpr c39
                                    have H' := Aside0.mk H
                                    clear H
                                    go_wp2
                                    repeat (go_quiet (fail); try go_wp2)
                                    go_meet
                                    case rel => exact ⟨_, (true), (((bt a0 (ji22)) == 3)), (by first | rfl | (simp; done) | (simp [*]; done)), (by first | rfl | (simp; done) | (simp [*]; done) | (simp only [← hji22] <;> (first | rfl | (simp; done))) | (simp [*]; done)), H', ⟨by have := HK1.out; have := HJ25.out; first | omega | exact Nat.le_refl _⟩, ⟨by (with_reducible repeat (first | apply Kd.R_alloc | apply Kd.R_drewN | apply Kd.R_drew)); exact HO_4.out⟩, ⟨by repeat (first | (with_reducible first | exact HB.out | apply below_alloc | apply pw_below_drewN | apply below_drew1) | exact HB.out)⟩⟩
                                · rw [if_neg c38] at H
                                  have c38b0 : ((bt a0 (ji22)) == 1) = false := beq_eq_false_iff_ne.mpr c38
                                  have c38b1 : ((bt a0 (ji22)) != 1) = true := bne_iff_ne.mpr c38
                                  (first | rw [c38b0] | (simp only [i64_w, i32_w]; rw [c38b0]) | skip)
                                  by_cases c40 : (bt a0 (ji22)) = 2
                                  · rw [if_pos c40] at H
                                    have c40b0 : ((bt a0 (ji22)) == 2) = true := beq_iff_eq.mpr c40
                                    have c40b1 : ((bt a0 (ji22)) != 2) = false := bne_eq_false_iff_eq.mpr c40
                                    clear c40
                                    have H' := Aside0.mk H
                                    clear H
                                    go_wp2
                                    repeat (go_quiet (fail); try go_wp2)
                                    go_meet
                                    case rel => exact ⟨_, (((bt a0 (ji22)) == 2)), (true), (by first | rfl | (simp; done) | (simp [*]; done) | (simp only [← hji22] <;> (first | rfl | (simp; done))) | (simp [*]; done)), (by first | rfl | (simp; done) | (simp [*]; done)), H', ⟨by have := HK1.out; have := HJ25.out; first | omega | exact Nat.le_refl _⟩, ⟨by (with_reducible repeat (first | apply Kd.R_alloc | apply Kd.R_drewN | apply Kd.R_drew)); exact HO_4.out⟩, ⟨by repeat (first | (with_reducible first | exact HB.out | apply below_alloc | apply pw_below_drewN | apply below_drew1) | exact HB.out)⟩⟩
                                  · rw [if_neg c40] at H
                                    have c40b0 : ((bt a0 (ji22)) == 2) = false := beq_eq_false_iff_ne.mpr c40
                                    have c40b1 : ((bt a0 (ji22)) != 2) = true := bne_iff_ne.mpr c40
                                    have H' := Aside0.mk H
                                    clear H
                                    go_wp2
                                    repeat (go_quiet (fail); try go_wp2)
                                    go_meet
                                    case rel => exact ⟨_, (((bt a0 (ji22)) == 2)), (((bt a0 (ji22)) == 3)), (by first | rfl | (simp; done) | (simp [*]; done) | (simp only [← hji22] <;> (first | rfl | (simp; done))) | (simp [*]; done)), (by first | rfl | (simp; done) | (simp [*]; done) | (simp only [← hji22] <;> (first | rfl | (simp; done))) | (simp [*]; done)), H', ⟨by have := HK1.out; have := HJ25.out; first | omega | exact Nat.le_refl _⟩, ⟨by (with_reducible repeat (first | apply Kd.R_alloc | apply Kd.R_drewN | apply Kd.R_drew)); exact HO_4.out⟩, ⟨by repeat (first | (with_reducible first | exact HB.out | apply below_alloc | apply pw_below_drewN | apply below_drew1) | exact HB.out)⟩⟩
                              case rest =>
                                clear HC37
                                try clear c1
                                try clear p1
                                try clear q1
                                try clear hx1
                                try clear c2
                                try clear p2
                                try clear q2
                                try clear hx2
                                try clear c3
                                try clear c4
                                try clear c4b0
                                try clear c4b1
                                try clear c5
                                try clear c5b0
                                try clear p6
                                try clear c7
                                try clear c7b0
                                try clear c8
                                try clear c8b0
                                try clear c9
                                try clear c9b0
                                try clear c10
                                try clear c10b0
                                try clear p11
                                try clear q11
                                try clear hx11
                                try clear c12
                                try clear c12b0
                                try clear c12b1
                                try clear c13
                                try clear c13b0
                                try clear c15
                                try clear c15b0
                                try clear c15b1
                                try clear c16
                                try clear c16b0
                                try clear c16b1
                                try clear c19
                                try clear c19b0
                                try clear c20
                                try clear c20b0
                                try clear p21
                                try clear q21
                                try clear hx21
                                try clear c23
                                try clear c23b0
                                try clear c24
                                try clear c24b0
                                try clear p25
                                try clear q25
                                try clear hx25
                                try clear c28
                                try clear c28b0
                                try clear c29
                                try clear c29b0
                                try clear c30
                                try clear c30b0
                                try clear c31
                                try clear c31b0
                                try clear c31b1
                                try clear c32
                                try clear c32b0
                                try clear c32b1
                                try clear c34
                                try clear c34b0
                                try clear c34b1
                                try clear c35
                                try clear c35b0
                                try clear c36
                                try clear c38
                                try clear c38b0
                                try clear c38b1
                                try clear c39
                                try clear c39b0
                                try clear c39b1
                                try clear c40
                                try clear c40b0
                                try clear c40b1
                                try clear p1
                                try clear p11
                                try clear p2
                                try clear p21
                                try clear p25
                                try clear p6
                                try clear q1
                                try clear q11
                                try clear q2
                                try clear q21
                                try clear q25
                                obtain ⟨kq, x15_36, x16_36, rfl, rfl, HA, HJ36, HO_4, HB⟩ := hcut
                                cases kq with
                                | zero => exact absurd HA.out (by simp [impl_ReadLog.j3])
                                | succ kj36 =>
                                  have H := HA.out
                                  clear HA
                                  simp only [impl_ReadLog.j3] at H
                                  have HC41 := Aside0.mk H
                                  clear H
                                  go_upto_region 17 with (fail)
                                  repeat (go_quiet (fail); go_upto_region 17 with (fail))
                                  go_cut [138] (fun v138 wc => ∃ (kq : Nat) (x138_40 : Bool), v138 = .bool x138_40 ∧ Aside0 (impl_ReadLog.j4 kq a0 x4_1 x5_1 x6_1 x8_1 (wrap64 (bt a0 (ji18))) x16_36 x138_40 = some (r1, r2)) ∧ Aside0 (kq ≤ kj36) ∧ Aside0 (Kd.R Kd.string 9 wc w.heap.size (fun _ => True) (.slice Ao27 x4_1.length co27) x4_1) ∧ Aside0 (Below w.heap.size w wc))
                                  case first =>
                                    have H := HC41.out
                                    clear HC41
                                    by_cases c42 : (x15_36 == x7_1) = true
                                    · rw [if_pos c42] at H
                                      have c42b0 : (x15_36 == x7_1) = true := c42
                                      (try (have c42b1 : decide (x15_36 = x7_1) = true := by simpa using c42))
                                      (try (have c42b2 : (x15_36 == x7_1) = true := by simpa using c42))
                                      clear c42
                                      (first | rw [c42b0] | (simp only [i64_w, i32_w]; rw [c42b0]) | skip)
                                      have H' := Aside0.mk H
                                      clear H
                                      go_wp2
                                      repeat (go_quiet (fail); try go_wp2)
                                      go_meet
                                      case rel => exact ⟨_, (true), (by first | rfl | (simp; done) | (simp [*]; done)), H', ⟨by have := HK1.out; have := HJ25.out; have := HJ36.out; first | omega | exact Nat.le_refl _⟩, ⟨by (with_reducible repeat (first | apply Kd.R_alloc | apply Kd.R_drewN | apply Kd.R_drew)); exact HO_4.out⟩, ⟨by repeat (first | (with_reducible first | exact HB.out | apply below_alloc | apply pw_below_drewN | apply below_drew1) | exact HB.out)⟩⟩
                                    · rw [if_neg c42] at H
                                      have c42b0 : (x15_36 == x7_1) = false := by simpa using c42
                                      (try (have c42b1 : decide (x15_36 = x7_1) = false := by simpa using c42))
                                      (try (have c42b2 : (x15_36 == x7_1) = false := by simpa using c42))
                                      (try (have c42b3 : ¬ (x15_36 = x7_1) := by simpa using c42))
                                      clear c42
                                      (first | rw [c42b0] | (simp only [i64_w, i32_w]; rw [c42b0]) | skip)
                                      by_cases c43 : x16_36 = true
                                      · subst c43
                                        have H1 : (if (wrap64 (6 + (wrap64 (bt a0 (ji18))))) = (wrap64 (64 - (Int.tmod x8_1 64))) then (if (bt a0 (ji22)) = 4 then (if (wrap64 (bt a0 (ji18))) = 0 then (impl_ReadLog.j4 kj36 a0 x4_1 x5_1 x6_1 x8_1 (wrap64 (bt a0 (ji18))) true true) else (impl_ReadLog.j4 kj36 a0 x4_1 x5_1 x6_1 x8_1 (wrap64 (bt a0 (ji18))) true (decide ((wrap64 ((x6_1.size : Int) + (wrap64 (bt a0 (ji18))))) > 8000)))) else (impl_ReadLog.j4 kj36 a0 x4_1 x5_1 x6_1 x8_1 (wrap64 (bt a0 (ji18))) true (decide ((wrap64 ((x6_1.size : Int) + (wrap64 (bt a0 (ji18))))) > 8000)))) else (impl_ReadLog.j4 kj36 a0 x4_1 x5_1 x6_1 x8_1 (wrap64 (bt a0 (ji18))) true true)) = some (r1, r2) := by rw [if_pos rfl] at H; exact H
                                        clear H
                                        have H := H1
                                        clear H1
                                        by_cases c44 : (wrap64 (6 + (wrap64 (bt a0 (ji18))))) = (wrap64 (64 - (Int.tmod x8_1 64)))
                                        · rw [if_pos c44] at H
                                          have c44b0 : ((wrap64 (6 + (wrap64 (bt a0 (ji18))))) == (wrap64 (64 - (Int.tmod x8_1 64)))) = true := beq_iff_eq.mpr c44
                                          have c44b1 : ((wrap64 (6 + (wrap64 (bt a0 (ji18))))) != (wrap64 (64 - (Int.tmod x8_1 64)))) = false := bne_eq_false_iff_eq.mpr c44
                                          clear c44
                                          by_cases c45 : (bt a0 (ji22)) = 4
                                          · rw [if_pos c45] at H
                                            have c45b0 : ((bt a0 (ji22)) == 4) = true := beq_iff_eq.mpr c45
                                            have c45b1 : ((bt a0 (ji22)) != 4) = false := bne_eq_false_iff_eq.mpr c45
                                            clear c45
                                            by_cases c46 : (wrap64 (bt a0 (ji18))) = 0
                                            · rw [if_pos c46] at H
                                              have c46b0 : ((wrap64 (bt a0 (ji18))) == 0) = true := beq_iff_eq.mpr c46
                                              have c46b1 : ((wrap64 (bt a0 (ji18))) != 0) = false := bne_eq_false_iff_eq.mpr c46
                                              clear c46
                                              have H' := Aside0.mk H
                                              clear H
                                              go_wp2
                                              repeat (go_quiet (fail); try go_wp2)
                                              go_meet
                                              case rel => exact ⟨_, (true), (by first | rfl | (simp; done) | (simp [*]; done)), H', ⟨by have := HK1.out; have := HJ25.out; have := HJ36.out; first | omega | exact Nat.le_refl _⟩, ⟨by (with_reducible repeat (first | apply Kd.R_alloc | apply Kd.R_drewN | apply Kd.R_drew)); exact HO_4.out⟩, ⟨by repeat (first | (with_reducible first | exact HB.out | apply below_alloc | apply pw_below_drewN | apply below_drew1) | exact HB.out)⟩⟩
                                            · rw [if_neg c46] at H
                                              have c46b0 : ((wrap64 (bt a0 (ji18))) == 0) = false := beq_eq_false_iff_ne.mpr c46
                                              have c46b1 : ((wrap64 (bt a0 (ji18))) != 0) = true := bne_iff_ne.mpr c46
                                              have H' := Aside0.mk H
                                              clear H
                                              go_wp2
                                              repeat (go_quiet (fail); try go_wp2)
                                              go_meet
                                              case rel => exact ⟨_, (decide ((wrap64 ((x6_1.size : Int) + (wrap64 (bt a0 (ji18))))) > 8000)), (by first | rfl | (simp; done) | (simp [*]; done) | (simp only [← hji18] <;> (first | rfl | (simp; done))) | (simp [*]; done)), H', ⟨by have := HK1.out; have := HJ25.out; have := HJ36.out; first | omega | exact Nat.le_refl _⟩, ⟨by (with_reducible repeat (first | apply Kd.R_alloc | apply Kd.R_drewN | apply Kd.R_drew)); exact HO_4.out⟩, ⟨by repeat (first | (with_reducible first | exact HB.out | apply below_alloc | apply pw_below_drewN | apply below_drew1) | exact HB.out)⟩⟩
                                          · rw [if_neg c45] at H
                                            have c45b0 : ((bt a0 (ji22)) == 4) = false := beq_eq_false_iff_ne.mpr c45
                                            have c45b1 : ((bt a0 (ji22)) != 4) = true := bne_iff_ne.mpr c45
                                            have H' := Aside0.mk H
                                            clear H
                                            go_wp2
                                            repeat (go_quiet (fail); try go_wp2)
                                            go_meet
                                            case rel => exact ⟨_, (decide ((wrap64 ((x6_1.size : Int) + (wrap64 (bt a0 (ji18))))) > 8000)), (by first | rfl | (simp; done) | (simp [*]; done) | (simp only [← hji18] <;> (first | rfl | (simp; done))) | (simp [*]; done)), H', ⟨by have := HK1.out; have := HJ25.out; have := HJ36.out; first | omega | exact Nat.le_refl _⟩, ⟨by (with_reducible repeat (first | apply Kd.R_alloc | apply Kd.R_drewN | apply Kd.R_drew)); exact HO_4.out⟩, ⟨by repeat (first | (with_reducible first | exact HB.out | apply below_alloc | apply pw_below_drewN | apply below_drew1) | exact HB.out)⟩⟩
                                        · rw [if_neg c44] at H
                                          have c44b0 : ((wrap64 (6 + (wrap64 (bt a0 (ji18))))) == (wrap64 (64 - (Int.tmod x8_1 64)))) = false := beq_eq_false_iff_ne.mpr c44
                                          have c44b1 : ((wrap64 (6 + (wrap64 (bt a0 (ji18))))) != (wrap64 (64 - (Int.tmod x8_1 64)))) = true := bne_iff_ne.mpr c44
                                          have H' := Aside0.mk H
                                          clear H
                                          go_wp2
                                          repeat (go_quiet (fail); try go_wp2)
                                          go_meet
                                          case rel => exact ⟨_, (true), (by first | rfl | (simp; done) | (simp [*]; done)), H', ⟨by have := HK1.out; have := HJ25.out; have := HJ36.out; first | omega | exact Nat.le_refl _⟩, ⟨by (with_reducible repeat (first | apply Kd.R_alloc | apply Kd.R_drewN | apply Kd.R_drew)); exact HO_4.out⟩, ⟨by repeat (first | (with_reducible first | exact HB.out | apply below_alloc | apply pw_below_drewN | apply below_drew1) | exact HB.out)⟩⟩
                                      · replace c43 := Bool.eq_false_iff.mpr c43
                                        subst c43
                                        have H1 : (if (bt a0 (ji22)) = 4 then (if (wrap64 (bt a0 (ji18))) = 0 then (impl_ReadLog.j4 kj36 a0 x4_1 x5_1 x6_1 x8_1 (wrap64 (bt a0 (ji18))) false true) else (impl_ReadLog.j4 kj36 a0 x4_1 x5_1 x6_1 x8_1 (wrap64 (bt a0 (ji18))) false (decide ((wrap64 ((x6_1.size : Int) + (wrap64 (bt a0 (ji18))))) > 8000)))) else (impl_ReadLog.j4 kj36 a0 x4_1 x5_1 x6_1 x8_1 (wrap64 (bt a0 (ji18))) false (decide ((wrap64 ((x6_1.size : Int) + (wrap64 (bt a0 (ji18))))) > 8000)))) = some (r1, r2) := by rw [if_neg (show ¬ (false = true) by decide)] at H; exact H
                                        clear H
                                        have H := H1
                                        clear H1
                                        by_cases c47 : (bt a0 (ji22)) = 4
                                        · rw [if_pos c47] at H
                                          have c47b0 : ((bt a0 (ji22)) == 4) = true := beq_iff_eq.mpr c47
                                          have c47b1 : ((bt a0 (ji22)) != 4) = false := bne_eq_false_iff_eq.mpr c47
                                          clear c47
                                          by_cases c48 : (wrap64 (bt a0 (ji18))) = 0
                                          · rw [if_pos c48] at H
                                            have c48b0 : ((wrap64 (bt a0 (ji18))) == 0) = true := beq_iff_eq.mpr c48
                                            have c48b1 : ((wrap64 (bt a0 (ji18))) != 0) = false := bne_eq_false_iff_eq.mpr c48
                                            clear c48
                                            have H' := Aside0.mk H
                                            clear H
                                            go_wp2
                                            repeat (go_quiet (fail); try go_wp2)
                                            go_meet
                                            case rel => exact ⟨_, (true), (by first | rfl | (simp; done) | (simp [*]; done)), H', ⟨by have := HK1.out; have := HJ25.out; have := HJ36.out; first | omega | exact Nat.le_refl _⟩, ⟨by (with_reducible repeat (first | apply Kd.R_alloc | apply Kd.R_drewN | apply Kd.R_drew)); exact HO_4.out⟩, ⟨by repeat (first | (with_reducible first | exact HB.out | apply below_alloc | apply pw_below_drewN | apply below_drew1) | exact HB.out)⟩⟩
                                          · rw [if_neg c48] at H
                                            have c48b0 : ((wrap64 (bt a0 (ji18))) == 0) = false := beq_eq_false_iff_ne.mpr c48
                                            have c48b1 : ((wrap64 (bt a0 (ji18))) != 0) = true := bne_iff_ne.mpr c48
                                            have H' := Aside0.mk H
                                            clear H
                                            go_wp2
                                            repeat (go_quiet (fail); try go_wp2)
                                            go_meet
                                            case rel => exact ⟨_, (decide ((wrap64 ((x6_1.size : Int) + (wrap64 (bt a0 (ji18))))) > 8000)), (by first | rfl | (simp; done) | (simp [*]; done) | (simp only [← hji18] <;> (first | rfl | (simp; done))) | (simp [*]; done)), H', ⟨by have := HK1.out; have := HJ25.out; have := HJ36.out; first | omega | exact Nat.le_refl _⟩, ⟨by (with_reducible repeat (first | apply Kd.R_alloc | apply Kd.R_drewN | apply Kd.R_drew)); exact HO_4.out⟩, ⟨by repeat (first | (with_reducible first | exact HB.out | apply below_alloc | apply pw_below_drewN | apply below_drew1) | exact HB.out)⟩⟩
                                        · rw [if_neg c47] at H
                                          have c47b0 : ((bt a0 (ji22)) == 4) = false := beq_eq_false_iff_ne.mpr c47
                                          have c47b1 : ((bt a0 (ji22)) != 4) = true := bne_iff_ne.mpr c47
                                          have H' := Aside0.mk H
                                          clear H
                                          go_wp2
                                          repeat (go_quiet (fail); try go_wp2)
                                          go_meet
                                          case rel => exact ⟨_, (decide ((wrap64 ((x6_1.size : Int) + (wrap64 (bt a0 (ji18))))) > 8000)), (by first | rfl | (simp; done) | (simp [*]; done) | (simp only [← hji18] <;> (first | rfl | (simp; done))) | (simp [*]; done)), H', ⟨by have := HK1.out; have := HJ25.out; have := HJ36.out; first | omega | exact Nat.le_refl _⟩, ⟨by (with_reducible repeat (first | apply Kd.R_alloc | apply Kd.R_drewN | apply Kd.R_drew)); exact HO_4.out⟩, ⟨by repeat (first | (with_reducible first | exact HB.out | apply below_alloc | apply pw_below_drewN | apply below_drew1) | exact HB.out)⟩⟩
                                  case rest =>
                                    clear HC41
                                    try clear c1
                                    try clear p1
                                    try clear q1
                                    try clear hx1
                                    try clear c2
                                    try clear p2
                                    try clear q2
                                    try clear hx2
                                    try clear c3
                                    try clear c4
                                    try clear c4b0
                                    try clear c4b1
                                    try clear c5
                                    try clear c5b0
                                    try clear p6
                                    try clear c7
                                    try clear c7b0
                                    try clear c8
                                    try clear c8b0
                                    try clear c9
                                    try clear c9b0
                                    try clear c10
                                    try clear c10b0
                                    try clear p11
                                    try clear q11
                                    try clear hx11
                                    try clear c12
                                    try clear c12b0
                                    try clear c12b1
                                    try clear c13
                                    try clear c13b0
                                    try clear c15
                                    try clear c15b0
                                    try clear c15b1
                                    try clear c16
                                    try clear c16b0
                                    try clear c16b1
                                    try clear c19
                                    try clear c19b0
                                    try clear c20
                                    try clear c20b0
                                    try clear p21
                                    try clear q21
                                    try clear hx21
                                    try clear c23
                                    try clear c23b0
                                    try clear c24
                                    try clear c24b0
                                    try clear p25
                                    try clear q25
                                    try clear hx25
                                    try clear c28
                                    try clear c28b0
                                    try clear c29
                                    try clear c29b0
                                    try clear c30
                                    try clear c30b0
                                    try clear c31
                                    try clear c31b0
                                    try clear c31b1
                                    try clear c32
                                    try clear c32b0
                                    try clear c32b1
                                    try clear c34
                                    try clear c34b0
                                    try clear c34b1
                                    try clear c35
                                    try clear c35b0
                                    try clear c36
                                    try clear c38
                                    try clear c38b0
                                    try clear c38b1
                                    try clear c39
                                    try clear c39b0
                                    try clear c39b1
                                    try clear c40
                                    try clear c40b0
                                    try clear c40b1
                                    try clear c42
                                    try clear c42b0
                                    try clear c42b1
                                    try clear c42b2
                                    try clear c43
                                    try clear c44
                                    try clear c44b0
                                    try clear c44b1
                                    try clear c45
                                    try clear c45b0
                                    try clear c45b1
                                    try clear c46
                                    try clear c46b0
                                    try clear c46b1
                                    try clear c47
                                    try clear c47b0
                                    try clear c47b1
                                    try clear c48
                                    try clear c48b0
                                    try clear c48b1
                                    try clear p1
                                    try clear p11
                                    try clear p2
                                    try clear p21
                                    try clear p25
                                    try clear p6
                                    try clear q1
                                    try clear q11
                                    try clear q2
                                    try clear q21
                                    try clear q25
                                    obtain ⟨kq, x138_40, rfl, HA, HJ40, HO_4, HB⟩ := hcut
                                    cases kq with
                                    | zero => exact absurd HA.out (by simp [impl_ReadLog.j4])
                                    | succ kj40 =>
                                      have H := HA.out
                                      clear HA
                                      simp only [impl_ReadLog.j4] at H
                                      by_cases c49 : x138_40 = true
                                      · subst c49
                                        have H1 : (some (x4_1, x5_1)) = some (r1, r2) := by rw [if_pos rfl] at H; exact H
                                        clear H
                                        have H := H1
                                        clear H1
                                        simp only [Option.some.injEq, Prod.mk.injEq] at H
                                        obtain ⟨rfl, rfl⟩ := H
                                        go_wp2
                                        repeat (go_quiet (fail); try go_wp2)
                                        go_ret2
                                        exact ⟨_, by first | rfl | (simp [errW_none, errW_some] <;> rfl) | (simp only [← hji18, ← hji22]; first | rfl | (simp [errW_none, errW_some] <;> rfl)) | (simp [*, errW_none, errW_some] <;> rfl), by (with_reducible repeat (first | apply Kd.R_alloc | apply Kd.R_drewN | apply Kd.R_drew)); exact HO_4.out, by repeat (first | (with_reducible first | exact HB.out | apply below_alloc | apply pw_below_drewN | apply below_drew1) | exact HB.out)⟩
                                      · replace c49 := Bool.eq_false_iff.mpr c49
                                        subst c49
                                        have H1 : (if 0 ≤ (wrap64 (x8_1 + 6)) then (if (wrap64 (x8_1 + 6)) ≤ (wrap64 ((wrap64 (x8_1 + 6)) + (wrap64 (bt a0 (ji18))))) then (if (wrap64 ((wrap64 (x8_1 + 6)) + (wrap64 (bt a0 (ji18))))) ≤ (a0.size : Int) then (if x6_1.size + (a0.extract ((wrap64 (x8_1 + 6)) : Int).toNat ((wrap64 ((wrap64 (x8_1 + 6)) + (wrap64 (bt a0 (ji18))))) : Int).toNat).size ≤ 9223372036854775807 then (if x16_36 = true then (impl_ReadLog.l0 kj40 a0 x4_1 x5_1 (x6_1 ++ (a0.extract ((wrap64 (x8_1 + 6)) : Int).toNat ((wrap64 ((wrap64 (x8_1 + 6)) + (wrap64 (bt a0 (ji18))))) : Int).toNat)) x16_36 (wrap64 (x8_1 + (wrap64 (6 + (wrap64 (bt a0 (ji18)))))))) else (if x4_1.length < 8796093022208 then (impl_ReadLog.l0 kj40 a0 (x4_1 ++ [x6_1 ++ (a0.extract ((wrap64 (x8_1 + 6)) : Int).toNat ((wrap64 ((wrap64 (x8_1 + 6)) + (wrap64 (bt a0 (ji18))))) : Int).toNat)]) (wrap64 (x8_1 + (wrap64 (6 + (wrap64 (bt a0 (ji18))))))) (⟨#[]⟩ : ByteArray) x16_36 (wrap64 (x8_1 + (wrap64 (6 + (wrap64 (bt a0 (ji18)))))))) else (none))) else (none)) else (none)) else (none)) else (none)) = some (r1, r2) := by rw [if_neg (show ¬ (false = true) by decide)] at H; exact H
                                        clear H
                                        have H := H1
                                        clear H1
                                        obtain ⟨ji50, hji50⟩ : ∃ j_ : Int, (wrap64 (x8_1 + 6)) = j_ := ⟨_, rfl⟩
                                        replace H : (if 0 ≤ (ji50) then (if (ji50) ≤ (wrap64 ((ji50) + (wrap64 (bt a0 (ji18))))) then (if (wrap64 ((ji50) + (wrap64 (bt a0 (ji18))))) ≤ (a0.size : Int) then (if x6_1.size + (a0.extract ((ji50) : Int).toNat ((wrap64 ((ji50) + (wrap64 (bt a0 (ji18))))) : Int).toNat).size ≤ 9223372036854775807 then (if x16_36 = true then (impl_ReadLog.l0 kj40 a0 x4_1 x5_1 (x6_1 ++ (a0.extract ((ji50) : Int).toNat ((wrap64 ((ji50) + (wrap64 (bt a0 (ji18))))) : Int).toNat)) x16_36 (wrap64 (x8_1 + (wrap64 (6 + (wrap64 (bt a0 (ji18)))))))) else (if x4_1.length < 8796093022208 then (impl_ReadLog.l0 kj40 a0 (x4_1 ++ [x6_1 ++ (a0.extract ((ji50) : Int).toNat ((wrap64 ((ji50) + (wrap64 (bt a0 (ji18))))) : Int).toNat)]) (wrap64 (x8_1 + (wrap64 (6 + (wrap64 (bt a0 (ji18))))))) (⟨#[]⟩ : ByteArray) x16_36 (wrap64 (x8_1 + (wrap64 (6 + (wrap64 (bt a0 (ji18)))))))) else (none))) else (none)) else (none)) else (none)) else (none)) = some (r1, r2) := by first | (rw [hji50] at H; exact H) | (simp only [hji50] at H ⊢; exact H)
                                        (try rw [hji50] at c13b0)
                                        have hji50w : (IntKind.i64.wrap (x8_1 + 6)) = ji50 := (i64_w _).trans hji50
                                        by_cases c51 : 0 ≤ (ji50)
                                        · rw [if_pos c51] at H
                                          have c51b0 := eq_true c51
                                          have c51b1 : decide (0 ≤ (ji50)) = true := decide_eq_true c51
                                          clear c51
                                          by_cases c52 : (ji50) ≤ (wrap64 ((ji50) + (wrap64 (bt a0 (ji18)))))
                                          · rw [if_pos c52] at H
                                            have c52b0 := eq_true c52
                                            have c52b1 : decide ((ji50) ≤ (wrap64 ((ji50) + (wrap64 (bt a0 (ji18)))))) = true := decide_eq_true c52
                                            by_cases c53 : (wrap64 ((ji50) + (wrap64 (bt a0 (ji18))))) ≤ (a0.size : Int)
                                            · rw [if_pos c53] at H
                                              have c53b0 := eq_true c53
                                              have c53b1 : decide ((wrap64 ((ji50) + (wrap64 (bt a0 (ji18))))) ≤ (a0.size : Int)) = true := decide_eq_true c53
                                              by_cases c54 : x6_1.size + (a0.extract ((ji50) : Int).toNat ((wrap64 ((ji50) + (wrap64 (bt a0 (ji18))))) : Int).toNat).size ≤ 9223372036854775807
                                              · rw [if_pos c54] at H
                                                have c54b0 := eq_true c54
                                                have c54b1 : decide (x6_1.size + (a0.extract ((ji50) : Int).toNat ((wrap64 ((ji50) + (wrap64 (bt a0 (ji18))))) : Int).toNat).size ≤ 9223372036854775807) = true := decide_eq_true c54
                                                try have c54b2 : (9223372036854775807 < x6_1.size + (a0.extract ((ji50) : Int).toNat ((wrap64 ((ji50) + (wrap64 (bt a0 (ji18))))) : Int).toNat).size) = False := eq_false (Nat.not_lt.2 c54)
                                                by_cases c55 : x16_36 = true
                                                · subst c55
                                                  have H1 : (impl_ReadLog.l0 kj40 a0 x4_1 x5_1 (x6_1 ++ (a0.extract ((ji50) : Int).toNat ((wrap64 ((ji50) + (wrap64 (bt a0 (ji18))))) : Int).toNat)) true (wrap64 (x8_1 + (wrap64 (6 + (wrap64 (bt a0 (ji18)))))))) = some (r1, r2) := by rw [if_pos rfl] at H; exact H
                                                  clear H
                                                  have H := H1
                                                  clear H1
                                                  have H' := Aside0.mk H
                                                  clear H
                                                  go_wp2
                                                  repeat (go_quiet (fail); try go_wp2)
                                                  go_roundg kj40
                                                  case measure => have := HK1.out; have := HJ25.out; have := HJ36.out; have := HJ40.out; omega
                                                  case rel => exact ⟨(x4_1), (x5_1), (x6_1 ++ (a0.extract ((ji50) : Int).toNat ((wrap64 ((ji50) + (wrap64 (bt a0 (ji18))))) : Int).toNat)), (true), (wrap64 (x8_1 + (wrap64 (6 + (wrap64 (bt a0 (ji18))))))), (by first | rfl | (simp; done) | (simp [*]; done)), (by first | rfl | (simp; done) | (simp only [← hji18, ← hji50] <;> (first | rfl | simp)) | (simp [*]; done)), (by first | rfl | (simp; done) | (simp [*]; done)), (by first | rfl | (simp; done) | (simp [*]; done) | (simp only [← hji18] <;> (first | rfl | (simp; done))) | (simp [*]; done)), H', ⟨by have := HK1.out; have := HJ25.out; have := HJ36.out; have := HJ40.out; omega⟩, ⟨by (with_reducible repeat (first | apply Kd.R_alloc | apply Kd.R_drewN | apply Kd.R_drew)); exact HO_4.out⟩, ⟨by repeat (first | (with_reducible first | exact HB.out | apply below_alloc | apply pw_below_drewN | apply below_drew1) | exact HB.out)⟩⟩
                                                · replace c55 := Bool.eq_false_iff.mpr c55
                                                  subst c55
                                                  have H1 : (if x4_1.length < 8796093022208 then (impl_ReadLog.l0 kj40 a0 (x4_1 ++ [x6_1 ++ (a0.extract ((ji50) : Int).toNat ((wrap64 ((ji50) + (wrap64 (bt a0 (ji18))))) : Int).toNat)]) (wrap64 (x8_1 + (wrap64 (6 + (wrap64 (bt a0 (ji18))))))) (⟨#[]⟩ : ByteArray) false (wrap64 (x8_1 + (wrap64 (6 + (wrap64 (bt a0 (ji18)))))))) else (none)) = some (r1, r2) := by rw [if_neg (show ¬ (false = true) by decide)] at H; exact H
                                                  clear H
                                                  have H := H1
                                                  clear H1
                                                  by_cases c56 : x4_1.length < 8796093022208
                                                  · rw [if_pos c56] at H
                                                    have LMc56 := Aside0.mk c56
                                                    clear c56
                                                    obtain ⟨y193, hy193⟩ : ∃ y_ : List ByteArray, y_ = (x4_1 ++ [x6_1 ++ (a0.extract ((ji50) : Int).toNat ((wrap64 ((ji50) + (wrap64 (bt a0 (ji18))))) : Int).toNat)]) := ⟨_, rfl⟩
                                                    replace H : (impl_ReadLog.l0 kj40 a0 y193 (wrap64 (x8_1 + (wrap64 (6 + (wrap64 (bt a0 (ji18))))))) (⟨#[]⟩ : ByteArray) false (wrap64 (x8_1 + (wrap64 (6 + (wrap64 (bt a0 (ji18)))))))) = some (r1, r2) := by first | (rw [hy193]; with_reducible exact H) | (have H2_ := (Option.bind_some _ _).symm.trans H; rw [hy193]; with_reducible exact H2_) | (have H2_ := (Option.bind_some _ _).symm.trans H; with_reducible exact H2_) | with_reducible exact H | (rw [hy193]; exact H) | exact H
                                                    have Ny193 := Aside0.mk hy193
                                                    clear hy193
                                                    have H' := Aside0.mk H
                                                    clear H
                                                    go_wp2_with (first | ((with_reducible refine gate_builtin (b := .append) (xs := #[.tmp 156, .tmp 158]) rfl ?_); (try (refine gate_guard (by rfl) ?_; dsimp only)); at_builtin; refine Kd.R_append Kd.string (w0 := w) w.heap.size rfl (.tmp 156) (.tmp 158) 24 9 (.string ⟨#[]⟩) 16 rfl Try.underlying24 info9 rfl (by decide) (by omega) (.slice Ao27 x4_1.length co27) x4_1 (x6_1 ++ (a0.extract ((ji50) : Int).toNat ((wrap64 ((ji50) + (wrap64 (bt a0 (ji18))))) : Int).toNat)) [.string (x6_1 ++ (a0.extract ((ji50) : Int).toNat ((wrap64 ((ji50) + (wrap64 (bt a0 (ji18))))) : Int).toNat))] (fun _ => True) (fun _ => False) rfl rfl ?aP (fun _ hk => hk.elim) ?aF ?aO ?aB ?aS ?aL ?_; (case aP => exact rfl); (case aB => exact (by repeat (first | (with_reducible first | exact HB.out | apply below_alloc | apply pw_below_drewN | apply below_drew1) | exact HB.out))); (case aF => exact (fun _ _ => trivial)); (case aO => exact (by (with_reducible repeat (first | apply Kd.R_alloc | apply Kd.R_drewN | apply Kd.R_drew)); exact HO_4.out)); (case aS => exact (below_size (by repeat (first | (with_reducible first | exact HB.out | apply below_alloc | apply pw_below_drewN | apply below_drew1) | exact HB.out)))); (case aL => have := LMc56.out; omega); intro v194 w57 ho hb hg hat; rw [← Ny193.out] at ho; have n0_ := Aside0.mk (hb); have n1_ := Aside0.mk (ho); clear HB; clear HO_4; have HB := n0_; have HO195 := n1_; clear n0_ n1_; clear ho hb hg hat))
                                                    repeat (go_quiet (first | ((with_reducible refine gate_builtin (b := .append) (xs := #[.tmp 156, .tmp 158]) rfl ?_); (try (refine gate_guard (by rfl) ?_; dsimp only)); at_builtin; refine Kd.R_append Kd.string (w0 := w) w.heap.size rfl (.tmp 156) (.tmp 158) 24 9 (.string ⟨#[]⟩) 16 rfl Try.underlying24 info9 rfl (by decide) (by omega) (.slice Ao27 x4_1.length co27) x4_1 (x6_1 ++ (a0.extract ((ji50) : Int).toNat ((wrap64 ((ji50) + (wrap64 (bt a0 (ji18))))) : Int).toNat)) [.string (x6_1 ++ (a0.extract ((ji50) : Int).toNat ((wrap64 ((ji50) + (wrap64 (bt a0 (ji18))))) : Int).toNat))] (fun _ => True) (fun _ => False) rfl rfl ?aP (fun _ hk => hk.elim) ?aF ?aO ?aB ?aS ?aL ?_; (case aP => exact rfl); (case aB => exact (by repeat (first | (with_reducible first | exact HB.out | apply below_alloc | apply pw_below_drewN | apply below_drew1) | exact HB.out))); (case aF => exact (fun _ _ => trivial)); (case aO => exact (by (with_reducible repeat (first | apply Kd.R_alloc | apply Kd.R_drewN | apply Kd.R_drew)); exact HO_4.out)); (case aS => exact (below_size (by repeat (first | (with_reducible first | exact HB.out | apply below_alloc | apply pw_below_drewN | apply below_drew1) | exact HB.out)))); (case aL => have := LMc56.out; omega); intro v194 w57 ho hb hg hat; rw [← Ny193.out] at ho; have n0_ := Aside0.mk (hb); have n1_ := Aside0.mk (ho); clear HB; clear HO_4; have HB := n0_; have HO195 := n1_; clear n0_ n1_; clear ho hb hg hat)); try go_wp2_with (first | ((with_reducible refine gate_builtin (b := .append) (xs := #[.tmp 156, .tmp 158]) rfl ?_); (try (refine gate_guard (by rfl) ?_; dsimp only)); at_builtin; refine Kd.R_append Kd.string (w0 := w) w.heap.size rfl (.tmp 156) (.tmp 158) 24 9 (.string ⟨#[]⟩) 16 rfl Try.underlying24 info9 rfl (by decide) (by omega) (.slice Ao27 x4_1.length co27) x4_1 (x6_1 ++ (a0.extract ((ji50) : Int).toNat ((wrap64 ((ji50) + (wrap64 (bt a0 (ji18))))) : Int).toNat)) [.string (x6_1 ++ (a0.extract ((ji50) : Int).toNat ((wrap64 ((ji50) + (wrap64 (bt a0 (ji18))))) : Int).toNat))] (fun _ => True) (fun _ => False) rfl rfl ?aP (fun _ hk => hk.elim) ?aF ?aO ?aB ?aS ?aL ?_; (case aP => exact rfl); (case aB => exact (by repeat (first | (with_reducible first | exact HB.out | apply below_alloc | apply pw_below_drewN | apply below_drew1) | exact HB.out))); (case aF => exact (fun _ _ => trivial)); (case aO => exact (by (with_reducible repeat (first | apply Kd.R_alloc | apply Kd.R_drewN | apply Kd.R_drew)); exact HO_4.out)); (case aS => exact (below_size (by repeat (first | (with_reducible first | exact HB.out | apply below_alloc | apply pw_below_drewN | apply below_drew1) | exact HB.out)))); (case aL => have := LMc56.out; omega); intro v194 w57 ho hb hg hat; rw [← Ny193.out] at ho; have n0_ := Aside0.mk (hb); have n1_ := Aside0.mk (ho); clear HB; clear HO_4; have HB := n0_; have HO195 := n1_; clear n0_ n1_; clear ho hb hg hat)))
                                                    go_roundg kj40
                                                    case measure => have := HK1.out; have := HJ25.out; have := HJ36.out; have := HJ40.out; omega
                                                    case rel => exact ⟨(y193), (wrap64 (x8_1 + (wrap64 (6 + (wrap64 (bt a0 (ji18))))))), ((⟨#[]⟩ : ByteArray)), (false), (wrap64 (x8_1 + (wrap64 (6 + (wrap64 (bt a0 (ji18))))))), (by first | rfl | (simp; done) | (simp [*]; done) | (simp only [← hji18] <;> (first | rfl | (simp; done))) | (simp [*]; done)), (by first | rfl | (simp; done) | (simp [*]; done)), (by first | rfl | (simp; done) | (simp [*]; done)), (by first | rfl | (simp; done) | (simp [*]; done) | (simp only [← hji18] <;> (first | rfl | (simp; done))) | (simp [*]; done)), H', ⟨by have := HK1.out; have := HJ25.out; have := HJ36.out; have := HJ40.out; omega⟩, ⟨by (with_reducible repeat (first | apply Kd.R_alloc | apply Kd.R_drewN | apply Kd.R_drew)); exact HO195.out⟩, ⟨by repeat (first | (with_reducible first | exact HB.out | apply below_alloc | apply pw_below_drewN | apply below_drew1) | exact HB.out)⟩⟩
                                                  · rw [if_neg c56] at H
                                                    exact absurd H (by simp)
                                              · rw [if_neg c54] at H
                                                exact absurd H (by simp)
                                            · rw [if_neg c53] at H
                                              exact absurd H (by simp)
                                          · rw [if_neg c52] at H
                                            exact absurd H (by simp)
                                        · rw [if_neg c51] at H
                                          exact absurd H (by simp)
                      · rw [if_neg c24] at H
                        exact absurd H (by simp)
                    · rw [if_neg c23] at H
                      exact absurd H (by simp)
                  · rw [if_neg c20] at H
                    exact absurd H (by simp)
                · rw [if_neg c19] at H
                  exact absurd H (by simp)
              · rw [if_neg c16] at H
                exact absurd H (by simp)
            · rw [if_neg c15] at H
              exact absurd H (by simp)
      · rw [if_neg c4] at H
        have c4b0 : decide ((x4_1.length : Int) < 500) = false := decide_eq_false c4
        have c4b1 : decide (x4_1.length < 500) = false := decide_eq_false (by omega)
        clear c4
        simp only [Option.some.injEq, Prod.mk.injEq] at H
        obtain ⟨rfl, rfl⟩ := H
        obtain ⟨Ao58, co58, eo58⟩ := Kd.R_slice HO_4.out
        subst eo58
        go_wp2
        repeat (go_quiet (fail); try go_wp2)
        go_ret2
        exact ⟨_, by first | rfl | (simp [errW_none, errW_some] <;> rfl) | (simp [*, errW_none, errW_some] <;> rfl), by (with_reducible repeat (first | apply Kd.R_alloc | apply Kd.R_drewN | apply Kd.R_drew)); exact HO_4.out, by repeat (first | (with_reducible first | exact HB.out | apply below_alloc | apply pw_below_drewN | apply below_drew1) | exact HB.out)⟩

end Go.Proofs.Ytfcjacncllmapag.QFnLogHurt
