-- This session's own text: written by a program of this session, begun from the kit's printer.
import Derived.Test.YtfcjacncllmapafQFnExactFilterOfx0
import Derived.Test.YtfcjacncllmapafQFnExactFilterOfx4
namespace Go.Proofs.Ytfcjacncllmapaf.QFnExactFilterOf
open Go.RowKit Go.Proofs.YtfcjacncllmapafW.PrintWords Go.Proofs.YtfcjacncllmapafW.PrintLast Go.Proofs.YtfcjacncllmapafW.PrintMore
attribute [local go_sem] max2_int min2_int max_two min_two max_three min_three max_four min_four   -- for this text's walks alone
set_option linter.unusedVariables false
set_option linter.unusedSimpArgs false

/-! ### impl_RibbonOf: function 16 -/
mutual
def impl_RibbonOf.j0 : Nat → List ByteArray → Int → Bool → Option (Int × Int × Int × ByteArray × Bool)
  | 0, _, _, _ => none
  | k + 1, x0, x1, x22 => if x22 = true then (some (0, 0, 0, (⟨#[]⟩ : ByteArray), false)) else (if 0 ≤ (wrap64 ((wrap64 ((x0.length : Int) + (wrap64 ((x0.length : Int) / 4)))) + 20)) then (if (wrap64 ((wrap64 ((x0.length : Int) + (wrap64 ((x0.length : Int) / 4)))) + 20) : Int).toNat ≤ 11728124029610 then (impl_RibbonOf.l0 k x1 (wrap64 ((wrap64 ((x0.length : Int) + (wrap64 ((x0.length : Int) / 4)))) + 20)) (List.replicate (wrap64 ((wrap64 ((x0.length : Int) + (wrap64 ((x0.length : Int) / 4)))) + 20) : Int).toNat z58) x0 (x0.length : Int) 0) else (none)) else (none))
def impl_RibbonOf.l0 : Nat → Int → Int → List (S58) → List ByteArray → Int → Int → Option (Int × Int × Int × ByteArray × Bool)
  | 0, _, _, _, _, _, _ => none
  | k + 1, x1, x6, x7, x33, x34, x35 => if x35 < x34 then (if 0 ≤ x35 then (if x35 < (x33.length : Int) then ((impl_equationOf.f k (rdOf ByteArray.empty x33 x35) x1 x6).bind fun bt176 => (impl_RibbonOf.l1 k x1 x6 x7 x33 x34 x35 bt176.1 bt176.2.1 bt176.2.2)) else (none)) else (none)) else (if 0 ≤ x6 then (if (x6 : Int).toNat ≤ 281474976710656 then (impl_RibbonOf.l3 k x1 x7 (List.replicate (x6 : Int).toNat 0) (wrap64 (x6 - 1))) else (none)) else (none))
def impl_RibbonOf.l1 : Nat → Int → Int → List (S58) → List ByteArray → Int → Int → Int → Int → Int → Option (Int × Int × Int × ByteArray × Bool)
  | 0, _, _, _, _, _, _, _, _, _ => none
  | k + 1, x1, x6, x7, x33, x34, x35, x180000, x180001, x180002 => if x180001 = 0 then (if x180002 = 0 then (impl_RibbonOf.l0 k x1 x6 x7 x33 x34 (wrap64 (x35 + 1))) else (some (0, 0, 0, (⟨#[]⟩ : ByteArray), false))) else (impl_RibbonOf.l2 k x1 x6 x7 x33 x34 x35 x180000 x180001 x180002)
def impl_RibbonOf.l2 : Nat → Int → Int → List (S58) → List ByteArray → Int → Int → Int → Int → Int → Option (Int × Int × Int × ByteArray × Bool)
  | 0, _, _, _, _, _, _, _, _, _ => none
  | k + 1, x1, x6, x7, x33, x34, x35, x180000, x180001, x180002 => if (Go.bits .and .u64 x180001 1) = 0 then (impl_RibbonOf.l2 k x1 x6 x7 x33 x34 x35 (wrap64 (x180000 + 1)) (x180001 / 2) x180002) else (if 0 ≤ x180000 then (if x180000 < (x7.length : Int) then (if ((rd_T58 x7 x180000).f1) = 0 then ((some (x7.set (x180000 : Int).toNat (⟨x180000, x180001, x180002⟩ : S58) : List (S58))).bind fun y181 => (if x180001 = 0 then (if x180002 = 0 then (impl_RibbonOf.l0 k x1 x6 y181 x33 x34 (wrap64 (x35 + 1))) else (some (0, 0, 0, (⟨#[]⟩ : ByteArray), false))) else (impl_RibbonOf.l0 k x1 x6 y181 x33 x34 (wrap64 (x35 + 1))))) else (impl_RibbonOf.l1 k x1 x6 x7 x33 x34 x35 x180000 (Go.bits .xor .u64 x180001 ((rd_T58 x7 x180000).f1)) (Go.bits .xor .u8 x180002 ((rd_T58 x7 x180000).f2)))) else (none)) else (none))
def impl_RibbonOf.l3 : Nat → Int → List (S58) → List Int → Int → Option (Int × Int × Int × ByteArray × Bool)
  | 0, _, _, _, _ => none
  | k + 1, x1, x7, x12, x13 => if x13 ≥ 0 then (if 0 ≤ x13 then (if x13 < (x7.length : Int) then (if ((rd_T58 x7 x13).f1) = 0 then (impl_RibbonOf.l3 k x1 x7 x12 (wrap64 (x13 - 1))) else ((impl_solve.f k x12 x13 (Go.bits .andNot .u64 ((rd_T58 x7 x13).f1) 1)).bind fun t189 => (if x13 < (x12.length : Int) then (impl_RibbonOf.l3 k x1 x7 (x12.set (x13 : Int).toNat (Go.bits .xor .u8 ((rd_T58 x7 x13).f2) t189)) (wrap64 (x13 - 1))) else (none)))) else (none)) else (none)) else (some (2, x1, 0, strOfNums x12, true))
end
def impl_RibbonOf.f (k : Nat) (l0 : List ByteArray) (a1 : Int) : Option (Int × Int × Int × ByteArray × Bool) := (impl_UsersOk.f k l0).bind fun t170 => (if t170 = true then ((impl_within.f a1 0 3).bind fun t171 => (impl_RibbonOf.j0 k l0 a1 (!t171))) else (impl_RibbonOf.j0 k l0 a1 true))
set_option maxRecDepth 100000 in
theorem impl_RibbonOf.mono_l : ∀ k, (∀ y0 y1 y2, LeO (impl_RibbonOf.j0 k y0 y1 y2) (impl_RibbonOf.j0 (k + 1) y0 y1 y2)) ∧ (∀ y0 y1 y2 y3 y4 y5, LeO (impl_RibbonOf.l0 k y0 y1 y2 y3 y4 y5) (impl_RibbonOf.l0 (k + 1) y0 y1 y2 y3 y4 y5)) ∧ (∀ y0 y1 y2 y3 y4 y5 y6 y7 y8, LeO (impl_RibbonOf.l1 k y0 y1 y2 y3 y4 y5 y6 y7 y8) (impl_RibbonOf.l1 (k + 1) y0 y1 y2 y3 y4 y5 y6 y7 y8)) ∧ (∀ y0 y1 y2 y3 y4 y5 y6 y7 y8, LeO (impl_RibbonOf.l2 k y0 y1 y2 y3 y4 y5 y6 y7 y8) (impl_RibbonOf.l2 (k + 1) y0 y1 y2 y3 y4 y5 y6 y7 y8)) ∧ (∀ y0 y1 y2 y3, LeO (impl_RibbonOf.l3 k y0 y1 y2 y3) (impl_RibbonOf.l3 (k + 1) y0 y1 y2 y3))
  | 0 => ⟨fun _ _ _ r h => by simp [impl_RibbonOf.j0] at h, fun _ _ _ _ _ _ r h => by simp [impl_RibbonOf.l0] at h, fun _ _ _ _ _ _ _ _ _ r h => by simp [impl_RibbonOf.l1] at h, fun _ _ _ _ _ _ _ _ _ r h => by simp [impl_RibbonOf.l2] at h, fun _ _ _ _ r h => by simp [impl_RibbonOf.l3] at h⟩
  | k + 1 => by
    obtain ⟨ih0, ih1, ih2, ih3, ih4⟩ := impl_RibbonOf.mono_l k
    refine ⟨?_, ?_, ?_, ?_, ?_⟩
    · intro y0 y1 y2
      unfold impl_RibbonOf.j0
      repeat' first
      | (with_reducible exact ih0 _ _ _)
      | (with_reducible exact ih1 _ _ _ _ _ _)
      | (with_reducible exact ih2 _ _ _ _ _ _ _ _ _)
      | (with_reducible exact ih3 _ _ _ _ _ _ _ _ _)
      | (with_reducible exact ih4 _ _ _ _)
      | (with_reducible exact impl_UsersOk.mono _ _)
      | (with_reducible exact impl_equationOf.mono _ _ _ _)
      | (with_reducible exact impl_solve.mono _ _ _ _)
      | (with_reducible exact LeO.refl _)
      | (with_reducible exact LeO.none _)
      | (with_reducible refine LeO.ite ?_ ?_)
      | (with_reducible refine LeO.bind ?_ (fun _ => ?_))
      | exact ih0 _ _ _
      | exact ih1 _ _ _ _ _ _
      | exact ih2 _ _ _ _ _ _ _ _ _
      | exact ih3 _ _ _ _ _ _ _ _ _
      | exact ih4 _ _ _ _
      | exact impl_UsersOk.mono _ _
      | exact impl_equationOf.mono _ _ _ _
      | exact impl_solve.mono _ _ _ _
      | exact LeO.none _
      | refine LeO.ite ?_ ?_
      | refine LeO.bind ?_ (fun _ => ?_)
    · intro y0 y1 y2 y3 y4 y5
      unfold impl_RibbonOf.l0
      repeat' first
      | (with_reducible exact ih0 _ _ _)
      | (with_reducible exact ih1 _ _ _ _ _ _)
      | (with_reducible exact ih2 _ _ _ _ _ _ _ _ _)
      | (with_reducible exact ih3 _ _ _ _ _ _ _ _ _)
      | (with_reducible exact ih4 _ _ _ _)
      | (with_reducible exact impl_UsersOk.mono _ _)
      | (with_reducible exact impl_equationOf.mono _ _ _ _)
      | (with_reducible exact impl_solve.mono _ _ _ _)
      | (with_reducible exact LeO.refl _)
      | (with_reducible exact LeO.none _)
      | (with_reducible refine LeO.ite ?_ ?_)
      | (with_reducible refine LeO.bind ?_ (fun _ => ?_))
      | exact ih0 _ _ _
      | exact ih1 _ _ _ _ _ _
      | exact ih2 _ _ _ _ _ _ _ _ _
      | exact ih3 _ _ _ _ _ _ _ _ _
      | exact ih4 _ _ _ _
      | exact impl_UsersOk.mono _ _
      | exact impl_equationOf.mono _ _ _ _
      | exact impl_solve.mono _ _ _ _
      | exact LeO.none _
      | refine LeO.ite ?_ ?_
      | refine LeO.bind ?_ (fun _ => ?_)
    · intro y0 y1 y2 y3 y4 y5 y6 y7 y8
      unfold impl_RibbonOf.l1
      repeat' first
      | (with_reducible exact ih0 _ _ _)
      | (with_reducible exact ih1 _ _ _ _ _ _)
      | (with_reducible exact ih2 _ _ _ _ _ _ _ _ _)
      | (with_reducible exact ih3 _ _ _ _ _ _ _ _ _)
      | (with_reducible exact ih4 _ _ _ _)
      | (with_reducible exact impl_UsersOk.mono _ _)
      | (with_reducible exact impl_equationOf.mono _ _ _ _)
      | (with_reducible exact impl_solve.mono _ _ _ _)
      | (with_reducible exact LeO.refl _)
      | (with_reducible exact LeO.none _)
      | (with_reducible refine LeO.ite ?_ ?_)
      | (with_reducible refine LeO.bind ?_ (fun _ => ?_))
      | exact ih0 _ _ _
      | exact ih1 _ _ _ _ _ _
      | exact ih2 _ _ _ _ _ _ _ _ _
      | exact ih3 _ _ _ _ _ _ _ _ _
      | exact ih4 _ _ _ _
      | exact impl_UsersOk.mono _ _
      | exact impl_equationOf.mono _ _ _ _
      | exact impl_solve.mono _ _ _ _
      | exact LeO.none _
      | refine LeO.ite ?_ ?_
      | refine LeO.bind ?_ (fun _ => ?_)
    · intro y0 y1 y2 y3 y4 y5 y6 y7 y8
      unfold impl_RibbonOf.l2
      repeat' first
      | (with_reducible exact ih0 _ _ _)
      | (with_reducible exact ih1 _ _ _ _ _ _)
      | (with_reducible exact ih2 _ _ _ _ _ _ _ _ _)
      | (with_reducible exact ih3 _ _ _ _ _ _ _ _ _)
      | (with_reducible exact ih4 _ _ _ _)
      | (with_reducible exact impl_UsersOk.mono _ _)
      | (with_reducible exact impl_equationOf.mono _ _ _ _)
      | (with_reducible exact impl_solve.mono _ _ _ _)
      | (with_reducible exact LeO.refl _)
      | (with_reducible exact LeO.none _)
      | (with_reducible refine LeO.ite ?_ ?_)
      | (with_reducible refine LeO.bind ?_ (fun _ => ?_))
      | exact ih0 _ _ _
      | exact ih1 _ _ _ _ _ _
      | exact ih2 _ _ _ _ _ _ _ _ _
      | exact ih3 _ _ _ _ _ _ _ _ _
      | exact ih4 _ _ _ _
      | exact impl_UsersOk.mono _ _
      | exact impl_equationOf.mono _ _ _ _
      | exact impl_solve.mono _ _ _ _
      | exact LeO.none _
      | refine LeO.ite ?_ ?_
      | refine LeO.bind ?_ (fun _ => ?_)
    · intro y0 y1 y2 y3
      unfold impl_RibbonOf.l3
      repeat' first
      | (with_reducible exact ih0 _ _ _)
      | (with_reducible exact ih1 _ _ _ _ _ _)
      | (with_reducible exact ih2 _ _ _ _ _ _ _ _ _)
      | (with_reducible exact ih3 _ _ _ _ _ _ _ _ _)
      | (with_reducible exact ih4 _ _ _ _)
      | (with_reducible exact impl_UsersOk.mono _ _)
      | (with_reducible exact impl_equationOf.mono _ _ _ _)
      | (with_reducible exact impl_solve.mono _ _ _ _)
      | (with_reducible exact LeO.refl _)
      | (with_reducible exact LeO.none _)
      | (with_reducible refine LeO.ite ?_ ?_)
      | (with_reducible refine LeO.bind ?_ (fun _ => ?_))
      | exact ih0 _ _ _
      | exact ih1 _ _ _ _ _ _
      | exact ih2 _ _ _ _ _ _ _ _ _
      | exact ih3 _ _ _ _ _ _ _ _ _
      | exact ih4 _ _ _ _
      | exact impl_UsersOk.mono _ _
      | exact impl_equationOf.mono _ _ _ _
      | exact impl_solve.mono _ _ _ _
      | exact LeO.none _
      | refine LeO.ite ?_ ?_
      | refine LeO.bind ?_ (fun _ => ?_)
theorem impl_RibbonOf.mono : ∀ a0 a1 k, LeO (impl_RibbonOf.f k a0 a1) (impl_RibbonOf.f (k + 1) a0 a1) := by
  intro a0 a1 k
  obtain ⟨ih0, ih1, ih2, ih3, ih4⟩ := impl_RibbonOf.mono_l k
  unfold impl_RibbonOf.f
  repeat' first
      | (with_reducible exact ih0 _ _ _)
      | (with_reducible exact ih1 _ _ _ _ _ _)
      | (with_reducible exact ih2 _ _ _ _ _ _ _ _ _)
      | (with_reducible exact ih3 _ _ _ _ _ _ _ _ _)
      | (with_reducible exact ih4 _ _ _ _)
      | (with_reducible exact impl_UsersOk.mono _ _)
      | (with_reducible exact impl_equationOf.mono _ _ _ _)
      | (with_reducible exact impl_solve.mono _ _ _ _)
      | (with_reducible exact LeO.refl _)
      | (with_reducible exact LeO.none _)
      | (with_reducible refine LeO.ite ?_ ?_)
      | (with_reducible refine LeO.bind ?_ (fun _ => ?_))
      | exact ih0 _ _ _
      | exact ih1 _ _ _ _ _ _
      | exact ih2 _ _ _ _ _ _ _ _ _
      | exact ih3 _ _ _ _ _ _ _ _ _
      | exact ih4 _ _ _ _
      | exact impl_UsersOk.mono _ _
      | exact impl_equationOf.mono _ _ _ _
      | exact impl_solve.mono _ _ _ _
      | exact LeO.none _
      | refine LeO.ite ?_ ?_
      | refine LeO.bind ?_ (fun _ => ?_)
def impl_RibbonOf.T16 : Bool × List (List Nat × List Nat) := (true, [([], []), ([0], [0]), ([], []), ([2], [2]), ([3], [3]), ([4], [4]), ([1, 5], [1, 5]), ([0, 1, 2, 3, 4, 5, 6], []), ([7, 6, 0, 1, 2, 3, 4, 5, 6], [6, 7])])
def impl_RibbonOf.B16 : List Nat := [0, 1, 0, 4, 12, 28, 63, 127, 255]
theorem impl_RibbonOf.tab16 : rtab .any (opsOf Try.f16 16) = impl_RibbonOf.T16 := by kernel_rfl
theorem impl_RibbonOf.bits16 : waitsOk impl_RibbonOf.T16.2 impl_RibbonOf.B16 = true := by kernel_rfl
def impl_RibbonOf.T17 : Bool × List (List Nat × List Nat) := (true, [([], []), ([0], [0]), ([], []), ([2], [2]), ([3], [3]), ([4], [4]), ([1, 5], [1, 5]), ([0, 1, 2, 3, 4, 5, 6], []), ([7, 6, 0, 1, 2, 3, 4, 5, 6], [6, 7])])
def impl_RibbonOf.B17 : List Nat := [0, 1, 0, 4, 12, 28, 63, 127, 255]
theorem impl_RibbonOf.tab17 : rtab .any (opsOf Try.f16 17) = impl_RibbonOf.T17 := by kernel_rfl
theorem impl_RibbonOf.bits17 : waitsOk impl_RibbonOf.T17.2 impl_RibbonOf.B17 = true := by kernel_rfl
def impl_RibbonOf.T27 : Bool × List (List Nat × List Nat) := (true, [([], []), ([], []), ([], []), ([2], [2]), ([], []), ([], []), ([], []), ([6], [6]), ([7], [7]), ([4, 5, 8], [4, 5, 8]), ([3, 9], [3, 9]), ([0, 1, 0, 1, 2, 3, 4, 5, 6, 7, 8, 9, 10], [0, 1]), ([11, 10, 9, 0, 1, 2, 3, 4, 5, 6, 7, 8, 9, 10], [10, 11])])
def impl_RibbonOf.B27 : List Nat := [0, 0, 0, 4, 0, 0, 0, 64, 192, 496, 1020, 2047, 4095]
theorem impl_RibbonOf.tab27 : rtab .any (opsOf Try.f16 27) = impl_RibbonOf.T27 := by kernel_rfl
theorem impl_RibbonOf.bits27 : waitsOk impl_RibbonOf.T27.2 impl_RibbonOf.B27 = true := by kernel_rfl
set_option maxHeartbeats 8000000 in
set_option maxRecDepth 100000 in
theorem impl_RibbonOf.calls (k : Nat) (A0 : Option Addr) (c0 : Nat) (l0 : List ByteArray) (a1 : Int) (r1 : Int) (r2 : Int) (r3 : Int) (r4 : ByteArray) (r5 : Bool) (w : World) (hr0 : Kd.C Kd.string w A0 l0.length l0) (hc0 : l0.length ≤ c0) (h : impl_RibbonOf.f k l0 a1 = some (r1, r2, r3, r4, r5)) :
    Calls Try.prog 16 #[.slice A0 l0.length c0, .int .i64 a1] w fun e w' => e = .returned (.tuple #[.agg #[.int .i64 r1, .int .i64 r2, .int .i64 r3, .string r4], .bool r5]) ∧ Below w.heap.size w w' := by
  have hu26 := Try.underlying26
  have hu58 := Try.underlying58
  have HR0 := Aside0.mk hr0
  have HC0 := Aside0.mk hc0
  clear hr0 hc0
  have HB := Aside0.mk (Below.refl w.heap.size w)
  have H : ((impl_UsersOk.f k l0).bind fun t170 => (if t170 = true then ((impl_within.f a1 0 3).bind fun t171 => (impl_RibbonOf.j0 k l0 a1 (!t171))) else (impl_RibbonOf.j0 k l0 a1 true))) = some (r1, r2, r3, r4, r5) := h
  clear h
  have HC3 := Aside0.mk H
  clear H
  go_enter Try.func16, Try.ntmps16
  go_upto_region 1 with (first | ((with_reducible refine gate_dst (N := 4) rfl ?_); refine box_event ?hg (N := 4) ?hd (cs := #[.int .i64 0, .int .i64 0, .int .i64 0, .string (⟨#[]⟩ : ByteArray)]) (t := 26) ?hr ?_; (case hd => rfl); (case hg => rfl); (case hr => first | (go_simp; done) | (go_simp; rfl)); intro gb169 hg w4 hbox hb; have n0_ := Aside0.mk (below_step (by repeat (first | (with_reducible first | exact HB.out | apply below_alloc | apply pw_below_drewN | apply below_drew1) | exact HB.out)) hb); have n1_ := Aside0.mk (hbox); have n2_ := Aside0.mk ((by rw [hg]; exact (below_size (by repeat (first | (with_reducible first | exact HB.out | apply below_alloc | apply pw_below_drewN | apply below_drew1) | exact HB.out))) : w.heap.size ≤ gb169)); have n3_ := Aside0.mk ((by rw [hg]; exact (below_size (by repeat (first | (with_reducible first | exact HB.out | apply below_alloc | apply pw_below_drewN | apply below_drew1) | exact HB.out))) : w.heap.size ≤ gb169)); clear HB; have HB := n0_; have BK169 := n1_; have GW169 := n2_; have GE169 := n3_; clear n0_ n1_ n2_ n3_; clear hb hbox hg))
  (try simp only [Act.put, List.setIfInBounds_toArray, List.set_cons_zero, List.set_cons_succ])
  go_cut [22] (fun v22 wc => ∃ (kq : Nat) (x22_2 : Bool), v22 = .bool x22_2 ∧ Aside0 (impl_RibbonOf.j0 kq l0 a1 x22_2 = some (r1, r2, r3, r4, r5)) ∧ Aside0 (kq ≤ k) ∧ Aside0 (wc.heap[gb169]? = some (.cells #[.int .i64 0, .int .i64 0, .int .i64 0, .string (⟨#[]⟩ : ByteArray)] 26 (0, 0))) ∧ Aside0 (Below w.heap.size w wc))
  case first =>
    have H := HC3.out
    clear HC3
    replace H := Option.bind_eq_some_iff.mp H
    obtain ⟨t170, A50, H⟩ := H
    replace H : (if t170 = true then ((impl_within.f a1 0 3).bind fun t171 => (impl_RibbonOf.j0 k l0 a1 (!t171))) else (impl_RibbonOf.j0 k l0 a1 true)) = some (r1, r2, r3, r4, r5) := H
    have A5 := Aside0.mk A50
    clear A50
    by_cases c6 : t170 = true
    · subst c6
      have H1 : ((impl_within.f a1 0 3).bind fun t171 => (impl_RibbonOf.j0 k l0 a1 (!t171))) = some (r1, r2, r3, r4, r5) := by rw [if_pos rfl] at H; exact H
      clear H
      have H := H1
      clear H1
      replace H := Option.bind_eq_some_iff.mp H
      obtain ⟨t171, A70, H⟩ := H
      replace H : (impl_RibbonOf.j0 k l0 a1 (!t171)) = some (r1, r2, r3, r4, r5) := H
      have A7 := Aside0.mk A70
      clear A70
      have H' := Aside0.mk H
      clear H
      go_wp2_with (first | ((with_reducible refine gate_callee (f := 38) rfl ?_); refine goesL_ (some 16) rfl rfl Try.func38 (by kernel_rfl) rfl #[.slice A0 l0.length c0] rfl (by (try simp only [List.map_toArray, List.map_cons, List.map_nil]); first | done | rfl | (simp only [List.length_drop, List.length_take]; rfl)) ?_; (with_reducible refine (impl_UsersOk.calls k _ _ l0 true _ ?side1 ?side2 A5.out).mono ?_); (case side1 => repeat (first | exact (Kd.C_below HR0.out HB.out) | (with_reducible refine Kd.C_alloc ?_ _) | (with_reducible refine Kd.C_drewN ?_ _) | (with_reducible refine Kd.C_drew ?_))); (case side2 => exact HC0.out); rintro e w' ⟨rfl, ⟨nd, rfl⟩⟩; refine ⟨_, rfl, ?_⟩) | (go_at_call 39; (with_reducible refine (impl_within.calls a1 0 3 t171 _ A7.out).mono ?_); rintro e w' ⟨rfl, ⟨nd, rfl⟩⟩))
      go_meet
      case rel => exact ⟨_, (!t171), (by first | rfl | (simp; done) | (simp [*]; done)), H', ⟨by first | omega | exact Nat.le_refl _⟩, ⟨by (with_reducible repeat (first | refine blk_drewN ?_ _ | refine blk_drew ?_ | refine blk_alloc ?_ _)); exact BK169.out⟩, ⟨by repeat (first | (with_reducible first | exact HB.out | apply below_alloc | apply pw_below_drewN | apply below_drew1 | refine below_set ?_ GE169.out) | exact HB.out)⟩⟩
    · replace c6 := Bool.eq_false_iff.mpr c6
      subst c6
      have H1 : (impl_RibbonOf.j0 k l0 a1 true) = some (r1, r2, r3, r4, r5) := by rw [if_neg (show ¬ (false = true) by decide)] at H; exact H
      clear H
      have H := H1
      clear H1
      have H' := Aside0.mk H
      clear H
      go_wp2_with (first | ((with_reducible refine gate_callee (f := 38) rfl ?_); refine goesL_ (some 16) rfl rfl Try.func38 (by kernel_rfl) rfl #[.slice A0 l0.length c0] rfl (by (try simp only [List.map_toArray, List.map_cons, List.map_nil]); first | done | rfl | (simp only [List.length_drop, List.length_take]; rfl)) ?_; (with_reducible refine (impl_UsersOk.calls k _ _ l0 false _ ?side1 ?side2 A5.out).mono ?_); (case side1 => repeat (first | exact (Kd.C_below HR0.out HB.out) | (with_reducible refine Kd.C_alloc ?_ _) | (with_reducible refine Kd.C_drewN ?_ _) | (with_reducible refine Kd.C_drew ?_))); (case side2 => exact HC0.out); rintro e w' ⟨rfl, ⟨nd, rfl⟩⟩; refine ⟨_, rfl, ?_⟩))
      go_meet
      case rel => exact ⟨_, (true), (by first | rfl | (simp; done) | (simp [*]; done)), H', ⟨by first | omega | exact Nat.le_refl _⟩, ⟨by (with_reducible repeat (first | refine blk_drewN ?_ _ | refine blk_drew ?_ | refine blk_alloc ?_ _)); exact BK169.out⟩, ⟨by repeat (first | (with_reducible first | exact HB.out | apply below_alloc | apply pw_below_drewN | apply below_drew1 | refine below_set ?_ GE169.out) | exact HB.out)⟩⟩
  case rest =>
    clear HC3
    try clear c1
    try clear p2
    try clear c3
    try clear c6
    obtain ⟨kq, x22_2, rfl, HA, HJ2, BK169, HB⟩ := hcut
    cases kq with
    | zero => exact absurd HA.out (by simp [impl_RibbonOf.j0])
    | succ kj2 =>
      have H := HA.out
      clear HA
      simp only [impl_RibbonOf.j0] at H
      by_cases c8 : x22_2 = true
      · subst c8
        have H1 : (some (0, 0, 0, (⟨#[]⟩ : ByteArray), false)) = some (r1, r2, r3, r4, r5) := by rw [if_pos rfl] at H; exact H
        clear H
        have H := H1
        clear H1
        simp only [Option.some.injEq, Prod.mk.injEq] at H
        obtain ⟨rfl, rfl, rfl, rfl, rfl⟩ := H
        have hcz9_0 : wc.cell? ⟨gb169, 0, none⟩ = some (.int .i64 0) := (blk_cell BK169.out 0).trans rfl
        have hcz9_1 : wc.cell? ⟨gb169, 1, none⟩ = some (.int .i64 0) := (blk_cell BK169.out 1).trans rfl
        have hcz9_2 : wc.cell? ⟨gb169, 2, none⟩ = some (.int .i64 0) := (blk_cell BK169.out 2).trans rfl
        have hcz9_3 : wc.cell? ⟨gb169, 3, none⟩ = some (.string (⟨#[]⟩ : ByteArray)) := (blk_cell BK169.out 3).trans rfl
        have hfz9_0 := blk_frozen BK169.out 0
        have hfz9_1 := blk_frozen BK169.out 1
        have hfz9_2 := blk_frozen BK169.out 2
        have hfz9_3 := blk_frozen BK169.out 3
        go_wp2
        refine bodyPost_ret (results_ct rfl _ _ gb169 26 #[.int .i64 0, .int .i64 0, .int .i64 0, .string (⟨#[]⟩ : ByteArray)] (0, 0) _ rfl (by (with_reducible repeat (first | refine blk_drewN ?_ _ | refine blk_drew ?_ | refine blk_alloc ?_ _)); refine blk_put (cs := #[.int .i64 0, .int .i64 0, .int .i64 0, .string (⟨#[]⟩ : ByteArray)]) ?_ 3 _ rfl; (with_reducible repeat (first | refine blk_drewN ?_ _ | refine blk_drew ?_ | refine blk_alloc ?_ _)); refine blk_put (cs := #[.int .i64 0, .int .i64 0, .int .i64 0, .string (⟨#[]⟩ : ByteArray)]) ?_ 2 _ rfl; (with_reducible repeat (first | refine blk_drewN ?_ _ | refine blk_drew ?_ | refine blk_alloc ?_ _)); refine blk_put (cs := #[.int .i64 0, .int .i64 0, .int .i64 0, .string (⟨#[]⟩ : ByteArray)]) ?_ 1 _ rfl; (with_reducible repeat (first | refine blk_drewN ?_ _ | refine blk_drew ?_ | refine blk_alloc ?_ _)); refine blk_put (cs := #[.int .i64 0, .int .i64 0, .int .i64 0, .string (⟨#[]⟩ : ByteArray)]) ?_ 0 _ rfl; (with_reducible repeat (first | refine blk_drewN ?_ _ | refine blk_drew ?_ | refine blk_alloc ?_ _)); exact BK169.out) Try.underlying26 rfl (by kernel_rfl)) rfl ?_
        exact ⟨by first | rfl | (simp [errW_none, errW_some] <;> rfl) | (simp [*, errW_none, errW_some] <;> rfl), by repeat (first | (with_reducible first | exact HB.out | apply below_alloc | apply pw_below_drewN | apply below_drew1 | refine below_set ?_ GE169.out) | exact HB.out)⟩
      · replace c8 := Bool.eq_false_iff.mpr c8
        subst c8
        have H1 : (if 0 ≤ (wrap64 ((wrap64 ((l0.length : Int) + (wrap64 ((l0.length : Int) / 4)))) + 20)) then (if (wrap64 ((wrap64 ((l0.length : Int) + (wrap64 ((l0.length : Int) / 4)))) + 20) : Int).toNat ≤ 11728124029610 then (impl_RibbonOf.l0 kj2 a1 (wrap64 ((wrap64 ((l0.length : Int) + (wrap64 ((l0.length : Int) / 4)))) + 20)) (List.replicate (wrap64 ((wrap64 ((l0.length : Int) + (wrap64 ((l0.length : Int) / 4)))) + 20) : Int).toNat z58) l0 (l0.length : Int) 0) else (none)) else (none)) = some (r1, r2, r3, r4, r5) := by rw [if_neg (show ¬ (false = true) by decide)] at H; exact H
        clear H
        have H := H1
        clear H1
        obtain ⟨ji10, hji10⟩ : ∃ j_ : Int, (wrap64 ((wrap64 ((l0.length : Int) + (wrap64 ((l0.length : Int) / 4)))) + 20)) = j_ := ⟨_, rfl⟩
        replace H : (if 0 ≤ (ji10) then (if (ji10 : Int).toNat ≤ 11728124029610 then (impl_RibbonOf.l0 kj2 a1 ji10 (List.replicate (ji10 : Int).toNat z58) l0 (l0.length : Int) 0) else (none)) else (none)) = some (r1, r2, r3, r4, r5) := by first | (rw [hji10] at H; exact H) | (simp only [hji10] at H ⊢; exact H)
        have hji10w : (IntKind.i64.wrap ((wrap64 ((l0.length : Int) + (wrap64 ((l0.length : Int) / 4)))) + 20)) = ji10 := (i64_w _).trans hji10
        by_cases c11 : 0 ≤ (ji10)
        · rw [if_pos c11] at H
          have c11b0 := eq_true c11
          have c11b1 : decide (0 ≤ (ji10)) = true := decide_eq_true c11
          clear c11
          by_cases c12 : (ji10 : Int).toNat ≤ 11728124029610
          · rw [if_pos c12] at H
            have c12b0 := eq_true c12
            have c12b1 : decide ((ji10 : Int).toNat ≤ 11728124029610) = true := decide_eq_true c12
            clear c12
            obtain ⟨y172, hy172⟩ : ∃ y_ : List (S58), y_ = (List.replicate (ji10 : Int).toNat z58) := ⟨_, rfl⟩
            replace H : (impl_RibbonOf.l0 kj2 a1 ji10 y172 l0 (l0.length : Int) 0) = some (r1, r2, r3, r4, r5) := by first | (rw [hy172]; with_reducible exact H) | (have H2_ := (Option.bind_some _ _).symm.trans H; rw [hy172]; with_reducible exact H2_) | (have H2_ := (Option.bind_some _ _).symm.trans H; with_reducible exact H2_) | with_reducible exact H | (rw [hy172]; exact H) | exact H
            have Ny172 := Aside0.mk hy172
            clear hy172
            have H' := Aside0.mk H
            clear H
            go_wp2_with (first | ((with_reducible refine gate_dst (N := 32) rfl ?_); refine Kd.R_make k58 _ 58 rfl (N := 32) rfl 64 _ _ rfl ji10 rfl rfl Try.underlying64 (.agg #[(.int .i64 0), (.int .u64 0), (.int .u8 0)]) 24 info58 rfl (by decide) (by omega) z58 (ok := fun _ => True) (okp := fun _ => True) (k58_mkM _ _ _ z58 ) (fun _ hk => hk) trivial (of_decide_eq_true (by first | (with_reducible assumption) | assumption)) (Nat.le_trans (Nat.mul_le_mul_right _ (of_decide_eq_true (by first | (with_reducible assumption) | assumption) : ji10.toNat ≤ 11728124029610)) (by omega)) (Below.refl _ _) (Nat.le_refl _) ?_; intro v173 w13 ho14 hb hg_ hnew_; clear hg_ hnew_; (first | rw [← Ny172.out] at ho14 | (simp only [Int.reduceToNat] at ho14; rw [← Ny172.out] at ho14)); have n0_ := Aside0.mk (Kd.R_lower ho14 (below_size (by repeat (first | (with_reducible first | exact HB.out | apply below_alloc | apply pw_below_drewN | apply below_drew1 | refine below_set ?_ GE169.out) | exact HB.out)))); have n1_ := Aside0.mk (blk_below (g := gb169) (o := .cells #[.int .i64 0, .int .i64 0, .int .i64 0, .string (⟨#[]⟩ : ByteArray)] 26 (0, 0)) (by (with_reducible repeat (first | refine blk_drewN ?_ _ | refine blk_drew ?_ | refine blk_alloc ?_ _)); exact BK169.out) hb); have n2_ := Aside0.mk (below_step (by repeat (first | (with_reducible first | exact HB.out | apply below_alloc | apply pw_below_drewN | apply below_drew1 | refine below_set ?_ GE169.out) | exact HB.out)) hb); clear BK169; clear HB; have HO174 := n0_; have BK169 := n1_; have HB := n2_; clear n0_ n1_ n2_; clear hb ho14))
            go_loopg [35] kj2 (fun kq v35 w' => ∃ (x7_2 : List (S58)) (x35_2 : Int) (x170000_2 : Int) (x170001_2 : Int) (x170002_2 : Int) (x170003_2 : ByteArray), v35 = .int .i64 x35_2 ∧ Aside0 (impl_RibbonOf.l0 kq a1 ji10 x7_2 l0 (l0.length : Int) x35_2 = some (r1, r2, r3, r4, r5)) ∧ Aside0 (kq ≤ kj2) ∧ Aside0 (Kd.R k58 58 w' w.heap.size (fun _ => True) v173 x7_2) ∧ Aside0 (w'.heap[gb169]? = some (.cells #[.int .i64 x170000_2, .int .i64 x170001_2, .int .i64 x170002_2, .string x170003_2] 26 (0, 0))) ∧ Aside0 (Below w.heap.size w w'))
            case atStart => exact ⟨(y172), (0), (0), (0), (0), ((⟨#[]⟩ : ByteArray)), (by first | rfl | (simp; done) | (simp [*]; done)), H', ⟨Nat.le_refl _⟩, ⟨by (with_reducible repeat (first | apply Kd.R_alloc | apply Kd.R_drewN | apply Kd.R_drew)); exact HO174.out⟩, ⟨by (with_reducible repeat (first | refine blk_drewN ?_ _ | refine blk_drew ?_ | refine blk_alloc ?_ _)); exact BK169.out⟩, ⟨by repeat (first | (with_reducible first | exact HB.out | apply below_alloc | apply pw_below_drewN | apply below_drew1 | refine below_set ?_ GE169.out) | exact HB.out)⟩⟩
            case round =>
              clear H'
              try clear c1
              try clear p2
              try clear c3
              try clear c6
              try clear p6
              try clear c8
              try clear c11
              try clear c11b0
              try clear c11b1
              try clear c12
              try clear c12b0
              try clear c12b1
              try clear hcz9_0
              try clear hcz9_1
              try clear hcz9_2
              try clear hcz9_3
              try clear hfz9_0
              try clear hfz9_1
              try clear hfz9_2
              try clear hfz9_3
              try clear p2
              obtain ⟨x7_2, x35_2, x170000_2, x170001_2, x170002_2, x170003_2, rfl, HA, HK2, HO_7, BK169, HB⟩ := hrel
              cases gk with
              | zero => exact absurd HA.out (by simp [impl_RibbonOf.l0])
              | succ k2 =>
                have H := HA.out
                clear HA
                simp only [impl_RibbonOf.l0] at H
                by_cases c15 : x35_2 < (l0.length : Int)
                · rw [if_pos c15] at H
                  have c15b0 : decide (x35_2 < (l0.length : Int)) = true := decide_eq_true c15
                  clear c15
                  by_cases c16 : 0 ≤ x35_2
                  · rw [if_pos c16] at H
                    have c16b0 : decide (0 ≤ x35_2) = true := decide_eq_true c16
                    clear c16
                    by_cases c17 : x35_2 < (l0.length : Int)
                    · rw [if_pos c17] at H
                      have c17b0 : decide (x35_2 < (l0.length : Int)) = true := decide_eq_true c17
                      clear c17
                      replace H := Option.bind_eq_some_iff.mp H
                      obtain ⟨⟨t176, t177, t178⟩, A180, H⟩ := H
                      replace H : (impl_RibbonOf.l1 k2 a1 ji10 x7_2 l0 (l0.length : Int) x35_2 t176 t177 t178) = some (r1, r2, r3, r4, r5) := H
                      have A18 := Aside0.mk A180
                      clear A180
                      have H' := Aside0.mk H
                      clear H
                      have p175 : 0 ≤ (x35_2 : Int) := of_decide_eq_true (by first | (with_reducible assumption) | assumption)
                      have q175 : x35_2 < (l0.length : Int) := of_decide_eq_true (by first | (with_reducible assumption) | assumption)
                      obtain ⟨ad175, e175, hx175_0⟩ := Kd.at_string HR0.out x35_2 p175 q175
                      cases e175
                      replace hx175_0 := (HB.out.cell (World.block_lt_of_cell? w _ hx175_0)).trans hx175_0
                      replace p175 := eq_true p175
                      replace q175 := eq_true q175
                      go_wp2_with (first | ((with_reducible refine gate_callee (f := 34) rfl ?_); refine goesL_ (some 42) rfl rfl Try.func34 (by kernel_rfl) rfl #[.string (rdOf ByteArray.empty l0 x35_2), .int .i64 a1, .int .i64 ji10] rfl (by (try simp only [List.map_toArray, List.map_cons, List.map_nil]); first | done | (simp only [hji10]; rfl) | rfl | (simp only [List.length_drop, List.length_take]; rfl)) ?_; (with_reducible refine (impl_equationOf.calls k2 (rdOf ByteArray.empty l0 x35_2) a1 ji10 t176 t177 t178 _ A18.out).mono ?_); rintro e w19 ⟨rfl, hb⟩; refine ⟨_, rfl, ?_⟩; have n0_ := Aside0.mk (Kd.R_below (by (with_reducible repeat (first | apply Kd.R_alloc | apply Kd.R_drewN | apply Kd.R_drew)); exact HO_7.out) hb); have n1_ := Aside0.mk (blk_below (g := gb169) (o := .cells #[.int .i64 x170000_2, .int .i64 x170001_2, .int .i64 x170002_2, .string x170003_2] 26 (0, 0)) (by (with_reducible repeat (first | refine blk_drewN ?_ _ | refine blk_drew ?_ | refine blk_alloc ?_ _)); exact BK169.out) hb); have n2_ := Aside0.mk (below_step (by repeat (first | (with_reducible first | exact HB.out | apply below_alloc | apply pw_below_drewN | apply below_drew1 | refine below_set ?_ GE169.out) | exact HB.out)) hb); clear HO_7; clear BK169; clear HB; have HO_7 := n0_; have BK169 := n1_; have HB := n2_; clear n0_ n1_ n2_; (try clear hb); (try clear hb2); (try clear hk); (try clear hi)) | ((with_reducible refine gate_dst (N := 10) rfl ?_); refine box_event ?hg (N := 10) ?hd (cs := #[.int .i64 0, .int .u64 0, .int .u8 0]) (t := 58) ?hr ?_; (case hd => rfl); (case hg => rfl); (case hr => first | (go_simp; done) | (go_simp; rfl)); intro gb179 hg w20 hbox hb; have n0_ := Aside0.mk (Kd.R_below (Kd.R_elderB (by (with_reducible repeat (first | apply Kd.R_alloc | apply Kd.R_drewN | apply Kd.R_drew)); exact HO_7.out) gb179 (Nat.le_of_eq hg.symm)) hb); have n1_ := Aside0.mk (blk_below (g := gb169) (o := .cells #[.int .i64 x170000_2, .int .i64 x170001_2, .int .i64 x170002_2, .string x170003_2] 26 (0, 0)) (by (with_reducible repeat (first | refine blk_drewN ?_ _ | refine blk_drew ?_ | refine blk_alloc ?_ _)); exact BK169.out) hb); have n2_ := Aside0.mk (below_step (by repeat (first | (with_reducible first | exact HB.out | apply below_alloc | apply pw_below_drewN | apply below_drew1 | refine below_set ?_ GE169.out) | exact HB.out)) hb); have n3_ := Aside0.mk (hbox); have n4_ := Aside0.mk ((by rw [hg]; exact (below_size (by repeat (first | (with_reducible first | exact HB.out | apply below_alloc | apply pw_below_drewN | apply below_drew1 | refine below_set ?_ GE169.out) | exact HB.out))) : w.heap.size ≤ gb179)); have n5_ := Aside0.mk ((by rw [hg]; exact (below_size (by repeat (first | (with_reducible first | exact HB.out | apply below_alloc | apply pw_below_drewN | apply below_drew1 | refine below_set ?_ GE169.out) | exact HB.out))) : w.heap.size ≤ gb179)); have n6_ := Aside0.mk ((by rw [hg]; exact Nat.ne_of_lt (blk_lt (g := gb169) (o := .cells #[.int .i64 x170000_2, .int .i64 x170001_2, .int .i64 x170002_2, .string x170003_2] 26 (0, 0)) (by (with_reducible repeat (first | refine blk_drewN ?_ _ | refine blk_drew ?_ | refine blk_alloc ?_ _)); exact BK169.out)) : gb169 ≠ gb179)); have n7_ := Aside0.mk ((by rw [hg]; exact Nat.ne_of_gt (blk_lt (g := gb169) (o := .cells #[.int .i64 x170000_2, .int .i64 x170001_2, .int .i64 x170002_2, .string x170003_2] 26 (0, 0)) (by (with_reducible repeat (first | refine blk_drewN ?_ _ | refine blk_drew ?_ | refine blk_alloc ?_ _)); exact BK169.out)) : gb179 ≠ gb169)); clear HO_7; clear BK169; clear HB; have HO_7 := n0_; have BK169 := n1_; have HB := n2_; have BK179 := n3_; have GW179 := n4_; have GE179 := n5_; have NB169_179 := n6_; have NB179_169 := n7_; clear n0_ n1_ n2_ n3_ n4_ n5_ n6_ n7_; clear hb hbox hg; have hnb21 := NB179_169.out; have hnc21 := NB169_179.out; have hcz22_0 : w20.cell? ⟨gb179, 0, none⟩ = some (.int .i64 0) := (blk_cell BK179.out 0).trans rfl; have hcz22_1 : w20.cell? ⟨gb179, 1, none⟩ = some (.int .u64 0) := (blk_cell BK179.out 1).trans rfl; have hcz22_2 : w20.cell? ⟨gb179, 2, none⟩ = some (.int .u8 0) := (blk_cell BK179.out 2).trans rfl; have hfz22_0 := blk_frozen BK179.out 0; have hfz22_1 := blk_frozen BK179.out 1; have hfz22_2 := blk_frozen BK179.out 2))
                      go_loopg [] k2 (fun kq w' => ∃ (x7_3 : List (S58)) (x180000_3 : Int) (x180001_3 : Int) (x180002_3 : Int), Aside0 (impl_RibbonOf.l1 kq a1 ji10 x7_3 l0 (l0.length : Int) x35_2 x180000_3 x180001_3 x180002_3 = some (r1, r2, r3, r4, r5)) ∧ Aside0 (kq ≤ k2) ∧ Aside0 (Kd.R k58 58 w' w.heap.size (fun k_ => k_ ≠ gb179) v173 x7_3) ∧ Aside0 (w'.heap[gb169]? = some (.cells #[.int .i64 x170000_2, .int .i64 x170001_2, .int .i64 x170002_2, .string x170003_2] 26 (0, 0))) ∧ Aside0 (w'.heap[gb179]? = some (.cells #[.int .i64 x180000_3, .int .u64 x180001_3, .int .u8 x180002_3] 58 (0, 0))) ∧ Aside0 (Below w.heap.size w w'))
                      case atStart => exact ⟨(x7_2), (t176), (t177), (t178), H', ⟨Nat.le_refl _⟩, ⟨by (with_reducible repeat (first | apply Kd.R_alloc | apply Kd.R_drewN | apply Kd.R_drew)); exact Kd.R_mono (Kd.R_far (p := ⟨gb179, 2, none⟩) (Kd.R_far (p := ⟨gb179, 1, none⟩) (Kd.R_far (p := ⟨gb179, 0, none⟩) (Kd.R_mono HO_7.out (fun k_ hk => (⟨hk, hk.2⟩ : _ ∧ k_ ≠ gb179))) (fun _ hk => hk.2) (.int .i64 t176)) (fun _ hk => hk.2) (.int .u64 t177)) (fun _ hk => hk.2) (.int .u8 t178)) (fun _ hk => hk.1.2)⟩, ⟨by (with_reducible repeat (first | refine blk_drewN ?_ _ | refine blk_drew ?_ | refine blk_alloc ?_ _)); refine blk_far ?_ NB169_179.out _; (with_reducible repeat (first | refine blk_drewN ?_ _ | refine blk_drew ?_ | refine blk_alloc ?_ _)); refine blk_far ?_ NB169_179.out _; (with_reducible repeat (first | refine blk_drewN ?_ _ | refine blk_drew ?_ | refine blk_alloc ?_ _)); refine blk_far ?_ NB169_179.out _; (with_reducible repeat (first | refine blk_drewN ?_ _ | refine blk_drew ?_ | refine blk_alloc ?_ _)); exact BK169.out⟩, ⟨by (with_reducible repeat (first | refine blk_drewN ?_ _ | refine blk_drew ?_ | refine blk_alloc ?_ _)); refine blk_put (cs := #[.int .i64 t176, .int .u64 t177, .int .u8 0]) ?_ 2 _ rfl; (with_reducible repeat (first | refine blk_drewN ?_ _ | refine blk_drew ?_ | refine blk_alloc ?_ _)); refine blk_put (cs := #[.int .i64 t176, .int .u64 0, .int .u8 0]) ?_ 1 _ rfl; (with_reducible repeat (first | refine blk_drewN ?_ _ | refine blk_drew ?_ | refine blk_alloc ?_ _)); refine blk_put (cs := #[.int .i64 0, .int .u64 0, .int .u8 0]) ?_ 0 _ rfl; (with_reducible repeat (first | refine blk_drewN ?_ _ | refine blk_drew ?_ | refine blk_alloc ?_ _)); exact BK179.out⟩, ⟨by repeat (first | (with_reducible first | exact HB.out | apply below_alloc | apply pw_below_drewN | apply below_drew1 | refine below_set ?_ GE169.out | refine below_set ?_ GE179.out) | exact HB.out)⟩⟩
                      case round =>
                        clear H'
                        try clear c1
                        try clear p1
                        try clear q1
                        try clear hx1
                        try clear c2
                        try clear p2
                        try clear c3
                        try clear c6
                        try clear p6
                        try clear c8
                        try clear c11
                        try clear c11b0
                        try clear c11b1
                        try clear c12
                        try clear c12b0
                        try clear c12b1
                        try clear c15
                        try clear c15b0
                        try clear c16
                        try clear c16b0
                        try clear c17
                        try clear c17b0
                        try clear p17
                        try clear q17
                        try clear hx17
                        try clear c21
                        try clear hcz22_0
                        try clear hcz22_1
                        try clear hcz22_2
                        try clear hcz9_0
                        try clear hcz9_1
                        try clear hcz9_2
                        try clear hcz9_3
                        try clear hfz22_0
                        try clear hfz22_1
                        try clear hfz22_2
                        try clear hfz9_0
                        try clear hfz9_1
                        try clear hfz9_2
                        try clear hfz9_3
                        try clear hx175_0
                        try clear p175
                        try clear p2
                        try clear p6
                        try clear q175
                        obtain ⟨x7_3, x180000_3, x180001_3, x180002_3, HA, HK3, HO_7, BK169, BK179, HB⟩ := hrel
                        cases gk with
                        | zero => exact absurd HA.out (by simp [impl_RibbonOf.l1])
                        | succ k3 =>
                          have H := HA.out
                          clear HA
                          simp only [impl_RibbonOf.l1] at H
                          by_cases c23 : x180001_3 = 0
                          · rw [if_pos c23] at H
                            have c23b0 : (x180001_3 == 0) = true := beq_iff_eq.mpr c23
                            have c23b1 : (x180001_3 != 0) = false := bne_eq_false_iff_eq.mpr c23
                            clear c23
                            by_cases c24 : x180002_3 = 0
                            · rw [if_pos c24] at H
                              have c24b0 : (x180002_3 == 0) = true := beq_iff_eq.mpr c24
                              have c24b1 : (x180002_3 != 0) = false := bne_eq_false_iff_eq.mpr c24
                              clear c24
                              have H' := Aside0.mk H
                              clear H
                              have hnb25 := NB179_169.out
                              have hnc25 := NB169_179.out
                              have hcz26_0 : wr.cell? ⟨gb179, 0, none⟩ = some (.int .i64 x180000_3) := (blk_cell BK179.out 0).trans rfl
                              have hcz26_1 : wr.cell? ⟨gb179, 1, none⟩ = some (.int .u64 x180001_3) := (blk_cell BK179.out 1).trans rfl
                              have hcz26_2 : wr.cell? ⟨gb179, 2, none⟩ = some (.int .u8 x180002_3) := (blk_cell BK179.out 2).trans rfl
                              have hfz26_0 := blk_frozen BK179.out 0
                              have hfz26_1 := blk_frozen BK179.out 1
                              have hfz26_2 := blk_frozen BK179.out 2
                              go_wp2
                              go_roundg k3
                              case measure => have := HJ2.out; have := HK2.out; have := HK3.out; omega
                              case rel => exact ⟨(x7_3), (wrap64 (x35_2 + 1)), (x170000_2), (x170001_2), (x170002_2), (x170003_2), (by first | rfl | (simp; done) | (simp [*]; done)), H', ⟨by have := HJ2.out; have := HK2.out; have := HK3.out; omega⟩, ⟨by (with_reducible repeat (first | apply Kd.R_alloc | apply Kd.R_drewN | apply Kd.R_drew)); exact Kd.R_mono HO_7.out (fun _ hk => trivial)⟩, ⟨by (with_reducible repeat (first | refine blk_drewN ?_ _ | refine blk_drew ?_ | refine blk_alloc ?_ _)); exact BK169.out⟩, ⟨by repeat (first | (with_reducible first | exact HB.out | apply below_alloc | apply pw_below_drewN | apply below_drew1 | refine below_set ?_ GE169.out | refine below_set ?_ GE179.out) | exact HB.out)⟩⟩
                            · rw [if_neg c24] at H
                              have c24b0 : (x180002_3 == 0) = false := beq_eq_false_iff_ne.mpr c24
                              have c24b1 : (x180002_3 != 0) = true := bne_iff_ne.mpr c24
                              simp only [Option.some.injEq, Prod.mk.injEq] at H
                              obtain ⟨rfl, rfl, rfl, rfl, rfl⟩ := H
                              have hnb27 := NB179_169.out
                              have hnc27 := NB169_179.out
                              have hcz28_0 : wr.cell? ⟨gb179, 0, none⟩ = some (.int .i64 x180000_3) := (blk_cell BK179.out 0).trans rfl
                              have hcz28_1 : wr.cell? ⟨gb179, 1, none⟩ = some (.int .u64 x180001_3) := (blk_cell BK179.out 1).trans rfl
                              have hcz28_2 : wr.cell? ⟨gb179, 2, none⟩ = some (.int .u8 x180002_3) := (blk_cell BK179.out 2).trans rfl
                              have hfz28_0 := blk_frozen BK179.out 0
                              have hfz28_1 := blk_frozen BK179.out 1
                              have hfz28_2 := blk_frozen BK179.out 2
                              have hcz29_0 : wr.cell? ⟨gb169, 0, none⟩ = some (.int .i64 x170000_2) := (blk_cell BK169.out 0).trans rfl
                              have hcz29_1 : wr.cell? ⟨gb169, 1, none⟩ = some (.int .i64 x170001_2) := (blk_cell BK169.out 1).trans rfl
                              have hcz29_2 : wr.cell? ⟨gb169, 2, none⟩ = some (.int .i64 x170002_2) := (blk_cell BK169.out 2).trans rfl
                              have hcz29_3 : wr.cell? ⟨gb169, 3, none⟩ = some (.string x170003_2) := (blk_cell BK169.out 3).trans rfl
                              have hfz29_0 := blk_frozen BK169.out 0
                              have hfz29_1 := blk_frozen BK169.out 1
                              have hfz29_2 := blk_frozen BK169.out 2
                              have hfz29_3 := blk_frozen BK169.out 3
                              go_wp2
                              refine bodyPost_ret (results_ct rfl _ _ gb169 26 #[.int .i64 0, .int .i64 0, .int .i64 0, .string (⟨#[]⟩ : ByteArray)] (0, 0) _ rfl (by (with_reducible repeat (first | refine blk_drewN ?_ _ | refine blk_drew ?_ | refine blk_alloc ?_ _)); refine blk_put (cs := #[.int .i64 0, .int .i64 0, .int .i64 0, .string x170003_2]) ?_ 3 _ rfl; (with_reducible repeat (first | refine blk_drewN ?_ _ | refine blk_drew ?_ | refine blk_alloc ?_ _)); refine blk_put (cs := #[.int .i64 0, .int .i64 0, .int .i64 x170002_2, .string x170003_2]) ?_ 2 _ rfl; (with_reducible repeat (first | refine blk_drewN ?_ _ | refine blk_drew ?_ | refine blk_alloc ?_ _)); refine blk_put (cs := #[.int .i64 0, .int .i64 x170001_2, .int .i64 x170002_2, .string x170003_2]) ?_ 1 _ rfl; (with_reducible repeat (first | refine blk_drewN ?_ _ | refine blk_drew ?_ | refine blk_alloc ?_ _)); refine blk_put (cs := #[.int .i64 x170000_2, .int .i64 x170001_2, .int .i64 x170002_2, .string x170003_2]) ?_ 0 _ rfl; (with_reducible repeat (first | refine blk_drewN ?_ _ | refine blk_drew ?_ | refine blk_alloc ?_ _)); exact BK169.out) Try.underlying26 rfl (by kernel_rfl)) rfl ?_
                              exact ⟨by first | rfl | (simp [errW_none, errW_some] <;> rfl) | (simp only [← hji10]; first | rfl | (simp [errW_none, errW_some] <;> rfl)) | (simp [*, errW_none, errW_some] <;> rfl), by repeat (first | (with_reducible first | exact HB.out | apply below_alloc | apply pw_below_drewN | apply below_drew1 | refine below_set ?_ GE169.out | refine below_set ?_ GE179.out) | exact HB.out)⟩
                          · rw [if_neg c23] at H
                            have c23b0 : (x180001_3 == 0) = false := beq_eq_false_iff_ne.mpr c23
                            have c23b1 : (x180001_3 != 0) = true := bne_iff_ne.mpr c23
                            have H' := Aside0.mk H
                            clear H
                            have hnb30 := NB179_169.out
                            have hnc30 := NB169_179.out
                            have hcz31_0 : wr.cell? ⟨gb179, 0, none⟩ = some (.int .i64 x180000_3) := (blk_cell BK179.out 0).trans rfl
                            have hcz31_1 : wr.cell? ⟨gb179, 1, none⟩ = some (.int .u64 x180001_3) := (blk_cell BK179.out 1).trans rfl
                            have hcz31_2 : wr.cell? ⟨gb179, 2, none⟩ = some (.int .u8 x180002_3) := (blk_cell BK179.out 2).trans rfl
                            have hfz31_0 := blk_frozen BK179.out 0
                            have hfz31_1 := blk_frozen BK179.out 1
                            have hfz31_2 := blk_frozen BK179.out 2
                            go_wp2
                            go_loopg [] k3 (fun kq w' => ∃ (x180000_4 : Int) (x180001_4 : Int), Aside0 (impl_RibbonOf.l2 kq a1 ji10 x7_3 l0 (l0.length : Int) x35_2 x180000_4 x180001_4 x180002_3 = some (r1, r2, r3, r4, r5)) ∧ Aside0 (kq ≤ k3) ∧ Aside0 (Kd.R k58 58 w' w.heap.size (fun k_ => k_ ≠ gb179) v173 x7_3) ∧ Aside0 (w'.heap[gb169]? = some (.cells #[.int .i64 x170000_2, .int .i64 x170001_2, .int .i64 x170002_2, .string x170003_2] 26 (0, 0))) ∧ Aside0 (w'.heap[gb179]? = some (.cells #[.int .i64 x180000_4, .int .u64 x180001_4, .int .u8 x180002_3] 58 (0, 0))) ∧ Aside0 (Below w.heap.size w w'))
                            case atStart => exact ⟨(x180000_3), (x180001_3), H', ⟨Nat.le_refl _⟩, ⟨by (with_reducible repeat (first | apply Kd.R_alloc | apply Kd.R_drewN | apply Kd.R_drew)); exact HO_7.out⟩, ⟨by (with_reducible repeat (first | refine blk_drewN ?_ _ | refine blk_drew ?_ | refine blk_alloc ?_ _)); exact BK169.out⟩, ⟨by (with_reducible repeat (first | refine blk_drewN ?_ _ | refine blk_drew ?_ | refine blk_alloc ?_ _)); exact BK179.out⟩, ⟨by repeat (first | (with_reducible first | exact HB.out | apply below_alloc | apply pw_below_drewN | apply below_drew1 | refine below_set ?_ GE169.out | refine below_set ?_ GE179.out) | exact HB.out)⟩⟩
                            case round =>
                              clear H'
                              try clear c1
                              try clear p1
                              try clear q1
                              try clear hx1
                              try clear c2
                              try clear p2
                              try clear c3
                              try clear c6
                              try clear p6
                              try clear c8
                              try clear c11
                              try clear c11b0
                              try clear c11b1
                              try clear c12
                              try clear c12b0
                              try clear c12b1
                              try clear c15
                              try clear c15b0
                              try clear c16
                              try clear c16b0
                              try clear c17
                              try clear c17b0
                              try clear p17
                              try clear q17
                              try clear hx17
                              try clear c21
                              try clear c23
                              try clear c23b0
                              try clear c23b1
                              try clear c24
                              try clear c24b0
                              try clear c24b1
                              try clear c25
                              try clear c27
                              try clear c30
                              try clear hcz22_0
                              try clear hcz22_1
                              try clear hcz22_2
                              try clear hcz26_0
                              try clear hcz26_1
                              try clear hcz26_2
                              try clear hcz28_0
                              try clear hcz28_1
                              try clear hcz28_2
                              try clear hcz29_0
                              try clear hcz29_1
                              try clear hcz29_2
                              try clear hcz29_3
                              try clear hcz31_0
                              try clear hcz31_1
                              try clear hcz31_2
                              try clear hcz9_0
                              try clear hcz9_1
                              try clear hcz9_2
                              try clear hcz9_3
                              try clear hfz22_0
                              try clear hfz22_1
                              try clear hfz22_2
                              try clear hfz26_0
                              try clear hfz26_1
                              try clear hfz26_2
                              try clear hfz28_0
                              try clear hfz28_1
                              try clear hfz28_2
                              try clear hfz29_0
                              try clear hfz29_1
                              try clear hfz29_2
                              try clear hfz29_3
                              try clear hfz31_0
                              try clear hfz31_1
                              try clear hfz31_2
                              try clear hfz9_0
                              try clear hfz9_1
                              try clear hfz9_2
                              try clear hfz9_3
                              try clear hx175_0
                              try clear p1
                              try clear p17
                              try clear p175
                              try clear p2
                              try clear p6
                              try clear q1
                              try clear q17
                              try clear q175
                              obtain ⟨x180000_4, x180001_4, HA, HK4, HO_7, BK169, BK179, HB⟩ := hrel
                              cases gk with
                              | zero => exact absurd HA.out (by simp [impl_RibbonOf.l2])
                              | succ k4 =>
                                have H := HA.out
                                clear HA
                                simp only [impl_RibbonOf.l2] at H
                                by_cases c32 : (Go.bits .and .u64 x180001_4 1) = 0
                                · rw [if_pos c32] at H
                                  have c32b0 : ((Go.bits .and .u64 x180001_4 1) == 0) = true := beq_iff_eq.mpr c32
                                  have c32b1 : ((Go.bits .and .u64 x180001_4 1) != 0) = false := bne_eq_false_iff_eq.mpr c32
                                  clear c32
                                  have H' := Aside0.mk H
                                  clear H
                                  have hnb33 := NB179_169.out
                                  have hnc33 := NB169_179.out
                                  have hcz34_0 : wr.cell? ⟨gb179, 0, none⟩ = some (.int .i64 x180000_4) := (blk_cell BK179.out 0).trans rfl
                                  have hcz34_1 : wr.cell? ⟨gb179, 1, none⟩ = some (.int .u64 x180001_4) := (blk_cell BK179.out 1).trans rfl
                                  have hcz34_2 : wr.cell? ⟨gb179, 2, none⟩ = some (.int .u8 x180002_3) := (blk_cell BK179.out 2).trans rfl
                                  have hfz34_0 := blk_frozen BK179.out 0
                                  have hfz34_1 := blk_frozen BK179.out 1
                                  have hfz34_2 := blk_frozen BK179.out 2
                                  go_wp2
                                  go_roundg k4
                                  case measure => have := HJ2.out; have := HK2.out; have := HK3.out; have := HK4.out; omega
                                  case rel => exact ⟨(wrap64 (x180000_4 + 1)), (x180001_4 / 2), H', ⟨by have := HJ2.out; have := HK2.out; have := HK3.out; have := HK4.out; omega⟩, ⟨by (with_reducible repeat (first | apply Kd.R_alloc | apply Kd.R_drewN | apply Kd.R_drew)); exact Kd.R_mono (Kd.R_far (p := ⟨gb179, 0, none⟩) (Kd.R_far (p := ⟨gb179, 1, none⟩) (Kd.R_mono HO_7.out (fun k_ hk => (⟨hk, hk⟩ : _ ∧ k_ ≠ gb179))) (fun _ hk => hk.2) (.int .u64 (x180001_4 / 2))) (fun _ hk => hk.2) (.int .i64 (wrap64 (x180000_4 + 1)))) (fun _ hk => hk.1)⟩, ⟨by (with_reducible repeat (first | refine blk_drewN ?_ _ | refine blk_drew ?_ | refine blk_alloc ?_ _)); refine blk_far ?_ NB169_179.out _; (with_reducible repeat (first | refine blk_drewN ?_ _ | refine blk_drew ?_ | refine blk_alloc ?_ _)); refine blk_far ?_ NB169_179.out _; (with_reducible repeat (first | refine blk_drewN ?_ _ | refine blk_drew ?_ | refine blk_alloc ?_ _)); exact BK169.out⟩, ⟨by (with_reducible repeat (first | refine blk_drewN ?_ _ | refine blk_drew ?_ | refine blk_alloc ?_ _)); refine blk_put (cs := #[.int .i64 x180000_4, .int .u64 (x180001_4 / 2), .int .u8 x180002_3]) ?_ 0 _ rfl; (with_reducible repeat (first | refine blk_drewN ?_ _ | refine blk_drew ?_ | refine blk_alloc ?_ _)); refine blk_put (cs := #[.int .i64 x180000_4, .int .u64 x180001_4, .int .u8 x180002_3]) ?_ 1 _ rfl; (with_reducible repeat (first | refine blk_drewN ?_ _ | refine blk_drew ?_ | refine blk_alloc ?_ _)); exact BK179.out⟩, ⟨by repeat (first | (with_reducible first | exact HB.out | apply below_alloc | apply pw_below_drewN | apply below_drew1 | refine below_set ?_ GE169.out | refine below_set ?_ GE179.out) | exact HB.out)⟩⟩
                                · rw [if_neg c32] at H
                                  have c32b0 : ((Go.bits .and .u64 x180001_4 1) == 0) = false := beq_eq_false_iff_ne.mpr c32
                                  have c32b1 : ((Go.bits .and .u64 x180001_4 1) != 0) = true := bne_iff_ne.mpr c32
                                  by_cases c35 : 0 ≤ x180000_4
                                  · rw [if_pos c35] at H
                                    have c35b0 : decide (0 ≤ x180000_4) = true := decide_eq_true c35
                                    clear c35
                                    by_cases c36 : x180000_4 < (x7_3.length : Int)
                                    · rw [if_pos c36] at H
                                      have c36b0 : decide (x180000_4 < (x7_3.length : Int)) = true := decide_eq_true c36
                                      clear c36
                                      by_cases c38 : ((rd_T58 x7_3 x180000_4).f1) = 0
                                      · rw [if_pos c38] at H
                                        have c38b0 : (((rd_T58 x7_3 x180000_4).f1) == 0) = true := beq_iff_eq.mpr c38
                                        have c38b1 : (((rd_T58 x7_3 x180000_4).f1) != 0) = false := bne_eq_false_iff_eq.mpr c38
                                        clear c38
                                        obtain ⟨y181, hy181⟩ : ∃ y_ : List (S58), y_ = (x7_3.set (x180000_4 : Int).toNat (⟨x180000_4, x180001_4, x180002_3⟩ : S58)) := ⟨_, rfl⟩
                                        replace H : (if x180001_4 = 0 then (if x180002_3 = 0 then (impl_RibbonOf.l0 k4 a1 ji10 y181 l0 (l0.length : Int) (wrap64 (x35_2 + 1))) else (some (0, 0, 0, (⟨#[]⟩ : ByteArray), false))) else (impl_RibbonOf.l0 k4 a1 ji10 y181 l0 (l0.length : Int) (wrap64 (x35_2 + 1)))) = some (r1, r2, r3, r4, r5) := by first | (rw [hy181]; with_reducible exact H) | (have H2_ := (Option.bind_some _ _).symm.trans H; rw [hy181]; with_reducible exact H2_) | (have H2_ := (Option.bind_some _ _).symm.trans H; with_reducible exact H2_) | with_reducible exact H | (rw [hy181]; exact H) | exact H
                                        have Ny181 := Aside0.mk hy181
                                        clear hy181
                                        by_cases c39 : x180001_4 = 0
                                        · rw [if_pos c39] at H
                                          have c39b0 : (x180001_4 == 0) = true := beq_iff_eq.mpr c39
                                          have c39b1 : (x180001_4 != 0) = false := bne_eq_false_iff_eq.mpr c39
                                          clear c39
                                          by_cases c40 : x180002_3 = 0
                                          · rw [if_pos c40] at H
                                            have c40b0 : (x180002_3 == 0) = true := beq_iff_eq.mpr c40
                                            have c40b1 : (x180002_3 != 0) = false := bne_eq_false_iff_eq.mpr c40
                                            clear c40
                                            have H' := Aside0.mk H
                                            clear H
                                            have hnb41 := NB179_169.out
                                            have hnc41 := NB169_179.out
                                            have hcz42_0 : wr.cell? ⟨gb179, 0, none⟩ = some (.int .i64 x180000_4) := (blk_cell BK179.out 0).trans rfl
                                            have hcz42_1 : wr.cell? ⟨gb179, 1, none⟩ = some (.int .u64 x180001_4) := (blk_cell BK179.out 1).trans rfl
                                            have hcz42_2 : wr.cell? ⟨gb179, 2, none⟩ = some (.int .u8 x180002_3) := (blk_cell BK179.out 2).trans rfl
                                            have hfz42_0 := blk_frozen BK179.out 0
                                            have hfz42_1 := blk_frozen BK179.out 1
                                            have hfz42_2 := blk_frozen BK179.out 2
                                            have p37 : 0 ≤ (x180000_4 : Int) := of_decide_eq_true (by first | (with_reducible assumption) | assumption)
                                            have q37 : (x180000_4 : Int) < ((x7_3.length : Int) : Int) := of_decide_eq_true (by first | (with_reducible assumption) | assumption)
                                            obtain ⟨go37, co37, eo37, gb37, gl37, cl37, HG37⟩ := Kd.R_form HO_7.out (by omega)
                                            (first | cases eo37 | (injection eo37 with ea_ en_ ec_; (first | subst ea_ | (injection ea_ with ea_; subst ea_)); subst ec_; clear en_))
                                            have GB37 := Aside0.mk gb37
                                            have GG37 := Aside0.mk HG37
                                            clear gb37 gl37 HG37
                                            obtain ⟨ce37, hcl37, hM37, hcc37, hfr37⟩ := Kd.R_elem HO_7.out z58 (x180000_4 : Int) p37 q37
                                            obtain rfl := k58_openM hM37
                                            have hx37_0 : wr.cell? ⟨go37, (x180000_4 : Int).toNat * 3, none⟩ = some (.int .i64 ((rd_T58 x7_3 x180000_4).f0)) := hcc37 0 _ rfl
                                            have hx37_1 : wr.cell? ⟨go37, (x180000_4 : Int).toNat * 3 + 1, none⟩ = some (.int .u64 ((rd_T58 x7_3 x180000_4).f1)) := hcc37 1 _ rfl
                                            have hx37_2 : wr.cell? ⟨go37, (x180000_4 : Int).toNat * 3 + 2, none⟩ = some (.int .u8 ((rd_T58 x7_3 x180000_4).f2)) := hcc37 2 _ rfl
                                            have hf37_0 : wr.frozen? ⟨go37, (x180000_4 : Int).toNat * 3, none⟩ = false := hfr37 0
                                            have hf37_1 : wr.frozen? ⟨go37, (x180000_4 : Int).toNat * 3 + 1, none⟩ = false := hfr37 1
                                            have hf37_2 : wr.frozen? ⟨go37, (x180000_4 : Int).toNat * 3 + 2, none⟩ = false := hfr37 2
                                            clear hcl37 hcc37 hfr37 hM37
                                            replace p37 := eq_true p37
                                            replace q37 := eq_true q37
                                            have p180 : 0 ≤ (x180000_4 : Int) := of_decide_eq_true (by first | (with_reducible assumption) | assumption)
                                            have q180 : x180000_4 < (x7_3.length : Int) := of_decide_eq_true (by first | (with_reducible assumption) | assumption)
                                            obtain ⟨ad180, e180, hx180_0, hx180_1, hx180_2⟩ := at_T58 (Kd.R_reads' HO_7.out).2.2 x180000_4 p180 q180
                                            obtain rfl : (⟨go37, 0, none⟩ : Addr) = ad180 := (by injection e180)
                                            (first | simp only [add_plain] at hx180_0 | simp only [add_at] at hx180_0 | simp only [Addr.add, Nat.zero_add] at hx180_0 | skip)
                                            (first | simp only [add_plain] at hx180_1 | simp only [add_at] at hx180_1 | simp only [Addr.add, Nat.zero_add] at hx180_1 | skip)
                                            (first | simp only [add_plain] at hx180_2 | simp only [add_at] at hx180_2 | simp only [Addr.add, Nat.zero_add] at hx180_2 | skip)
                                            replace p180 := eq_true p180
                                            replace q180 := eq_true q180
                                            have HX43 := Aside0.mk (show Kd.R k58 58 wr w.heap.size (fun k_ => k_ ≠ gb179) (.slice (some ⟨go37, 0, none⟩) x7_3.length co37) x7_3 from (by (with_reducible repeat (first | apply Kd.R_alloc | apply Kd.R_drewN | apply Kd.R_drew)); exact HO_7.out))
                                            obtain ⟨ce43, hcl43, hM43, hcc43, hfr43⟩ := Kd.R_elem HX43.out z58 (x180000_4 : Int) (of_decide_eq_true (by first | (with_reducible assumption) | assumption)) (by have h_ : (x180000_4 : Int) < ((x7_3.length : Int) : Int) := of_decide_eq_true (by first | (with_reducible assumption) | assumption); first | exact h_ | (have e_ := (Kd.R_reads' HO_7.out).1; omega) | simpa using h_)
                                            obtain rfl := k58_openM hM43
                                            have HP43 := Kd.R_seg HX43.out (x180000_4 : Int) (of_decide_eq_true (by first | (with_reducible assumption) | assumption)) (by have h_ : (x180000_4 : Int) < ((x7_3.length : Int) : Int) := of_decide_eq_true (by first | (with_reducible assumption) | assumption); first | exact h_ | (have e_ := (Kd.R_reads' HO_7.out).1; omega) | simpa using h_) (seg := [.int .i64 x180000_4, .int .u64 x180001_4, .int .u8 x180002_3]) (j := 0) hcl43 hcc43 (show 3 ≤ 3 from by decide) (x' := (⟨x180000_4, x180001_4, x180002_3⟩ : S58)) (k58_mkM _ _ _ (⟨x180000_4, x180001_4, x180002_3⟩ : S58) ) (fun _ hk => hk)
                                            have hx43_0 := hcc43 0 _ rfl
                                            (try simp only [show (k58).sz = 3 from rfl, Nat.mul_one, Nat.add_zero] at hx43_0)
                                            have hf43_0 := hfr43 0
                                            (try simp only [show (k58).sz = 3 from rfl, Nat.mul_one, Nat.add_zero] at hf43_0)
                                            have hx43_1 := hcc43 1 _ rfl
                                            (try simp only [show (k58).sz = 3 from rfl, Nat.mul_one, Nat.add_zero] at hx43_1)
                                            have hf43_1 := hfr43 1
                                            (try simp only [show (k58).sz = 3 from rfl, Nat.mul_one, Nat.add_zero] at hf43_1)
                                            have hx43_2 := hcc43 2 _ rfl
                                            (try simp only [show (k58).sz = 3 from rfl, Nat.mul_one, Nat.add_zero] at hx43_2)
                                            have hf43_2 := hfr43 2
                                            (try simp only [show (k58).sz = 3 from rfl, Nat.mul_one, Nat.add_zero] at hf43_2)
                                            clear hcl43 hcc43 hfr43 hM43
                                            go_wp2_with (first | ((with_reducible refine gate_store (t := 58) (p := 69) rfl ?_); refine store_event (t := 58) (p := 69) (v := ?vo_w44) (w1 := (((wr.setCell ⟨go37, (x180000_4 : Int).toNat * 3, none⟩ (.int .i64 x180000_4)).setCell ⟨go37, (x180000_4 : Int).toNat * 3 + 1, none⟩ (.int .u64 x180001_4)).setCell ⟨go37, (x180000_4 : Int).toNat * 3 + 2, none⟩ (.int .u8 x180002_3))) ?hg ?ho ?hn ?hr ?_; (case ho => rfl); (case hg => rfl); (case hn => rfl); (case hr => first | (go_simp; done) | (go_simp; rfl)); intro w44 hw; have hg : wr.grownBy w44 (some go37) := (by rw [hw]; exact HP43.2); have hp_ : Kd.R k58 58 w44 w.heap.size (fun k_ => k_ ≠ gb179) (.slice (some ⟨go37, 0, none⟩) x7_3.length co37) y181 := (by rw [hw, Ny181.out]; exact HP43.1); clear HP43; have n0_ := Aside0.mk (hp_); have n1_ := Aside0.mk (blk_grown (g := gb169) (o := .cells #[.int .i64 x170000_2, .int .i64 x170001_2, .int .i64 x170002_2, .string x170003_2] 26 (0, 0)) (by (with_reducible repeat (first | refine blk_drewN ?_ _ | refine blk_drew ?_ | refine blk_alloc ?_ _)); exact BK169.out) hg (Kd.R_ne HO_7.out BK169.out (by decide))); have n2_ := Aside0.mk (blk_grown (g := gb179) (o := .cells #[.int .i64 x180000_4, .int .u64 x180001_4, .int .u8 x180002_3] 58 (0, 0)) (by (with_reducible repeat (first | refine blk_drewN ?_ _ | refine blk_drew ?_ | refine blk_alloc ?_ _)); exact BK179.out) hg (Kd.R_away HO_7.out (fun _ hk => hk))); have n3_ := Aside0.mk ((by rw [hw]; exact below_set (below_set (below_set (HB.out) GB37.out) GB37.out) GB37.out : Below w.heap.size w w44)); clear HO_7; clear BK169; clear BK179; clear HB; have HO_7 := n0_; have BK169 := n1_; have BK179 := n2_; have HB := n3_; clear n0_ n1_ n2_ n3_; clear hg hw hp_; have hcz45_0 : w44.cell? ⟨gb179, 0, none⟩ = some (.int .i64 x180000_4) := (blk_cell BK179.out 0).trans rfl; have hcz45_1 : w44.cell? ⟨gb179, 1, none⟩ = some (.int .u64 x180001_4) := (blk_cell BK179.out 1).trans rfl; have hcz45_2 : w44.cell? ⟨gb179, 2, none⟩ = some (.int .u8 x180002_3) := (blk_cell BK179.out 2).trans rfl; have hfz45_0 := blk_frozen BK179.out 0; have hfz45_1 := blk_frozen BK179.out 1; have hfz45_2 := blk_frozen BK179.out 2))
                                            go_roundg k4
                                            case measure => have := HJ2.out; have := HK2.out; have := HK3.out; have := HK4.out; omega
                                            case rel => exact ⟨(y181), (wrap64 (x35_2 + 1)), (x170000_2), (x170001_2), (x170002_2), (x170003_2), (by first | rfl | (simp; done) | (simp [*]; done)), H', ⟨by have := HJ2.out; have := HK2.out; have := HK3.out; have := HK4.out; omega⟩, ⟨by (with_reducible repeat (first | apply Kd.R_alloc | apply Kd.R_drewN | apply Kd.R_drew)); exact Kd.R_mono HO_7.out (fun _ hk => trivial)⟩, ⟨by (with_reducible repeat (first | refine blk_drewN ?_ _ | refine blk_drew ?_ | refine blk_alloc ?_ _)); exact BK169.out⟩, ⟨by repeat (first | (with_reducible first | exact HB.out | apply below_alloc | apply pw_below_drewN | apply below_drew1 | refine below_set ?_ GE169.out | refine below_set ?_ GE179.out) | exact HB.out)⟩⟩
                                          · rw [if_neg c40] at H
                                            have c40b0 : (x180002_3 == 0) = false := beq_eq_false_iff_ne.mpr c40
                                            have c40b1 : (x180002_3 != 0) = true := bne_iff_ne.mpr c40
                                            simp only [Option.some.injEq, Prod.mk.injEq] at H
                                            obtain ⟨rfl, rfl, rfl, rfl, rfl⟩ := H
                                            have hnb46 := NB179_169.out
                                            have hnc46 := NB169_179.out
                                            have hcz47_0 : wr.cell? ⟨gb179, 0, none⟩ = some (.int .i64 x180000_4) := (blk_cell BK179.out 0).trans rfl
                                            have hcz47_1 : wr.cell? ⟨gb179, 1, none⟩ = some (.int .u64 x180001_4) := (blk_cell BK179.out 1).trans rfl
                                            have hcz47_2 : wr.cell? ⟨gb179, 2, none⟩ = some (.int .u8 x180002_3) := (blk_cell BK179.out 2).trans rfl
                                            have hfz47_0 := blk_frozen BK179.out 0
                                            have hfz47_1 := blk_frozen BK179.out 1
                                            have hfz47_2 := blk_frozen BK179.out 2
                                            have p37 : 0 ≤ (x180000_4 : Int) := of_decide_eq_true (by first | (with_reducible assumption) | assumption)
                                            have q37 : (x180000_4 : Int) < ((x7_3.length : Int) : Int) := of_decide_eq_true (by first | (with_reducible assumption) | assumption)
                                            obtain ⟨go37, co37, eo37, gb37, gl37, cl37, HG37⟩ := Kd.R_form HO_7.out (by omega)
                                            (first | cases eo37 | (injection eo37 with ea_ en_ ec_; (first | subst ea_ | (injection ea_ with ea_; subst ea_)); subst ec_; clear en_))
                                            have GB37 := Aside0.mk gb37
                                            have GG37 := Aside0.mk HG37
                                            clear gb37 gl37 HG37
                                            obtain ⟨ce37, hcl37, hM37, hcc37, hfr37⟩ := Kd.R_elem HO_7.out z58 (x180000_4 : Int) p37 q37
                                            obtain rfl := k58_openM hM37
                                            have hx37_0 : wr.cell? ⟨go37, (x180000_4 : Int).toNat * 3, none⟩ = some (.int .i64 ((rd_T58 x7_3 x180000_4).f0)) := hcc37 0 _ rfl
                                            have hx37_1 : wr.cell? ⟨go37, (x180000_4 : Int).toNat * 3 + 1, none⟩ = some (.int .u64 ((rd_T58 x7_3 x180000_4).f1)) := hcc37 1 _ rfl
                                            have hx37_2 : wr.cell? ⟨go37, (x180000_4 : Int).toNat * 3 + 2, none⟩ = some (.int .u8 ((rd_T58 x7_3 x180000_4).f2)) := hcc37 2 _ rfl
                                            have hf37_0 : wr.frozen? ⟨go37, (x180000_4 : Int).toNat * 3, none⟩ = false := hfr37 0
                                            have hf37_1 : wr.frozen? ⟨go37, (x180000_4 : Int).toNat * 3 + 1, none⟩ = false := hfr37 1
                                            have hf37_2 : wr.frozen? ⟨go37, (x180000_4 : Int).toNat * 3 + 2, none⟩ = false := hfr37 2
                                            clear hcl37 hcc37 hfr37 hM37
                                            replace p37 := eq_true p37
                                            replace q37 := eq_true q37
                                            have p180 : 0 ≤ (x180000_4 : Int) := of_decide_eq_true (by first | (with_reducible assumption) | assumption)
                                            have q180 : x180000_4 < (x7_3.length : Int) := of_decide_eq_true (by first | (with_reducible assumption) | assumption)
                                            obtain ⟨ad180, e180, hx180_0, hx180_1, hx180_2⟩ := at_T58 (Kd.R_reads' HO_7.out).2.2 x180000_4 p180 q180
                                            obtain rfl : (⟨go37, 0, none⟩ : Addr) = ad180 := (by injection e180)
                                            (first | simp only [add_plain] at hx180_0 | simp only [add_at] at hx180_0 | simp only [Addr.add, Nat.zero_add] at hx180_0 | skip)
                                            (first | simp only [add_plain] at hx180_1 | simp only [add_at] at hx180_1 | simp only [Addr.add, Nat.zero_add] at hx180_1 | skip)
                                            (first | simp only [add_plain] at hx180_2 | simp only [add_at] at hx180_2 | simp only [Addr.add, Nat.zero_add] at hx180_2 | skip)
                                            replace p180 := eq_true p180
                                            replace q180 := eq_true q180
                                            have HX48 := Aside0.mk (show Kd.R k58 58 wr w.heap.size (fun k_ => k_ ≠ gb179) (.slice (some ⟨go37, 0, none⟩) x7_3.length co37) x7_3 from (by (with_reducible repeat (first | apply Kd.R_alloc | apply Kd.R_drewN | apply Kd.R_drew)); exact HO_7.out))
                                            obtain ⟨ce48, hcl48, hM48, hcc48, hfr48⟩ := Kd.R_elem HX48.out z58 (x180000_4 : Int) (of_decide_eq_true (by first | (with_reducible assumption) | assumption)) (by have h_ : (x180000_4 : Int) < ((x7_3.length : Int) : Int) := of_decide_eq_true (by first | (with_reducible assumption) | assumption); first | exact h_ | (have e_ := (Kd.R_reads' HO_7.out).1; omega) | simpa using h_)
                                            obtain rfl := k58_openM hM48
                                            have HP48 := Kd.R_seg HX48.out (x180000_4 : Int) (of_decide_eq_true (by first | (with_reducible assumption) | assumption)) (by have h_ : (x180000_4 : Int) < ((x7_3.length : Int) : Int) := of_decide_eq_true (by first | (with_reducible assumption) | assumption); first | exact h_ | (have e_ := (Kd.R_reads' HO_7.out).1; omega) | simpa using h_) (seg := [.int .i64 x180000_4, .int .u64 x180001_4, .int .u8 x180002_3]) (j := 0) hcl48 hcc48 (show 3 ≤ 3 from by decide) (x' := (⟨x180000_4, x180001_4, x180002_3⟩ : S58)) (k58_mkM _ _ _ (⟨x180000_4, x180001_4, x180002_3⟩ : S58) ) (fun _ hk => hk)
                                            have hx48_0 := hcc48 0 _ rfl
                                            (try simp only [show (k58).sz = 3 from rfl, Nat.mul_one, Nat.add_zero] at hx48_0)
                                            have hf48_0 := hfr48 0
                                            (try simp only [show (k58).sz = 3 from rfl, Nat.mul_one, Nat.add_zero] at hf48_0)
                                            have hx48_1 := hcc48 1 _ rfl
                                            (try simp only [show (k58).sz = 3 from rfl, Nat.mul_one, Nat.add_zero] at hx48_1)
                                            have hf48_1 := hfr48 1
                                            (try simp only [show (k58).sz = 3 from rfl, Nat.mul_one, Nat.add_zero] at hf48_1)
                                            have hx48_2 := hcc48 2 _ rfl
                                            (try simp only [show (k58).sz = 3 from rfl, Nat.mul_one, Nat.add_zero] at hx48_2)
                                            have hf48_2 := hfr48 2
                                            (try simp only [show (k58).sz = 3 from rfl, Nat.mul_one, Nat.add_zero] at hf48_2)
                                            clear hcl48 hcc48 hfr48 hM48
                                            go_wp2_with (first | ((with_reducible refine gate_store (t := 58) (p := 69) rfl ?_); refine store_event (t := 58) (p := 69) (v := ?vo_w49) (w1 := (((wr.setCell ⟨go37, (x180000_4 : Int).toNat * 3, none⟩ (.int .i64 x180000_4)).setCell ⟨go37, (x180000_4 : Int).toNat * 3 + 1, none⟩ (.int .u64 x180001_4)).setCell ⟨go37, (x180000_4 : Int).toNat * 3 + 2, none⟩ (.int .u8 x180002_3))) ?hg ?ho ?hn ?hr ?_; (case ho => rfl); (case hg => rfl); (case hn => rfl); (case hr => first | (go_simp; done) | (go_simp; rfl)); intro w49 hw; have hg : wr.grownBy w49 (some go37) := (by rw [hw]; exact HP48.2); have hp_ : Kd.R k58 58 w49 w.heap.size (fun k_ => k_ ≠ gb179) (.slice (some ⟨go37, 0, none⟩) x7_3.length co37) y181 := (by rw [hw, Ny181.out]; exact HP48.1); clear HP48; have n0_ := Aside0.mk (hp_); have n1_ := Aside0.mk (blk_grown (g := gb169) (o := .cells #[.int .i64 x170000_2, .int .i64 x170001_2, .int .i64 x170002_2, .string x170003_2] 26 (0, 0)) (by (with_reducible repeat (first | refine blk_drewN ?_ _ | refine blk_drew ?_ | refine blk_alloc ?_ _)); exact BK169.out) hg (Kd.R_ne HO_7.out BK169.out (by decide))); have n2_ := Aside0.mk (blk_grown (g := gb179) (o := .cells #[.int .i64 x180000_4, .int .u64 x180001_4, .int .u8 x180002_3] 58 (0, 0)) (by (with_reducible repeat (first | refine blk_drewN ?_ _ | refine blk_drew ?_ | refine blk_alloc ?_ _)); exact BK179.out) hg (Kd.R_away HO_7.out (fun _ hk => hk))); have n3_ := Aside0.mk ((by rw [hw]; exact below_set (below_set (below_set (HB.out) GB37.out) GB37.out) GB37.out : Below w.heap.size w w49)); clear HO_7; clear BK169; clear BK179; clear HB; have HO_7 := n0_; have BK169 := n1_; have BK179 := n2_; have HB := n3_; clear n0_ n1_ n2_ n3_; clear hg hw hp_; have hcz50_0 : w49.cell? ⟨gb179, 0, none⟩ = some (.int .i64 x180000_4) := (blk_cell BK179.out 0).trans rfl; have hcz50_1 : w49.cell? ⟨gb179, 1, none⟩ = some (.int .u64 x180001_4) := (blk_cell BK179.out 1).trans rfl; have hcz50_2 : w49.cell? ⟨gb179, 2, none⟩ = some (.int .u8 x180002_3) := (blk_cell BK179.out 2).trans rfl; have hfz50_0 := blk_frozen BK179.out 0; have hfz50_1 := blk_frozen BK179.out 1; have hfz50_2 := blk_frozen BK179.out 2; have hcz51_0 : w49.cell? ⟨gb169, 0, none⟩ = some (.int .i64 x170000_2) := (blk_cell BK169.out 0).trans rfl; have hcz51_1 : w49.cell? ⟨gb169, 1, none⟩ = some (.int .i64 x170001_2) := (blk_cell BK169.out 1).trans rfl; have hcz51_2 : w49.cell? ⟨gb169, 2, none⟩ = some (.int .i64 x170002_2) := (blk_cell BK169.out 2).trans rfl; have hcz51_3 : w49.cell? ⟨gb169, 3, none⟩ = some (.string x170003_2) := (blk_cell BK169.out 3).trans rfl; have hfz51_0 := blk_frozen BK169.out 0; have hfz51_1 := blk_frozen BK169.out 1; have hfz51_2 := blk_frozen BK169.out 2; have hfz51_3 := blk_frozen BK169.out 3))
                                            refine bodyPost_ret (results_ct rfl _ _ gb169 26 #[.int .i64 0, .int .i64 0, .int .i64 0, .string (⟨#[]⟩ : ByteArray)] (0, 0) _ rfl (by (with_reducible repeat (first | refine blk_drewN ?_ _ | refine blk_drew ?_ | refine blk_alloc ?_ _)); refine blk_put (cs := #[.int .i64 0, .int .i64 0, .int .i64 0, .string x170003_2]) ?_ 3 _ rfl; (with_reducible repeat (first | refine blk_drewN ?_ _ | refine blk_drew ?_ | refine blk_alloc ?_ _)); refine blk_put (cs := #[.int .i64 0, .int .i64 0, .int .i64 x170002_2, .string x170003_2]) ?_ 2 _ rfl; (with_reducible repeat (first | refine blk_drewN ?_ _ | refine blk_drew ?_ | refine blk_alloc ?_ _)); refine blk_put (cs := #[.int .i64 0, .int .i64 x170001_2, .int .i64 x170002_2, .string x170003_2]) ?_ 1 _ rfl; (with_reducible repeat (first | refine blk_drewN ?_ _ | refine blk_drew ?_ | refine blk_alloc ?_ _)); refine blk_put (cs := #[.int .i64 x170000_2, .int .i64 x170001_2, .int .i64 x170002_2, .string x170003_2]) ?_ 0 _ rfl; (with_reducible repeat (first | refine blk_drewN ?_ _ | refine blk_drew ?_ | refine blk_alloc ?_ _)); exact BK169.out) Try.underlying26 rfl (by kernel_rfl)) rfl ?_
                                            exact ⟨by first | rfl | (simp [errW_none, errW_some] <;> rfl) | (simp only [← hji10]; first | rfl | (simp [errW_none, errW_some] <;> rfl)) | (simp [*, errW_none, errW_some] <;> rfl), by repeat (first | (with_reducible first | exact HB.out | apply below_alloc | apply pw_below_drewN | apply below_drew1 | refine below_set ?_ GE169.out | refine below_set ?_ GE179.out) | exact HB.out)⟩
                                        · rw [if_neg c39] at H
                                          have c39b0 : (x180001_4 == 0) = false := beq_eq_false_iff_ne.mpr c39
                                          have c39b1 : (x180001_4 != 0) = true := bne_iff_ne.mpr c39
                                          have H' := Aside0.mk H
                                          clear H
                                          have hnb52 := NB179_169.out
                                          have hnc52 := NB169_179.out
                                          have hcz53_0 : wr.cell? ⟨gb179, 0, none⟩ = some (.int .i64 x180000_4) := (blk_cell BK179.out 0).trans rfl
                                          have hcz53_1 : wr.cell? ⟨gb179, 1, none⟩ = some (.int .u64 x180001_4) := (blk_cell BK179.out 1).trans rfl
                                          have hcz53_2 : wr.cell? ⟨gb179, 2, none⟩ = some (.int .u8 x180002_3) := (blk_cell BK179.out 2).trans rfl
                                          have hfz53_0 := blk_frozen BK179.out 0
                                          have hfz53_1 := blk_frozen BK179.out 1
                                          have hfz53_2 := blk_frozen BK179.out 2
                                          have p37 : 0 ≤ (x180000_4 : Int) := of_decide_eq_true (by first | (with_reducible assumption) | assumption)
                                          have q37 : (x180000_4 : Int) < ((x7_3.length : Int) : Int) := of_decide_eq_true (by first | (with_reducible assumption) | assumption)
                                          obtain ⟨go37, co37, eo37, gb37, gl37, cl37, HG37⟩ := Kd.R_form HO_7.out (by omega)
                                          (first | cases eo37 | (injection eo37 with ea_ en_ ec_; (first | subst ea_ | (injection ea_ with ea_; subst ea_)); subst ec_; clear en_))
                                          have GB37 := Aside0.mk gb37
                                          have GG37 := Aside0.mk HG37
                                          clear gb37 gl37 HG37
                                          obtain ⟨ce37, hcl37, hM37, hcc37, hfr37⟩ := Kd.R_elem HO_7.out z58 (x180000_4 : Int) p37 q37
                                          obtain rfl := k58_openM hM37
                                          have hx37_0 : wr.cell? ⟨go37, (x180000_4 : Int).toNat * 3, none⟩ = some (.int .i64 ((rd_T58 x7_3 x180000_4).f0)) := hcc37 0 _ rfl
                                          have hx37_1 : wr.cell? ⟨go37, (x180000_4 : Int).toNat * 3 + 1, none⟩ = some (.int .u64 ((rd_T58 x7_3 x180000_4).f1)) := hcc37 1 _ rfl
                                          have hx37_2 : wr.cell? ⟨go37, (x180000_4 : Int).toNat * 3 + 2, none⟩ = some (.int .u8 ((rd_T58 x7_3 x180000_4).f2)) := hcc37 2 _ rfl
                                          have hf37_0 : wr.frozen? ⟨go37, (x180000_4 : Int).toNat * 3, none⟩ = false := hfr37 0
                                          have hf37_1 : wr.frozen? ⟨go37, (x180000_4 : Int).toNat * 3 + 1, none⟩ = false := hfr37 1
                                          have hf37_2 : wr.frozen? ⟨go37, (x180000_4 : Int).toNat * 3 + 2, none⟩ = false := hfr37 2
                                          clear hcl37 hcc37 hfr37 hM37
                                          replace p37 := eq_true p37
                                          replace q37 := eq_true q37
                                          have p180 : 0 ≤ (x180000_4 : Int) := of_decide_eq_true (by first | (with_reducible assumption) | assumption)
                                          have q180 : x180000_4 < (x7_3.length : Int) := of_decide_eq_true (by first | (with_reducible assumption) | assumption)
                                          obtain ⟨ad180, e180, hx180_0, hx180_1, hx180_2⟩ := at_T58 (Kd.R_reads' HO_7.out).2.2 x180000_4 p180 q180
                                          obtain rfl : (⟨go37, 0, none⟩ : Addr) = ad180 := (by injection e180)
                                          (first | simp only [add_plain] at hx180_0 | simp only [add_at] at hx180_0 | simp only [Addr.add, Nat.zero_add] at hx180_0 | skip)
                                          (first | simp only [add_plain] at hx180_1 | simp only [add_at] at hx180_1 | simp only [Addr.add, Nat.zero_add] at hx180_1 | skip)
                                          (first | simp only [add_plain] at hx180_2 | simp only [add_at] at hx180_2 | simp only [Addr.add, Nat.zero_add] at hx180_2 | skip)
                                          replace p180 := eq_true p180
                                          replace q180 := eq_true q180
                                          have HX54 := Aside0.mk (show Kd.R k58 58 wr w.heap.size (fun k_ => k_ ≠ gb179) (.slice (some ⟨go37, 0, none⟩) x7_3.length co37) x7_3 from (by (with_reducible repeat (first | apply Kd.R_alloc | apply Kd.R_drewN | apply Kd.R_drew)); exact HO_7.out))
                                          obtain ⟨ce54, hcl54, hM54, hcc54, hfr54⟩ := Kd.R_elem HX54.out z58 (x180000_4 : Int) (of_decide_eq_true (by first | (with_reducible assumption) | assumption)) (by have h_ : (x180000_4 : Int) < ((x7_3.length : Int) : Int) := of_decide_eq_true (by first | (with_reducible assumption) | assumption); first | exact h_ | (have e_ := (Kd.R_reads' HO_7.out).1; omega) | simpa using h_)
                                          obtain rfl := k58_openM hM54
                                          have HP54 := Kd.R_seg HX54.out (x180000_4 : Int) (of_decide_eq_true (by first | (with_reducible assumption) | assumption)) (by have h_ : (x180000_4 : Int) < ((x7_3.length : Int) : Int) := of_decide_eq_true (by first | (with_reducible assumption) | assumption); first | exact h_ | (have e_ := (Kd.R_reads' HO_7.out).1; omega) | simpa using h_) (seg := [.int .i64 x180000_4, .int .u64 x180001_4, .int .u8 x180002_3]) (j := 0) hcl54 hcc54 (show 3 ≤ 3 from by decide) (x' := (⟨x180000_4, x180001_4, x180002_3⟩ : S58)) (k58_mkM _ _ _ (⟨x180000_4, x180001_4, x180002_3⟩ : S58) ) (fun _ hk => hk)
                                          have hx54_0 := hcc54 0 _ rfl
                                          (try simp only [show (k58).sz = 3 from rfl, Nat.mul_one, Nat.add_zero] at hx54_0)
                                          have hf54_0 := hfr54 0
                                          (try simp only [show (k58).sz = 3 from rfl, Nat.mul_one, Nat.add_zero] at hf54_0)
                                          have hx54_1 := hcc54 1 _ rfl
                                          (try simp only [show (k58).sz = 3 from rfl, Nat.mul_one, Nat.add_zero] at hx54_1)
                                          have hf54_1 := hfr54 1
                                          (try simp only [show (k58).sz = 3 from rfl, Nat.mul_one, Nat.add_zero] at hf54_1)
                                          have hx54_2 := hcc54 2 _ rfl
                                          (try simp only [show (k58).sz = 3 from rfl, Nat.mul_one, Nat.add_zero] at hx54_2)
                                          have hf54_2 := hfr54 2
                                          (try simp only [show (k58).sz = 3 from rfl, Nat.mul_one, Nat.add_zero] at hf54_2)
                                          clear hcl54 hcc54 hfr54 hM54
                                          go_wp2_with (first | ((with_reducible refine gate_store (t := 58) (p := 69) rfl ?_); refine store_event (t := 58) (p := 69) (v := ?vo_w55) (w1 := (((wr.setCell ⟨go37, (x180000_4 : Int).toNat * 3, none⟩ (.int .i64 x180000_4)).setCell ⟨go37, (x180000_4 : Int).toNat * 3 + 1, none⟩ (.int .u64 x180001_4)).setCell ⟨go37, (x180000_4 : Int).toNat * 3 + 2, none⟩ (.int .u8 x180002_3))) ?hg ?ho ?hn ?hr ?_; (case ho => rfl); (case hg => rfl); (case hn => rfl); (case hr => first | (go_simp; done) | (go_simp; rfl)); intro w55 hw; have hg : wr.grownBy w55 (some go37) := (by rw [hw]; exact HP54.2); have hp_ : Kd.R k58 58 w55 w.heap.size (fun k_ => k_ ≠ gb179) (.slice (some ⟨go37, 0, none⟩) x7_3.length co37) y181 := (by rw [hw, Ny181.out]; exact HP54.1); clear HP54; have n0_ := Aside0.mk (hp_); have n1_ := Aside0.mk (blk_grown (g := gb169) (o := .cells #[.int .i64 x170000_2, .int .i64 x170001_2, .int .i64 x170002_2, .string x170003_2] 26 (0, 0)) (by (with_reducible repeat (first | refine blk_drewN ?_ _ | refine blk_drew ?_ | refine blk_alloc ?_ _)); exact BK169.out) hg (Kd.R_ne HO_7.out BK169.out (by decide))); have n2_ := Aside0.mk (blk_grown (g := gb179) (o := .cells #[.int .i64 x180000_4, .int .u64 x180001_4, .int .u8 x180002_3] 58 (0, 0)) (by (with_reducible repeat (first | refine blk_drewN ?_ _ | refine blk_drew ?_ | refine blk_alloc ?_ _)); exact BK179.out) hg (Kd.R_away HO_7.out (fun _ hk => hk))); have n3_ := Aside0.mk ((by rw [hw]; exact below_set (below_set (below_set (HB.out) GB37.out) GB37.out) GB37.out : Below w.heap.size w w55)); clear HO_7; clear BK169; clear BK179; clear HB; have HO_7 := n0_; have BK169 := n1_; have BK179 := n2_; have HB := n3_; clear n0_ n1_ n2_ n3_; clear hg hw hp_; have hcz56_0 : w55.cell? ⟨gb179, 0, none⟩ = some (.int .i64 x180000_4) := (blk_cell BK179.out 0).trans rfl; have hcz56_1 : w55.cell? ⟨gb179, 1, none⟩ = some (.int .u64 x180001_4) := (blk_cell BK179.out 1).trans rfl; have hcz56_2 : w55.cell? ⟨gb179, 2, none⟩ = some (.int .u8 x180002_3) := (blk_cell BK179.out 2).trans rfl; have hfz56_0 := blk_frozen BK179.out 0; have hfz56_1 := blk_frozen BK179.out 1; have hfz56_2 := blk_frozen BK179.out 2))
                                          go_roundg k4
                                          case measure => have := HJ2.out; have := HK2.out; have := HK3.out; have := HK4.out; omega
                                          case rel => exact ⟨(y181), (wrap64 (x35_2 + 1)), (x170000_2), (x170001_2), (x170002_2), (x170003_2), (by first | rfl | (simp; done) | (simp [*]; done)), H', ⟨by have := HJ2.out; have := HK2.out; have := HK3.out; have := HK4.out; omega⟩, ⟨by (with_reducible repeat (first | apply Kd.R_alloc | apply Kd.R_drewN | apply Kd.R_drew)); exact Kd.R_mono HO_7.out (fun _ hk => trivial)⟩, ⟨by (with_reducible repeat (first | refine blk_drewN ?_ _ | refine blk_drew ?_ | refine blk_alloc ?_ _)); exact BK169.out⟩, ⟨by repeat (first | (with_reducible first | exact HB.out | apply below_alloc | apply pw_below_drewN | apply below_drew1 | refine below_set ?_ GE169.out | refine below_set ?_ GE179.out) | exact HB.out)⟩⟩
                                      · rw [if_neg c38] at H
                                        have c38b0 : (((rd_T58 x7_3 x180000_4).f1) == 0) = false := beq_eq_false_iff_ne.mpr c38
                                        have c38b1 : (((rd_T58 x7_3 x180000_4).f1) != 0) = true := bne_iff_ne.mpr c38
                                        have H' := Aside0.mk H
                                        clear H
                                        have hnb57 := NB179_169.out
                                        have hnc57 := NB169_179.out
                                        have hcz58_0 : wr.cell? ⟨gb179, 0, none⟩ = some (.int .i64 x180000_4) := (blk_cell BK179.out 0).trans rfl
                                        have hcz58_1 : wr.cell? ⟨gb179, 1, none⟩ = some (.int .u64 x180001_4) := (blk_cell BK179.out 1).trans rfl
                                        have hcz58_2 : wr.cell? ⟨gb179, 2, none⟩ = some (.int .u8 x180002_3) := (blk_cell BK179.out 2).trans rfl
                                        have hfz58_0 := blk_frozen BK179.out 0
                                        have hfz58_1 := blk_frozen BK179.out 1
                                        have hfz58_2 := blk_frozen BK179.out 2
                                        have p37 : 0 ≤ (x180000_4 : Int) := of_decide_eq_true (by first | (with_reducible assumption) | assumption)
                                        have q37 : (x180000_4 : Int) < ((x7_3.length : Int) : Int) := of_decide_eq_true (by first | (with_reducible assumption) | assumption)
                                        obtain ⟨go37, co37, eo37, gb37, gl37, cl37, HG37⟩ := Kd.R_form HO_7.out (by omega)
                                        (first | cases eo37 | (injection eo37 with ea_ en_ ec_; (first | subst ea_ | (injection ea_ with ea_; subst ea_)); subst ec_; clear en_))
                                        have GB37 := Aside0.mk gb37
                                        have GG37 := Aside0.mk HG37
                                        clear gb37 gl37 HG37
                                        obtain ⟨ce37, hcl37, hM37, hcc37, hfr37⟩ := Kd.R_elem HO_7.out z58 (x180000_4 : Int) p37 q37
                                        obtain rfl := k58_openM hM37
                                        have hx37_0 : wr.cell? ⟨go37, (x180000_4 : Int).toNat * 3, none⟩ = some (.int .i64 ((rd_T58 x7_3 x180000_4).f0)) := hcc37 0 _ rfl
                                        have hx37_1 : wr.cell? ⟨go37, (x180000_4 : Int).toNat * 3 + 1, none⟩ = some (.int .u64 ((rd_T58 x7_3 x180000_4).f1)) := hcc37 1 _ rfl
                                        have hx37_2 : wr.cell? ⟨go37, (x180000_4 : Int).toNat * 3 + 2, none⟩ = some (.int .u8 ((rd_T58 x7_3 x180000_4).f2)) := hcc37 2 _ rfl
                                        have hf37_0 : wr.frozen? ⟨go37, (x180000_4 : Int).toNat * 3, none⟩ = false := hfr37 0
                                        have hf37_1 : wr.frozen? ⟨go37, (x180000_4 : Int).toNat * 3 + 1, none⟩ = false := hfr37 1
                                        have hf37_2 : wr.frozen? ⟨go37, (x180000_4 : Int).toNat * 3 + 2, none⟩ = false := hfr37 2
                                        clear hcl37 hcc37 hfr37 hM37
                                        replace p37 := eq_true p37
                                        replace q37 := eq_true q37
                                        have p180 : 0 ≤ (x180000_4 : Int) := of_decide_eq_true (by first | (with_reducible assumption) | assumption)
                                        have q180 : x180000_4 < (x7_3.length : Int) := of_decide_eq_true (by first | (with_reducible assumption) | assumption)
                                        obtain ⟨ad180, e180, hx180_0, hx180_1, hx180_2⟩ := at_T58 (Kd.R_reads' HO_7.out).2.2 x180000_4 p180 q180
                                        obtain rfl : (⟨go37, 0, none⟩ : Addr) = ad180 := (by injection e180)
                                        (first | simp only [add_plain] at hx180_0 | simp only [add_at] at hx180_0 | simp only [Addr.add, Nat.zero_add] at hx180_0 | skip)
                                        (first | simp only [add_plain] at hx180_1 | simp only [add_at] at hx180_1 | simp only [Addr.add, Nat.zero_add] at hx180_1 | skip)
                                        (first | simp only [add_plain] at hx180_2 | simp only [add_at] at hx180_2 | simp only [Addr.add, Nat.zero_add] at hx180_2 | skip)
                                        replace p180 := eq_true p180
                                        replace q180 := eq_true q180
                                        try go_wp2
                                        have n0_ := Aside0.mk (Kd.R_drew HO_7.out)
                                        have n1_ := Aside0.mk (blk_drew BK169.out)
                                        have n2_ := Aside0.mk (blk_drew BK179.out)
                                        have n3_ := Aside0.mk (below_drew1 HB.out)
                                        clear HO_7
                                        clear BK169
                                        clear BK179
                                        clear HB
                                        have HO_7 := n0_
                                        have BK169 := n1_
                                        have BK179 := n2_
                                        have HB := n3_
                                        clear n0_ n1_ n2_ n3_
                                        have p182 : 0 ≤ (x180000_4 : Int) := of_decide_eq_true (by first | (with_reducible assumption) | assumption)
                                        have q182 : x180000_4 < (x7_3.length : Int) := of_decide_eq_true (by first | (with_reducible assumption) | assumption)
                                        obtain ⟨ad182, e182, hx182_0, hx182_1, hx182_2⟩ := at_T58 (Kd.R_reads' HO_7.out).2.2 x180000_4 p182 q182
                                        obtain rfl : (⟨go37, 0, none⟩ : Addr) = ad182 := (by injection e182)
                                        (first | simp only [add_plain] at hx182_0 | simp only [add_at] at hx182_0 | simp only [Addr.add, Nat.zero_add] at hx182_0 | skip)
                                        (first | simp only [add_plain] at hx182_1 | simp only [add_at] at hx182_1 | simp only [Addr.add, Nat.zero_add] at hx182_1 | skip)
                                        (first | simp only [add_plain] at hx182_2 | simp only [add_at] at hx182_2 | simp only [Addr.add, Nat.zero_add] at hx182_2 | skip)
                                        replace p182 := eq_true p182
                                        replace q182 := eq_true q182
                                        refine start_ (n := 9) (S := fun w' => w'.cell? ⟨gb179, 0, none⟩ = some (.int .i64 x180000_4) ∧ w'.cell? ⟨gb179, 1, none⟩ = some (.int .u64 x180001_4) ∧ w'.cell? ⟨gb179, 2, none⟩ = some (.int .u8 x180002_3) ∧ w'.cell? ⟨go37, (x180000_4).toNat * 3, none⟩ = some (.int .i64 ((rd_T58 x7_3 x180000_4).f0)) ∧ w'.cell? ⟨go37, (x180000_4).toNat * 3 + 1, none⟩ = some (.int .u64 ((rd_T58 x7_3 x180000_4).f1)) ∧ w'.cell? ⟨go37, (x180000_4).toNat * 3 + 2, none⟩ = some (.int .u8 ((rd_T58 x7_3 x180000_4).f2))) (ds := [8]) #[false, false, false, false, false, false, false, false, false] (by kernel_rfl) rfl rfl ⟨(blk_cell BK179.out 0).trans rfl, (blk_cell BK179.out 1).trans rfl, (blk_cell BK179.out 2).trans rfl, hx182_0, hx182_1, hx182_2⟩ (fun hHeld => ?_); refine with_tabW impl_RibbonOf.tab16 impl_RibbonOf.bits16 (fun HT_ HW_ => ?_)
                                        generalize wr.drew = w59 at HO_7 BK169 BK179 HB hx182_0 hx182_1 hx182_2 hHeld ⊢
                                        refine pure_ (i := 0) (N := some 70) (v := ?_) (a' := ?_) #[true, false, false, false, false, false, false, false, false] rfl rfl (any_of HT_.out (by kernel_rfl)) (fun _ _ _ h => h) (Or.inl ⟨by rfl, ?_⟩) ?_ ?_
                                        rotate_left
                                        · intro w'
                                          go_simp
                                          with_reducible rfl
                                        rotate_left
                                        · simp only [Act.put, List.setIfInBounds_toArray, List.set_cons_zero, List.set_cons_succ, i64_w, i32_w]
                                          rfl
                                        refine pure_ (i := 2) (N := some 72) (v := ?_) (a' := ?_) #[true, false, true, false, false, false, false, false, false] rfl rfl (any_of HT_.out (by kernel_rfl)) (fun _ _ _ h => h) (Or.inl ⟨by rfl, ?_⟩) ?_ ?_
                                        rotate_left
                                        · intro w'
                                          go_simp
                                          with_reducible rfl
                                        rotate_left
                                        · simp only [Act.put, List.setIfInBounds_toArray, List.set_cons_zero, List.set_cons_succ, i64_w, i32_w]
                                          rfl
                                        refine pure_ (i := 3) (N := some 73) (v := ?_) (a' := ?_) #[true, false, true, true, false, false, false, false, false] rfl rfl (any_of HT_.out (by kernel_rfl)) (fun _ _ _ h => h) (Or.inl ⟨by rfl, ?_⟩) ?_ ?_
                                        rotate_left
                                        · intro w'
                                          go_simp
                                          with_reducible rfl
                                        rotate_left
                                        · simp only [Act.put, List.setIfInBounds_toArray, List.set_cons_zero, List.set_cons_succ, i64_w, i32_w]
                                          rfl
                                        refine pure_ (i := 4) (N := some 74) (v := ?_) (a' := ?_) #[true, false, true, true, true, false, false, false, false] rfl rfl (any_of HT_.out (by kernel_rfl)) (fun _ _ _ h => h) (Or.inl ⟨by rfl, ?_⟩) ?_ ?_
                                        rotate_left
                                        · intro w'
                                          go_simp
                                          with_reducible rfl
                                        rotate_left
                                        · simp only [Act.put, List.setIfInBounds_toArray, List.set_cons_zero, List.set_cons_succ, i64_w, i32_w]
                                          rfl
                                        refine take_ (i := 1) (N := some 71) (v := ?_) (a' := ?_) #[true, true, true, true, true, false, false, false, false] rfl rfl (take_ofW HT_.out HW_.out (by kernel_rfl)) (fun _ _ _ h => h) (Or.inl ⟨by rfl, ?_⟩) hHeld ?_ ?_
                                        rotate_left
                                        · rintro w' ⟨s0, s1, s2, s3, s4, s5⟩
                                          go_simp
                                          with_reducible rfl
                                        rotate_left
                                        · simp only [Act.put, List.setIfInBounds_toArray, List.set_cons_zero, List.set_cons_succ, i64_w, i32_w]
                                          rfl
                                        refine take_ (i := 5) (N := some 75) (v := ?_) (a' := ?_) #[true, true, true, true, true, true, false, false, false] rfl rfl (take_ofW HT_.out HW_.out (by kernel_rfl)) (fun _ _ _ h => h) (Or.inl ⟨by rfl, ?_⟩) hHeld ?_ ?_
                                        rotate_left
                                        · rintro w' ⟨s0, s1, s2, s3, s4, s5⟩
                                          go_simp
                                          with_reducible rfl
                                        rotate_left
                                        · simp only [Act.put, List.setIfInBounds_toArray, List.set_cons_zero, List.set_cons_succ, i64_w, i32_w]
                                          rfl
                                        refine pure_ (i := 6) (N := some 76) (v := ?_) (a' := ?_) #[true, true, true, true, true, true, true, false, false] rfl rfl (any_of HT_.out (by kernel_rfl)) (fun _ _ _ h => h) (Or.inl ⟨by rfl, ?_⟩) ?_ ?_
                                        rotate_left
                                        · intro w'
                                          go_simp
                                          with_reducible rfl
                                        rotate_left
                                        · simp only [Act.put, List.setIfInBounds_toArray, List.set_cons_zero, List.set_cons_succ, i64_w, i32_w]
                                          rfl
                                        refine pure_ (i := 7) (N := some 77) (v := ?_) (a' := ?_) #[true, true, true, true, true, true, true, true, false] rfl rfl (any_of HT_.out (by kernel_rfl)) (fun _ _ _ h => h) (Or.inl ⟨by rfl, ?_⟩) ?_ ?_
                                        rotate_left
                                        · intro w'
                                          go_simp
                                          with_reducible rfl
                                        rotate_left
                                        · simp only [Act.put, List.setIfInBounds_toArray, List.set_cons_zero, List.set_cons_succ, i64_w, i32_w]
                                          rfl
                                        refine last_ (i := 8) (N := none) #[true, true, true, true, true, true, true, true, true] rfl rfl (one_of HT_.out (by kernel_rfl)) (by decide) (fun K hK => ?_)
                                        have hs60 : w59.cell? ⟨gb179, 1, none⟩ = some (.int .u64 x180001_4) := (blk_cell BK179.out 1).trans rfl
                                        have hfs60 := blk_frozen BK179.out 1
                                        have hns60_0 := NB169_179.out
                                        have hms60_0 := NB179_169.out
                                        refine skip_ (w1 := ?_) (by rfl) rfl ?_ ?_
                                        rotate_left
                                        · go_simp
                                          rfl
                                        refine hK.out _ _ ?_
                                        clear hK K
                                        refine done_ (done_of HT_.out (by kernel_rfl)) ?_
                                        try go_wp2
                                        have n0_ : Aside0 (Kd.R k58 58 (w59.setCell ⟨gb179, 1, none⟩ (.int .u64 (Go.bits .xor .u64 x180001_4 ((rd_T58 x7_3 x180000_4).f1)))) w.heap.size (fun k_ => k_ ≠ gb179) (.slice (some ⟨go37, 0, none⟩) x7_3.length co37) x7_3) := ⟨by (with_reducible repeat (first | apply Kd.R_alloc | apply Kd.R_drewN | apply Kd.R_drew)); exact Kd.R_mono (Kd.R_far (p := ⟨gb179, 1, none⟩) (Kd.R_mono HO_7.out (fun k_ hk => (⟨hk, hk⟩ : _ ∧ k_ ≠ gb179))) (fun _ hk => hk.2) (.int .u64 (Go.bits .xor .u64 x180001_4 ((rd_T58 x7_3 x180000_4).f1)))) (fun _ hk => hk.1)⟩
                                        have n1_ : Aside0 ((w59.setCell ⟨gb179, 1, none⟩ (.int .u64 (Go.bits .xor .u64 x180001_4 ((rd_T58 x7_3 x180000_4).f1)))).heap[gb169]? = some (.cells #[.int .i64 x170000_2, .int .i64 x170001_2, .int .i64 x170002_2, .string x170003_2] 26 (0, 0))) := ⟨by (with_reducible repeat (first | refine blk_drewN ?_ _ | refine blk_drew ?_ | refine blk_alloc ?_ _)); refine blk_far ?_ NB169_179.out _; (with_reducible repeat (first | refine blk_drewN ?_ _ | refine blk_drew ?_ | refine blk_alloc ?_ _)); exact BK169.out⟩
                                        have n2_ : Aside0 ((w59.setCell ⟨gb179, 1, none⟩ (.int .u64 (Go.bits .xor .u64 x180001_4 ((rd_T58 x7_3 x180000_4).f1)))).heap[gb179]? = some (.cells #[.int .i64 x180000_4, .int .u64 (Go.bits .xor .u64 x180001_4 ((rd_T58 x7_3 x180000_4).f1)), .int .u8 x180002_3] 58 (0, 0))) := ⟨by (with_reducible repeat (first | refine blk_drewN ?_ _ | refine blk_drew ?_ | refine blk_alloc ?_ _)); refine blk_put (cs := #[.int .i64 x180000_4, .int .u64 x180001_4, .int .u8 x180002_3]) ?_ 1 _ rfl; (with_reducible repeat (first | refine blk_drewN ?_ _ | refine blk_drew ?_ | refine blk_alloc ?_ _)); exact BK179.out⟩
                                        have n3_ : Aside0 (Below w.heap.size w (w59.setCell ⟨gb179, 1, none⟩ (.int .u64 (Go.bits .xor .u64 x180001_4 ((rd_T58 x7_3 x180000_4).f1))))) := ⟨by repeat (first | (with_reducible first | exact HB.out | apply below_alloc | apply pw_below_drewN | apply below_drew1 | refine below_set ?_ GE169.out | refine below_set ?_ GE179.out) | exact HB.out)⟩
                                        (try clear HO_7)
                                        (try clear BK169)
                                        (try clear BK179)
                                        (try clear HB)
                                        generalize (w59.setCell ⟨gb179, 1, none⟩ (.int .u64 (Go.bits .xor .u64 x180001_4 ((rd_T58 x7_3 x180000_4).f1)))) = w61 at n0_ n1_ n2_ n3_ ⊢
                                        have HO_7 := n0_
                                        have BK169 := n1_
                                        have BK179 := n2_
                                        have HB := n3_
                                        clear n0_ n1_ n2_ n3_
                                        have n0_ := Aside0.mk (Kd.R_drew HO_7.out)
                                        have n1_ := Aside0.mk (blk_drew BK169.out)
                                        have n2_ := Aside0.mk (blk_drew BK179.out)
                                        have n3_ := Aside0.mk (below_drew1 HB.out)
                                        clear HO_7
                                        clear BK169
                                        clear BK179
                                        clear HB
                                        have HO_7 := n0_
                                        have BK169 := n1_
                                        have BK179 := n2_
                                        have HB := n3_
                                        clear n0_ n1_ n2_ n3_
                                        have p183 : 0 ≤ (x180000_4 : Int) := of_decide_eq_true (by first | (with_reducible assumption) | assumption)
                                        have q183 : x180000_4 < (x7_3.length : Int) := of_decide_eq_true (by first | (with_reducible assumption) | assumption)
                                        obtain ⟨ad183, e183, hx183_0, hx183_1, hx183_2⟩ := at_T58 (Kd.R_reads' HO_7.out).2.2 x180000_4 p183 q183
                                        obtain rfl : (⟨go37, 0, none⟩ : Addr) = ad183 := (by injection e183)
                                        (first | simp only [add_plain] at hx183_0 | simp only [add_at] at hx183_0 | simp only [Addr.add, Nat.zero_add] at hx183_0 | skip)
                                        (first | simp only [add_plain] at hx183_1 | simp only [add_at] at hx183_1 | simp only [Addr.add, Nat.zero_add] at hx183_1 | skip)
                                        (first | simp only [add_plain] at hx183_2 | simp only [add_at] at hx183_2 | simp only [Addr.add, Nat.zero_add] at hx183_2 | skip)
                                        replace p183 := eq_true p183
                                        replace q183 := eq_true q183
                                        refine start_ (n := 9) (S := fun w' => w'.cell? ⟨gb179, 0, none⟩ = some (.int .i64 x180000_4) ∧ w'.cell? ⟨gb179, 1, none⟩ = some (.int .u64 (Go.bits .xor .u64 x180001_4 ((rd_T58 x7_3 x180000_4).f1))) ∧ w'.cell? ⟨gb179, 2, none⟩ = some (.int .u8 x180002_3) ∧ w'.cell? ⟨go37, (x180000_4).toNat * 3, none⟩ = some (.int .i64 ((rd_T58 x7_3 x180000_4).f0)) ∧ w'.cell? ⟨go37, (x180000_4).toNat * 3 + 1, none⟩ = some (.int .u64 ((rd_T58 x7_3 x180000_4).f1)) ∧ w'.cell? ⟨go37, (x180000_4).toNat * 3 + 2, none⟩ = some (.int .u8 ((rd_T58 x7_3 x180000_4).f2))) (ds := [8]) #[false, false, false, false, false, false, false, false, false] (by kernel_rfl) rfl rfl ⟨(blk_cell BK179.out 0).trans rfl, (blk_cell BK179.out 1).trans rfl, (blk_cell BK179.out 2).trans rfl, hx183_0, hx183_1, hx183_2⟩ (fun hHeld => ?_); refine with_tabW impl_RibbonOf.tab17 impl_RibbonOf.bits17 (fun HT_ HW_ => ?_)
                                        generalize w61.drew = w62 at HO_7 BK169 BK179 HB hx183_0 hx183_1 hx183_2 hHeld ⊢
                                        refine pure_ (i := 0) (N := some 78) (v := ?_) (a' := ?_) #[true, false, false, false, false, false, false, false, false] rfl rfl (any_of HT_.out (by kernel_rfl)) (fun _ _ _ h => h) (Or.inl ⟨by rfl, ?_⟩) ?_ ?_
                                        rotate_left
                                        · intro w'
                                          go_simp
                                          with_reducible rfl
                                        rotate_left
                                        · simp only [Act.put, List.setIfInBounds_toArray, List.set_cons_zero, List.set_cons_succ, i64_w, i32_w]
                                          rfl
                                        refine pure_ (i := 2) (N := some 80) (v := ?_) (a' := ?_) #[true, false, true, false, false, false, false, false, false] rfl rfl (any_of HT_.out (by kernel_rfl)) (fun _ _ _ h => h) (Or.inl ⟨by rfl, ?_⟩) ?_ ?_
                                        rotate_left
                                        · intro w'
                                          go_simp
                                          with_reducible rfl
                                        rotate_left
                                        · simp only [Act.put, List.setIfInBounds_toArray, List.set_cons_zero, List.set_cons_succ, i64_w, i32_w]
                                          rfl
                                        refine pure_ (i := 3) (N := some 81) (v := ?_) (a' := ?_) #[true, false, true, true, false, false, false, false, false] rfl rfl (any_of HT_.out (by kernel_rfl)) (fun _ _ _ h => h) (Or.inl ⟨by rfl, ?_⟩) ?_ ?_
                                        rotate_left
                                        · intro w'
                                          go_simp
                                          with_reducible rfl
                                        rotate_left
                                        · simp only [Act.put, List.setIfInBounds_toArray, List.set_cons_zero, List.set_cons_succ, i64_w, i32_w]
                                          rfl
                                        refine pure_ (i := 4) (N := some 82) (v := ?_) (a' := ?_) #[true, false, true, true, true, false, false, false, false] rfl rfl (any_of HT_.out (by kernel_rfl)) (fun _ _ _ h => h) (Or.inl ⟨by rfl, ?_⟩) ?_ ?_
                                        rotate_left
                                        · intro w'
                                          go_simp
                                          with_reducible rfl
                                        rotate_left
                                        · simp only [Act.put, List.setIfInBounds_toArray, List.set_cons_zero, List.set_cons_succ, i64_w, i32_w]
                                          rfl
                                        refine take_ (i := 1) (N := some 79) (v := ?_) (a' := ?_) #[true, true, true, true, true, false, false, false, false] rfl rfl (take_ofW HT_.out HW_.out (by kernel_rfl)) (fun _ _ _ h => h) (Or.inl ⟨by rfl, ?_⟩) hHeld ?_ ?_
                                        rotate_left
                                        · rintro w' ⟨s0, s1, s2, s3, s4, s5⟩
                                          go_simp
                                          with_reducible rfl
                                        rotate_left
                                        · simp only [Act.put, List.setIfInBounds_toArray, List.set_cons_zero, List.set_cons_succ, i64_w, i32_w]
                                          rfl
                                        refine take_ (i := 5) (N := some 83) (v := ?_) (a' := ?_) #[true, true, true, true, true, true, false, false, false] rfl rfl (take_ofW HT_.out HW_.out (by kernel_rfl)) (fun _ _ _ h => h) (Or.inl ⟨by rfl, ?_⟩) hHeld ?_ ?_
                                        rotate_left
                                        · rintro w' ⟨s0, s1, s2, s3, s4, s5⟩
                                          go_simp
                                          with_reducible rfl
                                        rotate_left
                                        · simp only [Act.put, List.setIfInBounds_toArray, List.set_cons_zero, List.set_cons_succ, i64_w, i32_w]
                                          rfl
                                        refine pure_ (i := 6) (N := some 84) (v := ?_) (a' := ?_) #[true, true, true, true, true, true, true, false, false] rfl rfl (any_of HT_.out (by kernel_rfl)) (fun _ _ _ h => h) (Or.inl ⟨by rfl, ?_⟩) ?_ ?_
                                        rotate_left
                                        · intro w'
                                          go_simp
                                          with_reducible rfl
                                        rotate_left
                                        · simp only [Act.put, List.setIfInBounds_toArray, List.set_cons_zero, List.set_cons_succ, i64_w, i32_w]
                                          rfl
                                        refine pure_ (i := 7) (N := some 85) (v := ?_) (a' := ?_) #[true, true, true, true, true, true, true, true, false] rfl rfl (any_of HT_.out (by kernel_rfl)) (fun _ _ _ h => h) (Or.inl ⟨by rfl, ?_⟩) ?_ ?_
                                        rotate_left
                                        · intro w'
                                          go_simp
                                          with_reducible rfl
                                        rotate_left
                                        · simp only [Act.put, List.setIfInBounds_toArray, List.set_cons_zero, List.set_cons_succ, i64_w, i32_w]
                                          rfl
                                        refine last_ (i := 8) (N := none) #[true, true, true, true, true, true, true, true, true] rfl rfl (one_of HT_.out (by kernel_rfl)) (by decide) (fun K hK => ?_)
                                        have hs63 : w62.cell? ⟨gb179, 2, none⟩ = some (.int .u8 x180002_3) := (blk_cell BK179.out 2).trans rfl
                                        have hfs63 := blk_frozen BK179.out 2
                                        have hns63_0 := NB169_179.out
                                        have hms63_0 := NB179_169.out
                                        refine skip_ (w1 := ?_) (by rfl) rfl ?_ ?_
                                        rotate_left
                                        · go_simp
                                          rfl
                                        refine hK.out _ _ ?_
                                        clear hK K
                                        refine done_ (done_of HT_.out (by kernel_rfl)) ?_
                                        try go_wp2
                                        go_roundg k4
                                        case measure => have := HJ2.out; have := HK2.out; have := HK3.out; have := HK4.out; omega
                                        case rel => exact ⟨(x7_3), (x180000_4), (Go.bits .xor .u64 x180001_4 ((rd_T58 x7_3 x180000_4).f1)), (Go.bits .xor .u8 x180002_3 ((rd_T58 x7_3 x180000_4).f2)), H', ⟨by have := HJ2.out; have := HK2.out; have := HK3.out; have := HK4.out; omega⟩, ⟨by (with_reducible repeat (first | apply Kd.R_alloc | apply Kd.R_drewN | apply Kd.R_drew)); exact Kd.R_mono (Kd.R_far (p := ⟨gb179, 2, none⟩) (Kd.R_mono HO_7.out (fun k_ hk => (⟨hk, hk⟩ : _ ∧ k_ ≠ gb179))) (fun _ hk => hk.2) (.int .u8 (Go.bits .xor .u8 x180002_3 ((rd_T58 x7_3 x180000_4).f2)))) (fun _ hk => hk.1)⟩, ⟨by (with_reducible repeat (first | refine blk_drewN ?_ _ | refine blk_drew ?_ | refine blk_alloc ?_ _)); refine blk_far ?_ NB169_179.out _; (with_reducible repeat (first | refine blk_drewN ?_ _ | refine blk_drew ?_ | refine blk_alloc ?_ _)); exact BK169.out⟩, ⟨by (with_reducible repeat (first | refine blk_drewN ?_ _ | refine blk_drew ?_ | refine blk_alloc ?_ _)); refine blk_put (cs := #[.int .i64 x180000_4, .int .u64 (Go.bits .xor .u64 x180001_4 ((rd_T58 x7_3 x180000_4).f1)), .int .u8 x180002_3]) ?_ 2 _ rfl; (with_reducible repeat (first | refine blk_drewN ?_ _ | refine blk_drew ?_ | refine blk_alloc ?_ _)); exact BK179.out⟩, ⟨by repeat (first | (with_reducible first | exact HB.out | apply below_alloc | apply pw_below_drewN | apply below_drew1 | refine below_set ?_ GE169.out | refine below_set ?_ GE179.out) | exact HB.out)⟩⟩
                                    · rw [if_neg c36] at H
                                      exact absurd H (by simp)
                                  · rw [if_neg c35] at H
                                    exact absurd H (by simp)
                    · rw [if_neg c17] at H
                      exact absurd H (by simp)
                  · rw [if_neg c16] at H
                    exact absurd H (by simp)
                · rw [if_neg c15] at H
                  have c15b0 : decide (x35_2 < (l0.length : Int)) = false := decide_eq_false c15
                  clear c15
                  by_cases c64 : 0 ≤ ji10
                  · rw [if_pos c64] at H
                    have c64b0 := eq_true c64
                    have c64b1 : decide (0 ≤ ji10) = true := decide_eq_true c64
                    clear c64
                    by_cases c65 : (ji10 : Int).toNat ≤ 281474976710656
                    · rw [if_pos c65] at H
                      have c65b0 := eq_true c65
                      have c65b1 : decide ((ji10 : Int).toNat ≤ 281474976710656) = true := decide_eq_true c65
                      clear c65
                      obtain ⟨y184, hy184⟩ : ∃ y_ : List Int, y_ = (List.replicate (ji10 : Int).toNat 0) := ⟨_, rfl⟩
                      replace H : (impl_RibbonOf.l3 k2 a1 x7_2 y184 (wrap64 (ji10 - 1))) = some (r1, r2, r3, r4, r5) := by first | (rw [hy184]; with_reducible exact H) | (have H2_ := (Option.bind_some _ _).symm.trans H; rw [hy184]; with_reducible exact H2_) | (have H2_ := (Option.bind_some _ _).symm.trans H; with_reducible exact H2_) | with_reducible exact H | (rw [hy184]; exact H) | exact H
                      have Ny184 := Aside0.mk hy184
                      clear hy184
                      have H' := Aside0.mk H
                      clear H
                      go_wp2_with (first | ((with_reducible refine gate_dst (N := 97) rfl ?_); refine Kd.R_make (Kd.int .u8) _ 5 rfl (N := 97) rfl 37 _ _ rfl ji10 rfl rfl Try.underlying37 (.int .u8 0) 1 info5 rfl (by decide) (by omega) 0 (ok := fun _ => True) (okp := fun _ => True) rfl (fun _ hk => hk) trivial (of_decide_eq_true (by first | (with_reducible assumption) | assumption)) (Nat.le_trans (Nat.mul_le_mul_right _ (of_decide_eq_true (by first | (with_reducible assumption) | assumption) : ji10.toNat ≤ 281474976710656)) (by omega)) (Below.refl _ _) (Nat.le_refl _) ?_; intro v185 w66 ho67 hb hg_ hnew_; clear hg_ hnew_; (first | rw [← Ny184.out] at ho67 | (simp only [Int.reduceToNat] at ho67; rw [← Ny184.out] at ho67)); have n0_ := Aside0.mk (Kd.R_below (by (with_reducible repeat (first | apply Kd.R_alloc | apply Kd.R_drewN | apply Kd.R_drew)); exact HO_7.out) hb); have n1_ := Aside0.mk (Kd.R_lower ho67 (below_size (by repeat (first | (with_reducible first | exact HB.out | apply below_alloc | apply pw_below_drewN | apply below_drew1 | refine below_set ?_ GE169.out) | exact HB.out)))); have n2_ := Aside0.mk (blk_below (g := gb169) (o := .cells #[.int .i64 x170000_2, .int .i64 x170001_2, .int .i64 x170002_2, .string x170003_2] 26 (0, 0)) (by (with_reducible repeat (first | refine blk_drewN ?_ _ | refine blk_drew ?_ | refine blk_alloc ?_ _)); exact BK169.out) hb); have n3_ := Aside0.mk (below_step (by repeat (first | (with_reducible first | exact HB.out | apply below_alloc | apply pw_below_drewN | apply below_drew1 | refine below_set ?_ GE169.out) | exact HB.out)) hb); clear HO_7; clear BK169; clear HB; have HO_7 := n0_; have HO186 := n1_; have BK169 := n2_; have HB := n3_; clear n0_ n1_ n2_ n3_; clear hb ho67))
                      go_loopg [13] k2 (fun kq v13 w' => ∃ (x12_3 : List Int) (x13_3 : Int), v13 = .int .i64 x13_3 ∧ Aside0 (impl_RibbonOf.l3 kq a1 x7_2 x12_3 x13_3 = some (r1, r2, r3, r4, r5)) ∧ Aside0 (kq ≤ k2) ∧ Aside0 (Kd.R k58 58 w' w.heap.size (fun _ => True) v173 x7_2) ∧ Aside0 (Kd.R (Kd.int .u8) 5 w' w.heap.size (fun _ => True) v185 x12_3) ∧ Aside0 (w'.heap[gb169]? = some (.cells #[.int .i64 x170000_2, .int .i64 x170001_2, .int .i64 x170002_2, .string x170003_2] 26 (0, 0))) ∧ Aside0 (Below w.heap.size w w'))
                      case atStart => exact ⟨(y184), (wrap64 (ji10 - 1)), (by first | rfl | (simp; done) | (simp only [← hji10] <;> (first | rfl | simp)) | (simp [*]; done)), H', ⟨Nat.le_refl _⟩, ⟨by (with_reducible repeat (first | apply Kd.R_alloc | apply Kd.R_drewN | apply Kd.R_drew)); exact HO_7.out⟩, ⟨by (with_reducible repeat (first | apply Kd.R_alloc | apply Kd.R_drewN | apply Kd.R_drew)); exact HO186.out⟩, ⟨by (with_reducible repeat (first | refine blk_drewN ?_ _ | refine blk_drew ?_ | refine blk_alloc ?_ _)); exact BK169.out⟩, ⟨by repeat (first | (with_reducible first | exact HB.out | apply below_alloc | apply pw_below_drewN | apply below_drew1 | refine below_set ?_ GE169.out) | exact HB.out)⟩⟩
                      case round =>
                        clear H'
                        try clear c1
                        try clear p1
                        try clear q1
                        try clear hx1
                        try clear c2
                        try clear p2
                        try clear c3
                        try clear p3
                        try clear q3
                        try clear hx3
                        try clear hf3
                        try clear c4
                        try clear hx4
                        try clear hf4
                        try clear c5
                        try clear hx5
                        try clear hf5
                        try clear c6
                        try clear p6
                        try clear c11
                        try clear c11b0
                        try clear c11b1
                        try clear c12
                        try clear c12b0
                        try clear c12b1
                        try clear c15
                        try clear c15b0
                        try clear c16
                        try clear c16b0
                        try clear c17
                        try clear c17b0
                        try clear p17
                        try clear q17
                        try clear hx17
                        try clear p18
                        try clear q18
                        try clear hx18
                        try clear c21
                        try clear c23
                        try clear c23b0
                        try clear c23b1
                        try clear c24
                        try clear c24b0
                        try clear c24b1
                        try clear c25
                        try clear c27
                        try clear c30
                        try clear c32
                        try clear c32b0
                        try clear c32b1
                        try clear c33
                        try clear c35
                        try clear c35b0
                        try clear c36
                        try clear c36b0
                        try clear c37
                        try clear p37
                        try clear q37
                        try clear hx37
                        try clear hf37
                        try clear c38
                        try clear c38b0
                        try clear c38b1
                        try clear c39
                        try clear c39b0
                        try clear c39b1
                        try clear c40
                        try clear c40b0
                        try clear c40b1
                        try clear c41
                        try clear c43
                        try clear hx43
                        try clear hf43
                        try clear c46
                        try clear c48
                        try clear hx48
                        try clear hf48
                        try clear c52
                        try clear c54
                        try clear hx54
                        try clear hf54
                        try clear c57
                        try clear c64
                        try clear c64b0
                        try clear c64b1
                        try clear p64
                        try clear c65
                        try clear c65b0
                        try clear c65b1
                        try clear hcz22_0
                        try clear hcz22_1
                        try clear hcz22_2
                        try clear hcz26_0
                        try clear hcz26_1
                        try clear hcz26_2
                        try clear hcz28_0
                        try clear hcz28_1
                        try clear hcz28_2
                        try clear hcz29_0
                        try clear hcz29_1
                        try clear hcz29_2
                        try clear hcz29_3
                        try clear hcz31_0
                        try clear hcz31_1
                        try clear hcz31_2
                        try clear hcz34_0
                        try clear hcz34_1
                        try clear hcz34_2
                        try clear hcz42_0
                        try clear hcz42_1
                        try clear hcz42_2
                        try clear hcz45_0
                        try clear hcz45_1
                        try clear hcz45_2
                        try clear hcz47_0
                        try clear hcz47_1
                        try clear hcz47_2
                        try clear hcz50_0
                        try clear hcz50_1
                        try clear hcz50_2
                        try clear hcz51_0
                        try clear hcz51_1
                        try clear hcz51_2
                        try clear hcz51_3
                        try clear hcz53_0
                        try clear hcz53_1
                        try clear hcz53_2
                        try clear hcz56_0
                        try clear hcz56_1
                        try clear hcz56_2
                        try clear hcz58_0
                        try clear hcz58_1
                        try clear hcz58_2
                        try clear hcz9_0
                        try clear hcz9_1
                        try clear hcz9_2
                        try clear hcz9_3
                        try clear hfz22_0
                        try clear hfz22_1
                        try clear hfz22_2
                        try clear hfz26_0
                        try clear hfz26_1
                        try clear hfz26_2
                        try clear hfz28_0
                        try clear hfz28_1
                        try clear hfz28_2
                        try clear hfz29_0
                        try clear hfz29_1
                        try clear hfz29_2
                        try clear hfz29_3
                        try clear hfz31_0
                        try clear hfz31_1
                        try clear hfz31_2
                        try clear hfz34_0
                        try clear hfz34_1
                        try clear hfz34_2
                        try clear hfz42_0
                        try clear hfz42_1
                        try clear hfz42_2
                        try clear hfz45_0
                        try clear hfz45_1
                        try clear hfz45_2
                        try clear hfz47_0
                        try clear hfz47_1
                        try clear hfz47_2
                        try clear hfz50_0
                        try clear hfz50_1
                        try clear hfz50_2
                        try clear hfz51_0
                        try clear hfz51_1
                        try clear hfz51_2
                        try clear hfz51_3
                        try clear hfz53_0
                        try clear hfz53_1
                        try clear hfz53_2
                        try clear hfz56_0
                        try clear hfz56_1
                        try clear hfz56_2
                        try clear hfz58_0
                        try clear hfz58_1
                        try clear hfz58_2
                        try clear hfz9_0
                        try clear hfz9_1
                        try clear hfz9_2
                        try clear hfz9_3
                        try clear hx175_0
                        try clear hx180_0
                        try clear hx180_1
                        try clear hx180_2
                        try clear hx182_0
                        try clear hx182_1
                        try clear hx182_2
                        try clear hx183_0
                        try clear hx183_1
                        try clear hx183_2
                        try clear hx37_0
                        try clear hx37_1
                        try clear hx37_2
                        try clear hx43_0
                        try clear hx43_1
                        try clear hx43_2
                        try clear hx48_0
                        try clear hx48_1
                        try clear hx48_2
                        try clear hx54_0
                        try clear hx54_1
                        try clear hx54_2
                        try clear p1
                        try clear p17
                        try clear p175
                        try clear p180
                        try clear p182
                        try clear p183
                        try clear p2
                        try clear p37
                        try clear p6
                        try clear q1
                        try clear q17
                        try clear q175
                        try clear q180
                        try clear q182
                        try clear q183
                        try clear q37
                        obtain ⟨x12_3, x13_3, rfl, HA, HK3, HO_7, HO_12, BK169, HB⟩ := hrel
                        cases gk with
                        | zero => exact absurd HA.out (by simp [impl_RibbonOf.l3])
                        | succ k3 =>
                          have H := HA.out
                          clear HA
                          simp only [impl_RibbonOf.l3] at H
                          by_cases c68 : x13_3 ≥ 0
                          · rw [if_pos c68] at H
                            have c68b0 : decide (0 ≤ x13_3) = true := decide_eq_true c68
                            clear c68
                            by_cases c69 : 0 ≤ x13_3
                            · rw [if_pos c69] at H
                              have c69b0 : decide (0 ≤ x13_3) = true := decide_eq_true c69
                              clear c69
                              by_cases c70 : x13_3 < (x7_2.length : Int)
                              · rw [if_pos c70] at H
                                have c70b0 : decide (x13_3 < (x7_2.length : Int)) = true := decide_eq_true c70
                                clear c70
                                by_cases c71 : ((rd_T58 x7_2 x13_3).f1) = 0
                                · rw [if_pos c71] at H
                                  have c71b0 : (((rd_T58 x7_2 x13_3).f1) == 0) = true := beq_iff_eq.mpr c71
                                  have c71b1 : (((rd_T58 x7_2 x13_3).f1) != 0) = false := bne_eq_false_iff_eq.mpr c71
                                  clear c71
                                  have H' := Aside0.mk H
                                  clear H
                                  obtain ⟨Ao72, co72, eo72⟩ := Kd.R_slice HO_7.out
                                  subst eo72
                                  have p187 : 0 ≤ (x13_3 : Int) := of_decide_eq_true (by first | (with_reducible assumption) | assumption)
                                  have q187 : x13_3 < (x7_2.length : Int) := of_decide_eq_true (by first | (with_reducible assumption) | assumption)
                                  obtain ⟨ad187, e187, hx187_0, hx187_1, hx187_2⟩ := at_T58 (Kd.R_reads' HO_7.out).2.2 x13_3 p187 q187
                                  cases e187
                                  replace p187 := eq_true p187
                                  replace q187 := eq_true q187
                                  go_wp2_with (first | ((with_reducible refine gate_dst (N := 14) rfl ?_); refine box_event ?hg (N := 14) ?hd (cs := #[.int .i64 0, .int .u64 0, .int .u8 0]) (t := 58) ?hr ?_; (case hd => rfl); (case hg => rfl); (case hr => first | (go_simp; done) | (go_simp; rfl)); intro gb188 hg w73 hbox hb; have n0_ := Aside0.mk (Kd.R_below (Kd.R_elderB (by (with_reducible repeat (first | apply Kd.R_alloc | apply Kd.R_drewN | apply Kd.R_drew)); exact HO_7.out) gb188 (Nat.le_of_eq hg.symm)) hb); have n1_ := Aside0.mk (Kd.R_below (by (with_reducible repeat (first | apply Kd.R_alloc | apply Kd.R_drewN | apply Kd.R_drew)); exact HO_12.out) hb); have n2_ := Aside0.mk (blk_below (g := gb169) (o := .cells #[.int .i64 x170000_2, .int .i64 x170001_2, .int .i64 x170002_2, .string x170003_2] 26 (0, 0)) (by (with_reducible repeat (first | refine blk_drewN ?_ _ | refine blk_drew ?_ | refine blk_alloc ?_ _)); exact BK169.out) hb); have n3_ := Aside0.mk (below_step (by repeat (first | (with_reducible first | exact HB.out | apply below_alloc | apply pw_below_drewN | apply below_drew1 | refine below_set ?_ GE169.out) | exact HB.out)) hb); have n4_ := Aside0.mk (hbox); have n5_ := Aside0.mk ((by rw [hg]; exact (below_size (by repeat (first | (with_reducible first | exact HB.out | apply below_alloc | apply pw_below_drewN | apply below_drew1 | refine below_set ?_ GE169.out) | exact HB.out))) : w.heap.size ≤ gb188)); have n6_ := Aside0.mk ((by rw [hg]; exact (below_size (by repeat (first | (with_reducible first | exact HB.out | apply below_alloc | apply pw_below_drewN | apply below_drew1 | refine below_set ?_ GE169.out) | exact HB.out))) : w.heap.size ≤ gb188)); have n7_ := Aside0.mk ((by rw [hg]; exact Nat.ne_of_lt (blk_lt (g := gb169) (o := .cells #[.int .i64 x170000_2, .int .i64 x170001_2, .int .i64 x170002_2, .string x170003_2] 26 (0, 0)) (by (with_reducible repeat (first | refine blk_drewN ?_ _ | refine blk_drew ?_ | refine blk_alloc ?_ _)); exact BK169.out)) : gb169 ≠ gb188)); have n8_ := Aside0.mk ((by rw [hg]; exact Nat.ne_of_gt (blk_lt (g := gb169) (o := .cells #[.int .i64 x170000_2, .int .i64 x170001_2, .int .i64 x170002_2, .string x170003_2] 26 (0, 0)) (by (with_reducible repeat (first | refine blk_drewN ?_ _ | refine blk_drew ?_ | refine blk_alloc ?_ _)); exact BK169.out)) : gb188 ≠ gb169)); clear HO_7; clear HO_12; clear BK169; clear HB; have HO_7 := n0_; have HO_12 := n1_; have BK169 := n2_; have HB := n3_; have BK188 := n4_; have GW188 := n5_; have GE188 := n6_; have NB169_188 := n7_; have NB188_169 := n8_; clear n0_ n1_ n2_ n3_ n4_ n5_ n6_ n7_ n8_; clear hb hbox hg; have hnb74 := NB188_169.out; have hnc74 := NB169_188.out; have hcz75_0 : w73.cell? ⟨gb188, 0, none⟩ = some (.int .i64 0) := (blk_cell BK188.out 0).trans rfl; have hcz75_1 : w73.cell? ⟨gb188, 1, none⟩ = some (.int .u64 0) := (blk_cell BK188.out 1).trans rfl; have hcz75_2 : w73.cell? ⟨gb188, 2, none⟩ = some (.int .u8 0) := (blk_cell BK188.out 2).trans rfl; have hfz75_0 := blk_frozen BK188.out 0; have hfz75_1 := blk_frozen BK188.out 1; have hfz75_2 := blk_frozen BK188.out 2))
                                  go_roundg k3
                                  case measure => have := HJ2.out; have := HK2.out; have := HK3.out; omega
                                  case rel => exact ⟨(x12_3), (wrap64 (x13_3 - 1)), (by first | rfl | (simp; done) | (simp [*]; done)), H', ⟨by have := HJ2.out; have := HK2.out; have := HK3.out; omega⟩, ⟨by (with_reducible repeat (first | apply Kd.R_alloc | apply Kd.R_drewN | apply Kd.R_drew)); exact Kd.R_mono (Kd.R_far (p := ⟨gb188, 2, none⟩) (Kd.R_far (p := ⟨gb188, 1, none⟩) (Kd.R_far (p := ⟨gb188, 0, none⟩) (Kd.R_mono HO_7.out (fun k_ hk => (⟨hk, hk.2⟩ : _ ∧ k_ ≠ gb188))) (fun _ hk => hk.2) (.int .i64 ((rd_T58 x7_2 x13_3).f0))) (fun _ hk => hk.2) (.int .u64 ((rd_T58 x7_2 x13_3).f1))) (fun _ hk => hk.2) (.int .u8 ((rd_T58 x7_2 x13_3).f2))) (fun _ hk => trivial)⟩, ⟨by (with_reducible repeat (first | apply Kd.R_alloc | apply Kd.R_drewN | apply Kd.R_drew)); exact Kd.R_mono (Kd.R_far (p := ⟨gb188, 2, none⟩) (Kd.R_far (p := ⟨gb188, 1, none⟩) (Kd.R_far (p := ⟨gb188, 0, none⟩) (Kd.R_types HO_12.out BK188.out (by decide)) (fun _ hk => hk.2) (.int .i64 ((rd_T58 x7_2 x13_3).f0))) (fun _ hk => hk.2) (.int .u64 ((rd_T58 x7_2 x13_3).f1))) (fun _ hk => hk.2) (.int .u8 ((rd_T58 x7_2 x13_3).f2))) (fun _ hk => trivial)⟩, ⟨by (with_reducible repeat (first | refine blk_drewN ?_ _ | refine blk_drew ?_ | refine blk_alloc ?_ _)); refine blk_far ?_ NB169_188.out _; (with_reducible repeat (first | refine blk_drewN ?_ _ | refine blk_drew ?_ | refine blk_alloc ?_ _)); refine blk_far ?_ NB169_188.out _; (with_reducible repeat (first | refine blk_drewN ?_ _ | refine blk_drew ?_ | refine blk_alloc ?_ _)); refine blk_far ?_ NB169_188.out _; (with_reducible repeat (first | refine blk_drewN ?_ _ | refine blk_drew ?_ | refine blk_alloc ?_ _)); exact BK169.out⟩, ⟨by repeat (first | (with_reducible first | exact HB.out | apply below_alloc | apply pw_below_drewN | apply below_drew1 | refine below_set ?_ GE169.out | refine below_set ?_ GE188.out) | exact HB.out)⟩⟩
                                · rw [if_neg c71] at H
                                  have c71b0 : (((rd_T58 x7_2 x13_3).f1) == 0) = false := beq_eq_false_iff_ne.mpr c71
                                  have c71b1 : (((rd_T58 x7_2 x13_3).f1) != 0) = true := bne_iff_ne.mpr c71
                                  replace H := Option.bind_eq_some_iff.mp H
                                  obtain ⟨t189, A760, H⟩ := H
                                  replace H : (if x13_3 < (x12_3.length : Int) then (impl_RibbonOf.l3 k3 a1 x7_2 (x12_3.set (x13_3 : Int).toNat (Go.bits .xor .u8 ((rd_T58 x7_2 x13_3).f2) t189)) (wrap64 (x13_3 - 1))) else (none)) = some (r1, r2, r3, r4, r5) := H
                                  have A76 := Aside0.mk A760
                                  clear A760
                                  by_cases c77 : x13_3 < (x12_3.length : Int)
                                  · rw [if_pos c77] at H
                                    have c77b0 : decide (x13_3 < (x12_3.length : Int)) = true := decide_eq_true c77
                                    clear c77
                                    obtain ⟨y190, hy190⟩ : ∃ y_ : List Int, y_ = (x12_3.set (x13_3 : Int).toNat (Go.bits .xor .u8 ((rd_T58 x7_2 x13_3).f2) t189)) := ⟨_, rfl⟩
                                    replace H : (impl_RibbonOf.l3 k3 a1 x7_2 y190 (wrap64 (x13_3 - 1))) = some (r1, r2, r3, r4, r5) := by first | (rw [hy190]; with_reducible exact H) | (have H2_ := (Option.bind_some _ _).symm.trans H; rw [hy190]; with_reducible exact H2_) | (have H2_ := (Option.bind_some _ _).symm.trans H; with_reducible exact H2_) | with_reducible exact H | (rw [hy190]; exact H) | exact H
                                    have Ny190 := Aside0.mk hy190
                                    clear hy190
                                    have H' := Aside0.mk H
                                    clear H
                                    obtain ⟨Ao79, co79, eo79⟩ := Kd.R_slice HO_7.out
                                    subst eo79
                                    have p187 : 0 ≤ (x13_3 : Int) := of_decide_eq_true (by first | (with_reducible assumption) | assumption)
                                    have q187 : x13_3 < (x7_2.length : Int) := of_decide_eq_true (by first | (with_reducible assumption) | assumption)
                                    obtain ⟨ad187, e187, hx187_0, hx187_1, hx187_2⟩ := at_T58 (Kd.R_reads' HO_7.out).2.2 x13_3 p187 q187
                                    cases e187
                                    replace p187 := eq_true p187
                                    replace q187 := eq_true q187
                                    try go_wp2_with (first | ((with_reducible refine gate_dst (N := 14) rfl ?_); refine box_event ?hg (N := 14) ?hd (cs := #[.int .i64 0, .int .u64 0, .int .u8 0]) (t := 58) ?hr ?_; (case hd => rfl); (case hg => rfl); (case hr => first | (go_simp; done) | (go_simp; rfl)); intro gb188 hg w80 hbox hb; have n0_ := Aside0.mk (Kd.R_below (Kd.R_elderB (by (with_reducible repeat (first | apply Kd.R_alloc | apply Kd.R_drewN | apply Kd.R_drew)); exact HO_7.out) gb188 (Nat.le_of_eq hg.symm)) hb); have n1_ := Aside0.mk (Kd.R_below (by (with_reducible repeat (first | apply Kd.R_alloc | apply Kd.R_drewN | apply Kd.R_drew)); exact HO_12.out) hb); have n2_ := Aside0.mk (blk_below (g := gb169) (o := .cells #[.int .i64 x170000_2, .int .i64 x170001_2, .int .i64 x170002_2, .string x170003_2] 26 (0, 0)) (by (with_reducible repeat (first | refine blk_drewN ?_ _ | refine blk_drew ?_ | refine blk_alloc ?_ _)); exact BK169.out) hb); have n3_ := Aside0.mk (below_step (by repeat (first | (with_reducible first | exact HB.out | apply below_alloc | apply pw_below_drewN | apply below_drew1 | refine below_set ?_ GE169.out) | exact HB.out)) hb); have n4_ := Aside0.mk (hbox); have n5_ := Aside0.mk ((by rw [hg]; exact (below_size (by repeat (first | (with_reducible first | exact HB.out | apply below_alloc | apply pw_below_drewN | apply below_drew1 | refine below_set ?_ GE169.out) | exact HB.out))) : w.heap.size ≤ gb188)); have n6_ := Aside0.mk ((by rw [hg]; exact (below_size (by repeat (first | (with_reducible first | exact HB.out | apply below_alloc | apply pw_below_drewN | apply below_drew1 | refine below_set ?_ GE169.out) | exact HB.out))) : w.heap.size ≤ gb188)); have n7_ := Aside0.mk ((by rw [hg]; exact Nat.ne_of_lt (blk_lt (g := gb169) (o := .cells #[.int .i64 x170000_2, .int .i64 x170001_2, .int .i64 x170002_2, .string x170003_2] 26 (0, 0)) (by (with_reducible repeat (first | refine blk_drewN ?_ _ | refine blk_drew ?_ | refine blk_alloc ?_ _)); exact BK169.out)) : gb169 ≠ gb188)); have n8_ := Aside0.mk ((by rw [hg]; exact Nat.ne_of_gt (blk_lt (g := gb169) (o := .cells #[.int .i64 x170000_2, .int .i64 x170001_2, .int .i64 x170002_2, .string x170003_2] 26 (0, 0)) (by (with_reducible repeat (first | refine blk_drewN ?_ _ | refine blk_drew ?_ | refine blk_alloc ?_ _)); exact BK169.out)) : gb188 ≠ gb169)); clear HO_7; clear HO_12; clear BK169; clear HB; have HO_7 := n0_; have HO_12 := n1_; have BK169 := n2_; have HB := n3_; have BK188 := n4_; have GW188 := n5_; have GE188 := n6_; have NB169_188 := n7_; have NB188_169 := n8_; clear n0_ n1_ n2_ n3_ n4_ n5_ n6_ n7_ n8_; clear hb hbox hg; have hnb81 := NB188_169.out; have hnc81 := NB169_188.out; have hcz82_0 : w80.cell? ⟨gb188, 0, none⟩ = some (.int .i64 0) := (blk_cell BK188.out 0).trans rfl; have hcz82_1 : w80.cell? ⟨gb188, 1, none⟩ = some (.int .u64 0) := (blk_cell BK188.out 1).trans rfl; have hcz82_2 : w80.cell? ⟨gb188, 2, none⟩ = some (.int .u8 0) := (blk_cell BK188.out 2).trans rfl; have hfz82_0 := blk_frozen BK188.out 0; have hfz82_1 := blk_frozen BK188.out 1; have hfz82_2 := blk_frozen BK188.out 2))
                                    have n0_ : Aside0 (Kd.R k58 58 (((w80.setCell ⟨gb188, 0, none⟩ (.int .i64 ((rd_T58 x7_2 x13_3).f0))).setCell ⟨gb188, 1, none⟩ (.int .u64 ((rd_T58 x7_2 x13_3).f1))).setCell ⟨gb188, 2, none⟩ (.int .u8 ((rd_T58 x7_2 x13_3).f2))) w.heap.size (fun k_ => k_ ≠ gb188) (.slice (some ad187) x7_2.length co79) x7_2) := ⟨by (with_reducible repeat (first | apply Kd.R_alloc | apply Kd.R_drewN | apply Kd.R_drew)); exact Kd.R_mono (Kd.R_far (p := ⟨gb188, 2, none⟩) (Kd.R_far (p := ⟨gb188, 1, none⟩) (Kd.R_far (p := ⟨gb188, 0, none⟩) (Kd.R_mono HO_7.out (fun k_ hk => (⟨hk, hk.2⟩ : _ ∧ k_ ≠ gb188))) (fun _ hk => hk.2) (.int .i64 ((rd_T58 x7_2 x13_3).f0))) (fun _ hk => hk.2) (.int .u64 ((rd_T58 x7_2 x13_3).f1))) (fun _ hk => hk.2) (.int .u8 ((rd_T58 x7_2 x13_3).f2))) (fun _ hk => hk.1.2)⟩
                                    have n1_ : Aside0 (Kd.R (Kd.int .u8) 5 (((w80.setCell ⟨gb188, 0, none⟩ (.int .i64 ((rd_T58 x7_2 x13_3).f0))).setCell ⟨gb188, 1, none⟩ (.int .u64 ((rd_T58 x7_2 x13_3).f1))).setCell ⟨gb188, 2, none⟩ (.int .u8 ((rd_T58 x7_2 x13_3).f2))) w.heap.size (fun _ => True) v185 x12_3) := ⟨by (with_reducible repeat (first | apply Kd.R_alloc | apply Kd.R_drewN | apply Kd.R_drew)); exact Kd.R_mono (Kd.R_far (p := ⟨gb188, 2, none⟩) (Kd.R_far (p := ⟨gb188, 1, none⟩) (Kd.R_far (p := ⟨gb188, 0, none⟩) (Kd.R_types HO_12.out BK188.out (by decide)) (fun _ hk => hk.2) (.int .i64 ((rd_T58 x7_2 x13_3).f0))) (fun _ hk => hk.2) (.int .u64 ((rd_T58 x7_2 x13_3).f1))) (fun _ hk => hk.2) (.int .u8 ((rd_T58 x7_2 x13_3).f2))) (fun _ hk => trivial)⟩
                                    have n2_ : Aside0 ((((w80.setCell ⟨gb188, 0, none⟩ (.int .i64 ((rd_T58 x7_2 x13_3).f0))).setCell ⟨gb188, 1, none⟩ (.int .u64 ((rd_T58 x7_2 x13_3).f1))).setCell ⟨gb188, 2, none⟩ (.int .u8 ((rd_T58 x7_2 x13_3).f2))).heap[gb169]? = some (.cells #[.int .i64 x170000_2, .int .i64 x170001_2, .int .i64 x170002_2, .string x170003_2] 26 (0, 0))) := ⟨by (with_reducible repeat (first | refine blk_drewN ?_ _ | refine blk_drew ?_ | refine blk_alloc ?_ _)); refine blk_far ?_ NB169_188.out _; (with_reducible repeat (first | refine blk_drewN ?_ _ | refine blk_drew ?_ | refine blk_alloc ?_ _)); refine blk_far ?_ NB169_188.out _; (with_reducible repeat (first | refine blk_drewN ?_ _ | refine blk_drew ?_ | refine blk_alloc ?_ _)); refine blk_far ?_ NB169_188.out _; (with_reducible repeat (first | refine blk_drewN ?_ _ | refine blk_drew ?_ | refine blk_alloc ?_ _)); exact BK169.out⟩
                                    have n3_ : Aside0 ((((w80.setCell ⟨gb188, 0, none⟩ (.int .i64 ((rd_T58 x7_2 x13_3).f0))).setCell ⟨gb188, 1, none⟩ (.int .u64 ((rd_T58 x7_2 x13_3).f1))).setCell ⟨gb188, 2, none⟩ (.int .u8 ((rd_T58 x7_2 x13_3).f2))).heap[gb188]? = some (.cells #[.int .i64 ((rd_T58 x7_2 x13_3).f0), .int .u64 ((rd_T58 x7_2 x13_3).f1), .int .u8 ((rd_T58 x7_2 x13_3).f2)] 58 (0, 0))) := ⟨by (with_reducible repeat (first | refine blk_drewN ?_ _ | refine blk_drew ?_ | refine blk_alloc ?_ _)); refine blk_put (cs := #[.int .i64 ((rd_T58 x7_2 x13_3).f0), .int .u64 ((rd_T58 x7_2 x13_3).f1), .int .u8 0]) ?_ 2 _ rfl; (with_reducible repeat (first | refine blk_drewN ?_ _ | refine blk_drew ?_ | refine blk_alloc ?_ _)); refine blk_put (cs := #[.int .i64 ((rd_T58 x7_2 x13_3).f0), .int .u64 0, .int .u8 0]) ?_ 1 _ rfl; (with_reducible repeat (first | refine blk_drewN ?_ _ | refine blk_drew ?_ | refine blk_alloc ?_ _)); refine blk_put (cs := #[.int .i64 0, .int .u64 0, .int .u8 0]) ?_ 0 _ rfl; (with_reducible repeat (first | refine blk_drewN ?_ _ | refine blk_drew ?_ | refine blk_alloc ?_ _)); exact BK188.out⟩
                                    have n4_ : Aside0 (Below w.heap.size w (((w80.setCell ⟨gb188, 0, none⟩ (.int .i64 ((rd_T58 x7_2 x13_3).f0))).setCell ⟨gb188, 1, none⟩ (.int .u64 ((rd_T58 x7_2 x13_3).f1))).setCell ⟨gb188, 2, none⟩ (.int .u8 ((rd_T58 x7_2 x13_3).f2)))) := ⟨by repeat (first | (with_reducible first | exact HB.out | apply below_alloc | apply pw_below_drewN | apply below_drew1 | refine below_set ?_ GE169.out | refine below_set ?_ GE188.out) | exact HB.out)⟩
                                    (try clear HO_7)
                                    (try clear HO_12)
                                    (try clear BK169)
                                    (try clear BK188)
                                    (try clear HB)
                                    generalize (((w80.setCell ⟨gb188, 0, none⟩ (.int .i64 ((rd_T58 x7_2 x13_3).f0))).setCell ⟨gb188, 1, none⟩ (.int .u64 ((rd_T58 x7_2 x13_3).f1))).setCell ⟨gb188, 2, none⟩ (.int .u8 ((rd_T58 x7_2 x13_3).f2))) = w83 at n0_ n1_ n2_ n3_ n4_ ⊢
                                    have HO_7 := n0_
                                    have HO_12 := n1_
                                    have BK169 := n2_
                                    have BK188 := n3_
                                    have HB := n4_
                                    clear n0_ n1_ n2_ n3_ n4_
                                    have n0_ := Aside0.mk (Kd.R_drew HO_7.out)
                                    have n1_ := Aside0.mk (Kd.R_drew HO_12.out)
                                    have n2_ := Aside0.mk (blk_drew BK169.out)
                                    have n3_ := Aside0.mk (blk_drew BK188.out)
                                    have n4_ := Aside0.mk (below_drew1 HB.out)
                                    clear HO_7
                                    clear HO_12
                                    clear BK169
                                    clear BK188
                                    clear HB
                                    have HO_7 := n0_
                                    have HO_12 := n1_
                                    have BK169 := n2_
                                    have BK188 := n3_
                                    have HB := n4_
                                    clear n0_ n1_ n2_ n3_ n4_
                                    obtain ⟨Ao85, co85, eo85⟩ := Kd.R_slice HO_12.out
                                    (first | subst eo85 | (injection eo85 with f1_ f2_ f3_; have f4_ := f1_.symm; have f5_ := f3_.symm; clear f1_ f2_ f3_; subst f4_; subst f5_))
                                    refine start_ (n := 13) (S := fun w' => w'.cell? ⟨gb188, 0, none⟩ = some (.int .i64 ((rd_T58 x7_2 x13_3).f0)) ∧ w'.cell? ⟨gb188, 1, none⟩ = some (.int .u64 ((rd_T58 x7_2 x13_3).f1)) ∧ w'.cell? ⟨gb188, 2, none⟩ = some (.int .u8 ((rd_T58 x7_2 x13_3).f2))) (ds := [12]) #[false, false, false, false, false, false, false, false, false, false, false, false, false] (by kernel_rfl) rfl rfl ⟨(blk_cell BK188.out 0).trans rfl, (blk_cell BK188.out 1).trans rfl, (blk_cell BK188.out 2).trans rfl⟩ (fun hHeld => ?_); refine with_tabW impl_RibbonOf.tab27 impl_RibbonOf.bits27 (fun HT_ HW_ => ?_)
                                    generalize w83.drew = w84 at HO_7 HO_12 BK169 BK188 HB hHeld ⊢
                                    refine pure_ (i := 0) (N := some 111) (v := ?_) (a' := ?_) #[true, false, false, false, false, false, false, false, false, false, false, false, false] rfl rfl (any_of HT_.out (by kernel_rfl)) (fun _ _ _ h => h) (Or.inl ⟨by rfl, ?_⟩) ?_ ?_
                                    rotate_left
                                    · intro w'
                                      go_simp
                                      with_reducible rfl
                                    rotate_left
                                    · simp only [Act.put, List.setIfInBounds_toArray, List.set_cons_zero, List.set_cons_succ, i64_w, i32_w]
                                      rfl
                                    refine pure_ (i := 1) (N := some 112) (v := ?_) (a' := ?_) #[true, true, false, false, false, false, false, false, false, false, false, false, false] rfl rfl (any_of HT_.out (by kernel_rfl)) (fun _ _ _ h => h) (Or.inl ⟨by rfl, ?_⟩) ?_ ?_
                                    rotate_left
                                    · intro w'
                                      go_simp
                                      with_reducible rfl
                                    rotate_left
                                    · simp only [Act.put, List.setIfInBounds_toArray, List.set_cons_zero, List.set_cons_succ, i64_w, i32_w]
                                      rfl
                                    refine pure_ (i := 2) (N := some 113) (v := ?_) (a' := ?_) #[true, true, true, false, false, false, false, false, false, false, false, false, false] rfl rfl (any_of HT_.out (by kernel_rfl)) (fun _ _ _ h => h) (Or.inl ⟨by rfl, ?_⟩) ?_ ?_
                                    rotate_left
                                    · intro w'
                                      go_simp
                                      with_reducible rfl
                                    rotate_left
                                    · simp only [Act.put, List.setIfInBounds_toArray, List.set_cons_zero, List.set_cons_succ, i64_w, i32_w]
                                      rfl
                                    refine pure_ (i := 4) (N := some 115) (v := ?_) (a' := ?_) #[true, true, true, false, true, false, false, false, false, false, false, false, false] rfl rfl (any_of HT_.out (by kernel_rfl)) (fun _ _ _ h => h) (Or.inl ⟨by rfl, ?_⟩) ?_ ?_
                                    rotate_left
                                    · intro w'
                                      go_simp
                                      with_reducible rfl
                                    rotate_left
                                    · simp only [Act.put, List.setIfInBounds_toArray, List.set_cons_zero, List.set_cons_succ, i64_w, i32_w]
                                      rfl
                                    refine pure_ (i := 5) (N := some 116) (v := ?_) (a' := ?_) #[true, true, true, false, true, true, false, false, false, false, false, false, false] rfl rfl (any_of HT_.out (by kernel_rfl)) (fun _ _ _ h => h) (Or.inl ⟨by rfl, ?_⟩) ?_ ?_
                                    rotate_left
                                    · intro w'
                                      go_simp
                                      with_reducible rfl
                                    rotate_left
                                    · simp only [Act.put, List.setIfInBounds_toArray, List.set_cons_zero, List.set_cons_succ, i64_w, i32_w]
                                      rfl
                                    refine pure_ (i := 6) (N := some 117) (v := ?_) (a' := ?_) #[true, true, true, false, true, true, true, false, false, false, false, false, false] rfl rfl (any_of HT_.out (by kernel_rfl)) (fun _ _ _ h => h) (Or.inl ⟨by rfl, ?_⟩) ?_ ?_
                                    rotate_left
                                    · intro w'
                                      go_simp
                                      with_reducible rfl
                                    rotate_left
                                    · simp only [Act.put, List.setIfInBounds_toArray, List.set_cons_zero, List.set_cons_succ, i64_w, i32_w]
                                      rfl
                                    refine take_ (i := 3) (N := some 114) (v := ?_) (a' := ?_) #[true, true, true, true, true, true, true, false, false, false, false, false, false] rfl rfl (take_ofW HT_.out HW_.out (by kernel_rfl)) (fun _ _ _ h => h) (Or.inl ⟨by rfl, ?_⟩) hHeld ?_ ?_
                                    rotate_left
                                    · rintro w' ⟨s0, s1, s2⟩
                                      go_simp
                                      with_reducible rfl
                                    rotate_left
                                    · simp only [Act.put, List.setIfInBounds_toArray, List.set_cons_zero, List.set_cons_succ, i64_w, i32_w]
                                      rfl
                                    refine take_ (i := 7) (N := some 118) (v := ?_) (a' := ?_) #[true, true, true, true, true, true, true, true, false, false, false, false, false] rfl rfl (take_ofW HT_.out HW_.out (by kernel_rfl)) (fun _ _ _ h => h) (Or.inl ⟨by rfl, ?_⟩) hHeld ?_ ?_
                                    rotate_left
                                    · rintro w' ⟨s0, s1, s2⟩
                                      go_simp
                                      with_reducible rfl
                                    rotate_left
                                    · simp only [Act.put, List.setIfInBounds_toArray, List.set_cons_zero, List.set_cons_succ, i64_w, i32_w]
                                      rfl
                                    refine pure_ (i := 8) (N := some 119) (v := ?_) (a' := ?_) #[true, true, true, true, true, true, true, true, true, false, false, false, false] rfl rfl (any_of HT_.out (by kernel_rfl)) (fun _ _ _ h => h) (Or.inl ⟨by rfl, ?_⟩) ?_ ?_
                                    rotate_left
                                    · intro w'
                                      go_simp
                                      with_reducible rfl
                                    rotate_left
                                    · simp only [Act.put, List.setIfInBounds_toArray, List.set_cons_zero, List.set_cons_succ, i64_w, i32_w]
                                      rfl
                                    refine one_ (i := 9) (N := some 120) #[true, true, true, true, true, true, true, true, true, true, false, false, false] rfl rfl (one_of HT_.out (by kernel_rfl)) (by decide) (fun K hK => ?_)
                                    refine goes_ Try.func35 (by kernel_rfl) rfl #[.slice Ao85 x12_3.length co85, .int .i64 x13_3, .int .u64 (Go.bits .andNot .u64 ((rd_T58 x7_2 x13_3).f1) 1)] (by rfl) rfl rfl (by (try simp only [List.map_toArray, List.map_cons, List.map_nil]); first | done | rfl | (simp only [List.length_drop, List.length_take]; rfl)) ?_
                                    with_reducible refine (impl_solve.calls k3 _ _ x12_3 x13_3 (Go.bits .andNot .u64 ((rd_T58 x7_2 x13_3).f1) 1) t189 _ ?side1 ?side2 A76.out).mono ?_
                                    (case side1 => repeat (first | exact (Kd.R_reads' HO_12.out).2.2 | (with_reducible refine Kd.C_alloc ?_ _) | (with_reducible refine Kd.C_drewN ?_ _) | (with_reducible refine Kd.C_drew ?_)))
                                    (case side2 => exact (Kd.R_reads' HO_12.out).2.1)
                                    rintro e w' ⟨rfl, ⟨nd, rfl⟩⟩
                                    refine ⟨_, rfl, ?_⟩
                                    have p78 : 0 ≤ (x13_3 : Int) := of_decide_eq_true (by first | (with_reducible assumption) | assumption)
                                    have q78 : (x13_3 : Int) < ((x12_3.length : Int) : Int) := of_decide_eq_true (by first | (with_reducible assumption) | assumption)
                                    obtain ⟨go78, co78, eo78, gb78, gl78, cl78, HG78⟩ := Kd.R_form HO_12.out (by omega)
                                    (first | cases eo78 | (injection eo78 with ea_ en_ ec_; (first | subst ea_ | (injection ea_ with ea_; subst ea_)); subst ec_; clear en_))
                                    have GB78 := Aside0.mk gb78
                                    have GG78 := Aside0.mk HG78
                                    clear gb78 gl78 HG78
                                    obtain ⟨hx78_0, hf78_0⟩ := Kd.R_celln 0 HO_12.out (x13_3 : Int) p78 q78
                                    replace p78 := eq_true p78
                                    replace q78 := eq_true q78
                                    have HP86 := Kd.R_putn HO_12.out (x13_3 : Int) (Go.bits .xor .u8 ((rd_T58 x7_2 x13_3).f2) t189)
                                    rw [← Ny190.out] at HP86
                                    have HQ86 := Aside0.mk HP86
                                    clear HP86
                                    refine hK.out _ _ ⟨(blk_cell BK188.out 0).trans rfl, (blk_cell BK188.out 1).trans rfl, (blk_cell BK188.out 2).trans rfl⟩ (fun hHeld => ?_)
                                    clear hK K
                                    refine norm_ (a' := ?_) ?_ ?_
                                    rotate_left
                                    · show Act.put _ (some 120) _ = _
                                      simp only [Act.put, List.setIfInBounds_toArray, List.set_cons_zero, List.set_cons_succ, i64_w, i32_w]
                                      rfl
                                    refine pure_ (i := 10) (N := some 121) (v := ?_) (a' := ?_) #[true, true, true, true, true, true, true, true, true, true, true, false, false] rfl rfl (any_of HT_.out (by kernel_rfl)) (fun _ _ _ h => h) (Or.inl ⟨by rfl, ?_⟩) ?_ ?_
                                    rotate_left
                                    · intro w'
                                      go_simp
                                      with_reducible rfl
                                    rotate_left
                                    · simp only [Act.put, List.setIfInBounds_toArray, List.set_cons_zero, List.set_cons_succ, i64_w, i32_w]
                                      rfl
                                    refine pure_ (i := 11) (N := some 122) (v := ?_) (a' := ?_) #[true, true, true, true, true, true, true, true, true, true, true, true, false] rfl rfl (any_of HT_.out (by kernel_rfl)) (fun _ _ _ h => h) (Or.inl ⟨by rfl, ?_⟩) ?_ ?_
                                    rotate_left
                                    · intro w'
                                      go_simp
                                      with_reducible rfl
                                    rotate_left
                                    · simp only [Act.put, List.setIfInBounds_toArray, List.set_cons_zero, List.set_cons_succ, i64_w, i32_w]
                                      rfl
                                    refine last_ (i := 12) (N := none) #[true, true, true, true, true, true, true, true, true, true, true, true, true] rfl rfl (one_of HT_.out (by kernel_rfl)) (by decide) (fun K hK => ?_)
                                    refine skip_ (w1 := ?_) (by rfl) rfl ?_ ?_
                                    rotate_left
                                    · go_simp
                                      rfl
                                    refine hK.out _ _ ?_
                                    clear hK K
                                    refine done_ (done_of HT_.out (by kernel_rfl)) ?_
                                    try go_wp2
                                    go_roundg k3
                                    case measure => have := HJ2.out; have := HK2.out; have := HK3.out; omega
                                    case rel => exact ⟨(y190), (wrap64 (x13_3 - 1)), (by first | rfl | (simp; done) | (simp [*]; done)), H', ⟨by have := HJ2.out; have := HK2.out; have := HK3.out; omega⟩, ⟨by (with_reducible repeat (first | apply Kd.R_alloc | apply Kd.R_drewN | apply Kd.R_drew)); exact Kd.R_mono (Kd.R_far (p := ⟨go78, (x13_3 : Int).toNat, none⟩) (Kd.R_types HO_7.out GG78.out (by decide)) (fun _ hk => hk.2) (.int .u8 (Go.bits .xor .u8 ((rd_T58 x7_2 x13_3).f2) t189))) (fun _ hk => trivial)⟩, ⟨by (with_reducible repeat (first | apply Kd.R_alloc | apply Kd.R_drewN | apply Kd.R_drew)); exact HQ86.out⟩, ⟨by (with_reducible repeat (first | refine blk_drewN ?_ _ | refine blk_drew ?_ | refine blk_alloc ?_ _)); refine blk_far ?_ (by have h_ := Kd.R_ne HO_12.out BK169.out (by decide); intro e_; exact h_ (by rw [e_]; rfl)) _; (with_reducible repeat (first | refine blk_drewN ?_ _ | refine blk_drew ?_ | refine blk_alloc ?_ _)); exact BK169.out⟩, ⟨by repeat (first | (with_reducible first | exact HB.out | apply below_alloc | apply pw_below_drewN | apply below_drew1 | refine below_set ?_ GB78.out | refine below_set ?_ GE169.out | refine below_set ?_ GE188.out) | exact HB.out)⟩⟩
                                  · rw [if_neg c77] at H
                                    exact absurd H (by simp)
                              · rw [if_neg c70] at H
                                exact absurd H (by simp)
                            · rw [if_neg c69] at H
                              exact absurd H (by simp)
                          · rw [if_neg c68] at H
                            have c68b0 : decide (0 ≤ x13_3) = false := decide_eq_false c68
                            clear c68
                            simp only [Option.some.injEq, Prod.mk.injEq] at H
                            obtain ⟨rfl, rfl, rfl, rfl, rfl⟩ := H
                            have hcv87 := own_string (P := Try.prog) Try.underlying37 Try.underlying5 Try.underlying9 (Kd.own_of_R HO_12.out)
                            have hcz88_0 : wr.cell? ⟨gb169, 0, none⟩ = some (.int .i64 x170000_2) := (blk_cell BK169.out 0).trans rfl
                            have hcz88_1 : wr.cell? ⟨gb169, 1, none⟩ = some (.int .i64 x170001_2) := (blk_cell BK169.out 1).trans rfl
                            have hcz88_2 : wr.cell? ⟨gb169, 2, none⟩ = some (.int .i64 x170002_2) := (blk_cell BK169.out 2).trans rfl
                            have hcz88_3 : wr.cell? ⟨gb169, 3, none⟩ = some (.string x170003_2) := (blk_cell BK169.out 3).trans rfl
                            have hfz88_0 := blk_frozen BK169.out 0
                            have hfz88_1 := blk_frozen BK169.out 1
                            have hfz88_2 := blk_frozen BK169.out 2
                            have hfz88_3 := blk_frozen BK169.out 3
                            go_wp2
                            refine bodyPost_ret (results_ct rfl _ _ gb169 26 #[.int .i64 2, .int .i64 a1, .int .i64 0, .string (strOfNums x12_3)] (0, 0) _ rfl (by (with_reducible repeat (first | refine blk_drewN ?_ _ | refine blk_drew ?_ | refine blk_alloc ?_ _)); refine blk_put (cs := #[.int .i64 2, .int .i64 a1, .int .i64 0, .string x170003_2]) ?_ 3 _ rfl; (with_reducible repeat (first | refine blk_drewN ?_ _ | refine blk_drew ?_ | refine blk_alloc ?_ _)); refine blk_put (cs := #[.int .i64 2, .int .i64 a1, .int .i64 x170002_2, .string x170003_2]) ?_ 2 _ rfl; (with_reducible repeat (first | refine blk_drewN ?_ _ | refine blk_drew ?_ | refine blk_alloc ?_ _)); refine blk_put (cs := #[.int .i64 2, .int .i64 x170001_2, .int .i64 x170002_2, .string x170003_2]) ?_ 1 _ rfl; (with_reducible repeat (first | refine blk_drewN ?_ _ | refine blk_drew ?_ | refine blk_alloc ?_ _)); refine blk_put (cs := #[.int .i64 x170000_2, .int .i64 x170001_2, .int .i64 x170002_2, .string x170003_2]) ?_ 0 _ rfl; (with_reducible repeat (first | refine blk_drewN ?_ _ | refine blk_drew ?_ | refine blk_alloc ?_ _)); exact BK169.out) Try.underlying26 rfl (by kernel_rfl)) rfl ?_
                            exact ⟨by first | rfl | (simp [errW_none, errW_some] <;> rfl) | (simp only [← hji10]; first | rfl | (simp [errW_none, errW_some] <;> rfl)) | (simp [*, errW_none, errW_some] <;> rfl), by repeat (first | (with_reducible first | exact HB.out | apply below_alloc | apply pw_below_drewN | apply below_drew1 | refine below_set ?_ GE169.out) | exact HB.out)⟩
                    · rw [if_neg c65] at H
                      exact absurd H (by simp)
                  · rw [if_neg c64] at H
                    exact absurd H (by simp)
          · rw [if_neg c12] at H
            exact absurd H (by simp)
        · rw [if_neg c11] at H
          exact absurd H (by simp)

end Go.Proofs.Ytfcjacncllmapaf.QFnExactFilterOf
