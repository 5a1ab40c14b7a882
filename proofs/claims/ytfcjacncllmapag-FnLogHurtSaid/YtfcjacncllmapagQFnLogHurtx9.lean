-- This session's own text: written by a program of this session, begun from the kit's printer.
import Derived.Test.YtfcjacncllmapagQFnLogHurtx0
import Derived.Test.YtfcjacncllmapagQFnLogHurtx1
import Derived.Test.YtfcjacncllmapagQFnLogHurtx2
import Derived.Test.YtfcjacncllmapagQFnLogHurtx5
import Derived.Test.YtfcjacncllmapagQFnLogHurtx7
import Derived.Test.YtfcjacncllmapagQFnLogHurtx8
namespace Go.Proofs.Ytfcjacncllmapag.QFnLogHurt
open Go.RowKit Go.Proofs.YtfcjacncllmapagW.PrintWords Go.Proofs.YtfcjacncllmapagW.PrintLast Go.Proofs.YtfcjacncllmapagW.PrintMore
attribute [local go_sem] max2_int min2_int max_two min_two max_three min_three max_four min_four   -- for this text's walks alone
set_option linter.unusedVariables false
set_option linter.unusedSimpArgs false

/-! ### laws_sameTexts: function 11 -/
def laws_sameTexts.l0 : Nat → List ByteArray → List ByteArray → Int → Option (Bool)
  | 0, _, _, _ => none
  | k + 1, x0, x1, x5 => if x5 < (x0.length : Int) then (if 0 ≤ x5 then (if x5 < (x1.length : Int) then (if (rdOf ByteArray.empty x0 x5).toList = (rdOf ByteArray.empty x1 x5).toList then (laws_sameTexts.l0 k x0 x1 (wrap64 (x5 + 1))) else (some false)) else (none)) else (none)) else (some true)
def laws_sameTexts.f (k : Nat) (l0 : List ByteArray) (l1 : List ByteArray) : Option (Bool) := if (l0.length : Int) = (l1.length : Int) then (laws_sameTexts.l0 k l0 l1 0) else (some false)
set_option maxRecDepth 100000 in
theorem laws_sameTexts.mono_l : ∀ k, (∀ y0 y1 y2, LeO (laws_sameTexts.l0 k y0 y1 y2) (laws_sameTexts.l0 (k + 1) y0 y1 y2))
  | 0 => fun _ _ _ r h => by simp [laws_sameTexts.l0] at h
  | k + 1 => by
    have ih0 := laws_sameTexts.mono_l k
    · intro y0 y1 y2
      unfold laws_sameTexts.l0
      repeat' first
      | (with_reducible exact ih0 _ _ _)
      | (with_reducible exact LeO.refl _)
      | (with_reducible exact LeO.none _)
      | (with_reducible refine LeO.ite ?_ ?_)
      | (with_reducible refine LeO.bind ?_ (fun _ => ?_))
      | exact ih0 _ _ _
      | exact LeO.none _
      | refine LeO.ite ?_ ?_
      | refine LeO.bind ?_ (fun _ => ?_)
theorem laws_sameTexts.mono : ∀ a0 a1 k, LeO (laws_sameTexts.f k a0 a1) (laws_sameTexts.f (k + 1) a0 a1) := by
  intro a0 a1 k
  have ih0 := laws_sameTexts.mono_l k
  unfold laws_sameTexts.f
  repeat' first
      | (with_reducible exact ih0 _ _ _)
      | (with_reducible exact LeO.refl _)
      | (with_reducible exact LeO.none _)
      | (with_reducible refine LeO.ite ?_ ?_)
      | (with_reducible refine LeO.bind ?_ (fun _ => ?_))
      | exact ih0 _ _ _
      | exact LeO.none _
      | refine LeO.ite ?_ ?_
      | refine LeO.bind ?_ (fun _ => ?_)
set_option maxHeartbeats 8000000 in
set_option maxRecDepth 100000 in
theorem laws_sameTexts.calls (k : Nat) (A0 : Option Addr) (c0 : Nat) (l0 : List ByteArray) (A1 : Option Addr) (c1 : Nat) (l1 : List ByteArray) (r : Bool) (w : World) (hr0 : Kd.C Kd.string w A0 l0.length l0) (hc0 : l0.length ≤ c0) (hr1 : Kd.C Kd.string w A1 l1.length l1) (hc1 : l1.length ≤ c1) (h : laws_sameTexts.f k l0 l1 = some r) :
    Calls Try.prog 11 #[.slice A0 l0.length c0, .slice A1 l1.length c1] w fun e w' => e = .returned (.bool r) ∧ Drawn0 w w' := by
  have HR0 := Aside0.mk hr0
  have HC0 := Aside0.mk hc0
  clear hr0 hc0
  have HR1 := Aside0.mk hr1
  have HC1 := Aside0.mk hc1
  clear hr1 hc1
  have H : (if (l0.length : Int) = (l1.length : Int) then (laws_sameTexts.l0 k l0 l1 0) else (some false)) = some r := h
  clear h
  by_cases c3 : (l0.length : Int) = (l1.length : Int)
  · rw [if_pos c3] at H
    have c3b0 : ((l0.length : Int) == (l1.length : Int)) = true := beq_iff_eq.mpr c3
    have c3b1 : ((l0.length : Int) != (l1.length : Int)) = false := bne_eq_false_iff_eq.mpr c3
    have c3b2 : (l0.length == l1.length) = true := by first | simpa using c3 | (simp at c3 ⊢; omega)
    clear c3
    have H' := Aside0.mk H
    clear H
    go_enter Try.func11, Try.ntmps11
    go_wp2
    repeat (go_quiet (fail); try go_wp2)
    go_loopg [5] k (fun kq v5 w' => ∃ (x5_1 : Int), v5 = .int .i64 x5_1 ∧ Aside0 (laws_sameTexts.l0 kq l0 l1 x5_1 = some r) ∧ Aside0 (kq ≤ k) ∧ Drawn0 w w')
    case atStart => exact ⟨(0), (by first | rfl | (simp; done) | (simp [*]; done)), H', ⟨Nat.le_refl _⟩, by repeat (first | exact Drawn0.refl _ | apply Drawn0.step)⟩
    case round =>
      clear H'
      try clear c1
      try clear p2
      try clear c3
      try clear c3b0
      try clear c3b1
      try clear c3b2
      obtain ⟨x5_1, rfl, HA, HK1, ⟨m1, rfl⟩⟩ := hrel
      cases gk with
      | zero => exact absurd HA.out (by simp [laws_sameTexts.l0])
      | succ k1 =>
        have H := HA.out
        clear HA
        simp only [laws_sameTexts.l0] at H
        by_cases c4 : x5_1 < (l0.length : Int)
        · rw [if_pos c4] at H
          have c4b0 : decide (x5_1 < (l0.length : Int)) = true := decide_eq_true c4
          clear c4
          by_cases c5 : 0 ≤ x5_1
          · rw [if_pos c5] at H
            have c5b0 : decide (0 ≤ x5_1) = true := decide_eq_true c5
            clear c5
            by_cases c6 : x5_1 < (l1.length : Int)
            · rw [if_pos c6] at H
              have c6b0 : decide (x5_1 < (l1.length : Int)) = true := decide_eq_true c6
              clear c6
              by_cases c7 : (rdOf ByteArray.empty l0 x5_1).toList = (rdOf ByteArray.empty l1 x5_1).toList
              · rw [if_pos c7] at H
                have c7b0 : ((rdOf ByteArray.empty l0 x5_1).toList == (rdOf ByteArray.empty l1 x5_1).toList) = true := beq_iff_eq.mpr c7
                have c7b1 : ((rdOf ByteArray.empty l0 x5_1).toList != (rdOf ByteArray.empty l1 x5_1).toList) = false := bne_eq_false_iff_eq.mpr c7
                clear c7
                have H' := Aside0.mk H
                clear H
                have p196 : 0 ≤ (x5_1 : Int) := of_decide_eq_true (by first | (with_reducible assumption) | assumption)
                have q196 : x5_1 < (l0.length : Int) := of_decide_eq_true (by first | (with_reducible assumption) | assumption)
                obtain ⟨ad196, e196, hx196_0⟩ := Kd.at_string HR0.out x5_1 p196 q196
                cases e196
                replace p196 := eq_true p196
                replace q196 := eq_true q196
                have p197 : 0 ≤ (x5_1 : Int) := of_decide_eq_true (by first | (with_reducible assumption) | assumption)
                have q197 : x5_1 < (l1.length : Int) := of_decide_eq_true (by first | (with_reducible assumption) | assumption)
                obtain ⟨ad197, e197, hx197_0⟩ := Kd.at_string HR1.out x5_1 p197 q197
                cases e197
                replace p197 := eq_true p197
                replace q197 := eq_true q197
                go_wp2
                repeat (go_quiet (fail); try go_wp2)
                go_roundg k1
                case measure => have := HK1.out; omega
                case rel => exact ⟨(wrap64 (x5_1 + 1)), (by first | rfl | (simp; done) | (simp [*]; done)), H', ⟨by have := HK1.out; omega⟩, by repeat (first | exact Drawn0.refl _ | apply Drawn0.step)⟩
              · rw [if_neg c7] at H
                have c7b0 : ((rdOf ByteArray.empty l0 x5_1).toList == (rdOf ByteArray.empty l1 x5_1).toList) = false := beq_eq_false_iff_ne.mpr c7
                have c7b1 : ((rdOf ByteArray.empty l0 x5_1).toList != (rdOf ByteArray.empty l1 x5_1).toList) = true := bne_iff_ne.mpr c7
                obtain rfl := Option.some.inj H
                have p196 : 0 ≤ (x5_1 : Int) := of_decide_eq_true (by first | (with_reducible assumption) | assumption)
                have q196 : x5_1 < (l0.length : Int) := of_decide_eq_true (by first | (with_reducible assumption) | assumption)
                obtain ⟨ad196, e196, hx196_0⟩ := Kd.at_string HR0.out x5_1 p196 q196
                cases e196
                replace p196 := eq_true p196
                replace q196 := eq_true q196
                have p197 : 0 ≤ (x5_1 : Int) := of_decide_eq_true (by first | (with_reducible assumption) | assumption)
                have q197 : x5_1 < (l1.length : Int) := of_decide_eq_true (by first | (with_reducible assumption) | assumption)
                obtain ⟨ad197, e197, hx197_0⟩ := Kd.at_string HR1.out x5_1 p197 q197
                cases e197
                replace p197 := eq_true p197
                replace q197 := eq_true q197
                go_wp2
                repeat (go_quiet (fail); try go_wp2)
                go_ret
                exact ⟨by first | rfl | (simp; done) | (simp [*]; done), by repeat (first | exact Drawn0.refl _ | apply Drawn0.step)⟩
            · rw [if_neg c6] at H
              exact absurd H (by simp)
          · rw [if_neg c5] at H
            exact absurd H (by simp)
        · rw [if_neg c4] at H
          have c4b0 : decide (x5_1 < (l0.length : Int)) = false := decide_eq_false c4
          clear c4
          obtain rfl := Option.some.inj H
          go_wp2
          repeat (go_quiet (fail); try go_wp2)
          go_ret
          exact ⟨by first | rfl | (simp; done) | (simp [*]; done), by repeat (first | exact Drawn0.refl _ | apply Drawn0.step)⟩
  · rw [if_neg c3] at H
    have c3b0 : ((l0.length : Int) == (l1.length : Int)) = false := beq_eq_false_iff_ne.mpr c3
    have c3b1 : ((l0.length : Int) != (l1.length : Int)) = true := bne_iff_ne.mpr c3
    have c3b2 : (l0.length == l1.length) = false := by first | simpa using c3 | (simp at c3 ⊢; omega)
    obtain rfl := Option.some.inj H
    go_enter Try.func11, Try.ntmps11
    go_wp2
    repeat (go_quiet (fail); try go_wp2)
    go_ret
    exact ⟨by first | rfl | (simp; done) | (simp [*]; done), by repeat (first | exact Drawn0.refl _ | apply Drawn0.step)⟩

/-! ### laws_FnLogHurt: function 4 -/
mutual
def laws_FnLogHurt.j0 : Nat → List Int → List ByteArray → ByteArray → List ByteArray → Int → Bool → Option (Bool)
  | 0, _, _, _, _, _, _ => none
  | k + 1, x0, x3, x5, x6, x7, x44 => if x44 = true then ((laws_sameTexts.f k x6 x3).bind fun t210 => (if t210 = true then (some (x7 == (x5.size : Int))) else (some false))) else (if (x5.size : Int) = 0 then (none) else (laws_FnLogHurt.l0 k x0 x5 x6 ((x0.length : Int) % (x5.size : Int)) 0))
def laws_FnLogHurt.l0 : Nat → List Int → ByteArray → List ByteArray → Int → Int → Option (Bool)
  | 0, _, _, _, _, _ => none
  | k + 1, x0, x5, x6, x8, x9 => if (wrap64 (64 - (Int.tmod x9 64))) < 7 then (if x8 < (wrap64 (x9 + (wrap64 (64 - (Int.tmod x9 64))))) then (some true) else (laws_FnLogHurt.l0 k x0 x5 x6 x8 (wrap64 (x9 + (wrap64 (64 - (Int.tmod x9 64))))))) else (if 0 ≤ (wrap64 (x9 + 4)) then (if (wrap64 (x9 + 4)) < (x5.size : Int) then (if x8 < (wrap64 (x9 + (wrap64 (6 + (wrap64 (bt x5 (wrap64 (x9 + 4)))))))) then (if x8 = (wrap64 (x9 + 4)) then (some true) else (if x5.size ≤ 140737488355328 then ((some (bytesOf x5 : List Int)).bind fun y211 => (if 0 ≤ x8 then (if x8 < (y211.length : Int) then (if 0 ≤ (IntKind.u64.wrap (Int.tmod (wrap64 ((x0.length : Int) / 7)) 8)) then ((impl_ReadLog.f k (strOfNums (y211.set (x8 : Int).toNat (Go.bits .xor .u8 (rd y211 x8) (shl .u8 1 (IntKind.u64.wrap (Int.tmod (wrap64 ((x0.length : Int) / 7)) 8))))))).bind fun bt216 => (if (bt216.1.length : Int) < (x6.length : Int) then (if 0 ≤ (bt216.1.length : Int) then (if (bt216.1.length : Int) ≤ (x6.length : Int) then ((laws_sameTexts.f k bt216.1 (x6.take ((bt216.1.length : Int) : Int).toNat)).bind fun t224 => (if t224 = true then (some (decide (bt216.2 ≤ x9))) else (some false))) else (none)) else (none)) else (some false))) else (none)) else (none)) else (none))) else (none))) else (laws_FnLogHurt.l0 k x0 x5 x6 x8 (wrap64 (x9 + (wrap64 (6 + (wrap64 (bt x5 (wrap64 (x9 + 4)))))))))) else (none)) else (none))
end
def laws_FnLogHurt.f (k : Nat) (l0 : List Int) : Option (Bool) := (laws_big.f l0).bind fun t198 => (if t198 = true then (some true) else ((spec_DrawReadLog.f k l0).bind fun t199 => ((spec_ReadLog.f k t199).bind fun bt200 => ((laws_concat.f k bt200.1).bind fun t204 => ((impl_ReadLog.f k t204).bind fun bt205 => ((laws_sameTexts.f k bt205.1 bt200.1).bind fun t209 => (if t209 = true then (if bt205.2 = (t204.size : Int) then (laws_FnLogHurt.j0 k l0 bt200.1 t204 bt205.1 bt205.2 ((t204.size : Int) == 0)) else (laws_FnLogHurt.j0 k l0 bt200.1 t204 bt205.1 bt205.2 true)) else (laws_FnLogHurt.j0 k l0 bt200.1 t204 bt205.1 bt205.2 true))))))))
set_option maxRecDepth 100000 in
theorem laws_FnLogHurt.mono_l : ∀ k, (∀ y0 y1 y2 y3 y4 y5, LeO (laws_FnLogHurt.j0 k y0 y1 y2 y3 y4 y5) (laws_FnLogHurt.j0 (k + 1) y0 y1 y2 y3 y4 y5)) ∧ (∀ y0 y1 y2 y3 y4, LeO (laws_FnLogHurt.l0 k y0 y1 y2 y3 y4) (laws_FnLogHurt.l0 (k + 1) y0 y1 y2 y3 y4))
  | 0 => ⟨fun _ _ _ _ _ _ r h => by simp [laws_FnLogHurt.j0] at h, fun _ _ _ _ _ r h => by simp [laws_FnLogHurt.l0] at h⟩
  | k + 1 => by
    obtain ⟨ih0, ih1⟩ := laws_FnLogHurt.mono_l k
    refine ⟨?_, ?_⟩
    · intro y0 y1 y2 y3 y4 y5
      unfold laws_FnLogHurt.j0
      repeat' first
      | (with_reducible exact ih0 _ _ _ _ _ _)
      | (with_reducible exact ih1 _ _ _ _ _)
      | (with_reducible exact impl_ReadLog.mono _ _)
      | (with_reducible exact laws_concat.mono _ _)
      | (with_reducible exact laws_sameTexts.mono _ _ _)
      | (with_reducible exact spec_DrawReadLog.mono _ _)
      | (with_reducible exact spec_ReadLog.mono _ _)
      | (with_reducible exact LeO.refl _)
      | (with_reducible exact LeO.none _)
      | (with_reducible refine LeO.ite ?_ ?_)
      | (with_reducible refine LeO.bind ?_ (fun _ => ?_))
      | exact ih0 _ _ _ _ _ _
      | exact ih1 _ _ _ _ _
      | exact impl_ReadLog.mono _ _
      | exact laws_concat.mono _ _
      | exact laws_sameTexts.mono _ _ _
      | exact spec_DrawReadLog.mono _ _
      | exact spec_ReadLog.mono _ _
      | exact LeO.none _
      | refine LeO.ite ?_ ?_
      | refine LeO.bind ?_ (fun _ => ?_)
    · intro y0 y1 y2 y3 y4
      unfold laws_FnLogHurt.l0
      repeat' first
      | (with_reducible exact ih0 _ _ _ _ _ _)
      | (with_reducible exact ih1 _ _ _ _ _)
      | (with_reducible exact impl_ReadLog.mono _ _)
      | (with_reducible exact laws_concat.mono _ _)
      | (with_reducible exact laws_sameTexts.mono _ _ _)
      | (with_reducible exact spec_DrawReadLog.mono _ _)
      | (with_reducible exact spec_ReadLog.mono _ _)
      | (with_reducible exact LeO.refl _)
      | (with_reducible exact LeO.none _)
      | (with_reducible refine LeO.ite ?_ ?_)
      | (with_reducible refine LeO.bind ?_ (fun _ => ?_))
      | exact ih0 _ _ _ _ _ _
      | exact ih1 _ _ _ _ _
      | exact impl_ReadLog.mono _ _
      | exact laws_concat.mono _ _
      | exact laws_sameTexts.mono _ _ _
      | exact spec_DrawReadLog.mono _ _
      | exact spec_ReadLog.mono _ _
      | exact LeO.none _
      | refine LeO.ite ?_ ?_
      | refine LeO.bind ?_ (fun _ => ?_)
theorem laws_FnLogHurt.mono : ∀ a0 k, LeO (laws_FnLogHurt.f k a0) (laws_FnLogHurt.f (k + 1) a0) := by
  intro a0 k
  obtain ⟨ih0, ih1⟩ := laws_FnLogHurt.mono_l k
  unfold laws_FnLogHurt.f
  repeat' first
      | (with_reducible exact ih0 _ _ _ _ _ _)
      | (with_reducible exact ih1 _ _ _ _ _)
      | (with_reducible exact impl_ReadLog.mono _ _)
      | (with_reducible exact laws_concat.mono _ _)
      | (with_reducible exact laws_sameTexts.mono _ _ _)
      | (with_reducible exact spec_DrawReadLog.mono _ _)
      | (with_reducible exact spec_ReadLog.mono _ _)
      | (with_reducible exact LeO.refl _)
      | (with_reducible exact LeO.none _)
      | (with_reducible refine LeO.ite ?_ ?_)
      | (with_reducible refine LeO.bind ?_ (fun _ => ?_))
      | exact ih0 _ _ _ _ _ _
      | exact ih1 _ _ _ _ _
      | exact impl_ReadLog.mono _ _
      | exact laws_concat.mono _ _
      | exact laws_sameTexts.mono _ _ _
      | exact spec_DrawReadLog.mono _ _
      | exact spec_ReadLog.mono _ _
      | exact LeO.none _
      | refine LeO.ite ?_ ?_
      | refine LeO.bind ?_ (fun _ => ?_)
set_option maxHeartbeats 8000000 in
set_option maxRecDepth 100000 in
theorem laws_FnLogHurt.calls (k : Nat) (A0 : Option Addr) (c0 : Nat) (l0 : List Int) (r : Bool) (w : World) (hr0 : Kd.C (Kd.int .u8) w A0 l0.length l0) (hc0 : l0.length ≤ c0) (h : laws_FnLogHurt.f k l0 = some r) :
    Calls Try.prog 4 #[.slice A0 l0.length c0] w fun e w' => e = .returned (.bool r) ∧ Below w.heap.size w w' := by
  have HR0 := Aside0.mk hr0
  have HC0 := Aside0.mk hc0
  clear hr0 hc0
  have HB := Aside0.mk (Below.refl w.heap.size w)
  have H : ((laws_big.f l0).bind fun t198 => (if t198 = true then (some true) else ((spec_DrawReadLog.f k l0).bind fun t199 => ((spec_ReadLog.f k t199).bind fun bt200 => ((laws_concat.f k bt200.1).bind fun t204 => ((impl_ReadLog.f k t204).bind fun bt205 => ((laws_sameTexts.f k bt205.1 bt200.1).bind fun t209 => (if t209 = true then (if bt205.2 = (t204.size : Int) then (laws_FnLogHurt.j0 k l0 bt200.1 t204 bt205.1 bt205.2 ((t204.size : Int) == 0)) else (laws_FnLogHurt.j0 k l0 bt200.1 t204 bt205.1 bt205.2 true)) else (laws_FnLogHurt.j0 k l0 bt200.1 t204 bt205.1 bt205.2 true))))))))) = some r := h
  clear h
  replace H := Option.bind_eq_some_iff.mp H
  obtain ⟨t198, A20, H⟩ := H
  replace H : (if t198 = true then (some true) else ((spec_DrawReadLog.f k l0).bind fun t199 => ((spec_ReadLog.f k t199).bind fun bt200 => ((laws_concat.f k bt200.1).bind fun t204 => ((impl_ReadLog.f k t204).bind fun bt205 => ((laws_sameTexts.f k bt205.1 bt200.1).bind fun t209 => (if t209 = true then (if bt205.2 = (t204.size : Int) then (laws_FnLogHurt.j0 k l0 bt200.1 t204 bt205.1 bt205.2 ((t204.size : Int) == 0)) else (laws_FnLogHurt.j0 k l0 bt200.1 t204 bt205.1 bt205.2 true)) else (laws_FnLogHurt.j0 k l0 bt200.1 t204 bt205.1 bt205.2 true)))))))) = some r := H
  have A2 := Aside0.mk A20
  clear A20
  by_cases c3 : t198 = true
  · subst c3
    have H1 : (some true) = some r := by rw [if_pos rfl] at H; exact H
    clear H
    have H := H1
    clear H1
    obtain rfl := Option.some.inj H
    go_enter Try.func4, Try.ntmps4
    go_wp2_with (first | ((with_reducible refine gate_callee (f := 5) rfl ?_); refine goesL_ (some 16) rfl rfl Try.func5 (by kernel_rfl) rfl #[.slice A0 l0.length c0] rfl (by (try simp only [List.map_toArray, List.map_cons, List.map_nil]); first | done | rfl | (simp only [List.length_drop, List.length_take]; rfl)) ?_; (with_reducible refine (laws_big.calls _ _ l0 true _ ?side1 ?side2 A2.out).mono ?_); (case side1 => repeat (first | exact HR0.out | (with_reducible refine Kd.C_alloc ?_ _) | (with_reducible refine Kd.C_drewN ?_ _) | (with_reducible refine Kd.C_drew ?_))); (case side2 => exact HC0.out); rintro e w' ⟨rfl, ⟨nd, rfl⟩⟩; refine ⟨_, rfl, ?_⟩))
    go_ret
    exact ⟨by first | rfl | (simp [errW_none, errW_some] <;> rfl) | (simp [*, errW_none, errW_some] <;> rfl), by repeat (first | (with_reducible first | exact HB.out | apply below_alloc | apply pw_below_drewN | apply below_drew1) | exact HB.out)⟩
  · replace c3 := Bool.eq_false_iff.mpr c3
    subst c3
    have H1 : ((spec_DrawReadLog.f k l0).bind fun t199 => ((spec_ReadLog.f k t199).bind fun bt200 => ((laws_concat.f k bt200.1).bind fun t204 => ((impl_ReadLog.f k t204).bind fun bt205 => ((laws_sameTexts.f k bt205.1 bt200.1).bind fun t209 => (if t209 = true then (if bt205.2 = (t204.size : Int) then (laws_FnLogHurt.j0 k l0 bt200.1 t204 bt205.1 bt205.2 ((t204.size : Int) == 0)) else (laws_FnLogHurt.j0 k l0 bt200.1 t204 bt205.1 bt205.2 true)) else (laws_FnLogHurt.j0 k l0 bt200.1 t204 bt205.1 bt205.2 true))))))) = some r := by rw [if_neg (show ¬ (false = true) by decide)] at H; exact H
    clear H
    have H := H1
    clear H1
    replace H := Option.bind_eq_some_iff.mp H
    obtain ⟨t199, A40, H⟩ := H
    replace H : ((spec_ReadLog.f k t199).bind fun bt200 => ((laws_concat.f k bt200.1).bind fun t204 => ((impl_ReadLog.f k t204).bind fun bt205 => ((laws_sameTexts.f k bt205.1 bt200.1).bind fun t209 => (if t209 = true then (if bt205.2 = (t204.size : Int) then (laws_FnLogHurt.j0 k l0 bt200.1 t204 bt205.1 bt205.2 ((t204.size : Int) == 0)) else (laws_FnLogHurt.j0 k l0 bt200.1 t204 bt205.1 bt205.2 true)) else (laws_FnLogHurt.j0 k l0 bt200.1 t204 bt205.1 bt205.2 true)))))) = some r := H
    have A4 := Aside0.mk A40
    clear A40
    replace H := Option.bind_eq_some_iff.mp H
    obtain ⟨⟨t200, t201⟩, A50, H⟩ := H
    replace H : ((laws_concat.f k t200).bind fun t204 => ((impl_ReadLog.f k t204).bind fun bt205 => ((laws_sameTexts.f k bt205.1 t200).bind fun t209 => (if t209 = true then (if bt205.2 = (t204.size : Int) then (laws_FnLogHurt.j0 k l0 t200 t204 bt205.1 bt205.2 ((t204.size : Int) == 0)) else (laws_FnLogHurt.j0 k l0 t200 t204 bt205.1 bt205.2 true)) else (laws_FnLogHurt.j0 k l0 t200 t204 bt205.1 bt205.2 true))))) = some r := H
    have A5 := Aside0.mk A50
    clear A50
    replace H := Option.bind_eq_some_iff.mp H
    obtain ⟨t204, A60, H⟩ := H
    replace H : ((impl_ReadLog.f k t204).bind fun bt205 => ((laws_sameTexts.f k bt205.1 t200).bind fun t209 => (if t209 = true then (if bt205.2 = (t204.size : Int) then (laws_FnLogHurt.j0 k l0 t200 t204 bt205.1 bt205.2 ((t204.size : Int) == 0)) else (laws_FnLogHurt.j0 k l0 t200 t204 bt205.1 bt205.2 true)) else (laws_FnLogHurt.j0 k l0 t200 t204 bt205.1 bt205.2 true)))) = some r := H
    have A6 := Aside0.mk A60
    clear A60
    replace H := Option.bind_eq_some_iff.mp H
    obtain ⟨⟨t205, t206⟩, A70, H⟩ := H
    replace H : ((laws_sameTexts.f k t205 t200).bind fun t209 => (if t209 = true then (if t206 = (t204.size : Int) then (laws_FnLogHurt.j0 k l0 t200 t204 t205 t206 ((t204.size : Int) == 0)) else (laws_FnLogHurt.j0 k l0 t200 t204 t205 t206 true)) else (laws_FnLogHurt.j0 k l0 t200 t204 t205 t206 true))) = some r := H
    have A7 := Aside0.mk A70
    clear A70
    have HC8 := Aside0.mk H
    clear H
    go_enter Try.func4, Try.ntmps4
    go_upto_region 6 with (first | ((with_reducible refine gate_callee (f := 5) rfl ?_); refine goesL_ (some 16) rfl rfl Try.func5 (by kernel_rfl) rfl #[.slice A0 l0.length c0] rfl (by (try simp only [List.map_toArray, List.map_cons, List.map_nil]); first | done | rfl | (simp only [List.length_drop, List.length_take]; rfl)) ?_; (with_reducible refine (laws_big.calls _ _ l0 false _ ?side1 ?side2 A2.out).mono ?_); (case side1 => repeat (first | exact HR0.out | (with_reducible refine Kd.C_alloc ?_ _) | (with_reducible refine Kd.C_drewN ?_ _) | (with_reducible refine Kd.C_drew ?_))); (case side2 => exact HC0.out); rintro e w' ⟨rfl, ⟨nd, rfl⟩⟩; refine ⟨_, rfl, ?_⟩) | ((with_reducible refine gate_callee (f := 7) rfl ?_); refine goesL_ (some 19) rfl rfl Try.func7 (by kernel_rfl) rfl #[.slice A0 l0.length c0] rfl (by (try simp only [List.map_toArray, List.map_cons, List.map_nil]); first | done | rfl | (simp only [List.length_drop, List.length_take]; rfl)) ?_; (with_reducible refine (spec_DrawReadLog.calls k _ _ l0 t199 _ ?side1 ?side2 A4.out).mono ?_); (case side1 => repeat (first | exact HR0.out | (with_reducible refine Kd.C_alloc ?_ _) | (with_reducible refine Kd.C_drewN ?_ _) | (with_reducible refine Kd.C_drew ?_))); (case side2 => exact HC0.out); rintro e w9 ⟨rfl, hb⟩; refine ⟨_, rfl, ?_⟩; have n0_ := Aside0.mk (below_step (by repeat (first | (with_reducible first | exact HB.out | apply below_alloc | apply pw_below_drewN | apply below_drew1) | exact HB.out)) hb); clear HB; have HB := n0_; clear n0_; (try clear hb); (try clear hb2); (try clear hk); (try clear hi)) | ((with_reducible refine gate_callee (f := 6) rfl ?_); refine goesL_ (some 20) rfl rfl Try.func6 (by kernel_rfl) rfl #[.string t199] rfl (by (try simp only [List.map_toArray, List.map_cons, List.map_nil]); first | done | rfl | (simp only [List.length_drop, List.length_take]; rfl)) ?_; (with_reducible refine (spec_ReadLog.calls k t199 t200 t201 _ A5.out).mono ?_); rintro e w10 ⟨v202, rfl, ho0, hb⟩; refine ⟨_, rfl, ?_⟩; have n0_ := Aside0.mk (Kd.R_lower ho0 (below_size (by repeat (first | (with_reducible first | exact HB.out | apply below_alloc | apply pw_below_drewN | apply below_drew1) | exact HB.out)))); have n1_ := Aside0.mk (below_step (by repeat (first | (with_reducible first | exact HB.out | apply below_alloc | apply pw_below_drewN | apply below_drew1) | exact HB.out)) hb); clear HB; have HO203 := n0_; have HB := n1_; clear n0_ n1_; (try clear hb); (try clear hb2); (try clear hk); (try clear hi); (try clear ho0); obtain ⟨Ao11, co11, eo11⟩ := Kd.R_slice HO203.out; subst eo11) | ((with_reducible refine gate_callee (f := 9) rfl ?_); refine goesL_ (some 24) rfl rfl Try.func9 (by kernel_rfl) rfl #[.slice Ao11 t200.length co11] rfl (by (try simp only [List.map_toArray, List.map_cons, List.map_nil]); first | done | rfl | (simp only [List.length_drop, List.length_take]; rfl)) ?_; (with_reducible refine (laws_concat.calls k _ _ t200 t204 _ ?side1 ?side2 A6.out).mono ?_); (case side1 => repeat (first | exact (Kd.R_reads' HO203.out).2.2 | (with_reducible refine Kd.C_alloc ?_ _) | (with_reducible refine Kd.C_drewN ?_ _) | (with_reducible refine Kd.C_drew ?_))); (case side2 => exact (Kd.R_reads' HO203.out).2.1); rintro e w12 ⟨rfl, hb⟩; refine ⟨_, rfl, ?_⟩; have n0_ := Aside0.mk (Kd.R_below (by (with_reducible repeat (first | apply Kd.R_alloc | apply Kd.R_drewN | apply Kd.R_drew)); exact HO203.out) hb); have n1_ := Aside0.mk (below_step (by repeat (first | (with_reducible first | exact HB.out | apply below_alloc | apply pw_below_drewN | apply below_drew1) | exact HB.out)) hb); clear HO203; clear HB; have HO203 := n0_; have HB := n1_; clear n0_ n1_; (try clear hb); (try clear hb2); (try clear hk); (try clear hi)) | ((with_reducible refine gate_callee (f := 10) rfl ?_); refine goesL_ (some 27) rfl rfl Try.func10 (by kernel_rfl) rfl #[.string t204] rfl (by (try simp only [List.map_toArray, List.map_cons, List.map_nil]); first | done | rfl | (simp only [List.length_drop, List.length_take]; rfl)) ?_; (with_reducible refine (impl_ReadLog.calls k t204 t205 t206 _ A7.out).mono ?_); rintro e w13 ⟨v207, rfl, ho0, hb⟩; refine ⟨_, rfl, ?_⟩; have n0_ := Aside0.mk (Kd.R_elder' (by (with_reducible repeat (first | apply Kd.R_alloc | apply Kd.R_drewN | apply Kd.R_drew)); exact HO203.out) (Kd.R_base ho0) hb); have n1_ := Aside0.mk (Kd.R_lower (Kd.R_new' ho0 (Kd.R_lt (by (with_reducible repeat (first | apply Kd.R_alloc | apply Kd.R_drewN | apply Kd.R_drew)); exact HO203.out))) (below_size (by repeat (first | (with_reducible first | exact HB.out | apply below_alloc | apply pw_below_drewN | apply below_drew1) | exact HB.out)))); have n2_ := Aside0.mk (below_step (by repeat (first | (with_reducible first | exact HB.out | apply below_alloc | apply pw_below_drewN | apply below_drew1) | exact HB.out)) hb); clear HO203; clear HB; have HO203 := n0_; have HO208 := n1_; have HB := n2_; clear n0_ n1_ n2_; (try clear hb); (try clear hb2); (try clear hk); (try clear hi); (try clear ho0)))
    (try simp only [Act.put, List.setIfInBounds_toArray, List.set_cons_zero, List.set_cons_succ])
    go_cut [44] (fun v44 wc => ∃ (kq : Nat) (x44_7 : Bool), v44 = .bool x44_7 ∧ Aside0 (laws_FnLogHurt.j0 kq l0 t200 t204 t205 t206 x44_7 = some r) ∧ Aside0 (kq ≤ k) ∧ Aside0 (Kd.R Kd.string 9 wc w.heap.size (fun k_ => some k_ ≠ (v207 : Value).ownBlock) (.slice Ao11 t200.length co11) t200) ∧ Aside0 (Kd.R Kd.string 9 wc w.heap.size (fun k_ => some k_ ≠ ((.slice Ao11 t200.length co11) : Value).ownBlock) v207 t205) ∧ Aside0 (Below w.heap.size w wc))
    case first =>
      have H := HC8.out
      clear HC8
      replace H := Option.bind_eq_some_iff.mp H
      obtain ⟨t209, A140, H⟩ := H
      replace H : (if t209 = true then (if t206 = (t204.size : Int) then (laws_FnLogHurt.j0 k l0 t200 t204 t205 t206 ((t204.size : Int) == 0)) else (laws_FnLogHurt.j0 k l0 t200 t204 t205 t206 true)) else (laws_FnLogHurt.j0 k l0 t200 t204 t205 t206 true)) = some r := H
      have A14 := Aside0.mk A140
      clear A140
      by_cases c15 : t209 = true
      · subst c15
        have H1 : (if t206 = (t204.size : Int) then (laws_FnLogHurt.j0 k l0 t200 t204 t205 t206 ((t204.size : Int) == 0)) else (laws_FnLogHurt.j0 k l0 t200 t204 t205 t206 true)) = some r := by rw [if_pos rfl] at H; exact H
        clear H
        have H := H1
        clear H1
        by_cases c16 : t206 = (t204.size : Int)
        · rw [if_pos c16] at H
          have c16b0 : (t206 == (t204.size : Int)) = true := beq_iff_eq.mpr c16
          have c16b1 : (t206 != (t204.size : Int)) = false := bne_eq_false_iff_eq.mpr c16
          clear c16
          (first | rw [c16b0] | (simp only [i64_w, i32_w]; rw [c16b0]) | skip)
          have H' := Aside0.mk H
          clear H
          obtain ⟨Ao17, co17, eo17⟩ := Kd.R_slice HO208.out
          subst eo17
          go_wp2_with (first | ((with_reducible refine gate_callee (f := 11) rfl ?_); refine goesL_ (some 32) rfl rfl Try.func11 (by kernel_rfl) rfl #[.slice Ao17 t205.length co17, .slice Ao11 t200.length co11] rfl (by (try simp only [List.map_toArray, List.map_cons, List.map_nil]); first | done | rfl | (simp only [List.length_drop, List.length_take]; rfl)) ?_; (with_reducible refine (laws_sameTexts.calls k _ _ t205 _ _ t200 true _ ?side1 ?side2 ?side3 ?side4 A14.out).mono ?_); (case side1 => repeat (first | exact (Kd.R_reads' HO208.out).2.2 | (with_reducible refine Kd.C_alloc ?_ _) | (with_reducible refine Kd.C_drewN ?_ _) | (with_reducible refine Kd.C_drew ?_))); (case side2 => exact (Kd.R_reads' HO208.out).2.1); (case side3 => repeat (first | exact (Kd.R_reads' HO203.out).2.2 | (with_reducible refine Kd.C_alloc ?_ _) | (with_reducible refine Kd.C_drewN ?_ _) | (with_reducible refine Kd.C_drew ?_))); (case side4 => exact (Kd.R_reads' HO203.out).2.1); rintro e w' ⟨rfl, ⟨nd, rfl⟩⟩; refine ⟨_, rfl, ?_⟩))
          go_meet
          case rel => exact ⟨_, (((t204.size : Int) == 0)), (by first | rfl | (simp; done) | (simp [*]; done)), H', ⟨by first | omega | exact Nat.le_refl _⟩, ⟨by (with_reducible repeat (first | apply Kd.R_alloc | apply Kd.R_drewN | apply Kd.R_drew)); exact Kd.R_mono HO203.out (fun _ hk => hk.2)⟩, ⟨by (with_reducible repeat (first | apply Kd.R_alloc | apply Kd.R_drewN | apply Kd.R_drew)); exact Kd.R_mono HO208.out (fun _ hk => hk.2)⟩, ⟨by repeat (first | (with_reducible first | exact HB.out | apply below_alloc | apply pw_below_drewN | apply below_drew1) | exact HB.out)⟩⟩
        · rw [if_neg c16] at H
          have c16b0 : (t206 == (t204.size : Int)) = false := beq_eq_false_iff_ne.mpr c16
          have c16b1 : (t206 != (t204.size : Int)) = true := bne_iff_ne.mpr c16
          (first | rw [c16b0] | (simp only [i64_w, i32_w]; rw [c16b0]) | skip)
          have H' := Aside0.mk H
          clear H
          obtain ⟨Ao18, co18, eo18⟩ := Kd.R_slice HO208.out
          subst eo18
          go_wp2_with (first | ((with_reducible refine gate_callee (f := 11) rfl ?_); refine goesL_ (some 32) rfl rfl Try.func11 (by kernel_rfl) rfl #[.slice Ao18 t205.length co18, .slice Ao11 t200.length co11] rfl (by (try simp only [List.map_toArray, List.map_cons, List.map_nil]); first | done | rfl | (simp only [List.length_drop, List.length_take]; rfl)) ?_; (with_reducible refine (laws_sameTexts.calls k _ _ t205 _ _ t200 true _ ?side1 ?side2 ?side3 ?side4 A14.out).mono ?_); (case side1 => repeat (first | exact (Kd.R_reads' HO208.out).2.2 | (with_reducible refine Kd.C_alloc ?_ _) | (with_reducible refine Kd.C_drewN ?_ _) | (with_reducible refine Kd.C_drew ?_))); (case side2 => exact (Kd.R_reads' HO208.out).2.1); (case side3 => repeat (first | exact (Kd.R_reads' HO203.out).2.2 | (with_reducible refine Kd.C_alloc ?_ _) | (with_reducible refine Kd.C_drewN ?_ _) | (with_reducible refine Kd.C_drew ?_))); (case side4 => exact (Kd.R_reads' HO203.out).2.1); rintro e w' ⟨rfl, ⟨nd, rfl⟩⟩; refine ⟨_, rfl, ?_⟩))
          go_meet
          case rel => exact ⟨_, (true), (by first | rfl | (simp; done) | (simp [*]; done)), H', ⟨by first | omega | exact Nat.le_refl _⟩, ⟨by (with_reducible repeat (first | apply Kd.R_alloc | apply Kd.R_drewN | apply Kd.R_drew)); exact Kd.R_mono HO203.out (fun _ hk => hk.2)⟩, ⟨by (with_reducible repeat (first | apply Kd.R_alloc | apply Kd.R_drewN | apply Kd.R_drew)); exact Kd.R_mono HO208.out (fun _ hk => hk.2)⟩, ⟨by repeat (first | (with_reducible first | exact HB.out | apply below_alloc | apply pw_below_drewN | apply below_drew1) | exact HB.out)⟩⟩
      · replace c15 := Bool.eq_false_iff.mpr c15
        subst c15
        have H1 : (laws_FnLogHurt.j0 k l0 t200 t204 t205 t206 true) = some r := by rw [if_neg (show ¬ (false = true) by decide)] at H; exact H
        clear H
        have H := H1
        clear H1
        have H' := Aside0.mk H
        clear H
        obtain ⟨Ao19, co19, eo19⟩ := Kd.R_slice HO208.out
        subst eo19
        go_wp2_with (first | ((with_reducible refine gate_callee (f := 11) rfl ?_); refine goesL_ (some 32) rfl rfl Try.func11 (by kernel_rfl) rfl #[.slice Ao19 t205.length co19, .slice Ao11 t200.length co11] rfl (by (try simp only [List.map_toArray, List.map_cons, List.map_nil]); first | done | rfl | (simp only [List.length_drop, List.length_take]; rfl)) ?_; (with_reducible refine (laws_sameTexts.calls k _ _ t205 _ _ t200 false _ ?side1 ?side2 ?side3 ?side4 A14.out).mono ?_); (case side1 => repeat (first | exact (Kd.R_reads' HO208.out).2.2 | (with_reducible refine Kd.C_alloc ?_ _) | (with_reducible refine Kd.C_drewN ?_ _) | (with_reducible refine Kd.C_drew ?_))); (case side2 => exact (Kd.R_reads' HO208.out).2.1); (case side3 => repeat (first | exact (Kd.R_reads' HO203.out).2.2 | (with_reducible refine Kd.C_alloc ?_ _) | (with_reducible refine Kd.C_drewN ?_ _) | (with_reducible refine Kd.C_drew ?_))); (case side4 => exact (Kd.R_reads' HO203.out).2.1); rintro e w' ⟨rfl, ⟨nd, rfl⟩⟩; refine ⟨_, rfl, ?_⟩))
        go_meet
        case rel => exact ⟨_, (true), (by first | rfl | (simp; done) | (simp [*]; done)), H', ⟨by first | omega | exact Nat.le_refl _⟩, ⟨by (with_reducible repeat (first | apply Kd.R_alloc | apply Kd.R_drewN | apply Kd.R_drew)); exact Kd.R_mono HO203.out (fun _ hk => hk.2)⟩, ⟨by (with_reducible repeat (first | apply Kd.R_alloc | apply Kd.R_drewN | apply Kd.R_drew)); exact Kd.R_mono HO208.out (fun _ hk => hk.2)⟩, ⟨by repeat (first | (with_reducible first | exact HB.out | apply below_alloc | apply pw_below_drewN | apply below_drew1) | exact HB.out)⟩⟩
    case rest =>
      clear HC8
      try clear c1
      try clear p2
      try clear c3
      try clear c4
      try clear c5
      try clear c6
      try clear c7
      try clear c9
      try clear c10
      try clear c11
      try clear c15
      try clear c16
      try clear c16b0
      try clear c16b1
      obtain ⟨kq, x44_7, rfl, HA, HJ7, HO_3, HO_6, HB⟩ := hcut
      cases kq with
      | zero => exact absurd HA.out (by simp [laws_FnLogHurt.j0])
      | succ kj7 =>
        have H := HA.out
        clear HA
        simp only [laws_FnLogHurt.j0] at H
        by_cases c20 : x44_7 = true
        · subst c20
          have H1 : ((laws_sameTexts.f kj7 t205 t200).bind fun t210 => (if t210 = true then (some (t206 == (t204.size : Int))) else (some false))) = some r := by rw [if_pos rfl] at H; exact H
          clear H
          have H := H1
          clear H1
          replace H := Option.bind_eq_some_iff.mp H
          obtain ⟨t210, A210, H⟩ := H
          replace H : (if t210 = true then (some (t206 == (t204.size : Int))) else (some false)) = some r := H
          have A21 := Aside0.mk A210
          clear A210
          by_cases c22 : t210 = true
          · subst c22
            have H1 : (some (t206 == (t204.size : Int))) = some r := by rw [if_pos rfl] at H; exact H
            clear H
            have H := H1
            clear H1
            obtain rfl := Option.some.inj H
            obtain ⟨Ao23, co23, eo23⟩ := Kd.R_slice HO_6.out
            subst eo23
            go_wp2_with (first | ((with_reducible refine gate_callee (f := 11) rfl ?_); refine goesL_ (some 47) rfl rfl Try.func11 (by kernel_rfl) rfl #[.slice Ao23 t205.length co23, .slice Ao11 t200.length co11] rfl (by (try simp only [List.map_toArray, List.map_cons, List.map_nil]); first | done | rfl | (simp only [List.length_drop, List.length_take]; rfl)) ?_; (with_reducible refine (laws_sameTexts.calls kj7 _ _ t205 _ _ t200 true _ ?side1 ?side2 ?side3 ?side4 A21.out).mono ?_); (case side1 => repeat (first | exact (Kd.R_reads' HO_6.out).2.2 | (with_reducible refine Kd.C_alloc ?_ _) | (with_reducible refine Kd.C_drewN ?_ _) | (with_reducible refine Kd.C_drew ?_))); (case side2 => exact (Kd.R_reads' HO_6.out).2.1); (case side3 => repeat (first | exact (Kd.R_reads' HO_3.out).2.2 | (with_reducible refine Kd.C_alloc ?_ _) | (with_reducible refine Kd.C_drewN ?_ _) | (with_reducible refine Kd.C_drew ?_))); (case side4 => exact (Kd.R_reads' HO_3.out).2.1); rintro e w' ⟨rfl, ⟨nd, rfl⟩⟩; refine ⟨_, rfl, ?_⟩))
            go_ret
            exact ⟨by first | rfl | (simp [errW_none, errW_some] <;> rfl) | (simp [*, errW_none, errW_some] <;> rfl), by repeat (first | (with_reducible first | exact HB.out | apply below_alloc | apply pw_below_drewN | apply below_drew1) | exact HB.out)⟩
          · replace c22 := Bool.eq_false_iff.mpr c22
            subst c22
            have H1 : (some false) = some r := by rw [if_neg (show ¬ (false = true) by decide)] at H; exact H
            clear H
            have H := H1
            clear H1
            obtain rfl := Option.some.inj H
            obtain ⟨Ao24, co24, eo24⟩ := Kd.R_slice HO_6.out
            subst eo24
            go_wp2_with (first | ((with_reducible refine gate_callee (f := 11) rfl ?_); refine goesL_ (some 47) rfl rfl Try.func11 (by kernel_rfl) rfl #[.slice Ao24 t205.length co24, .slice Ao11 t200.length co11] rfl (by (try simp only [List.map_toArray, List.map_cons, List.map_nil]); first | done | rfl | (simp only [List.length_drop, List.length_take]; rfl)) ?_; (with_reducible refine (laws_sameTexts.calls kj7 _ _ t205 _ _ t200 false _ ?side1 ?side2 ?side3 ?side4 A21.out).mono ?_); (case side1 => repeat (first | exact (Kd.R_reads' HO_6.out).2.2 | (with_reducible refine Kd.C_alloc ?_ _) | (with_reducible refine Kd.C_drewN ?_ _) | (with_reducible refine Kd.C_drew ?_))); (case side2 => exact (Kd.R_reads' HO_6.out).2.1); (case side3 => repeat (first | exact (Kd.R_reads' HO_3.out).2.2 | (with_reducible refine Kd.C_alloc ?_ _) | (with_reducible refine Kd.C_drewN ?_ _) | (with_reducible refine Kd.C_drew ?_))); (case side4 => exact (Kd.R_reads' HO_3.out).2.1); rintro e w' ⟨rfl, ⟨nd, rfl⟩⟩; refine ⟨_, rfl, ?_⟩))
            go_ret
            exact ⟨by first | rfl | (simp [errW_none, errW_some] <;> rfl) | (simp [*, errW_none, errW_some] <;> rfl), by repeat (first | (with_reducible first | exact HB.out | apply below_alloc | apply pw_below_drewN | apply below_drew1) | exact HB.out)⟩
        · replace c20 := Bool.eq_false_iff.mpr c20
          subst c20
          have H1 : (if (t204.size : Int) = 0 then (none) else (laws_FnLogHurt.l0 kj7 l0 t204 t205 ((l0.length : Int) % (t204.size : Int)) 0)) = some r := by rw [if_neg (show ¬ (false = true) by decide)] at H; exact H
          clear H
          have H := H1
          clear H1
          by_cases c25 : (t204.size : Int) = 0
          · rw [if_pos c25] at H
            exact absurd H (by simp)
          · rw [if_neg c25] at H
            have c25b0 : ((t204.size : Int) == 0) = false := beq_eq_false_iff_ne.mpr c25
            have c25b1 : ((t204.size : Int) != 0) = true := bne_iff_ne.mpr c25
            have H' := Aside0.mk H
            clear H
            go_wp2
            go_loopg [9] kj7 (fun kq v9 w' => ∃ (x9_2 : Int), v9 = .int .i64 x9_2 ∧ Aside0 (laws_FnLogHurt.l0 kq l0 t204 t205 ((l0.length : Int) % (t204.size : Int)) x9_2 = some r) ∧ Aside0 (kq ≤ kj7) ∧ Aside0 (Kd.R Kd.string 9 w' w.heap.size (fun _ => True) v207 t205) ∧ Aside0 (Below w.heap.size w w'))
            case atStart => exact ⟨(0), (by first | rfl | (simp; done) | (simp [*]; done)), H', ⟨Nat.le_refl _⟩, ⟨by (with_reducible repeat (first | apply Kd.R_alloc | apply Kd.R_drewN | apply Kd.R_drew)); exact Kd.R_mono HO_6.out (fun _ hk => trivial)⟩, ⟨by repeat (first | (with_reducible first | exact HB.out | apply below_alloc | apply pw_below_drewN | apply below_drew1) | exact HB.out)⟩⟩
            case round =>
              clear H'
              try clear c1
              try clear c2
              try clear p2
              try clear c3
              try clear c4
              try clear c5
              try clear c6
              try clear c7
              try clear c9
              try clear c10
              try clear c11
              try clear c15
              try clear c16
              try clear c16b0
              try clear c16b1
              try clear c20
              try clear c22
              try clear c25
              try clear c25b0
              try clear c25b1
              try clear p2
              obtain ⟨x9_2, rfl, HA, HK2, HO_6, HB⟩ := hrel
              cases gk with
              | zero => exact absurd HA.out (by simp [laws_FnLogHurt.l0])
              | succ k2 =>
                have H := HA.out
                clear HA
                simp only [laws_FnLogHurt.l0] at H
                by_cases c26 : (wrap64 (64 - (Int.tmod x9_2 64))) < 7
                · rw [if_pos c26] at H
                  have c26b0 : decide ((wrap64 (64 - (Int.tmod x9_2 64))) < 7) = true := decide_eq_true c26
                  clear c26
                  by_cases c27 : ((l0.length : Int) % (t204.size : Int)) < (wrap64 (x9_2 + (wrap64 (64 - (Int.tmod x9_2 64)))))
                  · rw [if_pos c27] at H
                    have c27b0 : decide (((l0.length : Int) % (t204.size : Int)) < (wrap64 (x9_2 + (wrap64 (64 - (Int.tmod x9_2 64)))))) = true := decide_eq_true c27
                    clear c27
                    obtain rfl := Option.some.inj H
                    go_wp2
                    go_ret
                    exact ⟨by first | rfl | (simp [errW_none, errW_some] <;> rfl) | (simp [*, errW_none, errW_some] <;> rfl), by repeat (first | (with_reducible first | exact HB.out | apply below_alloc | apply pw_below_drewN | apply below_drew1) | exact HB.out)⟩
                  · rw [if_neg c27] at H
                    have c27b0 : decide (((l0.length : Int) % (t204.size : Int)) < (wrap64 (x9_2 + (wrap64 (64 - (Int.tmod x9_2 64)))))) = false := decide_eq_false c27
                    clear c27
                    have H' := Aside0.mk H
                    clear H
                    go_wp2
                    go_roundg k2
                    case measure => have := HJ7.out; have := HK2.out; omega
                    case rel => exact ⟨(wrap64 (x9_2 + (wrap64 (64 - (Int.tmod x9_2 64))))), (by first | rfl | (simp; done) | (simp [*]; done)), H', ⟨by have := HJ7.out; have := HK2.out; omega⟩, ⟨by (with_reducible repeat (first | apply Kd.R_alloc | apply Kd.R_drewN | apply Kd.R_drew)); exact HO_6.out⟩, ⟨by repeat (first | (with_reducible first | exact HB.out | apply below_alloc | apply pw_below_drewN | apply below_drew1) | exact HB.out)⟩⟩
                · rw [if_neg c26] at H
                  have c26b0 : decide ((wrap64 (64 - (Int.tmod x9_2 64))) < 7) = false := decide_eq_false c26
                  clear c26
                  obtain ⟨ji28, hji28⟩ : ∃ j_ : Int, (wrap64 (x9_2 + 4)) = j_ := ⟨_, rfl⟩
                  replace H : (if 0 ≤ (ji28) then (if (ji28) < (t204.size : Int) then (if ((l0.length : Int) % (t204.size : Int)) < (wrap64 (x9_2 + (wrap64 (6 + (wrap64 (bt t204 (ji28))))))) then (if ((l0.length : Int) % (t204.size : Int)) = (ji28) then (some true) else (if t204.size ≤ 140737488355328 then ((some (bytesOf t204 : List Int)).bind fun y211 => (if 0 ≤ ((l0.length : Int) % (t204.size : Int)) then (if ((l0.length : Int) % (t204.size : Int)) < (y211.length : Int) then (if 0 ≤ (IntKind.u64.wrap (Int.tmod (wrap64 ((l0.length : Int) / 7)) 8)) then ((impl_ReadLog.f k2 (strOfNums (y211.set (((l0.length : Int) % (t204.size : Int)) : Int).toNat (Go.bits .xor .u8 (rd y211 ((l0.length : Int) % (t204.size : Int))) (shl .u8 1 (IntKind.u64.wrap (Int.tmod (wrap64 ((l0.length : Int) / 7)) 8))))))).bind fun bt216 => (if (bt216.1.length : Int) < (t205.length : Int) then (if 0 ≤ (bt216.1.length : Int) then (if (bt216.1.length : Int) ≤ (t205.length : Int) then ((laws_sameTexts.f k2 bt216.1 (t205.take ((bt216.1.length : Int) : Int).toNat)).bind fun t224 => (if t224 = true then (some (decide (bt216.2 ≤ x9_2))) else (some false))) else (none)) else (none)) else (some false))) else (none)) else (none)) else (none))) else (none))) else (laws_FnLogHurt.l0 k2 l0 t204 t205 ((l0.length : Int) % (t204.size : Int)) (wrap64 (x9_2 + (wrap64 (6 + (wrap64 (bt t204 (ji28))))))))) else (none)) else (none)) = some r := by first | (rw [hji28] at H; exact H) | (simp only [hji28] at H ⊢; exact H)
                  have hji28w : (IntKind.i64.wrap (x9_2 + 4)) = ji28 := (i64_w _).trans hji28
                  by_cases c29 : 0 ≤ (ji28)
                  · rw [if_pos c29] at H
                    have c29b0 : decide (0 ≤ (ji28)) = true := decide_eq_true c29
                    clear c29
                    by_cases c30 : (ji28) < (t204.size : Int)
                    · rw [if_pos c30] at H
                      have c30b0 : decide ((ji28) < (t204.size : Int)) = true := decide_eq_true c30
                      clear c30
                      by_cases c32 : ((l0.length : Int) % (t204.size : Int)) < (wrap64 (x9_2 + (wrap64 (6 + (wrap64 (bt t204 (ji28)))))))
                      · rw [if_pos c32] at H
                        have c32b0 : decide (((l0.length : Int) % (t204.size : Int)) < (wrap64 (x9_2 + (wrap64 (6 + (wrap64 (bt t204 (ji28)))))))) = true := decide_eq_true c32
                        clear c32
                        by_cases c33 : ((l0.length : Int) % (t204.size : Int)) = (ji28)
                        · rw [if_pos c33] at H
                          have c33b0 : (((l0.length : Int) % (t204.size : Int)) == (ji28)) = true := beq_iff_eq.mpr c33
                          have c33b1 : (((l0.length : Int) % (t204.size : Int)) != (ji28)) = false := bne_eq_false_iff_eq.mpr c33
                          clear c33
                          obtain rfl := Option.some.inj H
                          have p31 : 0 ≤ ((ji28) : Int) := of_decide_eq_true (by first | (with_reducible assumption) | assumption)
                          have q31 : (ji28) < (t204.size : Int) := of_decide_eq_true (by first | (with_reducible assumption) | assumption)
                          have hx31 := bt_at t204 (ji28)
                          replace p31 := eq_true p31
                          replace q31 := eq_true q31
                          go_wp2
                          go_ret
                          exact ⟨by first | rfl | (simp [errW_none, errW_some] <;> rfl) | (simp only [← hji28]; first | rfl | (simp [errW_none, errW_some] <;> rfl)) | (simp [*, errW_none, errW_some] <;> rfl), by repeat (first | (with_reducible first | exact HB.out | apply below_alloc | apply pw_below_drewN | apply below_drew1) | exact HB.out)⟩
                        · rw [if_neg c33] at H
                          have c33b0 : (((l0.length : Int) % (t204.size : Int)) == (ji28)) = false := beq_eq_false_iff_ne.mpr c33
                          have c33b1 : (((l0.length : Int) % (t204.size : Int)) != (ji28)) = true := bne_iff_ne.mpr c33
                          by_cases c34 : t204.size ≤ 140737488355328
                          · rw [if_pos c34] at H
                            have c34b0 := eq_true c34
                            have c34b1 : decide (t204.size ≤ 140737488355328) = true := decide_eq_true c34
                            clear c34
                            obtain ⟨y211, hy211⟩ : ∃ y_ : List Int, y_ = (bytesOf t204) := ⟨_, rfl⟩
                            replace H : (if 0 ≤ ((l0.length : Int) % (t204.size : Int)) then (if ((l0.length : Int) % (t204.size : Int)) < (y211.length : Int) then (if 0 ≤ (IntKind.u64.wrap (Int.tmod (wrap64 ((l0.length : Int) / 7)) 8)) then ((impl_ReadLog.f k2 (strOfNums (y211.set (((l0.length : Int) % (t204.size : Int)) : Int).toNat (Go.bits .xor .u8 (rd y211 ((l0.length : Int) % (t204.size : Int))) (shl .u8 1 (IntKind.u64.wrap (Int.tmod (wrap64 ((l0.length : Int) / 7)) 8))))))).bind fun bt216 => (if (bt216.1.length : Int) < (t205.length : Int) then (if 0 ≤ (bt216.1.length : Int) then (if (bt216.1.length : Int) ≤ (t205.length : Int) then ((laws_sameTexts.f k2 bt216.1 (t205.take ((bt216.1.length : Int) : Int).toNat)).bind fun t224 => (if t224 = true then (some (decide (bt216.2 ≤ x9_2))) else (some false))) else (none)) else (none)) else (some false))) else (none)) else (none)) else (none)) = some r := by first | (rw [hy211]; with_reducible exact H) | (have H2_ := (Option.bind_some _ _).symm.trans H; rw [hy211]; with_reducible exact H2_) | (have H2_ := (Option.bind_some _ _).symm.trans H; with_reducible exact H2_) | with_reducible exact H | (rw [hy211]; exact H) | exact H
                            have Ny211 := Aside0.mk hy211
                            clear hy211
                            obtain ⟨ji35, hji35⟩ : ∃ j_ : Int, ((l0.length : Int) % (t204.size : Int)) = j_ := ⟨_, rfl⟩
                            replace H : (if 0 ≤ (ji35) then (if (ji35) < (y211.length : Int) then (if 0 ≤ (IntKind.u64.wrap (Int.tmod (wrap64 ((l0.length : Int) / 7)) 8)) then ((impl_ReadLog.f k2 (strOfNums (y211.set ((ji35) : Int).toNat (Go.bits .xor .u8 (rd y211 (ji35)) (shl .u8 1 (IntKind.u64.wrap (Int.tmod (wrap64 ((l0.length : Int) / 7)) 8))))))).bind fun bt216 => (if (bt216.1.length : Int) < (t205.length : Int) then (if 0 ≤ (bt216.1.length : Int) then (if (bt216.1.length : Int) ≤ (t205.length : Int) then ((laws_sameTexts.f k2 bt216.1 (t205.take ((bt216.1.length : Int) : Int).toNat)).bind fun t224 => (if t224 = true then (some (decide (bt216.2 ≤ x9_2))) else (some false))) else (none)) else (none)) else (some false))) else (none)) else (none)) else (none)) = some r := by first | (rw [hji35] at H; exact H) | (simp only [hji35] at H ⊢; exact H)
                            (try rw [hji35] at c32b0)
                            (try rw [hji35] at c33b0)
                            (try rw [hji35] at c33b1)
                            by_cases c36 : 0 ≤ (ji35)
                            · rw [if_pos c36] at H
                              have c36b0 : decide (0 ≤ (ji35)) = true := decide_eq_true c36
                              clear c36
                              by_cases c37 : (ji35) < (y211.length : Int)
                              · rw [if_pos c37] at H
                                have c37b0 : decide ((ji35) < (y211.length : Int)) = true := decide_eq_true c37
                                clear c37
                                obtain ⟨ji38, hji38⟩ : ∃ j_ : Int, (IntKind.u64.wrap (Int.tmod (wrap64 ((l0.length : Int) / 7)) 8)) = j_ := ⟨_, rfl⟩
                                replace H : (if 0 ≤ (ji38) then ((impl_ReadLog.f k2 (strOfNums (y211.set ((ji35) : Int).toNat (Go.bits .xor .u8 (rd y211 (ji35)) (shl .u8 1 (ji38)))))).bind fun bt216 => (if (bt216.1.length : Int) < (t205.length : Int) then (if 0 ≤ (bt216.1.length : Int) then (if (bt216.1.length : Int) ≤ (t205.length : Int) then ((laws_sameTexts.f k2 bt216.1 (t205.take ((bt216.1.length : Int) : Int).toNat)).bind fun t224 => (if t224 = true then (some (decide (bt216.2 ≤ x9_2))) else (some false))) else (none)) else (none)) else (some false))) else (none)) = some r := by first | (rw [hji38] at H; exact H) | (simp only [hji38] at H ⊢; exact H)
                                by_cases c39 : 0 ≤ (ji38)
                                · rw [if_pos c39] at H
                                  have c39b0 := eq_true c39
                                  have c39b1 : decide (0 ≤ (ji38)) = true := decide_eq_true c39
                                  clear c39
                                  obtain ⟨ji40, hji40⟩ : ∃ j_ : Int, (shl .u8 1 (ji38)) = j_ := ⟨_, rfl⟩
                                  replace H : ((impl_ReadLog.f k2 (strOfNums (y211.set ((ji35) : Int).toNat (Go.bits .xor .u8 (rd y211 (ji35)) (ji40))))).bind fun bt216 => (if (bt216.1.length : Int) < (t205.length : Int) then (if 0 ≤ (bt216.1.length : Int) then (if (bt216.1.length : Int) ≤ (t205.length : Int) then ((laws_sameTexts.f k2 bt216.1 (t205.take ((bt216.1.length : Int) : Int).toNat)).bind fun t224 => (if t224 = true then (some (decide (bt216.2 ≤ x9_2))) else (some false))) else (none)) else (none)) else (some false))) = some r := by first | (rw [hji40] at H; exact H) | (simp only [hji40] at H ⊢; exact H)
                                  have hji40_ : (IntKind.u8.wrap (1 * 2 ^ min (ji38).toNat 8)) = ji40 := hji40
                                  have hji40z : (ji38) ≤ 8 → (IntKind.u8.wrap (1 * 2 ^ (ji38).toNat)) = ji40 := shl_small hji40
                                  have hji40u : (IntKind.u8.wrap (2 ^ min (ji38).toNat 8)) = ji40 := by have h_ := hji40_; rw [Int.one_mul] at h_; exact h_
                                  have hji40v : (ji38) ≤ 8 → (IntKind.u8.wrap (2 ^ (ji38).toNat)) = ji40 := fun hle_ => by have h_ := hji40z hle_; rw [Int.one_mul] at h_; exact h_
                                  obtain ⟨y215, hy215⟩ : ∃ y_ : List Int, y_ = (y211.set ((ji35) : Int).toNat (Go.bits .xor .u8 (rd y211 (ji35)) (ji40))) := ⟨_, rfl⟩
                                  replace H : ((impl_ReadLog.f k2 (strOfNums y215)).bind fun bt216 => (if (bt216.1.length : Int) < (t205.length : Int) then (if 0 ≤ (bt216.1.length : Int) then (if (bt216.1.length : Int) ≤ (t205.length : Int) then ((laws_sameTexts.f k2 bt216.1 (t205.take ((bt216.1.length : Int) : Int).toNat)).bind fun t224 => (if t224 = true then (some (decide (bt216.2 ≤ x9_2))) else (some false))) else (none)) else (none)) else (some false))) = some r := by first | (rw [hy215]; with_reducible exact H) | (have H2_ := (Option.bind_some _ _).symm.trans H; rw [hy215]; with_reducible exact H2_) | (have H2_ := (Option.bind_some _ _).symm.trans H; with_reducible exact H2_) | with_reducible exact H | (rw [hy215]; exact H) | exact H
                                  have Ny215 := Aside0.mk hy215
                                  clear hy215
                                  replace H := Option.bind_eq_some_iff.mp H
                                  obtain ⟨⟨t216, t217⟩, A420, H⟩ := H
                                  replace H : (if (t216.length : Int) < (t205.length : Int) then (if 0 ≤ (t216.length : Int) then (if (t216.length : Int) ≤ (t205.length : Int) then ((laws_sameTexts.f k2 t216 (t205.take ((t216.length : Int) : Int).toNat)).bind fun t224 => (if t224 = true then (some (decide (t217 ≤ x9_2))) else (some false))) else (none)) else (none)) else (some false)) = some r := H
                                  have A42 := Aside0.mk A420
                                  clear A420
                                  by_cases c43 : (t216.length : Int) < (t205.length : Int)
                                  · rw [if_pos c43] at H
                                    have c43b0 : decide ((t216.length : Int) < (t205.length : Int)) = true := decide_eq_true c43
                                    have c43b1 : decide (t216.length < t205.length) = true := decide_eq_true (Int.ofNat_lt.mp c43)
                                    clear c43
                                    by_cases c44 : 0 ≤ (t216.length : Int)
                                    · rw [if_pos c44] at H
                                      have c44b0 := eq_true c44
                                      have c44b1 : decide (0 ≤ (t216.length : Int)) = true := decide_eq_true c44
                                      clear c44
                                      by_cases c45 : (t216.length : Int) ≤ (t205.length : Int)
                                      · rw [if_pos c45] at H
                                        have c45b0 := eq_true c45
                                        have c45b1 : decide ((t216.length : Int) ≤ (t205.length : Int)) = true := decide_eq_true c45
                                        clear c45
                                        obtain ⟨y220, hy220⟩ : ∃ y_ : List ByteArray, y_ = (t205.take ((t216.length : Int) : Int).toNat) := ⟨_, rfl⟩
                                        replace H : ((laws_sameTexts.f k2 t216 y220).bind fun t224 => (if t224 = true then (some (decide (t217 ≤ x9_2))) else (some false))) = some r := by first | (rw [hy220]; with_reducible exact H) | (have H2_ := (Option.bind_some _ _).symm.trans H; rw [hy220]; with_reducible exact H2_) | (have H2_ := (Option.bind_some _ _).symm.trans H; with_reducible exact H2_) | with_reducible exact H | (rw [hy220]; exact H) | exact H
                                        have Ny220 := Aside0.mk hy220
                                        clear hy220
                                        replace H := Option.bind_eq_some_iff.mp H
                                        obtain ⟨t224, A460, H⟩ := H
                                        replace H : (if t224 = true then (some (decide (t217 ≤ x9_2))) else (some false)) = some r := H
                                        have A46 := Aside0.mk A460
                                        clear A460
                                        by_cases c47 : t224 = true
                                        · subst c47
                                          have H1 : (some (decide (t217 ≤ x9_2))) = some r := by rw [if_pos rfl] at H; exact H
                                          clear H
                                          have H := H1
                                          clear H1
                                          obtain rfl := Option.some.inj H
                                          have p31 : 0 ≤ ((ji28) : Int) := of_decide_eq_true (by first | (with_reducible assumption) | assumption)
                                          have q31 : (ji28) < (t204.size : Int) := of_decide_eq_true (by first | (with_reducible assumption) | assumption)
                                          have hx31 := bt_at t204 (ji28)
                                          replace p31 := eq_true p31
                                          replace q31 := eq_true q31
                                          go_wp2_with (first | ((with_reducible refine gate_dst (N := 91) rfl ?_); (try (refine gate_guard (by rfl) ?_; dsimp only)); refine Kd.Z_conv _ rfl 9 22 5 _ rfl Try.underlying9 Try.underlying22 Try.underlying5 t204 rfl (of_decide_eq_true (by first | (with_reducible assumption) | assumption)) (ok := fun _ => True) trivial (Below.refl _ _) (Nat.le_refl _) ?_; intro v212 w48 ho49 hb hg_ hnew_; clear hg_ hnew_; (first | rw [← Ny211.out] at ho49 | (simp only [Int.reduceToNat] at ho49; rw [← Ny211.out] at ho49)); have n0_ := Aside0.mk (Kd.R_below (by (with_reducible repeat (first | apply Kd.R_alloc | apply Kd.R_drewN | apply Kd.R_drew)); exact HO_6.out) hb); have n1_ := Aside0.mk (Kd.Z_lower ho49 (below_size (by repeat (first | (with_reducible first | exact HB.out | apply below_alloc | apply pw_below_drewN | apply below_drew1) | exact HB.out)))); have n2_ := Aside0.mk (below_step (by repeat (first | (with_reducible first | exact HB.out | apply below_alloc | apply pw_below_drewN | apply below_drew1) | exact HB.out)) hb); clear HO_6; clear HB; have HO_6 := n0_; have HO213 := n1_; have HB := n2_; clear n0_ n1_ n2_; clear hb ho49; obtain ⟨Ao50, co50, eo50⟩ := Kd.Z_slice HO213.out; subst eo50; have p214 : 0 ≤ ((ji35) : Int) := of_decide_eq_true (by first | (with_reducible assumption) | assumption); have q214 : (ji35) < (y211.length : Int) := of_decide_eq_true (by first | (with_reducible assumption) | assumption); obtain ⟨ad214, e214, hx214_0⟩ := Kd.at_int (Kd.Z_reads' HO213.out).2.2 (ji35) p214 q214; cases e214; replace p214 := eq_true p214; replace q214 := eq_true q214; have p41 : 0 ≤ ((ji35) : Int) := of_decide_eq_true (by first | (with_reducible assumption) | assumption); have q41 : ((ji35) : Int) < ((y211.length : Int) : Int) := of_decide_eq_true (by first | (with_reducible assumption) | assumption); obtain ⟨go41, co41, eo41, gb41, gl41, cl41, HG41⟩ := Kd.Z_form HO213.out (by omega); (first | cases eo41 | (injection eo41 with ea_ en_ ec_; (first | subst ea_ | (injection ea_ with ea_; subst ea_)); subst ec_; clear en_)); have GB41 := Aside0.mk gb41; have GG41 := Aside0.mk HG41; clear gb41 gl41 HG41; (first | simp only [add_plain] at hx214_0 | skip); obtain ⟨hx41_0, hf41_0⟩ := Kd.Z_cell 0 HO213.out ((ji35) : Int) p41 q41; replace p41 := eq_true p41; replace q41 := eq_true q41; obtain ⟨hy51_, hz51_⟩ := Kd.Z_cell 0 HO213.out ((ji35) : Int) (of_decide_eq_true (by first | (with_reducible assumption) | assumption)) (of_decide_eq_true (by first | (with_reducible assumption) | assumption)); have HP51 := Kd.Z_putg HO213.out ((ji35) : Int) (Go.bits .xor .u8 (rd y211 (ji35)) (ji40))) | ((with_reducible refine gate_store (t := 5) (p := 105) rfl ?_); refine store_event (t := 5) (p := 105) (v := ?vo_w52) (w1 := (w48.setCell ⟨go41, ((ji35) : Int).toNat, none⟩ (.int .u8 (Go.bits .xor .u8 (rd y211 (ji35)) (ji40))))) ?hg ?ho ?hn ?hr ?_; (case ho => rfl); (case hg => rfl); (case hn => rfl); (case hr => first | (go_simp; done) | (go_simp; rfl)); intro w52 hw; have hg : w48.grownBy w52 (some go41) := (by rw [hw]; exact HP51.2); have hp_ : Kd.Z (Kd.int .u8) 5 w52 w.heap.size (fun _ => True) (.slice (some ⟨go41, 0, none⟩) y211.length co50) y215 := (by rw [hw, Ny215.out]; exact HP51.1); clear HP51; have n0_ := Aside0.mk (Kd.R_overZ (v := (.slice (some ⟨go41, 0, none⟩) y211.length co50)) (by (with_reducible repeat (first | apply Kd.R_alloc | apply Kd.R_drewN | apply Kd.R_drew)); exact HO_6.out) (Kd.Z_typed HO213.out) (by decide) hg); have n1_ := Aside0.mk (hp_); have n2_ := Aside0.mk ((by rw [hw]; exact below_set (HB.out) GB41.out : Below w.heap.size w w52)); clear HO_6; clear HO213; clear HB; have HO_6 := n0_; have HO213 := n1_; have HB := n2_; clear n0_ n1_ n2_; clear hg hw hp_; have hcv53 := Kd.Z_string (P := Try.prog) Try.underlying22 Try.underlying5 Try.underlying9 HO213.out) | ((with_reducible refine gate_callee (f := 10) rfl ?_); refine goesL_ (some 109) rfl rfl Try.func10 (by kernel_rfl) rfl #[.string (strOfNums y215)] rfl (by (try simp only [List.map_toArray, List.map_cons, List.map_nil]); first | done | rfl | (simp only [List.length_drop, List.length_take]; rfl)) ?_; (with_reducible refine (impl_ReadLog.calls k2 (strOfNums y215) t216 t217 _ A42.out).mono ?_); rintro e w54 ⟨v218, rfl, ho0, hb⟩; refine ⟨_, rfl, ?_⟩; have n0_ := Aside0.mk (Kd.R_elder' (by (with_reducible repeat (first | apply Kd.R_alloc | apply Kd.R_drewN | apply Kd.R_drew)); exact HO_6.out) (Kd.R_base ho0) hb); have n1_ := Aside0.mk (Kd.Z_below (by (with_reducible repeat (first | apply Kd.Z_alloc | apply Kd.Z_drewN | apply Kd.Z_drew)); exact HO213.out) hb); have n2_ := Aside0.mk (Kd.R_lower (Kd.R_new' ho0 (Kd.R_lt (by (with_reducible repeat (first | apply Kd.R_alloc | apply Kd.R_drewN | apply Kd.R_drew)); exact HO_6.out))) (below_size (by repeat (first | (with_reducible first | exact HB.out | apply below_alloc | apply pw_below_drewN | apply below_drew1) | exact HB.out)))); have n3_ := Aside0.mk (below_step (by repeat (first | (with_reducible first | exact HB.out | apply below_alloc | apply pw_below_drewN | apply below_drew1) | exact HB.out)) hb); clear HO_6; clear HO213; clear HB; have HO_6 := n0_; have HO213 := n1_; have HO219 := n2_; have HB := n3_; clear n0_ n1_ n2_ n3_; (try clear hb); (try clear hb2); (try clear hk); (try clear hi); (try clear ho0); obtain ⟨Ao55, co55, eo55⟩ := Kd.R_slice HO219.out; subst eo55; obtain ⟨Ao56, co56, eo56⟩ := Kd.R_slice HO_6.out; subst eo56; have q57 : ((t216.length : Int) : Int) ≤ ((t205.length : Int) : Int) := of_decide_eq_true (by first | (with_reducible assumption) | assumption); obtain ⟨i057, hi057, _, hsz57, _⟩ := info_parts info9; have hroom57 : t205.length ≤ co56 := (Kd.R_reads' HO_6.out).2.1; have hC57 : Kd.C Kd.string _ Ao56 t205.length t205 := (Kd.R_reads' HO_6.out).2.2; have hcut57 := cut_to (P := Try.prog) 24 9 .i64 Try.underlying24 hi057 Ao56 t205.length co56 (t216.length : Int) (of_decide_eq_true (by first | (with_reducible assumption) | assumption)) q57 hroom57; have hr57 := Kd.C_take (m := ((t216.length : Int) : Int).toNat) hC57 (by omega); have hy57 : y220.length = ((t216.length : Int) : Int).toNat := (by rw [Ny220.out, List.length_take]; omega); rw [← Ny220.out] at hr57; rw [← hy57] at hcut57; have HR223 := Aside0.mk hr57; have HC223 := Aside0.mk (show y220.length ≤ co56 from by omega); clear hr57 hC57 hroom57 hi057 hsz57; have KY57 := Aside0.mk hy57; clear hy57; have KL57 := Aside0.mk (show ((t216.length : Int) : Int).toNat ≤ t205.length from by omega); replace q57 := eq_true q57) | (go_at_call 11; (with_reducible refine (laws_sameTexts.calls k2 _ _ t216 _ _ y220 true _ ?side1 ?side2 ?side3 ?side4 A46.out).mono ?_); (case side1 => repeat (first | exact (Kd.R_reads' HO219.out).2.2 | (with_reducible refine Kd.C_alloc ?_ _) | (with_reducible refine Kd.C_drewN ?_ _) | (with_reducible refine Kd.C_drew ?_))); (case side2 => exact (Kd.R_reads' HO219.out).2.1); (case side3 => repeat (first | exact (by repeat (first | (with_reducible exact HR223.out) | (with_reducible refine Kd.C_alloc ?_ _) | (with_reducible refine Kd.C_drewN ?_ _) | (with_reducible refine Kd.C_drew ?_) | exact HR223.out)) | (with_reducible refine Kd.C_alloc ?_ _) | (with_reducible refine Kd.C_drewN ?_ _) | (with_reducible refine Kd.C_drew ?_))); (case side4 => exact HC223.out); rintro e w' ⟨rfl, ⟨nd, rfl⟩⟩))
                                          go_ret
                                          exact ⟨by first | rfl | (simp [errW_none, errW_some] <;> rfl) | (simp only [← hji28, ← hji35, ← hji38, ← hji40]; first | rfl | (simp [errW_none, errW_some] <;> rfl)) | (simp [*, errW_none, errW_some] <;> rfl), by repeat (first | (with_reducible first | exact HB.out | apply below_alloc | apply pw_below_drewN | apply below_drew1) | exact HB.out)⟩
                                        · replace c47 := Bool.eq_false_iff.mpr c47
                                          subst c47
                                          have H1 : (some false) = some r := by rw [if_neg (show ¬ (false = true) by decide)] at H; exact H
                                          clear H
                                          have H := H1
                                          clear H1
                                          obtain rfl := Option.some.inj H
                                          have p31 : 0 ≤ ((ji28) : Int) := of_decide_eq_true (by first | (with_reducible assumption) | assumption)
                                          have q31 : (ji28) < (t204.size : Int) := of_decide_eq_true (by first | (with_reducible assumption) | assumption)
                                          have hx31 := bt_at t204 (ji28)
                                          replace p31 := eq_true p31
                                          replace q31 := eq_true q31
                                          go_wp2_with (first | ((with_reducible refine gate_dst (N := 91) rfl ?_); (try (refine gate_guard (by rfl) ?_; dsimp only)); refine Kd.Z_conv _ rfl 9 22 5 _ rfl Try.underlying9 Try.underlying22 Try.underlying5 t204 rfl (of_decide_eq_true (by first | (with_reducible assumption) | assumption)) (ok := fun _ => True) trivial (Below.refl _ _) (Nat.le_refl _) ?_; intro v212 w58 ho59 hb hg_ hnew_; clear hg_ hnew_; (first | rw [← Ny211.out] at ho59 | (simp only [Int.reduceToNat] at ho59; rw [← Ny211.out] at ho59)); have n0_ := Aside0.mk (Kd.R_below (by (with_reducible repeat (first | apply Kd.R_alloc | apply Kd.R_drewN | apply Kd.R_drew)); exact HO_6.out) hb); have n1_ := Aside0.mk (Kd.Z_lower ho59 (below_size (by repeat (first | (with_reducible first | exact HB.out | apply below_alloc | apply pw_below_drewN | apply below_drew1) | exact HB.out)))); have n2_ := Aside0.mk (below_step (by repeat (first | (with_reducible first | exact HB.out | apply below_alloc | apply pw_below_drewN | apply below_drew1) | exact HB.out)) hb); clear HO_6; clear HB; have HO_6 := n0_; have HO213 := n1_; have HB := n2_; clear n0_ n1_ n2_; clear hb ho59; obtain ⟨Ao60, co60, eo60⟩ := Kd.Z_slice HO213.out; subst eo60; have p214 : 0 ≤ ((ji35) : Int) := of_decide_eq_true (by first | (with_reducible assumption) | assumption); have q214 : (ji35) < (y211.length : Int) := of_decide_eq_true (by first | (with_reducible assumption) | assumption); obtain ⟨ad214, e214, hx214_0⟩ := Kd.at_int (Kd.Z_reads' HO213.out).2.2 (ji35) p214 q214; cases e214; replace p214 := eq_true p214; replace q214 := eq_true q214; have p41 : 0 ≤ ((ji35) : Int) := of_decide_eq_true (by first | (with_reducible assumption) | assumption); have q41 : ((ji35) : Int) < ((y211.length : Int) : Int) := of_decide_eq_true (by first | (with_reducible assumption) | assumption); obtain ⟨go41, co41, eo41, gb41, gl41, cl41, HG41⟩ := Kd.Z_form HO213.out (by omega); (first | cases eo41 | (injection eo41 with ea_ en_ ec_; (first | subst ea_ | (injection ea_ with ea_; subst ea_)); subst ec_; clear en_)); have GB41 := Aside0.mk gb41; have GG41 := Aside0.mk HG41; clear gb41 gl41 HG41; (first | simp only [add_plain] at hx214_0 | skip); obtain ⟨hx41_0, hf41_0⟩ := Kd.Z_cell 0 HO213.out ((ji35) : Int) p41 q41; replace p41 := eq_true p41; replace q41 := eq_true q41; obtain ⟨hy61_, hz61_⟩ := Kd.Z_cell 0 HO213.out ((ji35) : Int) (of_decide_eq_true (by first | (with_reducible assumption) | assumption)) (of_decide_eq_true (by first | (with_reducible assumption) | assumption)); have HP61 := Kd.Z_putg HO213.out ((ji35) : Int) (Go.bits .xor .u8 (rd y211 (ji35)) (ji40))) | ((with_reducible refine gate_store (t := 5) (p := 105) rfl ?_); refine store_event (t := 5) (p := 105) (v := ?vo_w62) (w1 := (w58.setCell ⟨go41, ((ji35) : Int).toNat, none⟩ (.int .u8 (Go.bits .xor .u8 (rd y211 (ji35)) (ji40))))) ?hg ?ho ?hn ?hr ?_; (case ho => rfl); (case hg => rfl); (case hn => rfl); (case hr => first | (go_simp; done) | (go_simp; rfl)); intro w62 hw; have hg : w58.grownBy w62 (some go41) := (by rw [hw]; exact HP61.2); have hp_ : Kd.Z (Kd.int .u8) 5 w62 w.heap.size (fun _ => True) (.slice (some ⟨go41, 0, none⟩) y211.length co60) y215 := (by rw [hw, Ny215.out]; exact HP61.1); clear HP61; have n0_ := Aside0.mk (Kd.R_overZ (v := (.slice (some ⟨go41, 0, none⟩) y211.length co60)) (by (with_reducible repeat (first | apply Kd.R_alloc | apply Kd.R_drewN | apply Kd.R_drew)); exact HO_6.out) (Kd.Z_typed HO213.out) (by decide) hg); have n1_ := Aside0.mk (hp_); have n2_ := Aside0.mk ((by rw [hw]; exact below_set (HB.out) GB41.out : Below w.heap.size w w62)); clear HO_6; clear HO213; clear HB; have HO_6 := n0_; have HO213 := n1_; have HB := n2_; clear n0_ n1_ n2_; clear hg hw hp_; have hcv63 := Kd.Z_string (P := Try.prog) Try.underlying22 Try.underlying5 Try.underlying9 HO213.out) | ((with_reducible refine gate_callee (f := 10) rfl ?_); refine goesL_ (some 109) rfl rfl Try.func10 (by kernel_rfl) rfl #[.string (strOfNums y215)] rfl (by (try simp only [List.map_toArray, List.map_cons, List.map_nil]); first | done | rfl | (simp only [List.length_drop, List.length_take]; rfl)) ?_; (with_reducible refine (impl_ReadLog.calls k2 (strOfNums y215) t216 t217 _ A42.out).mono ?_); rintro e w64 ⟨v218, rfl, ho0, hb⟩; refine ⟨_, rfl, ?_⟩; have n0_ := Aside0.mk (Kd.R_elder' (by (with_reducible repeat (first | apply Kd.R_alloc | apply Kd.R_drewN | apply Kd.R_drew)); exact HO_6.out) (Kd.R_base ho0) hb); have n1_ := Aside0.mk (Kd.Z_below (by (with_reducible repeat (first | apply Kd.Z_alloc | apply Kd.Z_drewN | apply Kd.Z_drew)); exact HO213.out) hb); have n2_ := Aside0.mk (Kd.R_lower (Kd.R_new' ho0 (Kd.R_lt (by (with_reducible repeat (first | apply Kd.R_alloc | apply Kd.R_drewN | apply Kd.R_drew)); exact HO_6.out))) (below_size (by repeat (first | (with_reducible first | exact HB.out | apply below_alloc | apply pw_below_drewN | apply below_drew1) | exact HB.out)))); have n3_ := Aside0.mk (below_step (by repeat (first | (with_reducible first | exact HB.out | apply below_alloc | apply pw_below_drewN | apply below_drew1) | exact HB.out)) hb); clear HO_6; clear HO213; clear HB; have HO_6 := n0_; have HO213 := n1_; have HO219 := n2_; have HB := n3_; clear n0_ n1_ n2_ n3_; (try clear hb); (try clear hb2); (try clear hk); (try clear hi); (try clear ho0); obtain ⟨Ao65, co65, eo65⟩ := Kd.R_slice HO219.out; subst eo65; obtain ⟨Ao66, co66, eo66⟩ := Kd.R_slice HO_6.out; subst eo66; have q67 : ((t216.length : Int) : Int) ≤ ((t205.length : Int) : Int) := of_decide_eq_true (by first | (with_reducible assumption) | assumption); obtain ⟨i067, hi067, _, hsz67, _⟩ := info_parts info9; have hroom67 : t205.length ≤ co66 := (Kd.R_reads' HO_6.out).2.1; have hC67 : Kd.C Kd.string _ Ao66 t205.length t205 := (Kd.R_reads' HO_6.out).2.2; have hcut67 := cut_to (P := Try.prog) 24 9 .i64 Try.underlying24 hi067 Ao66 t205.length co66 (t216.length : Int) (of_decide_eq_true (by first | (with_reducible assumption) | assumption)) q67 hroom67; have hr67 := Kd.C_take (m := ((t216.length : Int) : Int).toNat) hC67 (by omega); have hy67 : y220.length = ((t216.length : Int) : Int).toNat := (by rw [Ny220.out, List.length_take]; omega); rw [← Ny220.out] at hr67; rw [← hy67] at hcut67; have HR223 := Aside0.mk hr67; have HC223 := Aside0.mk (show y220.length ≤ co66 from by omega); clear hr67 hC67 hroom67 hi067 hsz67; have KY67 := Aside0.mk hy67; clear hy67; have KL67 := Aside0.mk (show ((t216.length : Int) : Int).toNat ≤ t205.length from by omega); replace q67 := eq_true q67) | (go_at_call 11; (with_reducible refine (laws_sameTexts.calls k2 _ _ t216 _ _ y220 false _ ?side1 ?side2 ?side3 ?side4 A46.out).mono ?_); (case side1 => repeat (first | exact (Kd.R_reads' HO219.out).2.2 | (with_reducible refine Kd.C_alloc ?_ _) | (with_reducible refine Kd.C_drewN ?_ _) | (with_reducible refine Kd.C_drew ?_))); (case side2 => exact (Kd.R_reads' HO219.out).2.1); (case side3 => repeat (first | exact (by repeat (first | (with_reducible exact HR223.out) | (with_reducible refine Kd.C_alloc ?_ _) | (with_reducible refine Kd.C_drewN ?_ _) | (with_reducible refine Kd.C_drew ?_) | exact HR223.out)) | (with_reducible refine Kd.C_alloc ?_ _) | (with_reducible refine Kd.C_drewN ?_ _) | (with_reducible refine Kd.C_drew ?_))); (case side4 => exact HC223.out); rintro e w' ⟨rfl, ⟨nd, rfl⟩⟩))
                                          go_ret
                                          exact ⟨by first | rfl | (simp [errW_none, errW_some] <;> rfl) | (simp only [← hji28, ← hji35, ← hji38, ← hji40]; first | rfl | (simp [errW_none, errW_some] <;> rfl)) | (simp [*, errW_none, errW_some] <;> rfl), by repeat (first | (with_reducible first | exact HB.out | apply below_alloc | apply pw_below_drewN | apply below_drew1) | exact HB.out)⟩
                                      · rw [if_neg c45] at H
                                        exact absurd H (by simp)
                                    · rw [if_neg c44] at H
                                      exact absurd H (by simp)
                                  · rw [if_neg c43] at H
                                    have c43b0 : decide ((t216.length : Int) < (t205.length : Int)) = false := decide_eq_false c43
                                    have c43b1 : decide (t216.length < t205.length) = false := decide_eq_false (fun h => c43 (Int.ofNat_lt.mpr h))
                                    clear c43
                                    obtain rfl := Option.some.inj H
                                    have p31 : 0 ≤ ((ji28) : Int) := of_decide_eq_true (by first | (with_reducible assumption) | assumption)
                                    have q31 : (ji28) < (t204.size : Int) := of_decide_eq_true (by first | (with_reducible assumption) | assumption)
                                    have hx31 := bt_at t204 (ji28)
                                    replace p31 := eq_true p31
                                    replace q31 := eq_true q31
                                    go_wp2_with (first | ((with_reducible refine gate_dst (N := 91) rfl ?_); (try (refine gate_guard (by rfl) ?_; dsimp only)); refine Kd.Z_conv _ rfl 9 22 5 _ rfl Try.underlying9 Try.underlying22 Try.underlying5 t204 rfl (of_decide_eq_true (by first | (with_reducible assumption) | assumption)) (ok := fun _ => True) trivial (Below.refl _ _) (Nat.le_refl _) ?_; intro v212 w68 ho69 hb hg_ hnew_; clear hg_ hnew_; (first | rw [← Ny211.out] at ho69 | (simp only [Int.reduceToNat] at ho69; rw [← Ny211.out] at ho69)); have n0_ := Aside0.mk (Kd.R_below (by (with_reducible repeat (first | apply Kd.R_alloc | apply Kd.R_drewN | apply Kd.R_drew)); exact HO_6.out) hb); have n1_ := Aside0.mk (Kd.Z_lower ho69 (below_size (by repeat (first | (with_reducible first | exact HB.out | apply below_alloc | apply pw_below_drewN | apply below_drew1) | exact HB.out)))); have n2_ := Aside0.mk (below_step (by repeat (first | (with_reducible first | exact HB.out | apply below_alloc | apply pw_below_drewN | apply below_drew1) | exact HB.out)) hb); clear HO_6; clear HB; have HO_6 := n0_; have HO213 := n1_; have HB := n2_; clear n0_ n1_ n2_; clear hb ho69; obtain ⟨Ao70, co70, eo70⟩ := Kd.Z_slice HO213.out; subst eo70; have p214 : 0 ≤ ((ji35) : Int) := of_decide_eq_true (by first | (with_reducible assumption) | assumption); have q214 : (ji35) < (y211.length : Int) := of_decide_eq_true (by first | (with_reducible assumption) | assumption); obtain ⟨ad214, e214, hx214_0⟩ := Kd.at_int (Kd.Z_reads' HO213.out).2.2 (ji35) p214 q214; cases e214; replace p214 := eq_true p214; replace q214 := eq_true q214; have p41 : 0 ≤ ((ji35) : Int) := of_decide_eq_true (by first | (with_reducible assumption) | assumption); have q41 : ((ji35) : Int) < ((y211.length : Int) : Int) := of_decide_eq_true (by first | (with_reducible assumption) | assumption); obtain ⟨go41, co41, eo41, gb41, gl41, cl41, HG41⟩ := Kd.Z_form HO213.out (by omega); (first | cases eo41 | (injection eo41 with ea_ en_ ec_; (first | subst ea_ | (injection ea_ with ea_; subst ea_)); subst ec_; clear en_)); have GB41 := Aside0.mk gb41; have GG41 := Aside0.mk HG41; clear gb41 gl41 HG41; (first | simp only [add_plain] at hx214_0 | skip); obtain ⟨hx41_0, hf41_0⟩ := Kd.Z_cell 0 HO213.out ((ji35) : Int) p41 q41; replace p41 := eq_true p41; replace q41 := eq_true q41; obtain ⟨hy71_, hz71_⟩ := Kd.Z_cell 0 HO213.out ((ji35) : Int) (of_decide_eq_true (by first | (with_reducible assumption) | assumption)) (of_decide_eq_true (by first | (with_reducible assumption) | assumption)); have HP71 := Kd.Z_putg HO213.out ((ji35) : Int) (Go.bits .xor .u8 (rd y211 (ji35)) (ji40))) | ((with_reducible refine gate_store (t := 5) (p := 105) rfl ?_); refine store_event (t := 5) (p := 105) (v := ?vo_w72) (w1 := (w68.setCell ⟨go41, ((ji35) : Int).toNat, none⟩ (.int .u8 (Go.bits .xor .u8 (rd y211 (ji35)) (ji40))))) ?hg ?ho ?hn ?hr ?_; (case ho => rfl); (case hg => rfl); (case hn => rfl); (case hr => first | (go_simp; done) | (go_simp; rfl)); intro w72 hw; have hg : w68.grownBy w72 (some go41) := (by rw [hw]; exact HP71.2); have hp_ : Kd.Z (Kd.int .u8) 5 w72 w.heap.size (fun _ => True) (.slice (some ⟨go41, 0, none⟩) y211.length co70) y215 := (by rw [hw, Ny215.out]; exact HP71.1); clear HP71; have n0_ := Aside0.mk (Kd.R_overZ (v := (.slice (some ⟨go41, 0, none⟩) y211.length co70)) (by (with_reducible repeat (first | apply Kd.R_alloc | apply Kd.R_drewN | apply Kd.R_drew)); exact HO_6.out) (Kd.Z_typed HO213.out) (by decide) hg); have n1_ := Aside0.mk (hp_); have n2_ := Aside0.mk ((by rw [hw]; exact below_set (HB.out) GB41.out : Below w.heap.size w w72)); clear HO_6; clear HO213; clear HB; have HO_6 := n0_; have HO213 := n1_; have HB := n2_; clear n0_ n1_ n2_; clear hg hw hp_; have hcv73 := Kd.Z_string (P := Try.prog) Try.underlying22 Try.underlying5 Try.underlying9 HO213.out) | ((with_reducible refine gate_callee (f := 10) rfl ?_); refine goesL_ (some 109) rfl rfl Try.func10 (by kernel_rfl) rfl #[.string (strOfNums y215)] rfl (by (try simp only [List.map_toArray, List.map_cons, List.map_nil]); first | done | rfl | (simp only [List.length_drop, List.length_take]; rfl)) ?_; (with_reducible refine (impl_ReadLog.calls k2 (strOfNums y215) t216 t217 _ A42.out).mono ?_); rintro e w74 ⟨v218, rfl, ho0, hb⟩; refine ⟨_, rfl, ?_⟩; have n0_ := Aside0.mk (Kd.R_elder' (by (with_reducible repeat (first | apply Kd.R_alloc | apply Kd.R_drewN | apply Kd.R_drew)); exact HO_6.out) (Kd.R_base ho0) hb); have n1_ := Aside0.mk (Kd.Z_below (by (with_reducible repeat (first | apply Kd.Z_alloc | apply Kd.Z_drewN | apply Kd.Z_drew)); exact HO213.out) hb); have n2_ := Aside0.mk (Kd.R_lower (Kd.R_new' ho0 (Kd.R_lt (by (with_reducible repeat (first | apply Kd.R_alloc | apply Kd.R_drewN | apply Kd.R_drew)); exact HO_6.out))) (below_size (by repeat (first | (with_reducible first | exact HB.out | apply below_alloc | apply pw_below_drewN | apply below_drew1) | exact HB.out)))); have n3_ := Aside0.mk (below_step (by repeat (first | (with_reducible first | exact HB.out | apply below_alloc | apply pw_below_drewN | apply below_drew1) | exact HB.out)) hb); clear HO_6; clear HO213; clear HB; have HO_6 := n0_; have HO213 := n1_; have HO219 := n2_; have HB := n3_; clear n0_ n1_ n2_ n3_; (try clear hb); (try clear hb2); (try clear hk); (try clear hi); (try clear ho0); obtain ⟨Ao75, co75, eo75⟩ := Kd.R_slice HO219.out; subst eo75; obtain ⟨Ao76, co76, eo76⟩ := Kd.R_slice HO_6.out; subst eo76))
                                    go_ret
                                    exact ⟨by first | rfl | (simp [errW_none, errW_some] <;> rfl) | (simp only [← hji28, ← hji35, ← hji38, ← hji40]; first | rfl | (simp [errW_none, errW_some] <;> rfl)) | (simp [*, errW_none, errW_some] <;> rfl), by repeat (first | (with_reducible first | exact HB.out | apply below_alloc | apply pw_below_drewN | apply below_drew1) | exact HB.out)⟩
                                · rw [if_neg c39] at H
                                  exact absurd H (by simp)
                              · rw [if_neg c37] at H
                                exact absurd H (by simp)
                            · rw [if_neg c36] at H
                              exact absurd H (by simp)
                          · rw [if_neg c34] at H
                            exact absurd H (by simp)
                      · rw [if_neg c32] at H
                        have c32b0 : decide (((l0.length : Int) % (t204.size : Int)) < (wrap64 (x9_2 + (wrap64 (6 + (wrap64 (bt t204 (ji28)))))))) = false := decide_eq_false c32
                        clear c32
                        have H' := Aside0.mk H
                        clear H
                        have p31 : 0 ≤ ((ji28) : Int) := of_decide_eq_true (by first | (with_reducible assumption) | assumption)
                        have q31 : (ji28) < (t204.size : Int) := of_decide_eq_true (by first | (with_reducible assumption) | assumption)
                        have hx31 := bt_at t204 (ji28)
                        replace p31 := eq_true p31
                        replace q31 := eq_true q31
                        go_wp2
                        go_roundg k2
                        case measure => have := HJ7.out; have := HK2.out; omega
                        case rel => exact ⟨(wrap64 (x9_2 + (wrap64 (6 + (wrap64 (bt t204 (ji28))))))), (by first | rfl | (simp; done) | (simp only [← hji28] <;> (first | rfl | simp)) | (simp [*]; done)), H', ⟨by have := HJ7.out; have := HK2.out; omega⟩, ⟨by (with_reducible repeat (first | apply Kd.R_alloc | apply Kd.R_drewN | apply Kd.R_drew)); exact HO_6.out⟩, ⟨by repeat (first | (with_reducible first | exact HB.out | apply below_alloc | apply pw_below_drewN | apply below_drew1) | exact HB.out)⟩⟩
                    · rw [if_neg c30] at H
                      exact absurd H (by simp)
                  · rw [if_neg c29] at H
                    exact absurd H (by simp)

/-- THE ONE PURE STATEMENT of laws_FnLogHurt: yours. -/
def laws_FnLogHurt.Pure : Prop := ∀ (l0 : List Int), l0.length ≤ maxLen → l0.length * 1 ≤ 140737488351232 → (∀ x ∈ l0, (Lit.int .u8 x).wf = true) → ∃ k, laws_FnLogHurt.f k l0 = some true
theorem laws_FnLogHurt.walk (P : laws_FnLogHurt.Pure) (a0 : Option Addr) (len0 cap0 : Nat) (z0 : List Int) (w : World) (w0 : (a0 = none ∧ len0 = 0 ∧ cap0 = 0 ∧ z0 = []) ∨ ∃ x, a0 = some x ∧ len0 ≤ cap0 ∧ cap0 ≤ maxLen ∧ z0.length = cap0 ∧ (∀ i, i < z0.length → w.cell? (x.add i) = some (.int .u8 (z0.getD i 0))) ∧ ∀ n ∈ z0, (Lit.int .u8 n).wf = true) (y0 : len0 * 1 ≤ 140737488351232) :
    Calls Try.prog 4 #[.slice a0 len0 cap0] w fun e w' => e = .returned (.bool true) ∧ Below w.heap.size w w' := by
  obtain ⟨l0, rfl, hr0, hm0, hw0, hc0⟩ := ReadsInt.ofRowC w0
  obtain ⟨k, h⟩ := P l0 hm0 y0 hw0
  refine (laws_FnLogHurt.calls k _ _ l0 true w (Kd.C_of_reads (d := (0 : Int)) (h1 := fun _ => rfl) hr0) hc0 h).mono ?_
  rintro e w' ⟨rfl, hd⟩
  exact ⟨rfl, hd⟩

end Go.Proofs.Ytfcjacncllmapag.QFnLogHurt
