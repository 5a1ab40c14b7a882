-- This session's own text: written by a program of this session, begun from the kit's printer.
import Derived.Test.YtfcjacncllmapaeQFnKeysx0
import Derived.Test.YtfcjacncllmapaeQFnKeysx1
import Derived.Test.YtfcjacncllmapaeQFnKeysx2
import Derived.Test.YtfcjacncllmapaeQFnKeysx3
import Derived.Test.YtfcjacncllmapaeQFnKeysx4
namespace Go.Proofs.Ytfcjacncllmapae.QFnKeys
open Go.RowKit Go.Proofs.YtfcjacncllmapaeW.PrintWords Go.Proofs.YtfcjacncllmapaeW.PrintLast Go.Proofs.YtfcjacncllmapaeW.PrintMore
attribute [local go_sem] max2_int min2_int max_two min_two max_three min_three max_four min_four   -- for this text's walks alone
set_option linter.unusedVariables false
set_option linter.unusedSimpArgs false

attribute [local go_sem high] eqA26
/-! ### laws_FnKeys: function 4 -/
mutual
def laws_FnKeys.j0 : Nat → Int → Bool → ByteArray → Int → Int → ByteArray → Int → Int → ByteArray → Int → Int → Option (Bool)
  | 0, _, _, _, _, _, _, _, _, _, _, _ => none
  | k + 1, x6, x31, x227000, x227001, x227002, x228000, x228001, x228002, x232000, x232001, x232002 => if x31 = true then (some false) else ((impl_KeyOk.f x227000 x227001 x227002).bind fun t235 => (if t235 = true then ((impl_KeyOk.f x228000 x228001 x228002).bind fun t236 => (if t236 = true then ((impl_KeyOk.f x232000 x232001 x232002).bind fun t237 => (laws_FnKeys.j1 k x6 (!t237) x227000 x227001 x227002 x228000 x228001 x228002 x232000 x232001 x232002)) else (laws_FnKeys.j1 k x6 true x227000 x227001 x227002 x228000 x228001 x228002 x232000 x232001 x232002))) else (laws_FnKeys.j1 k x6 true x227000 x227001 x227002 x228000 x228001 x228002 x232000 x232001 x232002)))
def laws_FnKeys.j1 : Nat → Int → Bool → ByteArray → Int → Int → ByteArray → Int → Int → ByteArray → Int → Int → Option (Bool)
  | 0, _, _, _, _, _, _, _, _, _, _, _ => none
  | k + 1, x6, x44, x227000, x227001, x227002, x228000, x228001, x228002, x232000, x232001, x232002 => if x44 = true then (some true) else (if ((x6 == 0) != (x227000.toList == x228000.toList && (x227001 == x228001 && (x227002 == x228002)))) = true then (some false) else (if x6 ≤ 0 then ((impl_KeyCmp.f k x228000 x228001 x228002 x232000 x232001 x232002).bind fun t238 => (if t238 ≤ 0 then ((impl_KeyCmp.f k x227000 x227001 x227002 x232000 x232001 x232002).bind fun t239 => (if t239 > 0 then (some false) else (if x227000.toList = x228000.toList then (if x227001 = x228001 then (some true) else (some ((decide (x6 < 0)) == (decide (x227001 > x228001))))) else (some true)))) else (if x227000.toList = x228000.toList then (if x227001 = x228001 then (some true) else (some ((decide (x6 < 0)) == (decide (x227001 > x228001))))) else (some true)))) else (if x227000.toList = x228000.toList then (if x227001 = x228001 then (some true) else (some ((decide (x6 < 0)) == (decide (x227001 > x228001))))) else (some true))))
end
def laws_FnKeys.f (k : Nat) (l0 : List Int) : Option (Bool) := (laws_big.f l0).bind fun t219 => (if t219 = true then (some true) else ((spec_DrawKeyCmp.f k l0).bind fun bt220 => ((spec_DrawKeyOk.f k l0).bind fun bt228 => ((impl_KeyCmp.f k bt220.1 bt220.2.1 bt220.2.2.1 bt220.2.2.2.1 bt220.2.2.2.2.1 bt220.2.2.2.2.2).bind fun t232 => ((spec_KeyCmp.f k bt220.1 bt220.2.1 bt220.2.2.1 bt220.2.2.2.1 bt220.2.2.2.2.1 bt220.2.2.2.2.2).bind fun t233 => (if t232 = t233 then ((impl_KeyCmp.f k bt220.2.2.2.1 bt220.2.2.2.2.1 bt220.2.2.2.2.2 bt220.1 bt220.2.1 bt220.2.2.1).bind fun t234 => (laws_FnKeys.j0 k t232 (t232 != (wrap64 (-t234))) bt220.1 bt220.2.1 bt220.2.2.1 bt220.2.2.2.1 bt220.2.2.2.2.1 bt220.2.2.2.2.2 bt228.1 bt228.2.1 bt228.2.2)) else (laws_FnKeys.j0 k t232 true bt220.1 bt220.2.1 bt220.2.2.1 bt220.2.2.2.1 bt220.2.2.2.2.1 bt220.2.2.2.2.2 bt228.1 bt228.2.1 bt228.2.2)))))))
set_option maxRecDepth 100000 in
theorem laws_FnKeys.mono_l : ∀ k, (∀ y0 y1 y2 y3 y4 y5 y6 y7 y8 y9 y10, LeO (laws_FnKeys.j0 k y0 y1 y2 y3 y4 y5 y6 y7 y8 y9 y10) (laws_FnKeys.j0 (k + 1) y0 y1 y2 y3 y4 y5 y6 y7 y8 y9 y10)) ∧ (∀ y0 y1 y2 y3 y4 y5 y6 y7 y8 y9 y10, LeO (laws_FnKeys.j1 k y0 y1 y2 y3 y4 y5 y6 y7 y8 y9 y10) (laws_FnKeys.j1 (k + 1) y0 y1 y2 y3 y4 y5 y6 y7 y8 y9 y10))
  | 0 => ⟨fun _ _ _ _ _ _ _ _ _ _ _ r h => by simp [laws_FnKeys.j0] at h, fun _ _ _ _ _ _ _ _ _ _ _ r h => by simp [laws_FnKeys.j1] at h⟩
  | k + 1 => by
    obtain ⟨ih0, ih1⟩ := laws_FnKeys.mono_l k
    refine ⟨?_, ?_⟩
    · intro y0 y1 y2 y3 y4 y5 y6 y7 y8 y9 y10
      unfold laws_FnKeys.j0
      repeat' first
      | (with_reducible exact ih0 _ _ _ _ _ _ _ _ _ _ _)
      | (with_reducible exact ih1 _ _ _ _ _ _ _ _ _ _ _)
      | (with_reducible exact impl_KeyCmp.mono _ _ _ _ _ _ _)
      | (with_reducible exact spec_DrawKeyCmp.mono _ _)
      | (with_reducible exact spec_DrawKeyOk.mono _ _)
      | (with_reducible exact spec_KeyCmp.mono _ _ _ _ _ _ _)
      | (with_reducible exact LeO.refl _)
      | (with_reducible exact LeO.none _)
      | (with_reducible refine LeO.ite ?_ ?_)
      | (with_reducible refine LeO.bind ?_ (fun _ => ?_))
      | exact ih0 _ _ _ _ _ _ _ _ _ _ _
      | exact ih1 _ _ _ _ _ _ _ _ _ _ _
      | exact impl_KeyCmp.mono _ _ _ _ _ _ _
      | exact spec_DrawKeyCmp.mono _ _
      | exact spec_DrawKeyOk.mono _ _
      | exact spec_KeyCmp.mono _ _ _ _ _ _ _
      | exact LeO.none _
      | refine LeO.ite ?_ ?_
      | refine LeO.bind ?_ (fun _ => ?_)
    · intro y0 y1 y2 y3 y4 y5 y6 y7 y8 y9 y10
      unfold laws_FnKeys.j1
      repeat' first
      | (with_reducible exact ih0 _ _ _ _ _ _ _ _ _ _ _)
      | (with_reducible exact ih1 _ _ _ _ _ _ _ _ _ _ _)
      | (with_reducible exact impl_KeyCmp.mono _ _ _ _ _ _ _)
      | (with_reducible exact spec_DrawKeyCmp.mono _ _)
      | (with_reducible exact spec_DrawKeyOk.mono _ _)
      | (with_reducible exact spec_KeyCmp.mono _ _ _ _ _ _ _)
      | (with_reducible exact LeO.refl _)
      | (with_reducible exact LeO.none _)
      | (with_reducible refine LeO.ite ?_ ?_)
      | (with_reducible refine LeO.bind ?_ (fun _ => ?_))
      | exact ih0 _ _ _ _ _ _ _ _ _ _ _
      | exact ih1 _ _ _ _ _ _ _ _ _ _ _
      | exact impl_KeyCmp.mono _ _ _ _ _ _ _
      | exact spec_DrawKeyCmp.mono _ _
      | exact spec_DrawKeyOk.mono _ _
      | exact spec_KeyCmp.mono _ _ _ _ _ _ _
      | exact LeO.none _
      | refine LeO.ite ?_ ?_
      | refine LeO.bind ?_ (fun _ => ?_)
theorem laws_FnKeys.mono : ∀ a0 k, LeO (laws_FnKeys.f k a0) (laws_FnKeys.f (k + 1) a0) := by
  intro a0 k
  obtain ⟨ih0, ih1⟩ := laws_FnKeys.mono_l k
  unfold laws_FnKeys.f
  repeat' first
      | (with_reducible exact ih0 _ _ _ _ _ _ _ _ _ _ _)
      | (with_reducible exact ih1 _ _ _ _ _ _ _ _ _ _ _)
      | (with_reducible exact impl_KeyCmp.mono _ _ _ _ _ _ _)
      | (with_reducible exact spec_DrawKeyCmp.mono _ _)
      | (with_reducible exact spec_DrawKeyOk.mono _ _)
      | (with_reducible exact spec_KeyCmp.mono _ _ _ _ _ _ _)
      | (with_reducible exact LeO.refl _)
      | (with_reducible exact LeO.none _)
      | (with_reducible refine LeO.ite ?_ ?_)
      | (with_reducible refine LeO.bind ?_ (fun _ => ?_))
      | exact ih0 _ _ _ _ _ _ _ _ _ _ _
      | exact ih1 _ _ _ _ _ _ _ _ _ _ _
      | exact impl_KeyCmp.mono _ _ _ _ _ _ _
      | exact spec_DrawKeyCmp.mono _ _
      | exact spec_DrawKeyOk.mono _ _
      | exact spec_KeyCmp.mono _ _ _ _ _ _ _
      | exact LeO.none _
      | refine LeO.ite ?_ ?_
      | refine LeO.bind ?_ (fun _ => ?_)
set_option maxHeartbeats 8000000 in
set_option maxRecDepth 100000 in
theorem laws_FnKeys.calls (k : Nat) (A0 : Option Addr) (c0 : Nat) (l0 : List Int) (r : Bool) (w : World) (hr0 : Kd.C (Kd.int .u8) w A0 l0.length l0) (hc0 : l0.length ≤ c0) (h : laws_FnKeys.f k l0 = some r) :
    Calls Try.prog 4 #[.slice A0 l0.length c0] w fun e w' => e = .returned (.bool r) ∧ Below w.heap.size w w' := by
  have hu26 := Try.underlying26
  have HR0 := Aside0.mk hr0
  have HC0 := Aside0.mk hc0
  clear hr0 hc0
  have HB := Aside0.mk (Below.refl w.heap.size w)
  have H : ((laws_big.f l0).bind fun t219 => (if t219 = true then (some true) else ((spec_DrawKeyCmp.f k l0).bind fun bt220 => ((spec_DrawKeyOk.f k l0).bind fun bt228 => ((impl_KeyCmp.f k bt220.1 bt220.2.1 bt220.2.2.1 bt220.2.2.2.1 bt220.2.2.2.2.1 bt220.2.2.2.2.2).bind fun t232 => ((spec_KeyCmp.f k bt220.1 bt220.2.1 bt220.2.2.1 bt220.2.2.2.1 bt220.2.2.2.2.1 bt220.2.2.2.2.2).bind fun t233 => (if t232 = t233 then ((impl_KeyCmp.f k bt220.2.2.2.1 bt220.2.2.2.2.1 bt220.2.2.2.2.2 bt220.1 bt220.2.1 bt220.2.2.1).bind fun t234 => (laws_FnKeys.j0 k t232 (t232 != (wrap64 (-t234))) bt220.1 bt220.2.1 bt220.2.2.1 bt220.2.2.2.1 bt220.2.2.2.2.1 bt220.2.2.2.2.2 bt228.1 bt228.2.1 bt228.2.2)) else (laws_FnKeys.j0 k t232 true bt220.1 bt220.2.1 bt220.2.2.1 bt220.2.2.2.1 bt220.2.2.2.2.1 bt220.2.2.2.2.2 bt228.1 bt228.2.1 bt228.2.2)))))))) = some r := h
  clear h
  replace H := Option.bind_eq_some_iff.mp H
  obtain ⟨t219, A20, H⟩ := H
  replace H : (if t219 = true then (some true) else ((spec_DrawKeyCmp.f k l0).bind fun bt220 => ((spec_DrawKeyOk.f k l0).bind fun bt228 => ((impl_KeyCmp.f k bt220.1 bt220.2.1 bt220.2.2.1 bt220.2.2.2.1 bt220.2.2.2.2.1 bt220.2.2.2.2.2).bind fun t232 => ((spec_KeyCmp.f k bt220.1 bt220.2.1 bt220.2.2.1 bt220.2.2.2.1 bt220.2.2.2.2.1 bt220.2.2.2.2.2).bind fun t233 => (if t232 = t233 then ((impl_KeyCmp.f k bt220.2.2.2.1 bt220.2.2.2.2.1 bt220.2.2.2.2.2 bt220.1 bt220.2.1 bt220.2.2.1).bind fun t234 => (laws_FnKeys.j0 k t232 (t232 != (wrap64 (-t234))) bt220.1 bt220.2.1 bt220.2.2.1 bt220.2.2.2.1 bt220.2.2.2.2.1 bt220.2.2.2.2.2 bt228.1 bt228.2.1 bt228.2.2)) else (laws_FnKeys.j0 k t232 true bt220.1 bt220.2.1 bt220.2.2.1 bt220.2.2.2.1 bt220.2.2.2.2.1 bt220.2.2.2.2.2 bt228.1 bt228.2.1 bt228.2.2))))))) = some r := H
  have A2 := Aside0.mk A20
  clear A20
  by_cases c3 : t219 = true
  · subst c3
    have H1 : (some true) = some r := by rw [if_pos rfl] at H; exact H
    clear H
    have H := H1
    clear H1
    obtain rfl := Option.some.inj H
    go_enter Try.func4, Try.ntmps4
    go_wp2_with (first | ((with_reducible refine gate_callee (f := 13) rfl ?_); refine goesL_ (some 8) rfl rfl Try.func13 (by kernel_rfl) rfl #[.slice A0 l0.length c0] rfl (by (try simp only [List.map_toArray, List.map_cons, List.map_nil]); first | done | rfl | (simp only [List.length_drop, List.length_take]; rfl)) ?_; (with_reducible refine (laws_big.calls _ _ l0 true _ ?side1 ?side2 A2.out).mono ?_); (case side1 => repeat (first | exact HR0.out | (with_reducible refine Kd.C_alloc ?_ _) | (with_reducible refine Kd.C_drewN ?_ _) | (with_reducible refine Kd.C_drew ?_))); (case side2 => exact HC0.out); rintro e w' ⟨rfl, ⟨nd, rfl⟩⟩; refine ⟨_, rfl, ?_⟩))
    go_ret
    exact ⟨by first | rfl | (simp [errW_none, errW_some] <;> rfl) | (simp [*, errW_none, errW_some] <;> rfl), by repeat (first | (with_reducible first | exact HB.out | apply below_alloc | apply pw_below_drewN | apply below_drew1) | exact HB.out)⟩
  · replace c3 := Bool.eq_false_iff.mpr c3
    subst c3
    have H1 : ((spec_DrawKeyCmp.f k l0).bind fun bt220 => ((spec_DrawKeyOk.f k l0).bind fun bt228 => ((impl_KeyCmp.f k bt220.1 bt220.2.1 bt220.2.2.1 bt220.2.2.2.1 bt220.2.2.2.2.1 bt220.2.2.2.2.2).bind fun t232 => ((spec_KeyCmp.f k bt220.1 bt220.2.1 bt220.2.2.1 bt220.2.2.2.1 bt220.2.2.2.2.1 bt220.2.2.2.2.2).bind fun t233 => (if t232 = t233 then ((impl_KeyCmp.f k bt220.2.2.2.1 bt220.2.2.2.2.1 bt220.2.2.2.2.2 bt220.1 bt220.2.1 bt220.2.2.1).bind fun t234 => (laws_FnKeys.j0 k t232 (t232 != (wrap64 (-t234))) bt220.1 bt220.2.1 bt220.2.2.1 bt220.2.2.2.1 bt220.2.2.2.2.1 bt220.2.2.2.2.2 bt228.1 bt228.2.1 bt228.2.2)) else (laws_FnKeys.j0 k t232 true bt220.1 bt220.2.1 bt220.2.2.1 bt220.2.2.2.1 bt220.2.2.2.2.1 bt220.2.2.2.2.2 bt228.1 bt228.2.1 bt228.2.2)))))) = some r := by rw [if_neg (show ¬ (false = true) by decide)] at H; exact H
    clear H
    have H := H1
    clear H1
    replace H := Option.bind_eq_some_iff.mp H
    obtain ⟨⟨t220, t221, t222, t223, t224, t225⟩, A40, H⟩ := H
    replace H : ((spec_DrawKeyOk.f k l0).bind fun bt228 => ((impl_KeyCmp.f k t220 t221 t222 t223 t224 t225).bind fun t232 => ((spec_KeyCmp.f k t220 t221 t222 t223 t224 t225).bind fun t233 => (if t232 = t233 then ((impl_KeyCmp.f k t223 t224 t225 t220 t221 t222).bind fun t234 => (laws_FnKeys.j0 k t232 (t232 != (wrap64 (-t234))) t220 t221 t222 t223 t224 t225 bt228.1 bt228.2.1 bt228.2.2)) else (laws_FnKeys.j0 k t232 true t220 t221 t222 t223 t224 t225 bt228.1 bt228.2.1 bt228.2.2))))) = some r := H
    have A4 := Aside0.mk A40
    clear A40
    replace H := Option.bind_eq_some_iff.mp H
    obtain ⟨⟨t228, t229, t230⟩, A50, H⟩ := H
    replace H : ((impl_KeyCmp.f k t220 t221 t222 t223 t224 t225).bind fun t232 => ((spec_KeyCmp.f k t220 t221 t222 t223 t224 t225).bind fun t233 => (if t232 = t233 then ((impl_KeyCmp.f k t223 t224 t225 t220 t221 t222).bind fun t234 => (laws_FnKeys.j0 k t232 (t232 != (wrap64 (-t234))) t220 t221 t222 t223 t224 t225 t228 t229 t230)) else (laws_FnKeys.j0 k t232 true t220 t221 t222 t223 t224 t225 t228 t229 t230)))) = some r := H
    have A5 := Aside0.mk A50
    clear A50
    replace H := Option.bind_eq_some_iff.mp H
    obtain ⟨t232, A60, H⟩ := H
    replace H : ((spec_KeyCmp.f k t220 t221 t222 t223 t224 t225).bind fun t233 => (if t232 = t233 then ((impl_KeyCmp.f k t223 t224 t225 t220 t221 t222).bind fun t234 => (laws_FnKeys.j0 k t232 (t232 != (wrap64 (-t234))) t220 t221 t222 t223 t224 t225 t228 t229 t230)) else (laws_FnKeys.j0 k t232 true t220 t221 t222 t223 t224 t225 t228 t229 t230))) = some r := H
    have A6 := Aside0.mk A60
    clear A60
    have HC7 := Aside0.mk H
    clear H
    go_enter Try.func4, Try.ntmps4
    go_upto_region 6 with (first | ((with_reducible refine gate_callee (f := 13) rfl ?_); refine goesL_ (some 8) rfl rfl Try.func13 (by kernel_rfl) rfl #[.slice A0 l0.length c0] rfl (by (try simp only [List.map_toArray, List.map_cons, List.map_nil]); first | done | rfl | (simp only [List.length_drop, List.length_take]; rfl)) ?_; (with_reducible refine (laws_big.calls _ _ l0 false _ ?side1 ?side2 A2.out).mono ?_); (case side1 => repeat (first | exact HR0.out | (with_reducible refine Kd.C_alloc ?_ _) | (with_reducible refine Kd.C_drewN ?_ _) | (with_reducible refine Kd.C_drew ?_))); (case side2 => exact HC0.out); rintro e w' ⟨rfl, ⟨nd, rfl⟩⟩; refine ⟨_, rfl, ?_⟩) | ((with_reducible refine gate_callee (f := 14) rfl ?_); refine goesL_ (some 11) rfl rfl Try.func14 (by kernel_rfl) rfl #[.slice A0 l0.length c0] rfl (by (try simp only [List.map_toArray, List.map_cons, List.map_nil]); first | done | rfl | (simp only [List.length_drop, List.length_take]; rfl)) ?_; (with_reducible refine (spec_DrawKeyCmp.calls k _ _ l0 t220 t221 t222 t223 t224 t225 _ ?side1 ?side2 A4.out).mono ?_); (case side1 => repeat (first | exact HR0.out | (with_reducible refine Kd.C_alloc ?_ _) | (with_reducible refine Kd.C_drewN ?_ _) | (with_reducible refine Kd.C_drew ?_))); (case side2 => exact HC0.out); rintro e w8 ⟨rfl, hb⟩; refine ⟨_, rfl, ?_⟩; have n0_ := Aside0.mk (below_step (by repeat (first | (with_reducible first | exact HB.out | apply below_alloc | apply pw_below_drewN | apply below_drew1) | exact HB.out)) hb); clear HB; have HB := n0_; clear n0_; (try clear hb); (try clear hb2); (try clear hk); (try clear hi)) | ((with_reducible refine gate_dst (N := 3) rfl ?_); refine box_event ?hg (N := 3) ?hd (cs := #[.string (⟨#[]⟩ : ByteArray), .int .i64 0, .int .i64 0]) (t := 26) ?hr ?_; (case hd => rfl); (case hg => rfl); (case hr => first | (go_simp; done) | (go_simp; rfl)); intro gb226 hg w9 hbox hb; have n0_ := Aside0.mk (below_step (by repeat (first | (with_reducible first | exact HB.out | apply below_alloc | apply pw_below_drewN | apply below_drew1) | exact HB.out)) hb); have n1_ := Aside0.mk (hbox); have n2_ := Aside0.mk ((by rw [hg]; exact (below_size (by repeat (first | (with_reducible first | exact HB.out | apply below_alloc | apply pw_below_drewN | apply below_drew1) | exact HB.out))) : w.heap.size ≤ gb226)); have n3_ := Aside0.mk ((by rw [hg]; exact (below_size (by repeat (first | (with_reducible first | exact HB.out | apply below_alloc | apply pw_below_drewN | apply below_drew1) | exact HB.out))) : w.heap.size ≤ gb226)); clear HB; have HB := n0_; have BK226 := n1_; have GW226 := n2_; have GE226 := n3_; clear n0_ n1_ n2_ n3_; clear hb hbox hg) | ((with_reducible refine gate_dst (N := 4) rfl ?_); refine box_event ?hg (N := 4) ?hd (cs := #[.string (⟨#[]⟩ : ByteArray), .int .i64 0, .int .i64 0]) (t := 26) ?hr ?_; (case hd => rfl); (case hg => rfl); (case hr => first | (go_simp; done) | (go_simp; rfl)); intro gb227 hg w10 hbox hb; have n0_ := Aside0.mk (blk_below (g := gb226) (o := .cells #[.string (⟨#[]⟩ : ByteArray), .int .i64 0, .int .i64 0] 26 (0, 0)) (by (with_reducible repeat (first | refine blk_drewN ?_ _ | refine blk_drew ?_ | refine blk_alloc ?_ _)); exact BK226.out) hb); have n1_ := Aside0.mk (below_step (by repeat (first | (with_reducible first | exact HB.out | apply below_alloc | apply pw_below_drewN | apply below_drew1 | refine below_set ?_ GE226.out) | exact HB.out)) hb); have n2_ := Aside0.mk (hbox); have n3_ := Aside0.mk ((by rw [hg]; exact (below_size (by repeat (first | (with_reducible first | exact HB.out | apply below_alloc | apply pw_below_drewN | apply below_drew1 | refine below_set ?_ GE226.out) | exact HB.out))) : w.heap.size ≤ gb227)); have n4_ := Aside0.mk ((by rw [hg]; exact (below_size (by repeat (first | (with_reducible first | exact HB.out | apply below_alloc | apply pw_below_drewN | apply below_drew1 | refine below_set ?_ GE226.out) | exact HB.out))) : w.heap.size ≤ gb227)); have n5_ := Aside0.mk ((by rw [hg]; exact Nat.ne_of_lt (blk_lt (g := gb226) (o := .cells #[.string (⟨#[]⟩ : ByteArray), .int .i64 0, .int .i64 0] 26 (0, 0)) (by (with_reducible repeat (first | refine blk_drewN ?_ _ | refine blk_drew ?_ | refine blk_alloc ?_ _)); exact BK226.out)) : gb226 ≠ gb227)); have n6_ := Aside0.mk ((by rw [hg]; exact Nat.ne_of_gt (blk_lt (g := gb226) (o := .cells #[.string (⟨#[]⟩ : ByteArray), .int .i64 0, .int .i64 0] 26 (0, 0)) (by (with_reducible repeat (first | refine blk_drewN ?_ _ | refine blk_drew ?_ | refine blk_alloc ?_ _)); exact BK226.out)) : gb227 ≠ gb226)); clear BK226; clear HB; have BK226 := n0_; have HB := n1_; have BK227 := n2_; have GW227 := n3_; have GE227 := n4_; have NB226_227 := n5_; have NB227_226 := n6_; clear n0_ n1_ n2_ n3_ n4_ n5_ n6_; clear hb hbox hg; have hnb11 := NB226_227.out; have hnc11 := NB227_226.out; have hcz12_0 : w10.cell? ⟨gb226, 0, none⟩ = some (.string (⟨#[]⟩ : ByteArray)) := (blk_cell BK226.out 0).trans rfl; have hcz12_1 : w10.cell? ⟨gb226, 1, none⟩ = some (.int .i64 0) := (blk_cell BK226.out 1).trans rfl; have hcz12_2 : w10.cell? ⟨gb226, 2, none⟩ = some (.int .i64 0) := (blk_cell BK226.out 2).trans rfl; have hfz12_0 := blk_frozen BK226.out 0; have hfz12_1 := blk_frozen BK226.out 1; have hfz12_2 := blk_frozen BK226.out 2; have hcz13_0 : w10.cell? ⟨gb227, 0, none⟩ = some (.string (⟨#[]⟩ : ByteArray)) := (blk_cell BK227.out 0).trans rfl; have hcz13_1 : w10.cell? ⟨gb227, 1, none⟩ = some (.int .i64 0) := (blk_cell BK227.out 1).trans rfl; have hcz13_2 : w10.cell? ⟨gb227, 2, none⟩ = some (.int .i64 0) := (blk_cell BK227.out 2).trans rfl; have hfz13_0 := blk_frozen BK227.out 0; have hfz13_1 := blk_frozen BK227.out 1; have hfz13_2 := blk_frozen BK227.out 2) | ((with_reducible refine gate_callee (f := 15) rfl ?_); refine goesL_ (some 15) rfl rfl Try.func15 (by kernel_rfl) rfl #[.slice A0 l0.length c0] rfl (by (try simp only [List.map_toArray, List.map_cons, List.map_nil]); first | done | rfl | (simp only [List.length_drop, List.length_take]; rfl)) ?_; (with_reducible refine (spec_DrawKeyOk.calls k _ _ l0 t228 t229 t230 _ ?side1 ?side2 A5.out).mono ?_); (case side1 => exact Kd.C_below HR0.out (by repeat (first | (with_reducible first | exact HB.out | apply below_alloc | apply pw_below_drewN | apply below_drew1 | refine below_set ?_ GE226.out | refine below_set ?_ GE227.out) | exact HB.out))); (case side2 => exact HC0.out); rintro e w14 ⟨rfl, hb⟩; refine ⟨_, rfl, ?_⟩; have n0_ := Aside0.mk (blk_below (g := gb226) (o := .cells #[.string t220, .int .i64 t221, .int .i64 t222] 26 (0, 0)) (by (with_reducible repeat (first | refine blk_drewN ?_ _ | refine blk_drew ?_ | refine blk_alloc ?_ _)); refine blk_far ?_ NB226_227.out _; (with_reducible repeat (first | refine blk_drewN ?_ _ | refine blk_drew ?_ | refine blk_alloc ?_ _)); refine blk_far ?_ NB226_227.out _; (with_reducible repeat (first | refine blk_drewN ?_ _ | refine blk_drew ?_ | refine blk_alloc ?_ _)); refine blk_far ?_ NB226_227.out _; (with_reducible repeat (first | refine blk_drewN ?_ _ | refine blk_drew ?_ | refine blk_alloc ?_ _)); refine blk_put (cs := #[.string t220, .int .i64 t221, .int .i64 0]) ?_ 2 _ rfl; (with_reducible repeat (first | refine blk_drewN ?_ _ | refine blk_drew ?_ | refine blk_alloc ?_ _)); refine blk_put (cs := #[.string t220, .int .i64 0, .int .i64 0]) ?_ 1 _ rfl; (with_reducible repeat (first | refine blk_drewN ?_ _ | refine blk_drew ?_ | refine blk_alloc ?_ _)); refine blk_put (cs := #[.string (⟨#[]⟩ : ByteArray), .int .i64 0, .int .i64 0]) ?_ 0 _ rfl; (with_reducible repeat (first | refine blk_drewN ?_ _ | refine blk_drew ?_ | refine blk_alloc ?_ _)); exact BK226.out) hb); have n1_ := Aside0.mk (blk_below (g := gb227) (o := .cells #[.string t223, .int .i64 t224, .int .i64 t225] 26 (0, 0)) (by (with_reducible repeat (first | refine blk_drewN ?_ _ | refine blk_drew ?_ | refine blk_alloc ?_ _)); refine blk_put (cs := #[.string t223, .int .i64 t224, .int .i64 0]) ?_ 2 _ rfl; (with_reducible repeat (first | refine blk_drewN ?_ _ | refine blk_drew ?_ | refine blk_alloc ?_ _)); refine blk_put (cs := #[.string t223, .int .i64 0, .int .i64 0]) ?_ 1 _ rfl; (with_reducible repeat (first | refine blk_drewN ?_ _ | refine blk_drew ?_ | refine blk_alloc ?_ _)); refine blk_put (cs := #[.string (⟨#[]⟩ : ByteArray), .int .i64 0, .int .i64 0]) ?_ 0 _ rfl; (with_reducible repeat (first | refine blk_drewN ?_ _ | refine blk_drew ?_ | refine blk_alloc ?_ _)); refine blk_far ?_ NB227_226.out _; (with_reducible repeat (first | refine blk_drewN ?_ _ | refine blk_drew ?_ | refine blk_alloc ?_ _)); refine blk_far ?_ NB227_226.out _; (with_reducible repeat (first | refine blk_drewN ?_ _ | refine blk_drew ?_ | refine blk_alloc ?_ _)); refine blk_far ?_ NB227_226.out _; (with_reducible repeat (first | refine blk_drewN ?_ _ | refine blk_drew ?_ | refine blk_alloc ?_ _)); exact BK227.out) hb); have n2_ := Aside0.mk (below_step (by repeat (first | (with_reducible first | exact HB.out | apply below_alloc | apply pw_below_drewN | apply below_drew1 | refine below_set ?_ GE226.out | refine below_set ?_ GE227.out) | exact HB.out)) hb); clear BK226; clear BK227; clear HB; have BK226 := n0_; have BK227 := n1_; have HB := n2_; clear n0_ n1_ n2_; (try clear hb); (try clear hb2); (try clear hk); (try clear hi)) | ((with_reducible refine gate_dst (N := 5) rfl ?_); refine box_event ?hg (N := 5) ?hd (cs := #[.string (⟨#[]⟩ : ByteArray), .int .i64 0, .int .i64 0]) (t := 26) ?hr ?_; (case hd => rfl); (case hg => rfl); (case hr => first | (go_simp; done) | (go_simp; rfl)); intro gb231 hg w15 hbox hb; have n0_ := Aside0.mk (blk_below (g := gb226) (o := .cells #[.string t220, .int .i64 t221, .int .i64 t222] 26 (0, 0)) (by (with_reducible repeat (first | refine blk_drewN ?_ _ | refine blk_drew ?_ | refine blk_alloc ?_ _)); exact BK226.out) hb); have n1_ := Aside0.mk (blk_below (g := gb227) (o := .cells #[.string t223, .int .i64 t224, .int .i64 t225] 26 (0, 0)) (by (with_reducible repeat (first | refine blk_drewN ?_ _ | refine blk_drew ?_ | refine blk_alloc ?_ _)); exact BK227.out) hb); have n2_ := Aside0.mk (below_step (by repeat (first | (with_reducible first | exact HB.out | apply below_alloc | apply pw_below_drewN | apply below_drew1 | refine below_set ?_ GE226.out | refine below_set ?_ GE227.out) | exact HB.out)) hb); have n3_ := Aside0.mk (hbox); have n4_ := Aside0.mk ((by rw [hg]; exact (below_size (by repeat (first | (with_reducible first | exact HB.out | apply below_alloc | apply pw_below_drewN | apply below_drew1 | refine below_set ?_ GE226.out | refine below_set ?_ GE227.out) | exact HB.out))) : w.heap.size ≤ gb231)); have n5_ := Aside0.mk ((by rw [hg]; exact (below_size (by repeat (first | (with_reducible first | exact HB.out | apply below_alloc | apply pw_below_drewN | apply below_drew1 | refine below_set ?_ GE226.out | refine below_set ?_ GE227.out) | exact HB.out))) : w.heap.size ≤ gb231)); have n6_ := Aside0.mk ((by rw [hg]; exact Nat.ne_of_lt (blk_lt (g := gb226) (o := .cells #[.string t220, .int .i64 t221, .int .i64 t222] 26 (0, 0)) (by (with_reducible repeat (first | refine blk_drewN ?_ _ | refine blk_drew ?_ | refine blk_alloc ?_ _)); exact BK226.out)) : gb226 ≠ gb231)); have n7_ := Aside0.mk ((by rw [hg]; exact Nat.ne_of_gt (blk_lt (g := gb226) (o := .cells #[.string t220, .int .i64 t221, .int .i64 t222] 26 (0, 0)) (by (with_reducible repeat (first | refine blk_drewN ?_ _ | refine blk_drew ?_ | refine blk_alloc ?_ _)); exact BK226.out)) : gb231 ≠ gb226)); have n8_ := Aside0.mk ((by rw [hg]; exact Nat.ne_of_lt (blk_lt (g := gb227) (o := .cells #[.string t223, .int .i64 t224, .int .i64 t225] 26 (0, 0)) (by (with_reducible repeat (first | refine blk_drewN ?_ _ | refine blk_drew ?_ | refine blk_alloc ?_ _)); exact BK227.out)) : gb227 ≠ gb231)); have n9_ := Aside0.mk ((by rw [hg]; exact Nat.ne_of_gt (blk_lt (g := gb227) (o := .cells #[.string t223, .int .i64 t224, .int .i64 t225] 26 (0, 0)) (by (with_reducible repeat (first | refine blk_drewN ?_ _ | refine blk_drew ?_ | refine blk_alloc ?_ _)); exact BK227.out)) : gb231 ≠ gb227)); clear BK226; clear BK227; clear HB; have BK226 := n0_; have BK227 := n1_; have HB := n2_; have BK231 := n3_; have GW231 := n4_; have GE231 := n5_; have NB226_231 := n6_; have NB231_226 := n7_; have NB227_231 := n8_; have NB231_227 := n9_; clear n0_ n1_ n2_ n3_ n4_ n5_ n6_ n7_ n8_ n9_; clear hb hbox hg; have hnb16 := NB231_226.out; have hnc16 := NB226_231.out; have hnb17 := NB231_227.out; have hnc17 := NB227_231.out; have hcz18_0 : w15.cell? ⟨gb231, 0, none⟩ = some (.string (⟨#[]⟩ : ByteArray)) := (blk_cell BK231.out 0).trans rfl; have hcz18_1 : w15.cell? ⟨gb231, 1, none⟩ = some (.int .i64 0) := (blk_cell BK231.out 1).trans rfl; have hcz18_2 : w15.cell? ⟨gb231, 2, none⟩ = some (.int .i64 0) := (blk_cell BK231.out 2).trans rfl; have hfz18_0 := blk_frozen BK231.out 0; have hfz18_1 := blk_frozen BK231.out 1; have hfz18_2 := blk_frozen BK231.out 2; have hcz19_0 : w15.cell? ⟨gb226, 0, none⟩ = some (.string t220) := (blk_cell BK226.out 0).trans rfl; have hcz19_1 : w15.cell? ⟨gb226, 1, none⟩ = some (.int .i64 t221) := (blk_cell BK226.out 1).trans rfl; have hcz19_2 : w15.cell? ⟨gb226, 2, none⟩ = some (.int .i64 t222) := (blk_cell BK226.out 2).trans rfl; have hfz19_0 := blk_frozen BK226.out 0; have hfz19_1 := blk_frozen BK226.out 1; have hfz19_2 := blk_frozen BK226.out 2; have hcz20_0 : w15.cell? ⟨gb227, 0, none⟩ = some (.string t223) := (blk_cell BK227.out 0).trans rfl; have hcz20_1 : w15.cell? ⟨gb227, 1, none⟩ = some (.int .i64 t224) := (blk_cell BK227.out 1).trans rfl; have hcz20_2 : w15.cell? ⟨gb227, 2, none⟩ = some (.int .i64 t225) := (blk_cell BK227.out 2).trans rfl; have hfz20_0 := blk_frozen BK227.out 0; have hfz20_1 := blk_frozen BK227.out 1; have hfz20_2 := blk_frozen BK227.out 2) | ((with_reducible refine gate_callee (f := 12) rfl ?_); refine goesL_ (some 18) rfl rfl Try.func12 (by kernel_rfl) rfl #[.agg #[.string t220, .int .i64 t221, .int .i64 t222], .agg #[.string t223, .int .i64 t224, .int .i64 t225]] rfl (by (try simp only [List.map_toArray, List.map_cons, List.map_nil]); first | done | rfl | (simp only [List.length_drop, List.length_take]; rfl)) ?_; (with_reducible refine (impl_KeyCmp.calls k t220 t221 t222 t223 t224 t225 t232 _ A6.out).mono ?_); rintro e w21 ⟨rfl, hb⟩; refine ⟨_, rfl, ?_⟩; have n0_ := Aside0.mk (blk_below (g := gb226) (o := .cells #[.string t220, .int .i64 t221, .int .i64 t222] 26 (0, 0)) (by (with_reducible repeat (first | refine blk_drewN ?_ _ | refine blk_drew ?_ | refine blk_alloc ?_ _)); refine blk_far ?_ NB226_231.out _; (with_reducible repeat (first | refine blk_drewN ?_ _ | refine blk_drew ?_ | refine blk_alloc ?_ _)); refine blk_far ?_ NB226_231.out _; (with_reducible repeat (first | refine blk_drewN ?_ _ | refine blk_drew ?_ | refine blk_alloc ?_ _)); refine blk_far ?_ NB226_231.out _; (with_reducible repeat (first | refine blk_drewN ?_ _ | refine blk_drew ?_ | refine blk_alloc ?_ _)); exact BK226.out) hb); have n1_ := Aside0.mk (blk_below (g := gb227) (o := .cells #[.string t223, .int .i64 t224, .int .i64 t225] 26 (0, 0)) (by (with_reducible repeat (first | refine blk_drewN ?_ _ | refine blk_drew ?_ | refine blk_alloc ?_ _)); refine blk_far ?_ NB227_231.out _; (with_reducible repeat (first | refine blk_drewN ?_ _ | refine blk_drew ?_ | refine blk_alloc ?_ _)); refine blk_far ?_ NB227_231.out _; (with_reducible repeat (first | refine blk_drewN ?_ _ | refine blk_drew ?_ | refine blk_alloc ?_ _)); refine blk_far ?_ NB227_231.out _; (with_reducible repeat (first | refine blk_drewN ?_ _ | refine blk_drew ?_ | refine blk_alloc ?_ _)); exact BK227.out) hb); have n2_ := Aside0.mk (blk_below (g := gb231) (o := .cells #[.string t228, .int .i64 t229, .int .i64 t230] 26 (0, 0)) (by (with_reducible repeat (first | refine blk_drewN ?_ _ | refine blk_drew ?_ | refine blk_alloc ?_ _)); refine blk_put (cs := #[.string t228, .int .i64 t229, .int .i64 0]) ?_ 2 _ rfl; (with_reducible repeat (first | refine blk_drewN ?_ _ | refine blk_drew ?_ | refine blk_alloc ?_ _)); refine blk_put (cs := #[.string t228, .int .i64 0, .int .i64 0]) ?_ 1 _ rfl; (with_reducible repeat (first | refine blk_drewN ?_ _ | refine blk_drew ?_ | refine blk_alloc ?_ _)); refine blk_put (cs := #[.string (⟨#[]⟩ : ByteArray), .int .i64 0, .int .i64 0]) ?_ 0 _ rfl; (with_reducible repeat (first | refine blk_drewN ?_ _ | refine blk_drew ?_ | refine blk_alloc ?_ _)); exact BK231.out) hb); have n3_ := Aside0.mk (below_step (by repeat (first | (with_reducible first | exact HB.out | apply below_alloc | apply pw_below_drewN | apply below_drew1 | refine below_set ?_ GE226.out | refine below_set ?_ GE227.out | refine below_set ?_ GE231.out) | exact HB.out)) hb); clear BK226; clear BK227; clear BK231; clear HB; have BK226 := n0_; have BK227 := n1_; have BK231 := n2_; have HB := n3_; clear n0_ n1_ n2_ n3_; (try clear hb); (try clear hb2); (try clear hk); (try clear hi)))
    (try simp only [Act.put, List.setIfInBounds_toArray, List.set_cons_zero, List.set_cons_succ])
    go_cut [31] (fun v31 wc => ∃ (kq : Nat) (x31_6 : Bool), v31 = .bool x31_6 ∧ Aside0 (laws_FnKeys.j0 kq t232 x31_6 t220 t221 t222 t223 t224 t225 t228 t229 t230 = some r) ∧ Aside0 (kq ≤ k) ∧ Aside0 (wc.heap[gb226]? = some (.cells #[.string t220, .int .i64 t221, .int .i64 t222] 26 (0, 0))) ∧ Aside0 (wc.heap[gb227]? = some (.cells #[.string t223, .int .i64 t224, .int .i64 t225] 26 (0, 0))) ∧ Aside0 (wc.heap[gb231]? = some (.cells #[.string t228, .int .i64 t229, .int .i64 t230] 26 (0, 0))) ∧ Aside0 (Below w.heap.size w wc))
    case first =>
      have H := HC7.out
      clear HC7
      replace H := Option.bind_eq_some_iff.mp H
      obtain ⟨t233, A220, H⟩ := H
      replace H : (if t232 = t233 then ((impl_KeyCmp.f k t223 t224 t225 t220 t221 t222).bind fun t234 => (laws_FnKeys.j0 k t232 (t232 != (wrap64 (-t234))) t220 t221 t222 t223 t224 t225 t228 t229 t230)) else (laws_FnKeys.j0 k t232 true t220 t221 t222 t223 t224 t225 t228 t229 t230)) = some r := H
      have A22 := Aside0.mk A220
      clear A220
      by_cases c23 : t232 = t233
      · rw [if_pos c23] at H
        have c23b0 : (t232 == t233) = true := beq_iff_eq.mpr c23
        have c23b1 : (t232 != t233) = false := bne_eq_false_iff_eq.mpr c23
        clear c23
        (first | rw [c23b0] | (simp only [i64_w, i32_w]; rw [c23b0]) | skip)
        replace H := Option.bind_eq_some_iff.mp H
        obtain ⟨t234, A240, H⟩ := H
        replace H : (laws_FnKeys.j0 k t232 (t232 != (wrap64 (-t234))) t220 t221 t222 t223 t224 t225 t228 t229 t230) = some r := H
        have A24 := Aside0.mk A240
        clear A240
        have H' := Aside0.mk H
        clear H
        have hnb25 := NB226_227.out
        have hnc25 := NB227_226.out
        have hnb26 := NB226_231.out
        have hnc26 := NB231_226.out
        have hcz27_0 : w21.cell? ⟨gb226, 0, none⟩ = some (.string t220) := (blk_cell BK226.out 0).trans rfl
        have hcz27_1 : w21.cell? ⟨gb226, 1, none⟩ = some (.int .i64 t221) := (blk_cell BK226.out 1).trans rfl
        have hcz27_2 : w21.cell? ⟨gb226, 2, none⟩ = some (.int .i64 t222) := (blk_cell BK226.out 2).trans rfl
        have hfz27_0 := blk_frozen BK226.out 0
        have hfz27_1 := blk_frozen BK226.out 1
        have hfz27_2 := blk_frozen BK226.out 2
        have hnb28 := NB227_231.out
        have hnc28 := NB231_227.out
        have hcz29_0 : w21.cell? ⟨gb227, 0, none⟩ = some (.string t223) := (blk_cell BK227.out 0).trans rfl
        have hcz29_1 : w21.cell? ⟨gb227, 1, none⟩ = some (.int .i64 t224) := (blk_cell BK227.out 1).trans rfl
        have hcz29_2 : w21.cell? ⟨gb227, 2, none⟩ = some (.int .i64 t225) := (blk_cell BK227.out 2).trans rfl
        have hfz29_0 := blk_frozen BK227.out 0
        have hfz29_1 := blk_frozen BK227.out 1
        have hfz29_2 := blk_frozen BK227.out 2
        go_wp2_with (first | ((with_reducible refine gate_callee (f := 10) rfl ?_); refine goesL_ (some 22) rfl rfl Try.func10 (by kernel_rfl) rfl #[.agg #[.string t220, .int .i64 t221, .int .i64 t222], .agg #[.string t223, .int .i64 t224, .int .i64 t225]] rfl (by (try simp only [List.map_toArray, List.map_cons, List.map_nil]); first | done | rfl | (simp only [List.length_drop, List.length_take]; rfl)) ?_; (with_reducible refine (spec_KeyCmp.calls k t220 t221 t222 t223 t224 t225 t233 _ A22.out).mono ?_); rintro e w30 ⟨rfl, hb⟩; refine ⟨_, rfl, ?_⟩; have n0_ := Aside0.mk (blk_below (g := gb226) (o := .cells #[.string t220, .int .i64 t221, .int .i64 t222] 26 (0, 0)) (by (with_reducible repeat (first | refine blk_drewN ?_ _ | refine blk_drew ?_ | refine blk_alloc ?_ _)); exact BK226.out) hb); have n1_ := Aside0.mk (blk_below (g := gb227) (o := .cells #[.string t223, .int .i64 t224, .int .i64 t225] 26 (0, 0)) (by (with_reducible repeat (first | refine blk_drewN ?_ _ | refine blk_drew ?_ | refine blk_alloc ?_ _)); exact BK227.out) hb); have n2_ := Aside0.mk (blk_below (g := gb231) (o := .cells #[.string t228, .int .i64 t229, .int .i64 t230] 26 (0, 0)) (by (with_reducible repeat (first | refine blk_drewN ?_ _ | refine blk_drew ?_ | refine blk_alloc ?_ _)); exact BK231.out) hb); have n3_ := Aside0.mk (below_step (by repeat (first | (with_reducible first | exact HB.out | apply below_alloc | apply pw_below_drewN | apply below_drew1 | refine below_set ?_ GE226.out | refine below_set ?_ GE227.out | refine below_set ?_ GE231.out) | exact HB.out)) hb); clear BK226; clear BK227; clear BK231; clear HB; have BK226 := n0_; have BK227 := n1_; have BK231 := n2_; have HB := n3_; clear n0_ n1_ n2_ n3_; (try clear hb); (try clear hb2); (try clear hk); (try clear hi); have hcz31_0 : w30.cell? ⟨gb227, 0, none⟩ = some (.string t223) := (blk_cell BK227.out 0).trans rfl; have hcz31_1 : w30.cell? ⟨gb227, 1, none⟩ = some (.int .i64 t224) := (blk_cell BK227.out 1).trans rfl; have hcz31_2 : w30.cell? ⟨gb227, 2, none⟩ = some (.int .i64 t225) := (blk_cell BK227.out 2).trans rfl; have hfz31_0 := blk_frozen BK227.out 0; have hfz31_1 := blk_frozen BK227.out 1; have hfz31_2 := blk_frozen BK227.out 2; have hcz32_0 : w30.cell? ⟨gb226, 0, none⟩ = some (.string t220) := (blk_cell BK226.out 0).trans rfl; have hcz32_1 : w30.cell? ⟨gb226, 1, none⟩ = some (.int .i64 t221) := (blk_cell BK226.out 1).trans rfl; have hcz32_2 : w30.cell? ⟨gb226, 2, none⟩ = some (.int .i64 t222) := (blk_cell BK226.out 2).trans rfl; have hfz32_0 := blk_frozen BK226.out 0; have hfz32_1 := blk_frozen BK226.out 1; have hfz32_2 := blk_frozen BK226.out 2) | (go_at_call 12; (with_reducible refine (impl_KeyCmp.calls k t223 t224 t225 t220 t221 t222 t234 _ A24.out).mono ?_); rintro e w33 ⟨rfl, hb⟩; have n0_ := Aside0.mk (blk_below (g := gb226) (o := .cells #[.string t220, .int .i64 t221, .int .i64 t222] 26 (0, 0)) (by (with_reducible repeat (first | refine blk_drewN ?_ _ | refine blk_drew ?_ | refine blk_alloc ?_ _)); exact BK226.out) hb); have n1_ := Aside0.mk (blk_below (g := gb227) (o := .cells #[.string t223, .int .i64 t224, .int .i64 t225] 26 (0, 0)) (by (with_reducible repeat (first | refine blk_drewN ?_ _ | refine blk_drew ?_ | refine blk_alloc ?_ _)); exact BK227.out) hb); have n2_ := Aside0.mk (blk_below (g := gb231) (o := .cells #[.string t228, .int .i64 t229, .int .i64 t230] 26 (0, 0)) (by (with_reducible repeat (first | refine blk_drewN ?_ _ | refine blk_drew ?_ | refine blk_alloc ?_ _)); exact BK231.out) hb); have n3_ := Aside0.mk (below_step (by repeat (first | (with_reducible first | exact HB.out | apply below_alloc | apply pw_below_drewN | apply below_drew1 | refine below_set ?_ GE226.out | refine below_set ?_ GE227.out | refine below_set ?_ GE231.out) | exact HB.out)) hb); clear BK226; clear BK227; clear BK231; clear HB; have BK226 := n0_; have BK227 := n1_; have BK231 := n2_; have HB := n3_; clear n0_ n1_ n2_ n3_; (try clear hb); (try clear hb2); (try clear hk); (try clear hi)))
        go_meet
        case rel => exact ⟨_, ((t232 != (wrap64 (-t234)))), (by first | rfl | (simp; done) | (simp [*]; done)), H', ⟨by first | omega | exact Nat.le_refl _⟩, ⟨by (with_reducible repeat (first | refine blk_drewN ?_ _ | refine blk_drew ?_ | refine blk_alloc ?_ _)); exact BK226.out⟩, ⟨by (with_reducible repeat (first | refine blk_drewN ?_ _ | refine blk_drew ?_ | refine blk_alloc ?_ _)); exact BK227.out⟩, ⟨by (with_reducible repeat (first | refine blk_drewN ?_ _ | refine blk_drew ?_ | refine blk_alloc ?_ _)); exact BK231.out⟩, ⟨by repeat (first | (with_reducible first | exact HB.out | apply below_alloc | apply pw_below_drewN | apply below_drew1 | refine below_set ?_ GE226.out | refine below_set ?_ GE227.out | refine below_set ?_ GE231.out) | exact HB.out)⟩⟩
      · rw [if_neg c23] at H
        have c23b0 : (t232 == t233) = false := beq_eq_false_iff_ne.mpr c23
        have c23b1 : (t232 != t233) = true := bne_iff_ne.mpr c23
        (first | rw [c23b0] | (simp only [i64_w, i32_w]; rw [c23b0]) | skip)
        have H' := Aside0.mk H
        clear H
        have hnb34 := NB226_227.out
        have hnc34 := NB227_226.out
        have hnb35 := NB226_231.out
        have hnc35 := NB231_226.out
        have hcz36_0 : w21.cell? ⟨gb226, 0, none⟩ = some (.string t220) := (blk_cell BK226.out 0).trans rfl
        have hcz36_1 : w21.cell? ⟨gb226, 1, none⟩ = some (.int .i64 t221) := (blk_cell BK226.out 1).trans rfl
        have hcz36_2 : w21.cell? ⟨gb226, 2, none⟩ = some (.int .i64 t222) := (blk_cell BK226.out 2).trans rfl
        have hfz36_0 := blk_frozen BK226.out 0
        have hfz36_1 := blk_frozen BK226.out 1
        have hfz36_2 := blk_frozen BK226.out 2
        have hnb37 := NB227_231.out
        have hnc37 := NB231_227.out
        have hcz38_0 : w21.cell? ⟨gb227, 0, none⟩ = some (.string t223) := (blk_cell BK227.out 0).trans rfl
        have hcz38_1 : w21.cell? ⟨gb227, 1, none⟩ = some (.int .i64 t224) := (blk_cell BK227.out 1).trans rfl
        have hcz38_2 : w21.cell? ⟨gb227, 2, none⟩ = some (.int .i64 t225) := (blk_cell BK227.out 2).trans rfl
        have hfz38_0 := blk_frozen BK227.out 0
        have hfz38_1 := blk_frozen BK227.out 1
        have hfz38_2 := blk_frozen BK227.out 2
        go_wp2_with (first | ((with_reducible refine gate_callee (f := 10) rfl ?_); refine goesL_ (some 22) rfl rfl Try.func10 (by kernel_rfl) rfl #[.agg #[.string t220, .int .i64 t221, .int .i64 t222], .agg #[.string t223, .int .i64 t224, .int .i64 t225]] rfl (by (try simp only [List.map_toArray, List.map_cons, List.map_nil]); first | done | rfl | (simp only [List.length_drop, List.length_take]; rfl)) ?_; (with_reducible refine (spec_KeyCmp.calls k t220 t221 t222 t223 t224 t225 t233 _ A22.out).mono ?_); rintro e w39 ⟨rfl, hb⟩; refine ⟨_, rfl, ?_⟩; have n0_ := Aside0.mk (blk_below (g := gb226) (o := .cells #[.string t220, .int .i64 t221, .int .i64 t222] 26 (0, 0)) (by (with_reducible repeat (first | refine blk_drewN ?_ _ | refine blk_drew ?_ | refine blk_alloc ?_ _)); exact BK226.out) hb); have n1_ := Aside0.mk (blk_below (g := gb227) (o := .cells #[.string t223, .int .i64 t224, .int .i64 t225] 26 (0, 0)) (by (with_reducible repeat (first | refine blk_drewN ?_ _ | refine blk_drew ?_ | refine blk_alloc ?_ _)); exact BK227.out) hb); have n2_ := Aside0.mk (blk_below (g := gb231) (o := .cells #[.string t228, .int .i64 t229, .int .i64 t230] 26 (0, 0)) (by (with_reducible repeat (first | refine blk_drewN ?_ _ | refine blk_drew ?_ | refine blk_alloc ?_ _)); exact BK231.out) hb); have n3_ := Aside0.mk (below_step (by repeat (first | (with_reducible first | exact HB.out | apply below_alloc | apply pw_below_drewN | apply below_drew1 | refine below_set ?_ GE226.out | refine below_set ?_ GE227.out | refine below_set ?_ GE231.out) | exact HB.out)) hb); clear BK226; clear BK227; clear BK231; clear HB; have BK226 := n0_; have BK227 := n1_; have BK231 := n2_; have HB := n3_; clear n0_ n1_ n2_ n3_; (try clear hb); (try clear hb2); (try clear hk); (try clear hi)))
        go_meet
        case rel => exact ⟨_, (true), (by first | rfl | (simp; done) | (simp [*]; done)), H', ⟨by first | omega | exact Nat.le_refl _⟩, ⟨by (with_reducible repeat (first | refine blk_drewN ?_ _ | refine blk_drew ?_ | refine blk_alloc ?_ _)); exact BK226.out⟩, ⟨by (with_reducible repeat (first | refine blk_drewN ?_ _ | refine blk_drew ?_ | refine blk_alloc ?_ _)); exact BK227.out⟩, ⟨by (with_reducible repeat (first | refine blk_drewN ?_ _ | refine blk_drew ?_ | refine blk_alloc ?_ _)); exact BK231.out⟩, ⟨by repeat (first | (with_reducible first | exact HB.out | apply below_alloc | apply pw_below_drewN | apply below_drew1 | refine below_set ?_ GE226.out | refine below_set ?_ GE227.out | refine below_set ?_ GE231.out) | exact HB.out)⟩⟩
    case rest =>
      clear HC7
      try clear c1
      try clear c2
      try clear p2
      try clear c3
      try clear c4
      try clear p6
      try clear c10
      try clear c11
      try clear c12
      try clear c13
      try clear c14
      try clear c15
      try clear c16
      try clear c17
      try clear c23
      try clear c23b0
      try clear c23b1
      try clear c25
      try clear c26
      try clear c28
      try clear c34
      try clear c35
      try clear c37
      try clear hcz12_0
      try clear hcz12_1
      try clear hcz12_2
      try clear hcz13_0
      try clear hcz13_1
      try clear hcz13_2
      try clear hcz18_0
      try clear hcz18_1
      try clear hcz18_2
      try clear hcz19_0
      try clear hcz19_1
      try clear hcz19_2
      try clear hcz20_0
      try clear hcz20_1
      try clear hcz20_2
      try clear hcz27_0
      try clear hcz27_1
      try clear hcz27_2
      try clear hcz29_0
      try clear hcz29_1
      try clear hcz29_2
      try clear hcz31_0
      try clear hcz31_1
      try clear hcz31_2
      try clear hcz32_0
      try clear hcz32_1
      try clear hcz32_2
      try clear hcz36_0
      try clear hcz36_1
      try clear hcz36_2
      try clear hcz38_0
      try clear hcz38_1
      try clear hcz38_2
      try clear hfz12_0
      try clear hfz12_1
      try clear hfz12_2
      try clear hfz13_0
      try clear hfz13_1
      try clear hfz13_2
      try clear hfz18_0
      try clear hfz18_1
      try clear hfz18_2
      try clear hfz19_0
      try clear hfz19_1
      try clear hfz19_2
      try clear hfz20_0
      try clear hfz20_1
      try clear hfz20_2
      try clear hfz27_0
      try clear hfz27_1
      try clear hfz27_2
      try clear hfz29_0
      try clear hfz29_1
      try clear hfz29_2
      try clear hfz31_0
      try clear hfz31_1
      try clear hfz31_2
      try clear hfz32_0
      try clear hfz32_1
      try clear hfz32_2
      try clear hfz36_0
      try clear hfz36_1
      try clear hfz36_2
      try clear hfz38_0
      try clear hfz38_1
      try clear hfz38_2
      obtain ⟨kq, x31_6, rfl, HA, HJ6, BK226, BK227, BK231, HB⟩ := hcut
      cases kq with
      | zero => exact absurd HA.out (by simp [laws_FnKeys.j0])
      | succ kj6 =>
        have H := HA.out
        clear HA
        simp only [laws_FnKeys.j0] at H
        by_cases c40 : x31_6 = true
        · subst c40
          have H1 : (some false) = some r := by rw [if_pos rfl] at H; exact H
          clear H
          have H := H1
          clear H1
          obtain rfl := Option.some.inj H
          go_wp2
          go_ret
          exact ⟨by first | rfl | (simp [errW_none, errW_some] <;> rfl) | (simp [*, errW_none, errW_some] <;> rfl), by repeat (first | (with_reducible first | exact HB.out | apply below_alloc | apply pw_below_drewN | apply below_drew1 | refine below_set ?_ GE226.out | refine below_set ?_ GE227.out | refine below_set ?_ GE231.out) | exact HB.out)⟩
        · replace c40 := Bool.eq_false_iff.mpr c40
          subst c40
          have H1 : ((impl_KeyOk.f t220 t221 t222).bind fun t235 => (if t235 = true then ((impl_KeyOk.f t223 t224 t225).bind fun t236 => (if t236 = true then ((impl_KeyOk.f t228 t229 t230).bind fun t237 => (laws_FnKeys.j1 kj6 t232 (!t237) t220 t221 t222 t223 t224 t225 t228 t229 t230)) else (laws_FnKeys.j1 kj6 t232 true t220 t221 t222 t223 t224 t225 t228 t229 t230))) else (laws_FnKeys.j1 kj6 t232 true t220 t221 t222 t223 t224 t225 t228 t229 t230))) = some r := by rw [if_neg (show ¬ (false = true) by decide)] at H; exact H
          clear H
          have H := H1
          clear H1
          have HC41 := Aside0.mk H
          clear H
          go_upto_region 8 with (fail)
          go_cut [44] (fun v44 wc => ∃ (kq : Nat) (x44_40 : Bool), v44 = .bool x44_40 ∧ Aside0 (laws_FnKeys.j1 kq t232 x44_40 t220 t221 t222 t223 t224 t225 t228 t229 t230 = some r) ∧ Aside0 (kq ≤ kj6) ∧ Aside0 (wc.heap[gb226]? = some (.cells #[.string t220, .int .i64 t221, .int .i64 t222] 26 (0, 0))) ∧ Aside0 (wc.heap[gb227]? = some (.cells #[.string t223, .int .i64 t224, .int .i64 t225] 26 (0, 0))) ∧ Aside0 (wc.heap[gb231]? = some (.cells #[.string t228, .int .i64 t229, .int .i64 t230] 26 (0, 0))) ∧ Aside0 (Below w.heap.size w wc))
          case first =>
            have H := HC41.out
            clear HC41
            replace H := Option.bind_eq_some_iff.mp H
            obtain ⟨t235, A420, H⟩ := H
            replace H : (if t235 = true then ((impl_KeyOk.f t223 t224 t225).bind fun t236 => (if t236 = true then ((impl_KeyOk.f t228 t229 t230).bind fun t237 => (laws_FnKeys.j1 kj6 t232 (!t237) t220 t221 t222 t223 t224 t225 t228 t229 t230)) else (laws_FnKeys.j1 kj6 t232 true t220 t221 t222 t223 t224 t225 t228 t229 t230))) else (laws_FnKeys.j1 kj6 t232 true t220 t221 t222 t223 t224 t225 t228 t229 t230)) = some r := H
            have A42 := Aside0.mk A420
            clear A420
            by_cases c43 : t235 = true
            · subst c43
              have H1 : ((impl_KeyOk.f t223 t224 t225).bind fun t236 => (if t236 = true then ((impl_KeyOk.f t228 t229 t230).bind fun t237 => (laws_FnKeys.j1 kj6 t232 (!t237) t220 t221 t222 t223 t224 t225 t228 t229 t230)) else (laws_FnKeys.j1 kj6 t232 true t220 t221 t222 t223 t224 t225 t228 t229 t230))) = some r := by rw [if_pos rfl] at H; exact H
              clear H
              have H := H1
              clear H1
              replace H := Option.bind_eq_some_iff.mp H
              obtain ⟨t236, A440, H⟩ := H
              replace H : (if t236 = true then ((impl_KeyOk.f t228 t229 t230).bind fun t237 => (laws_FnKeys.j1 kj6 t232 (!t237) t220 t221 t222 t223 t224 t225 t228 t229 t230)) else (laws_FnKeys.j1 kj6 t232 true t220 t221 t222 t223 t224 t225 t228 t229 t230)) = some r := H
              have A44 := Aside0.mk A440
              clear A440
              by_cases c45 : t236 = true
              · subst c45
                have H1 : ((impl_KeyOk.f t228 t229 t230).bind fun t237 => (laws_FnKeys.j1 kj6 t232 (!t237) t220 t221 t222 t223 t224 t225 t228 t229 t230)) = some r := by rw [if_pos rfl] at H; exact H
                clear H
                have H := H1
                clear H1
                replace H := Option.bind_eq_some_iff.mp H
                obtain ⟨t237, A460, H⟩ := H
                replace H : (laws_FnKeys.j1 kj6 t232 (!t237) t220 t221 t222 t223 t224 t225 t228 t229 t230) = some r := H
                have A46 := Aside0.mk A460
                clear A460
                have H' := Aside0.mk H
                clear H
                have hnb47 := NB226_227.out
                have hnc47 := NB227_226.out
                have hnb48 := NB226_231.out
                have hnc48 := NB231_226.out
                have hcz49_0 : wc.cell? ⟨gb226, 0, none⟩ = some (.string t220) := (blk_cell BK226.out 0).trans rfl
                have hcz49_1 : wc.cell? ⟨gb226, 1, none⟩ = some (.int .i64 t221) := (blk_cell BK226.out 1).trans rfl
                have hcz49_2 : wc.cell? ⟨gb226, 2, none⟩ = some (.int .i64 t222) := (blk_cell BK226.out 2).trans rfl
                have hfz49_0 := blk_frozen BK226.out 0
                have hfz49_1 := blk_frozen BK226.out 1
                have hfz49_2 := blk_frozen BK226.out 2
                go_wp2_with (first | ((with_reducible refine gate_callee (f := 16) rfl ?_); refine goesL_ (some 33) rfl rfl Try.func16 (by kernel_rfl) rfl #[.agg #[.string t220, .int .i64 t221, .int .i64 t222]] rfl (by (try simp only [List.map_toArray, List.map_cons, List.map_nil]); first | done | rfl | (simp only [List.length_drop, List.length_take]; rfl)) ?_; (with_reducible refine (impl_KeyOk.calls t220 t221 t222 true _ A42.out).mono ?_); rintro e w50 ⟨rfl, hb⟩; refine ⟨_, rfl, ?_⟩; have n0_ := Aside0.mk (blk_below (g := gb226) (o := .cells #[.string t220, .int .i64 t221, .int .i64 t222] 26 (0, 0)) (by (with_reducible repeat (first | refine blk_drewN ?_ _ | refine blk_drew ?_ | refine blk_alloc ?_ _)); exact BK226.out) hb); have n1_ := Aside0.mk (blk_below (g := gb227) (o := .cells #[.string t223, .int .i64 t224, .int .i64 t225] 26 (0, 0)) (by (with_reducible repeat (first | refine blk_drewN ?_ _ | refine blk_drew ?_ | refine blk_alloc ?_ _)); exact BK227.out) hb); have n2_ := Aside0.mk (blk_below (g := gb231) (o := .cells #[.string t228, .int .i64 t229, .int .i64 t230] 26 (0, 0)) (by (with_reducible repeat (first | refine blk_drewN ?_ _ | refine blk_drew ?_ | refine blk_alloc ?_ _)); exact BK231.out) hb); have n3_ := Aside0.mk (below_step (by repeat (first | (with_reducible first | exact HB.out | apply below_alloc | apply pw_below_drewN | apply below_drew1 | refine below_set ?_ GE226.out | refine below_set ?_ GE227.out | refine below_set ?_ GE231.out) | exact HB.out)) hb); clear BK226; clear BK227; clear BK231; clear HB; have BK226 := n0_; have BK227 := n1_; have BK231 := n2_; have HB := n3_; clear n0_ n1_ n2_ n3_; (try clear hb); (try clear hb2); (try clear hk); (try clear hi); have hnb51 := NB227_231.out; have hnc51 := NB231_227.out; have hcz52_0 : w50.cell? ⟨gb227, 0, none⟩ = some (.string t223) := (blk_cell BK227.out 0).trans rfl; have hcz52_1 : w50.cell? ⟨gb227, 1, none⟩ = some (.int .i64 t224) := (blk_cell BK227.out 1).trans rfl; have hcz52_2 : w50.cell? ⟨gb227, 2, none⟩ = some (.int .i64 t225) := (blk_cell BK227.out 2).trans rfl; have hfz52_0 := blk_frozen BK227.out 0; have hfz52_1 := blk_frozen BK227.out 1; have hfz52_2 := blk_frozen BK227.out 2) | (go_at_call 16; (with_reducible refine (impl_KeyOk.calls t223 t224 t225 true _ A44.out).mono ?_); rintro e w53 ⟨rfl, hb⟩; have n0_ := Aside0.mk (blk_below (g := gb226) (o := .cells #[.string t220, .int .i64 t221, .int .i64 t222] 26 (0, 0)) (by (with_reducible repeat (first | refine blk_drewN ?_ _ | refine blk_drew ?_ | refine blk_alloc ?_ _)); exact BK226.out) hb); have n1_ := Aside0.mk (blk_below (g := gb227) (o := .cells #[.string t223, .int .i64 t224, .int .i64 t225] 26 (0, 0)) (by (with_reducible repeat (first | refine blk_drewN ?_ _ | refine blk_drew ?_ | refine blk_alloc ?_ _)); exact BK227.out) hb); have n2_ := Aside0.mk (blk_below (g := gb231) (o := .cells #[.string t228, .int .i64 t229, .int .i64 t230] 26 (0, 0)) (by (with_reducible repeat (first | refine blk_drewN ?_ _ | refine blk_drew ?_ | refine blk_alloc ?_ _)); exact BK231.out) hb); have n3_ := Aside0.mk (below_step (by repeat (first | (with_reducible first | exact HB.out | apply below_alloc | apply pw_below_drewN | apply below_drew1 | refine below_set ?_ GE226.out | refine below_set ?_ GE227.out | refine below_set ?_ GE231.out) | exact HB.out)) hb); clear BK226; clear BK227; clear BK231; clear HB; have BK226 := n0_; have BK227 := n1_; have BK231 := n2_; have HB := n3_; clear n0_ n1_ n2_ n3_; (try clear hb); (try clear hb2); (try clear hk); (try clear hi); have hcz54_0 : w53.cell? ⟨gb231, 0, none⟩ = some (.string t228) := (blk_cell BK231.out 0).trans rfl; have hcz54_1 : w53.cell? ⟨gb231, 1, none⟩ = some (.int .i64 t229) := (blk_cell BK231.out 1).trans rfl; have hcz54_2 : w53.cell? ⟨gb231, 2, none⟩ = some (.int .i64 t230) := (blk_cell BK231.out 2).trans rfl; have hfz54_0 := blk_frozen BK231.out 0; have hfz54_1 := blk_frozen BK231.out 1; have hfz54_2 := blk_frozen BK231.out 2) | (go_at_call 16; (with_reducible refine (impl_KeyOk.calls t228 t229 t230 t237 _ A46.out).mono ?_); rintro e w55 ⟨rfl, hb⟩; have n0_ := Aside0.mk (blk_below (g := gb226) (o := .cells #[.string t220, .int .i64 t221, .int .i64 t222] 26 (0, 0)) (by (with_reducible repeat (first | refine blk_drewN ?_ _ | refine blk_drew ?_ | refine blk_alloc ?_ _)); exact BK226.out) hb); have n1_ := Aside0.mk (blk_below (g := gb227) (o := .cells #[.string t223, .int .i64 t224, .int .i64 t225] 26 (0, 0)) (by (with_reducible repeat (first | refine blk_drewN ?_ _ | refine blk_drew ?_ | refine blk_alloc ?_ _)); exact BK227.out) hb); have n2_ := Aside0.mk (blk_below (g := gb231) (o := .cells #[.string t228, .int .i64 t229, .int .i64 t230] 26 (0, 0)) (by (with_reducible repeat (first | refine blk_drewN ?_ _ | refine blk_drew ?_ | refine blk_alloc ?_ _)); exact BK231.out) hb); have n3_ := Aside0.mk (below_step (by repeat (first | (with_reducible first | exact HB.out | apply below_alloc | apply pw_below_drewN | apply below_drew1 | refine below_set ?_ GE226.out | refine below_set ?_ GE227.out | refine below_set ?_ GE231.out) | exact HB.out)) hb); clear BK226; clear BK227; clear BK231; clear HB; have BK226 := n0_; have BK227 := n1_; have BK231 := n2_; have HB := n3_; clear n0_ n1_ n2_ n3_; (try clear hb); (try clear hb2); (try clear hk); (try clear hi)))
                go_meet
                case rel => exact ⟨_, (!t237), (by first | rfl | (simp; done) | (simp [*]; done)), H', ⟨by have := HJ6.out; first | omega | exact Nat.le_refl _⟩, ⟨by (with_reducible repeat (first | refine blk_drewN ?_ _ | refine blk_drew ?_ | refine blk_alloc ?_ _)); exact BK226.out⟩, ⟨by (with_reducible repeat (first | refine blk_drewN ?_ _ | refine blk_drew ?_ | refine blk_alloc ?_ _)); exact BK227.out⟩, ⟨by (with_reducible repeat (first | refine blk_drewN ?_ _ | refine blk_drew ?_ | refine blk_alloc ?_ _)); exact BK231.out⟩, ⟨by repeat (first | (with_reducible first | exact HB.out | apply below_alloc | apply pw_below_drewN | apply below_drew1 | refine below_set ?_ GE226.out | refine below_set ?_ GE227.out | refine below_set ?_ GE231.out) | exact HB.out)⟩⟩
              · replace c45 := Bool.eq_false_iff.mpr c45
                subst c45
                have H1 : (laws_FnKeys.j1 kj6 t232 true t220 t221 t222 t223 t224 t225 t228 t229 t230) = some r := by rw [if_neg (show ¬ (false = true) by decide)] at H; exact H
                clear H
                have H := H1
                clear H1
                have H' := Aside0.mk H
                clear H
                have hnb56 := NB226_227.out
                have hnc56 := NB227_226.out
                have hnb57 := NB226_231.out
                have hnc57 := NB231_226.out
                have hcz58_0 : wc.cell? ⟨gb226, 0, none⟩ = some (.string t220) := (blk_cell BK226.out 0).trans rfl
                have hcz58_1 : wc.cell? ⟨gb226, 1, none⟩ = some (.int .i64 t221) := (blk_cell BK226.out 1).trans rfl
                have hcz58_2 : wc.cell? ⟨gb226, 2, none⟩ = some (.int .i64 t222) := (blk_cell BK226.out 2).trans rfl
                have hfz58_0 := blk_frozen BK226.out 0
                have hfz58_1 := blk_frozen BK226.out 1
                have hfz58_2 := blk_frozen BK226.out 2
                go_wp2_with (first | ((with_reducible refine gate_callee (f := 16) rfl ?_); refine goesL_ (some 33) rfl rfl Try.func16 (by kernel_rfl) rfl #[.agg #[.string t220, .int .i64 t221, .int .i64 t222]] rfl (by (try simp only [List.map_toArray, List.map_cons, List.map_nil]); first | done | rfl | (simp only [List.length_drop, List.length_take]; rfl)) ?_; (with_reducible refine (impl_KeyOk.calls t220 t221 t222 true _ A42.out).mono ?_); rintro e w59 ⟨rfl, hb⟩; refine ⟨_, rfl, ?_⟩; have n0_ := Aside0.mk (blk_below (g := gb226) (o := .cells #[.string t220, .int .i64 t221, .int .i64 t222] 26 (0, 0)) (by (with_reducible repeat (first | refine blk_drewN ?_ _ | refine blk_drew ?_ | refine blk_alloc ?_ _)); exact BK226.out) hb); have n1_ := Aside0.mk (blk_below (g := gb227) (o := .cells #[.string t223, .int .i64 t224, .int .i64 t225] 26 (0, 0)) (by (with_reducible repeat (first | refine blk_drewN ?_ _ | refine blk_drew ?_ | refine blk_alloc ?_ _)); exact BK227.out) hb); have n2_ := Aside0.mk (blk_below (g := gb231) (o := .cells #[.string t228, .int .i64 t229, .int .i64 t230] 26 (0, 0)) (by (with_reducible repeat (first | refine blk_drewN ?_ _ | refine blk_drew ?_ | refine blk_alloc ?_ _)); exact BK231.out) hb); have n3_ := Aside0.mk (below_step (by repeat (first | (with_reducible first | exact HB.out | apply below_alloc | apply pw_below_drewN | apply below_drew1 | refine below_set ?_ GE226.out | refine below_set ?_ GE227.out | refine below_set ?_ GE231.out) | exact HB.out)) hb); clear BK226; clear BK227; clear BK231; clear HB; have BK226 := n0_; have BK227 := n1_; have BK231 := n2_; have HB := n3_; clear n0_ n1_ n2_ n3_; (try clear hb); (try clear hb2); (try clear hk); (try clear hi); have hnb60 := NB227_231.out; have hnc60 := NB231_227.out; have hcz61_0 : w59.cell? ⟨gb227, 0, none⟩ = some (.string t223) := (blk_cell BK227.out 0).trans rfl; have hcz61_1 : w59.cell? ⟨gb227, 1, none⟩ = some (.int .i64 t224) := (blk_cell BK227.out 1).trans rfl; have hcz61_2 : w59.cell? ⟨gb227, 2, none⟩ = some (.int .i64 t225) := (blk_cell BK227.out 2).trans rfl; have hfz61_0 := blk_frozen BK227.out 0; have hfz61_1 := blk_frozen BK227.out 1; have hfz61_2 := blk_frozen BK227.out 2) | (go_at_call 16; (with_reducible refine (impl_KeyOk.calls t223 t224 t225 false _ A44.out).mono ?_); rintro e w62 ⟨rfl, hb⟩; have n0_ := Aside0.mk (blk_below (g := gb226) (o := .cells #[.string t220, .int .i64 t221, .int .i64 t222] 26 (0, 0)) (by (with_reducible repeat (first | refine blk_drewN ?_ _ | refine blk_drew ?_ | refine blk_alloc ?_ _)); exact BK226.out) hb); have n1_ := Aside0.mk (blk_below (g := gb227) (o := .cells #[.string t223, .int .i64 t224, .int .i64 t225] 26 (0, 0)) (by (with_reducible repeat (first | refine blk_drewN ?_ _ | refine blk_drew ?_ | refine blk_alloc ?_ _)); exact BK227.out) hb); have n2_ := Aside0.mk (blk_below (g := gb231) (o := .cells #[.string t228, .int .i64 t229, .int .i64 t230] 26 (0, 0)) (by (with_reducible repeat (first | refine blk_drewN ?_ _ | refine blk_drew ?_ | refine blk_alloc ?_ _)); exact BK231.out) hb); have n3_ := Aside0.mk (below_step (by repeat (first | (with_reducible first | exact HB.out | apply below_alloc | apply pw_below_drewN | apply below_drew1 | refine below_set ?_ GE226.out | refine below_set ?_ GE227.out | refine below_set ?_ GE231.out) | exact HB.out)) hb); clear BK226; clear BK227; clear BK231; clear HB; have BK226 := n0_; have BK227 := n1_; have BK231 := n2_; have HB := n3_; clear n0_ n1_ n2_ n3_; (try clear hb); (try clear hb2); (try clear hk); (try clear hi)))
                go_meet
                case rel => exact ⟨_, (true), (by first | rfl | (simp; done) | (simp [*]; done)), H', ⟨by have := HJ6.out; first | omega | exact Nat.le_refl _⟩, ⟨by (with_reducible repeat (first | refine blk_drewN ?_ _ | refine blk_drew ?_ | refine blk_alloc ?_ _)); exact BK226.out⟩, ⟨by (with_reducible repeat (first | refine blk_drewN ?_ _ | refine blk_drew ?_ | refine blk_alloc ?_ _)); exact BK227.out⟩, ⟨by (with_reducible repeat (first | refine blk_drewN ?_ _ | refine blk_drew ?_ | refine blk_alloc ?_ _)); exact BK231.out⟩, ⟨by repeat (first | (with_reducible first | exact HB.out | apply below_alloc | apply pw_below_drewN | apply below_drew1 | refine below_set ?_ GE226.out | refine below_set ?_ GE227.out | refine below_set ?_ GE231.out) | exact HB.out)⟩⟩
            · replace c43 := Bool.eq_false_iff.mpr c43
              subst c43
              have H1 : (laws_FnKeys.j1 kj6 t232 true t220 t221 t222 t223 t224 t225 t228 t229 t230) = some r := by rw [if_neg (show ¬ (false = true) by decide)] at H; exact H
              clear H
              have H := H1
              clear H1
              have H' := Aside0.mk H
              clear H
              have hnb63 := NB226_227.out
              have hnc63 := NB227_226.out
              have hnb64 := NB226_231.out
              have hnc64 := NB231_226.out
              have hcz65_0 : wc.cell? ⟨gb226, 0, none⟩ = some (.string t220) := (blk_cell BK226.out 0).trans rfl
              have hcz65_1 : wc.cell? ⟨gb226, 1, none⟩ = some (.int .i64 t221) := (blk_cell BK226.out 1).trans rfl
              have hcz65_2 : wc.cell? ⟨gb226, 2, none⟩ = some (.int .i64 t222) := (blk_cell BK226.out 2).trans rfl
              have hfz65_0 := blk_frozen BK226.out 0
              have hfz65_1 := blk_frozen BK226.out 1
              have hfz65_2 := blk_frozen BK226.out 2
              go_wp2_with (first | ((with_reducible refine gate_callee (f := 16) rfl ?_); refine goesL_ (some 33) rfl rfl Try.func16 (by kernel_rfl) rfl #[.agg #[.string t220, .int .i64 t221, .int .i64 t222]] rfl (by (try simp only [List.map_toArray, List.map_cons, List.map_nil]); first | done | rfl | (simp only [List.length_drop, List.length_take]; rfl)) ?_; (with_reducible refine (impl_KeyOk.calls t220 t221 t222 false _ A42.out).mono ?_); rintro e w66 ⟨rfl, hb⟩; refine ⟨_, rfl, ?_⟩; have n0_ := Aside0.mk (blk_below (g := gb226) (o := .cells #[.string t220, .int .i64 t221, .int .i64 t222] 26 (0, 0)) (by (with_reducible repeat (first | refine blk_drewN ?_ _ | refine blk_drew ?_ | refine blk_alloc ?_ _)); exact BK226.out) hb); have n1_ := Aside0.mk (blk_below (g := gb227) (o := .cells #[.string t223, .int .i64 t224, .int .i64 t225] 26 (0, 0)) (by (with_reducible repeat (first | refine blk_drewN ?_ _ | refine blk_drew ?_ | refine blk_alloc ?_ _)); exact BK227.out) hb); have n2_ := Aside0.mk (blk_below (g := gb231) (o := .cells #[.string t228, .int .i64 t229, .int .i64 t230] 26 (0, 0)) (by (with_reducible repeat (first | refine blk_drewN ?_ _ | refine blk_drew ?_ | refine blk_alloc ?_ _)); exact BK231.out) hb); have n3_ := Aside0.mk (below_step (by repeat (first | (with_reducible first | exact HB.out | apply below_alloc | apply pw_below_drewN | apply below_drew1 | refine below_set ?_ GE226.out | refine below_set ?_ GE227.out | refine below_set ?_ GE231.out) | exact HB.out)) hb); clear BK226; clear BK227; clear BK231; clear HB; have BK226 := n0_; have BK227 := n1_; have BK231 := n2_; have HB := n3_; clear n0_ n1_ n2_ n3_; (try clear hb); (try clear hb2); (try clear hk); (try clear hi)))
              go_meet
              case rel => exact ⟨_, (true), (by first | rfl | (simp; done) | (simp [*]; done)), H', ⟨by have := HJ6.out; first | omega | exact Nat.le_refl _⟩, ⟨by (with_reducible repeat (first | refine blk_drewN ?_ _ | refine blk_drew ?_ | refine blk_alloc ?_ _)); exact BK226.out⟩, ⟨by (with_reducible repeat (first | refine blk_drewN ?_ _ | refine blk_drew ?_ | refine blk_alloc ?_ _)); exact BK227.out⟩, ⟨by (with_reducible repeat (first | refine blk_drewN ?_ _ | refine blk_drew ?_ | refine blk_alloc ?_ _)); exact BK231.out⟩, ⟨by repeat (first | (with_reducible first | exact HB.out | apply below_alloc | apply pw_below_drewN | apply below_drew1 | refine below_set ?_ GE226.out | refine below_set ?_ GE227.out | refine below_set ?_ GE231.out) | exact HB.out)⟩⟩
          case rest =>
            clear HC41
            try clear c1
            try clear c2
            try clear p2
            try clear c3
            try clear c4
            try clear c5
            try clear c6
            try clear p6
            try clear c10
            try clear c11
            try clear c12
            try clear c13
            try clear c14
            try clear c15
            try clear c16
            try clear c17
            try clear c23
            try clear c23b0
            try clear c23b1
            try clear c25
            try clear c26
            try clear c28
            try clear c34
            try clear c35
            try clear c37
            try clear c40
            try clear c43
            try clear c45
            try clear c47
            try clear c48
            try clear c51
            try clear c56
            try clear c57
            try clear c60
            try clear c63
            try clear c64
            try clear p64
            try clear hcz12_0
            try clear hcz12_1
            try clear hcz12_2
            try clear hcz13_0
            try clear hcz13_1
            try clear hcz13_2
            try clear hcz18_0
            try clear hcz18_1
            try clear hcz18_2
            try clear hcz19_0
            try clear hcz19_1
            try clear hcz19_2
            try clear hcz20_0
            try clear hcz20_1
            try clear hcz20_2
            try clear hcz27_0
            try clear hcz27_1
            try clear hcz27_2
            try clear hcz29_0
            try clear hcz29_1
            try clear hcz29_2
            try clear hcz31_0
            try clear hcz31_1
            try clear hcz31_2
            try clear hcz32_0
            try clear hcz32_1
            try clear hcz32_2
            try clear hcz36_0
            try clear hcz36_1
            try clear hcz36_2
            try clear hcz38_0
            try clear hcz38_1
            try clear hcz38_2
            try clear hcz49_0
            try clear hcz49_1
            try clear hcz49_2
            try clear hcz52_0
            try clear hcz52_1
            try clear hcz52_2
            try clear hcz54_0
            try clear hcz54_1
            try clear hcz54_2
            try clear hcz58_0
            try clear hcz58_1
            try clear hcz58_2
            try clear hcz61_0
            try clear hcz61_1
            try clear hcz61_2
            try clear hcz65_0
            try clear hcz65_1
            try clear hcz65_2
            try clear hfz12_0
            try clear hfz12_1
            try clear hfz12_2
            try clear hfz13_0
            try clear hfz13_1
            try clear hfz13_2
            try clear hfz18_0
            try clear hfz18_1
            try clear hfz18_2
            try clear hfz19_0
            try clear hfz19_1
            try clear hfz19_2
            try clear hfz20_0
            try clear hfz20_1
            try clear hfz20_2
            try clear hfz27_0
            try clear hfz27_1
            try clear hfz27_2
            try clear hfz29_0
            try clear hfz29_1
            try clear hfz29_2
            try clear hfz31_0
            try clear hfz31_1
            try clear hfz31_2
            try clear hfz32_0
            try clear hfz32_1
            try clear hfz32_2
            try clear hfz36_0
            try clear hfz36_1
            try clear hfz36_2
            try clear hfz38_0
            try clear hfz38_1
            try clear hfz38_2
            try clear hfz49_0
            try clear hfz49_1
            try clear hfz49_2
            try clear hfz52_0
            try clear hfz52_1
            try clear hfz52_2
            try clear hfz54_0
            try clear hfz54_1
            try clear hfz54_2
            try clear hfz58_0
            try clear hfz58_1
            try clear hfz58_2
            try clear hfz61_0
            try clear hfz61_1
            try clear hfz61_2
            try clear hfz65_0
            try clear hfz65_1
            try clear hfz65_2
            try clear p2
            try clear p6
            obtain ⟨kq, x44_40, rfl, HA, HJ40, BK226, BK227, BK231, HB⟩ := hcut
            cases kq with
            | zero => exact absurd HA.out (by simp [laws_FnKeys.j1])
            | succ kj40 =>
              have H := HA.out
              clear HA
              simp only [laws_FnKeys.j1] at H
              by_cases c67 : x44_40 = true
              · subst c67
                have H1 : (some true) = some r := by rw [if_pos rfl] at H; exact H
                clear H
                have H := H1
                clear H1
                obtain rfl := Option.some.inj H
                go_wp2
                go_ret
                exact ⟨by first | rfl | (simp [errW_none, errW_some] <;> rfl) | (simp [*, errW_none, errW_some] <;> rfl), by repeat (first | (with_reducible first | exact HB.out | apply below_alloc | apply pw_below_drewN | apply below_drew1 | refine below_set ?_ GE226.out | refine below_set ?_ GE227.out | refine below_set ?_ GE231.out) | exact HB.out)⟩
              · replace c67 := Bool.eq_false_iff.mpr c67
                subst c67
                have H1 : (if ((t232 == 0) != (t220.toList == t223.toList && (t221 == t224 && (t222 == t225)))) = true then (some false) else (if t232 ≤ 0 then ((impl_KeyCmp.f kj40 t223 t224 t225 t228 t229 t230).bind fun t238 => (if t238 ≤ 0 then ((impl_KeyCmp.f kj40 t220 t221 t222 t228 t229 t230).bind fun t239 => (if t239 > 0 then (some false) else (if t220.toList = t223.toList then (if t221 = t224 then (some true) else (some ((decide (t232 < 0)) == (decide (t221 > t224))))) else (some true)))) else (if t220.toList = t223.toList then (if t221 = t224 then (some true) else (some ((decide (t232 < 0)) == (decide (t221 > t224))))) else (some true)))) else (if t220.toList = t223.toList then (if t221 = t224 then (some true) else (some ((decide (t232 < 0)) == (decide (t221 > t224))))) else (some true)))) = some r := by rw [if_neg (show ¬ (false = true) by decide)] at H; exact H
                clear H
                have H := H1
                clear H1
                by_cases c68 : ((t232 == 0) != (t220.toList == t223.toList && (t221 == t224 && (t222 == t225)))) = true
                · rw [if_pos c68] at H
                  have c68b0 : ((t232 == 0) != (t220.toList == t223.toList && (t221 == t224 && (t222 == t225)))) = true := c68
                  (try (have c68b1 : decide ((t232 == 0) = (t220.toList == t223.toList && (t221 == t224 && (t222 == t225)))) = false := by simpa using c68))
                  (try (have c68b2 : ((t232 == 0) == (t220.toList == t223.toList && (t221 == t224 && (t222 == t225)))) = false := by simpa using c68))
                  (try (have c68b3 : ¬ ((t232 == 0) = (t220.toList == t223.toList && (t221 == t224 && (t222 == t225)))) := by simpa using c68))
                  clear c68
                  obtain rfl := Option.some.inj H
                  have hnb69 := NB226_227.out
                  have hnc69 := NB227_226.out
                  have hnb70 := NB226_231.out
                  have hnc70 := NB231_226.out
                  have hcz71_0 : wc.cell? ⟨gb226, 0, none⟩ = some (.string t220) := (blk_cell BK226.out 0).trans rfl
                  have hcz71_1 : wc.cell? ⟨gb226, 1, none⟩ = some (.int .i64 t221) := (blk_cell BK226.out 1).trans rfl
                  have hcz71_2 : wc.cell? ⟨gb226, 2, none⟩ = some (.int .i64 t222) := (blk_cell BK226.out 2).trans rfl
                  have hfz71_0 := blk_frozen BK226.out 0
                  have hfz71_1 := blk_frozen BK226.out 1
                  have hfz71_2 := blk_frozen BK226.out 2
                  have hnb72 := NB227_231.out
                  have hnc72 := NB231_227.out
                  have hcz73_0 : wc.cell? ⟨gb227, 0, none⟩ = some (.string t223) := (blk_cell BK227.out 0).trans rfl
                  have hcz73_1 : wc.cell? ⟨gb227, 1, none⟩ = some (.int .i64 t224) := (blk_cell BK227.out 1).trans rfl
                  have hcz73_2 : wc.cell? ⟨gb227, 2, none⟩ = some (.int .i64 t225) := (blk_cell BK227.out 2).trans rfl
                  have hfz73_0 := blk_frozen BK227.out 0
                  have hfz73_1 := blk_frozen BK227.out 1
                  have hfz73_2 := blk_frozen BK227.out 2
                  go_wp2
                  go_ret
                  exact ⟨by first | rfl | (simp [errW_none, errW_some] <;> rfl) | (simp [*, errW_none, errW_some] <;> rfl), by repeat (first | (with_reducible first | exact HB.out | apply below_alloc | apply pw_below_drewN | apply below_drew1 | refine below_set ?_ GE226.out | refine below_set ?_ GE227.out | refine below_set ?_ GE231.out) | exact HB.out)⟩
                · rw [if_neg c68] at H
                  have c68b0 : ((t232 == 0) != (t220.toList == t223.toList && (t221 == t224 && (t222 == t225)))) = false := by simpa using c68
                  (try (have c68b1 : decide ((t232 == 0) = (t220.toList == t223.toList && (t221 == t224 && (t222 == t225)))) = true := by simpa using c68))
                  (try (have c68b2 : ((t232 == 0) == (t220.toList == t223.toList && (t221 == t224 && (t222 == t225)))) = true := by simpa using c68))
                  clear c68
                  by_cases c74 : t232 ≤ 0
                  · rw [if_pos c74] at H
                    have c74b0 : decide (t232 ≤ 0) = true := decide_eq_true c74
                    clear c74
                    replace H := Option.bind_eq_some_iff.mp H
                    obtain ⟨t238, A750, H⟩ := H
                    replace H : (if t238 ≤ 0 then ((impl_KeyCmp.f kj40 t220 t221 t222 t228 t229 t230).bind fun t239 => (if t239 > 0 then (some false) else (if t220.toList = t223.toList then (if t221 = t224 then (some true) else (some ((decide (t232 < 0)) == (decide (t221 > t224))))) else (some true)))) else (if t220.toList = t223.toList then (if t221 = t224 then (some true) else (some ((decide (t232 < 0)) == (decide (t221 > t224))))) else (some true))) = some r := H
                    have A75 := Aside0.mk A750
                    clear A750
                    by_cases c76 : t238 ≤ 0
                    · rw [if_pos c76] at H
                      have c76b0 : decide (t238 ≤ 0) = true := decide_eq_true c76
                      clear c76
                      replace H := Option.bind_eq_some_iff.mp H
                      obtain ⟨t239, A770, H⟩ := H
                      replace H : (if t239 > 0 then (some false) else (if t220.toList = t223.toList then (if t221 = t224 then (some true) else (some ((decide (t232 < 0)) == (decide (t221 > t224))))) else (some true))) = some r := H
                      have A77 := Aside0.mk A770
                      clear A770
                      by_cases c78 : t239 > 0
                      · rw [if_pos c78] at H
                        have c78b0 : decide (0 < t239) = true := decide_eq_true c78
                        clear c78
                        obtain rfl := Option.some.inj H
                        have hnb79 := NB226_227.out
                        have hnc79 := NB227_226.out
                        have hnb80 := NB226_231.out
                        have hnc80 := NB231_226.out
                        have hcz81_0 : wc.cell? ⟨gb226, 0, none⟩ = some (.string t220) := (blk_cell BK226.out 0).trans rfl
                        have hcz81_1 : wc.cell? ⟨gb226, 1, none⟩ = some (.int .i64 t221) := (blk_cell BK226.out 1).trans rfl
                        have hcz81_2 : wc.cell? ⟨gb226, 2, none⟩ = some (.int .i64 t222) := (blk_cell BK226.out 2).trans rfl
                        have hfz81_0 := blk_frozen BK226.out 0
                        have hfz81_1 := blk_frozen BK226.out 1
                        have hfz81_2 := blk_frozen BK226.out 2
                        have hnb82 := NB227_231.out
                        have hnc82 := NB231_227.out
                        have hcz83_0 : wc.cell? ⟨gb227, 0, none⟩ = some (.string t223) := (blk_cell BK227.out 0).trans rfl
                        have hcz83_1 : wc.cell? ⟨gb227, 1, none⟩ = some (.int .i64 t224) := (blk_cell BK227.out 1).trans rfl
                        have hcz83_2 : wc.cell? ⟨gb227, 2, none⟩ = some (.int .i64 t225) := (blk_cell BK227.out 2).trans rfl
                        have hfz83_0 := blk_frozen BK227.out 0
                        have hfz83_1 := blk_frozen BK227.out 1
                        have hfz83_2 := blk_frozen BK227.out 2
                        have hcz84_0 : wc.cell? ⟨gb231, 0, none⟩ = some (.string t228) := (blk_cell BK231.out 0).trans rfl
                        have hcz84_1 : wc.cell? ⟨gb231, 1, none⟩ = some (.int .i64 t229) := (blk_cell BK231.out 1).trans rfl
                        have hcz84_2 : wc.cell? ⟨gb231, 2, none⟩ = some (.int .i64 t230) := (blk_cell BK231.out 2).trans rfl
                        have hfz84_0 := blk_frozen BK231.out 0
                        have hfz84_1 := blk_frozen BK231.out 1
                        have hfz84_2 := blk_frozen BK231.out 2
                        go_wp2_with (first | (go_at_call 12; (with_reducible refine (impl_KeyCmp.calls kj40 t223 t224 t225 t228 t229 t230 t238 _ A75.out).mono ?_); rintro e w85 ⟨rfl, hb⟩; have n0_ := Aside0.mk (blk_below (g := gb226) (o := .cells #[.string t220, .int .i64 t221, .int .i64 t222] 26 (0, 0)) (by (with_reducible repeat (first | refine blk_drewN ?_ _ | refine blk_drew ?_ | refine blk_alloc ?_ _)); exact BK226.out) hb); have n1_ := Aside0.mk (blk_below (g := gb227) (o := .cells #[.string t223, .int .i64 t224, .int .i64 t225] 26 (0, 0)) (by (with_reducible repeat (first | refine blk_drewN ?_ _ | refine blk_drew ?_ | refine blk_alloc ?_ _)); exact BK227.out) hb); have n2_ := Aside0.mk (blk_below (g := gb231) (o := .cells #[.string t228, .int .i64 t229, .int .i64 t230] 26 (0, 0)) (by (with_reducible repeat (first | refine blk_drewN ?_ _ | refine blk_drew ?_ | refine blk_alloc ?_ _)); exact BK231.out) hb); have n3_ := Aside0.mk (below_step (by repeat (first | (with_reducible first | exact HB.out | apply below_alloc | apply pw_below_drewN | apply below_drew1 | refine below_set ?_ GE226.out | refine below_set ?_ GE227.out | refine below_set ?_ GE231.out) | exact HB.out)) hb); clear BK226; clear BK227; clear BK231; clear HB; have BK226 := n0_; have BK227 := n1_; have BK231 := n2_; have HB := n3_; clear n0_ n1_ n2_ n3_; (try clear hb); (try clear hb2); (try clear hk); (try clear hi); have hcz86_0 : w85.cell? ⟨gb226, 0, none⟩ = some (.string t220) := (blk_cell BK226.out 0).trans rfl; have hcz86_1 : w85.cell? ⟨gb226, 1, none⟩ = some (.int .i64 t221) := (blk_cell BK226.out 1).trans rfl; have hcz86_2 : w85.cell? ⟨gb226, 2, none⟩ = some (.int .i64 t222) := (blk_cell BK226.out 2).trans rfl; have hfz86_0 := blk_frozen BK226.out 0; have hfz86_1 := blk_frozen BK226.out 1; have hfz86_2 := blk_frozen BK226.out 2; have hcz87_0 : w85.cell? ⟨gb231, 0, none⟩ = some (.string t228) := (blk_cell BK231.out 0).trans rfl; have hcz87_1 : w85.cell? ⟨gb231, 1, none⟩ = some (.int .i64 t229) := (blk_cell BK231.out 1).trans rfl; have hcz87_2 : w85.cell? ⟨gb231, 2, none⟩ = some (.int .i64 t230) := (blk_cell BK231.out 2).trans rfl; have hfz87_0 := blk_frozen BK231.out 0; have hfz87_1 := blk_frozen BK231.out 1; have hfz87_2 := blk_frozen BK231.out 2) | (go_at_call 12; (with_reducible refine (impl_KeyCmp.calls kj40 t220 t221 t222 t228 t229 t230 t239 _ A77.out).mono ?_); rintro e w88 ⟨rfl, hb⟩; have n0_ := Aside0.mk (blk_below (g := gb226) (o := .cells #[.string t220, .int .i64 t221, .int .i64 t222] 26 (0, 0)) (by (with_reducible repeat (first | refine blk_drewN ?_ _ | refine blk_drew ?_ | refine blk_alloc ?_ _)); exact BK226.out) hb); have n1_ := Aside0.mk (blk_below (g := gb227) (o := .cells #[.string t223, .int .i64 t224, .int .i64 t225] 26 (0, 0)) (by (with_reducible repeat (first | refine blk_drewN ?_ _ | refine blk_drew ?_ | refine blk_alloc ?_ _)); exact BK227.out) hb); have n2_ := Aside0.mk (blk_below (g := gb231) (o := .cells #[.string t228, .int .i64 t229, .int .i64 t230] 26 (0, 0)) (by (with_reducible repeat (first | refine blk_drewN ?_ _ | refine blk_drew ?_ | refine blk_alloc ?_ _)); exact BK231.out) hb); have n3_ := Aside0.mk (below_step (by repeat (first | (with_reducible first | exact HB.out | apply below_alloc | apply pw_below_drewN | apply below_drew1 | refine below_set ?_ GE226.out | refine below_set ?_ GE227.out | refine below_set ?_ GE231.out) | exact HB.out)) hb); clear BK226; clear BK227; clear BK231; clear HB; have BK226 := n0_; have BK227 := n1_; have BK231 := n2_; have HB := n3_; clear n0_ n1_ n2_ n3_; (try clear hb); (try clear hb2); (try clear hk); (try clear hi)))
                        go_ret
                        exact ⟨by first | rfl | (simp [errW_none, errW_some] <;> rfl) | (simp [*, errW_none, errW_some] <;> rfl), by repeat (first | (with_reducible first | exact HB.out | apply below_alloc | apply pw_below_drewN | apply below_drew1 | refine below_set ?_ GE226.out | refine below_set ?_ GE227.out | refine below_set ?_ GE231.out) | exact HB.out)⟩
                      · rw [if_neg c78] at H
                        have c78b0 : decide (0 < t239) = false := decide_eq_false c78
                        clear c78
                        by_cases c89 : t220.toList = t223.toList
                        · rw [if_pos c89] at H
                          have c89b0 : (t220.toList == t223.toList) = true := beq_iff_eq.mpr c89
                          have c89b1 : (t220.toList != t223.toList) = false := bne_eq_false_iff_eq.mpr c89
                          clear c89
                          by_cases c90 : t221 = t224
                          · rw [if_pos c90] at H
                            have c90b0 : (t221 == t224) = true := beq_iff_eq.mpr c90
                            have c90b1 : (t221 != t224) = false := bne_eq_false_iff_eq.mpr c90
                            have cn_ : (t232 == 0) = (t222 == t225) := by have z_ := c68b0; rw [c89b0, c90b0] at z_; revert z_; cases (t232 == 0) <;> cases (t222 == t225) <;> simp
                            clear c90
                            obtain rfl := Option.some.inj H
                            have hnb91 := NB226_227.out
                            have hnc91 := NB227_226.out
                            have hnb92 := NB226_231.out
                            have hnc92 := NB231_226.out
                            have hcz93_0 : wc.cell? ⟨gb226, 0, none⟩ = some (.string t220) := (blk_cell BK226.out 0).trans rfl
                            have hcz93_1 : wc.cell? ⟨gb226, 1, none⟩ = some (.int .i64 t221) := (blk_cell BK226.out 1).trans rfl
                            have hcz93_2 : wc.cell? ⟨gb226, 2, none⟩ = some (.int .i64 t222) := (blk_cell BK226.out 2).trans rfl
                            have hfz93_0 := blk_frozen BK226.out 0
                            have hfz93_1 := blk_frozen BK226.out 1
                            have hfz93_2 := blk_frozen BK226.out 2
                            have hnb94 := NB227_231.out
                            have hnc94 := NB231_227.out
                            have hcz95_0 : wc.cell? ⟨gb227, 0, none⟩ = some (.string t223) := (blk_cell BK227.out 0).trans rfl
                            have hcz95_1 : wc.cell? ⟨gb227, 1, none⟩ = some (.int .i64 t224) := (blk_cell BK227.out 1).trans rfl
                            have hcz95_2 : wc.cell? ⟨gb227, 2, none⟩ = some (.int .i64 t225) := (blk_cell BK227.out 2).trans rfl
                            have hfz95_0 := blk_frozen BK227.out 0
                            have hfz95_1 := blk_frozen BK227.out 1
                            have hfz95_2 := blk_frozen BK227.out 2
                            have hcz96_0 : wc.cell? ⟨gb231, 0, none⟩ = some (.string t228) := (blk_cell BK231.out 0).trans rfl
                            have hcz96_1 : wc.cell? ⟨gb231, 1, none⟩ = some (.int .i64 t229) := (blk_cell BK231.out 1).trans rfl
                            have hcz96_2 : wc.cell? ⟨gb231, 2, none⟩ = some (.int .i64 t230) := (blk_cell BK231.out 2).trans rfl
                            have hfz96_0 := blk_frozen BK231.out 0
                            have hfz96_1 := blk_frozen BK231.out 1
                            have hfz96_2 := blk_frozen BK231.out 2
                            go_wp2_with (first | (go_at_call 12; (with_reducible refine (impl_KeyCmp.calls kj40 t223 t224 t225 t228 t229 t230 t238 _ A75.out).mono ?_); rintro e w97 ⟨rfl, hb⟩; have n0_ := Aside0.mk (blk_below (g := gb226) (o := .cells #[.string t220, .int .i64 t221, .int .i64 t222] 26 (0, 0)) (by (with_reducible repeat (first | refine blk_drewN ?_ _ | refine blk_drew ?_ | refine blk_alloc ?_ _)); exact BK226.out) hb); have n1_ := Aside0.mk (blk_below (g := gb227) (o := .cells #[.string t223, .int .i64 t224, .int .i64 t225] 26 (0, 0)) (by (with_reducible repeat (first | refine blk_drewN ?_ _ | refine blk_drew ?_ | refine blk_alloc ?_ _)); exact BK227.out) hb); have n2_ := Aside0.mk (blk_below (g := gb231) (o := .cells #[.string t228, .int .i64 t229, .int .i64 t230] 26 (0, 0)) (by (with_reducible repeat (first | refine blk_drewN ?_ _ | refine blk_drew ?_ | refine blk_alloc ?_ _)); exact BK231.out) hb); have n3_ := Aside0.mk (below_step (by repeat (first | (with_reducible first | exact HB.out | apply below_alloc | apply pw_below_drewN | apply below_drew1 | refine below_set ?_ GE226.out | refine below_set ?_ GE227.out | refine below_set ?_ GE231.out) | exact HB.out)) hb); clear BK226; clear BK227; clear BK231; clear HB; have BK226 := n0_; have BK227 := n1_; have BK231 := n2_; have HB := n3_; clear n0_ n1_ n2_ n3_; (try clear hb); (try clear hb2); (try clear hk); (try clear hi); have hcz98_0 : w97.cell? ⟨gb226, 0, none⟩ = some (.string t220) := (blk_cell BK226.out 0).trans rfl; have hcz98_1 : w97.cell? ⟨gb226, 1, none⟩ = some (.int .i64 t221) := (blk_cell BK226.out 1).trans rfl; have hcz98_2 : w97.cell? ⟨gb226, 2, none⟩ = some (.int .i64 t222) := (blk_cell BK226.out 2).trans rfl; have hfz98_0 := blk_frozen BK226.out 0; have hfz98_1 := blk_frozen BK226.out 1; have hfz98_2 := blk_frozen BK226.out 2; have hcz99_0 : w97.cell? ⟨gb231, 0, none⟩ = some (.string t228) := (blk_cell BK231.out 0).trans rfl; have hcz99_1 : w97.cell? ⟨gb231, 1, none⟩ = some (.int .i64 t229) := (blk_cell BK231.out 1).trans rfl; have hcz99_2 : w97.cell? ⟨gb231, 2, none⟩ = some (.int .i64 t230) := (blk_cell BK231.out 2).trans rfl; have hfz99_0 := blk_frozen BK231.out 0; have hfz99_1 := blk_frozen BK231.out 1; have hfz99_2 := blk_frozen BK231.out 2) | (go_at_call 12; (with_reducible refine (impl_KeyCmp.calls kj40 t220 t221 t222 t228 t229 t230 t239 _ A77.out).mono ?_); rintro e w100 ⟨rfl, hb⟩; have n0_ := Aside0.mk (blk_below (g := gb226) (o := .cells #[.string t220, .int .i64 t221, .int .i64 t222] 26 (0, 0)) (by (with_reducible repeat (first | refine blk_drewN ?_ _ | refine blk_drew ?_ | refine blk_alloc ?_ _)); exact BK226.out) hb); have n1_ := Aside0.mk (blk_below (g := gb227) (o := .cells #[.string t223, .int .i64 t224, .int .i64 t225] 26 (0, 0)) (by (with_reducible repeat (first | refine blk_drewN ?_ _ | refine blk_drew ?_ | refine blk_alloc ?_ _)); exact BK227.out) hb); have n2_ := Aside0.mk (blk_below (g := gb231) (o := .cells #[.string t228, .int .i64 t229, .int .i64 t230] 26 (0, 0)) (by (with_reducible repeat (first | refine blk_drewN ?_ _ | refine blk_drew ?_ | refine blk_alloc ?_ _)); exact BK231.out) hb); have n3_ := Aside0.mk (below_step (by repeat (first | (with_reducible first | exact HB.out | apply below_alloc | apply pw_below_drewN | apply below_drew1 | refine below_set ?_ GE226.out | refine below_set ?_ GE227.out | refine below_set ?_ GE231.out) | exact HB.out)) hb); clear BK226; clear BK227; clear BK231; clear HB; have BK226 := n0_; have BK227 := n1_; have BK231 := n2_; have HB := n3_; clear n0_ n1_ n2_ n3_; (try clear hb); (try clear hb2); (try clear hk); (try clear hi); have hcz101_0 : w100.cell? ⟨gb226, 0, none⟩ = some (.string t220) := (blk_cell BK226.out 0).trans rfl; have hcz101_1 : w100.cell? ⟨gb226, 1, none⟩ = some (.int .i64 t221) := (blk_cell BK226.out 1).trans rfl; have hcz101_2 : w100.cell? ⟨gb226, 2, none⟩ = some (.int .i64 t222) := (blk_cell BK226.out 2).trans rfl; have hfz101_0 := blk_frozen BK226.out 0; have hfz101_1 := blk_frozen BK226.out 1; have hfz101_2 := blk_frozen BK226.out 2; have hcz102_0 : w100.cell? ⟨gb227, 0, none⟩ = some (.string t223) := (blk_cell BK227.out 0).trans rfl; have hcz102_1 : w100.cell? ⟨gb227, 1, none⟩ = some (.int .i64 t224) := (blk_cell BK227.out 1).trans rfl; have hcz102_2 : w100.cell? ⟨gb227, 2, none⟩ = some (.int .i64 t225) := (blk_cell BK227.out 2).trans rfl; have hfz102_0 := blk_frozen BK227.out 0; have hfz102_1 := blk_frozen BK227.out 1; have hfz102_2 := blk_frozen BK227.out 2))
                            go_ret
                            exact ⟨by first | rfl | (simp [errW_none, errW_some] <;> rfl) | (simp [*, errW_none, errW_some] <;> rfl), by repeat (first | (with_reducible first | exact HB.out | apply below_alloc | apply pw_below_drewN | apply below_drew1 | refine below_set ?_ GE226.out | refine below_set ?_ GE227.out | refine below_set ?_ GE231.out) | exact HB.out)⟩
                          · rw [if_neg c90] at H
                            have c90b0 : (t221 == t224) = false := beq_eq_false_iff_ne.mpr c90
                            have c90b1 : (t221 != t224) = true := bne_iff_ne.mpr c90
                            have cn_ : (t232 == 0) = false := by have z_ := c68b0; rw [c89b0, c90b0] at z_; revert z_; cases (t232 == 0) <;> simp
                            have cm_ : ¬ t232 = 0 := by simpa using cn_
                            obtain rfl := Option.some.inj H
                            have hnb103 := NB226_227.out
                            have hnc103 := NB227_226.out
                            have hnb104 := NB226_231.out
                            have hnc104 := NB231_226.out
                            have hcz105_0 : wc.cell? ⟨gb226, 0, none⟩ = some (.string t220) := (blk_cell BK226.out 0).trans rfl
                            have hcz105_1 : wc.cell? ⟨gb226, 1, none⟩ = some (.int .i64 t221) := (blk_cell BK226.out 1).trans rfl
                            have hcz105_2 : wc.cell? ⟨gb226, 2, none⟩ = some (.int .i64 t222) := (blk_cell BK226.out 2).trans rfl
                            have hfz105_0 := blk_frozen BK226.out 0
                            have hfz105_1 := blk_frozen BK226.out 1
                            have hfz105_2 := blk_frozen BK226.out 2
                            have hnb106 := NB227_231.out
                            have hnc106 := NB231_227.out
                            have hcz107_0 : wc.cell? ⟨gb227, 0, none⟩ = some (.string t223) := (blk_cell BK227.out 0).trans rfl
                            have hcz107_1 : wc.cell? ⟨gb227, 1, none⟩ = some (.int .i64 t224) := (blk_cell BK227.out 1).trans rfl
                            have hcz107_2 : wc.cell? ⟨gb227, 2, none⟩ = some (.int .i64 t225) := (blk_cell BK227.out 2).trans rfl
                            have hfz107_0 := blk_frozen BK227.out 0
                            have hfz107_1 := blk_frozen BK227.out 1
                            have hfz107_2 := blk_frozen BK227.out 2
                            have hcz108_0 : wc.cell? ⟨gb231, 0, none⟩ = some (.string t228) := (blk_cell BK231.out 0).trans rfl
                            have hcz108_1 : wc.cell? ⟨gb231, 1, none⟩ = some (.int .i64 t229) := (blk_cell BK231.out 1).trans rfl
                            have hcz108_2 : wc.cell? ⟨gb231, 2, none⟩ = some (.int .i64 t230) := (blk_cell BK231.out 2).trans rfl
                            have hfz108_0 := blk_frozen BK231.out 0
                            have hfz108_1 := blk_frozen BK231.out 1
                            have hfz108_2 := blk_frozen BK231.out 2
                            go_wp2_with (first | (go_at_call 12; (with_reducible refine (impl_KeyCmp.calls kj40 t223 t224 t225 t228 t229 t230 t238 _ A75.out).mono ?_); rintro e w109 ⟨rfl, hb⟩; have n0_ := Aside0.mk (blk_below (g := gb226) (o := .cells #[.string t220, .int .i64 t221, .int .i64 t222] 26 (0, 0)) (by (with_reducible repeat (first | refine blk_drewN ?_ _ | refine blk_drew ?_ | refine blk_alloc ?_ _)); exact BK226.out) hb); have n1_ := Aside0.mk (blk_below (g := gb227) (o := .cells #[.string t223, .int .i64 t224, .int .i64 t225] 26 (0, 0)) (by (with_reducible repeat (first | refine blk_drewN ?_ _ | refine blk_drew ?_ | refine blk_alloc ?_ _)); exact BK227.out) hb); have n2_ := Aside0.mk (blk_below (g := gb231) (o := .cells #[.string t228, .int .i64 t229, .int .i64 t230] 26 (0, 0)) (by (with_reducible repeat (first | refine blk_drewN ?_ _ | refine blk_drew ?_ | refine blk_alloc ?_ _)); exact BK231.out) hb); have n3_ := Aside0.mk (below_step (by repeat (first | (with_reducible first | exact HB.out | apply below_alloc | apply pw_below_drewN | apply below_drew1 | refine below_set ?_ GE226.out | refine below_set ?_ GE227.out | refine below_set ?_ GE231.out) | exact HB.out)) hb); clear BK226; clear BK227; clear BK231; clear HB; have BK226 := n0_; have BK227 := n1_; have BK231 := n2_; have HB := n3_; clear n0_ n1_ n2_ n3_; (try clear hb); (try clear hb2); (try clear hk); (try clear hi); have hcz110_0 : w109.cell? ⟨gb226, 0, none⟩ = some (.string t220) := (blk_cell BK226.out 0).trans rfl; have hcz110_1 : w109.cell? ⟨gb226, 1, none⟩ = some (.int .i64 t221) := (blk_cell BK226.out 1).trans rfl; have hcz110_2 : w109.cell? ⟨gb226, 2, none⟩ = some (.int .i64 t222) := (blk_cell BK226.out 2).trans rfl; have hfz110_0 := blk_frozen BK226.out 0; have hfz110_1 := blk_frozen BK226.out 1; have hfz110_2 := blk_frozen BK226.out 2; have hcz111_0 : w109.cell? ⟨gb231, 0, none⟩ = some (.string t228) := (blk_cell BK231.out 0).trans rfl; have hcz111_1 : w109.cell? ⟨gb231, 1, none⟩ = some (.int .i64 t229) := (blk_cell BK231.out 1).trans rfl; have hcz111_2 : w109.cell? ⟨gb231, 2, none⟩ = some (.int .i64 t230) := (blk_cell BK231.out 2).trans rfl; have hfz111_0 := blk_frozen BK231.out 0; have hfz111_1 := blk_frozen BK231.out 1; have hfz111_2 := blk_frozen BK231.out 2) | (go_at_call 12; (with_reducible refine (impl_KeyCmp.calls kj40 t220 t221 t222 t228 t229 t230 t239 _ A77.out).mono ?_); rintro e w112 ⟨rfl, hb⟩; have n0_ := Aside0.mk (blk_below (g := gb226) (o := .cells #[.string t220, .int .i64 t221, .int .i64 t222] 26 (0, 0)) (by (with_reducible repeat (first | refine blk_drewN ?_ _ | refine blk_drew ?_ | refine blk_alloc ?_ _)); exact BK226.out) hb); have n1_ := Aside0.mk (blk_below (g := gb227) (o := .cells #[.string t223, .int .i64 t224, .int .i64 t225] 26 (0, 0)) (by (with_reducible repeat (first | refine blk_drewN ?_ _ | refine blk_drew ?_ | refine blk_alloc ?_ _)); exact BK227.out) hb); have n2_ := Aside0.mk (blk_below (g := gb231) (o := .cells #[.string t228, .int .i64 t229, .int .i64 t230] 26 (0, 0)) (by (with_reducible repeat (first | refine blk_drewN ?_ _ | refine blk_drew ?_ | refine blk_alloc ?_ _)); exact BK231.out) hb); have n3_ := Aside0.mk (below_step (by repeat (first | (with_reducible first | exact HB.out | apply below_alloc | apply pw_below_drewN | apply below_drew1 | refine below_set ?_ GE226.out | refine below_set ?_ GE227.out | refine below_set ?_ GE231.out) | exact HB.out)) hb); clear BK226; clear BK227; clear BK231; clear HB; have BK226 := n0_; have BK227 := n1_; have BK231 := n2_; have HB := n3_; clear n0_ n1_ n2_ n3_; (try clear hb); (try clear hb2); (try clear hk); (try clear hi); have hcz113_0 : w112.cell? ⟨gb226, 0, none⟩ = some (.string t220) := (blk_cell BK226.out 0).trans rfl; have hcz113_1 : w112.cell? ⟨gb226, 1, none⟩ = some (.int .i64 t221) := (blk_cell BK226.out 1).trans rfl; have hcz113_2 : w112.cell? ⟨gb226, 2, none⟩ = some (.int .i64 t222) := (blk_cell BK226.out 2).trans rfl; have hfz113_0 := blk_frozen BK226.out 0; have hfz113_1 := blk_frozen BK226.out 1; have hfz113_2 := blk_frozen BK226.out 2; have hcz114_0 : w112.cell? ⟨gb227, 0, none⟩ = some (.string t223) := (blk_cell BK227.out 0).trans rfl; have hcz114_1 : w112.cell? ⟨gb227, 1, none⟩ = some (.int .i64 t224) := (blk_cell BK227.out 1).trans rfl; have hcz114_2 : w112.cell? ⟨gb227, 2, none⟩ = some (.int .i64 t225) := (blk_cell BK227.out 2).trans rfl; have hfz114_0 := blk_frozen BK227.out 0; have hfz114_1 := blk_frozen BK227.out 1; have hfz114_2 := blk_frozen BK227.out 2))
                            go_ret
                            exact ⟨by first | rfl | (simp [errW_none, errW_some] <;> rfl) | (simp [*, errW_none, errW_some] <;> rfl), by repeat (first | (with_reducible first | exact HB.out | apply below_alloc | apply pw_below_drewN | apply below_drew1 | refine below_set ?_ GE226.out | refine below_set ?_ GE227.out | refine below_set ?_ GE231.out) | exact HB.out)⟩
                        · rw [if_neg c89] at H
                          have c89b0 : (t220.toList == t223.toList) = false := beq_eq_false_iff_ne.mpr c89
                          have c89b1 : (t220.toList != t223.toList) = true := bne_iff_ne.mpr c89
                          have cn_ : (t232 == 0) = false := by have z_ := c68b0; rw [show (t220.toList == t223.toList) = false from c89b0] at z_; revert z_; cases (t232 == 0) <;> simp
                          have cm_ : ¬ t232 = 0 := by simpa using cn_
                          obtain rfl := Option.some.inj H
                          have hnb115 := NB226_227.out
                          have hnc115 := NB227_226.out
                          have hnb116 := NB226_231.out
                          have hnc116 := NB231_226.out
                          have hcz117_0 : wc.cell? ⟨gb226, 0, none⟩ = some (.string t220) := (blk_cell BK226.out 0).trans rfl
                          have hcz117_1 : wc.cell? ⟨gb226, 1, none⟩ = some (.int .i64 t221) := (blk_cell BK226.out 1).trans rfl
                          have hcz117_2 : wc.cell? ⟨gb226, 2, none⟩ = some (.int .i64 t222) := (blk_cell BK226.out 2).trans rfl
                          have hfz117_0 := blk_frozen BK226.out 0
                          have hfz117_1 := blk_frozen BK226.out 1
                          have hfz117_2 := blk_frozen BK226.out 2
                          have hnb118 := NB227_231.out
                          have hnc118 := NB231_227.out
                          have hcz119_0 : wc.cell? ⟨gb227, 0, none⟩ = some (.string t223) := (blk_cell BK227.out 0).trans rfl
                          have hcz119_1 : wc.cell? ⟨gb227, 1, none⟩ = some (.int .i64 t224) := (blk_cell BK227.out 1).trans rfl
                          have hcz119_2 : wc.cell? ⟨gb227, 2, none⟩ = some (.int .i64 t225) := (blk_cell BK227.out 2).trans rfl
                          have hfz119_0 := blk_frozen BK227.out 0
                          have hfz119_1 := blk_frozen BK227.out 1
                          have hfz119_2 := blk_frozen BK227.out 2
                          have hcz120_0 : wc.cell? ⟨gb231, 0, none⟩ = some (.string t228) := (blk_cell BK231.out 0).trans rfl
                          have hcz120_1 : wc.cell? ⟨gb231, 1, none⟩ = some (.int .i64 t229) := (blk_cell BK231.out 1).trans rfl
                          have hcz120_2 : wc.cell? ⟨gb231, 2, none⟩ = some (.int .i64 t230) := (blk_cell BK231.out 2).trans rfl
                          have hfz120_0 := blk_frozen BK231.out 0
                          have hfz120_1 := blk_frozen BK231.out 1
                          have hfz120_2 := blk_frozen BK231.out 2
                          go_wp2_with (first | (go_at_call 12; (with_reducible refine (impl_KeyCmp.calls kj40 t223 t224 t225 t228 t229 t230 t238 _ A75.out).mono ?_); rintro e w121 ⟨rfl, hb⟩; have n0_ := Aside0.mk (blk_below (g := gb226) (o := .cells #[.string t220, .int .i64 t221, .int .i64 t222] 26 (0, 0)) (by (with_reducible repeat (first | refine blk_drewN ?_ _ | refine blk_drew ?_ | refine blk_alloc ?_ _)); exact BK226.out) hb); have n1_ := Aside0.mk (blk_below (g := gb227) (o := .cells #[.string t223, .int .i64 t224, .int .i64 t225] 26 (0, 0)) (by (with_reducible repeat (first | refine blk_drewN ?_ _ | refine blk_drew ?_ | refine blk_alloc ?_ _)); exact BK227.out) hb); have n2_ := Aside0.mk (blk_below (g := gb231) (o := .cells #[.string t228, .int .i64 t229, .int .i64 t230] 26 (0, 0)) (by (with_reducible repeat (first | refine blk_drewN ?_ _ | refine blk_drew ?_ | refine blk_alloc ?_ _)); exact BK231.out) hb); have n3_ := Aside0.mk (below_step (by repeat (first | (with_reducible first | exact HB.out | apply below_alloc | apply pw_below_drewN | apply below_drew1 | refine below_set ?_ GE226.out | refine below_set ?_ GE227.out | refine below_set ?_ GE231.out) | exact HB.out)) hb); clear BK226; clear BK227; clear BK231; clear HB; have BK226 := n0_; have BK227 := n1_; have BK231 := n2_; have HB := n3_; clear n0_ n1_ n2_ n3_; (try clear hb); (try clear hb2); (try clear hk); (try clear hi); have hcz122_0 : w121.cell? ⟨gb226, 0, none⟩ = some (.string t220) := (blk_cell BK226.out 0).trans rfl; have hcz122_1 : w121.cell? ⟨gb226, 1, none⟩ = some (.int .i64 t221) := (blk_cell BK226.out 1).trans rfl; have hcz122_2 : w121.cell? ⟨gb226, 2, none⟩ = some (.int .i64 t222) := (blk_cell BK226.out 2).trans rfl; have hfz122_0 := blk_frozen BK226.out 0; have hfz122_1 := blk_frozen BK226.out 1; have hfz122_2 := blk_frozen BK226.out 2; have hcz123_0 : w121.cell? ⟨gb231, 0, none⟩ = some (.string t228) := (blk_cell BK231.out 0).trans rfl; have hcz123_1 : w121.cell? ⟨gb231, 1, none⟩ = some (.int .i64 t229) := (blk_cell BK231.out 1).trans rfl; have hcz123_2 : w121.cell? ⟨gb231, 2, none⟩ = some (.int .i64 t230) := (blk_cell BK231.out 2).trans rfl; have hfz123_0 := blk_frozen BK231.out 0; have hfz123_1 := blk_frozen BK231.out 1; have hfz123_2 := blk_frozen BK231.out 2) | (go_at_call 12; (with_reducible refine (impl_KeyCmp.calls kj40 t220 t221 t222 t228 t229 t230 t239 _ A77.out).mono ?_); rintro e w124 ⟨rfl, hb⟩; have n0_ := Aside0.mk (blk_below (g := gb226) (o := .cells #[.string t220, .int .i64 t221, .int .i64 t222] 26 (0, 0)) (by (with_reducible repeat (first | refine blk_drewN ?_ _ | refine blk_drew ?_ | refine blk_alloc ?_ _)); exact BK226.out) hb); have n1_ := Aside0.mk (blk_below (g := gb227) (o := .cells #[.string t223, .int .i64 t224, .int .i64 t225] 26 (0, 0)) (by (with_reducible repeat (first | refine blk_drewN ?_ _ | refine blk_drew ?_ | refine blk_alloc ?_ _)); exact BK227.out) hb); have n2_ := Aside0.mk (blk_below (g := gb231) (o := .cells #[.string t228, .int .i64 t229, .int .i64 t230] 26 (0, 0)) (by (with_reducible repeat (first | refine blk_drewN ?_ _ | refine blk_drew ?_ | refine blk_alloc ?_ _)); exact BK231.out) hb); have n3_ := Aside0.mk (below_step (by repeat (first | (with_reducible first | exact HB.out | apply below_alloc | apply pw_below_drewN | apply below_drew1 | refine below_set ?_ GE226.out | refine below_set ?_ GE227.out | refine below_set ?_ GE231.out) | exact HB.out)) hb); clear BK226; clear BK227; clear BK231; clear HB; have BK226 := n0_; have BK227 := n1_; have BK231 := n2_; have HB := n3_; clear n0_ n1_ n2_ n3_; (try clear hb); (try clear hb2); (try clear hk); (try clear hi); have hcz125_0 : w124.cell? ⟨gb226, 0, none⟩ = some (.string t220) := (blk_cell BK226.out 0).trans rfl; have hcz125_1 : w124.cell? ⟨gb226, 1, none⟩ = some (.int .i64 t221) := (blk_cell BK226.out 1).trans rfl; have hcz125_2 : w124.cell? ⟨gb226, 2, none⟩ = some (.int .i64 t222) := (blk_cell BK226.out 2).trans rfl; have hfz125_0 := blk_frozen BK226.out 0; have hfz125_1 := blk_frozen BK226.out 1; have hfz125_2 := blk_frozen BK226.out 2; have hcz126_0 : w124.cell? ⟨gb227, 0, none⟩ = some (.string t223) := (blk_cell BK227.out 0).trans rfl; have hcz126_1 : w124.cell? ⟨gb227, 1, none⟩ = some (.int .i64 t224) := (blk_cell BK227.out 1).trans rfl; have hcz126_2 : w124.cell? ⟨gb227, 2, none⟩ = some (.int .i64 t225) := (blk_cell BK227.out 2).trans rfl; have hfz126_0 := blk_frozen BK227.out 0; have hfz126_1 := blk_frozen BK227.out 1; have hfz126_2 := blk_frozen BK227.out 2))
                          go_ret
                          exact ⟨by first | rfl | (simp [errW_none, errW_some] <;> rfl) | (simp [*, errW_none, errW_some] <;> rfl), by repeat (first | (with_reducible first | exact HB.out | apply below_alloc | apply pw_below_drewN | apply below_drew1 | refine below_set ?_ GE226.out | refine below_set ?_ GE227.out | refine below_set ?_ GE231.out) | exact HB.out)⟩
                    · rw [if_neg c76] at H
                      have c76b0 : decide (t238 ≤ 0) = false := decide_eq_false c76
                      clear c76
                      by_cases c127 : t220.toList = t223.toList
                      · rw [if_pos c127] at H
                        have c127b0 : (t220.toList == t223.toList) = true := beq_iff_eq.mpr c127
                        have c127b1 : (t220.toList != t223.toList) = false := bne_eq_false_iff_eq.mpr c127
                        clear c127
                        by_cases c128 : t221 = t224
                        · rw [if_pos c128] at H
                          have c128b0 : (t221 == t224) = true := beq_iff_eq.mpr c128
                          have c128b1 : (t221 != t224) = false := bne_eq_false_iff_eq.mpr c128
                          have cn_ : (t232 == 0) = (t222 == t225) := by have z_ := c68b0; rw [c127b0, c128b0] at z_; revert z_; cases (t232 == 0) <;> cases (t222 == t225) <;> simp
                          clear c128
                          obtain rfl := Option.some.inj H
                          have hnb129 := NB226_227.out
                          have hnc129 := NB227_226.out
                          have hnb130 := NB226_231.out
                          have hnc130 := NB231_226.out
                          have hcz131_0 : wc.cell? ⟨gb226, 0, none⟩ = some (.string t220) := (blk_cell BK226.out 0).trans rfl
                          have hcz131_1 : wc.cell? ⟨gb226, 1, none⟩ = some (.int .i64 t221) := (blk_cell BK226.out 1).trans rfl
                          have hcz131_2 : wc.cell? ⟨gb226, 2, none⟩ = some (.int .i64 t222) := (blk_cell BK226.out 2).trans rfl
                          have hfz131_0 := blk_frozen BK226.out 0
                          have hfz131_1 := blk_frozen BK226.out 1
                          have hfz131_2 := blk_frozen BK226.out 2
                          have hnb132 := NB227_231.out
                          have hnc132 := NB231_227.out
                          have hcz133_0 : wc.cell? ⟨gb227, 0, none⟩ = some (.string t223) := (blk_cell BK227.out 0).trans rfl
                          have hcz133_1 : wc.cell? ⟨gb227, 1, none⟩ = some (.int .i64 t224) := (blk_cell BK227.out 1).trans rfl
                          have hcz133_2 : wc.cell? ⟨gb227, 2, none⟩ = some (.int .i64 t225) := (blk_cell BK227.out 2).trans rfl
                          have hfz133_0 := blk_frozen BK227.out 0
                          have hfz133_1 := blk_frozen BK227.out 1
                          have hfz133_2 := blk_frozen BK227.out 2
                          have hcz134_0 : wc.cell? ⟨gb231, 0, none⟩ = some (.string t228) := (blk_cell BK231.out 0).trans rfl
                          have hcz134_1 : wc.cell? ⟨gb231, 1, none⟩ = some (.int .i64 t229) := (blk_cell BK231.out 1).trans rfl
                          have hcz134_2 : wc.cell? ⟨gb231, 2, none⟩ = some (.int .i64 t230) := (blk_cell BK231.out 2).trans rfl
                          have hfz134_0 := blk_frozen BK231.out 0
                          have hfz134_1 := blk_frozen BK231.out 1
                          have hfz134_2 := blk_frozen BK231.out 2
                          go_wp2_with (first | (go_at_call 12; (with_reducible refine (impl_KeyCmp.calls kj40 t223 t224 t225 t228 t229 t230 t238 _ A75.out).mono ?_); rintro e w135 ⟨rfl, hb⟩; have n0_ := Aside0.mk (blk_below (g := gb226) (o := .cells #[.string t220, .int .i64 t221, .int .i64 t222] 26 (0, 0)) (by (with_reducible repeat (first | refine blk_drewN ?_ _ | refine blk_drew ?_ | refine blk_alloc ?_ _)); exact BK226.out) hb); have n1_ := Aside0.mk (blk_below (g := gb227) (o := .cells #[.string t223, .int .i64 t224, .int .i64 t225] 26 (0, 0)) (by (with_reducible repeat (first | refine blk_drewN ?_ _ | refine blk_drew ?_ | refine blk_alloc ?_ _)); exact BK227.out) hb); have n2_ := Aside0.mk (blk_below (g := gb231) (o := .cells #[.string t228, .int .i64 t229, .int .i64 t230] 26 (0, 0)) (by (with_reducible repeat (first | refine blk_drewN ?_ _ | refine blk_drew ?_ | refine blk_alloc ?_ _)); exact BK231.out) hb); have n3_ := Aside0.mk (below_step (by repeat (first | (with_reducible first | exact HB.out | apply below_alloc | apply pw_below_drewN | apply below_drew1 | refine below_set ?_ GE226.out | refine below_set ?_ GE227.out | refine below_set ?_ GE231.out) | exact HB.out)) hb); clear BK226; clear BK227; clear BK231; clear HB; have BK226 := n0_; have BK227 := n1_; have BK231 := n2_; have HB := n3_; clear n0_ n1_ n2_ n3_; (try clear hb); (try clear hb2); (try clear hk); (try clear hi); have hcz136_0 : w135.cell? ⟨gb226, 0, none⟩ = some (.string t220) := (blk_cell BK226.out 0).trans rfl; have hcz136_1 : w135.cell? ⟨gb226, 1, none⟩ = some (.int .i64 t221) := (blk_cell BK226.out 1).trans rfl; have hcz136_2 : w135.cell? ⟨gb226, 2, none⟩ = some (.int .i64 t222) := (blk_cell BK226.out 2).trans rfl; have hfz136_0 := blk_frozen BK226.out 0; have hfz136_1 := blk_frozen BK226.out 1; have hfz136_2 := blk_frozen BK226.out 2; have hcz137_0 : w135.cell? ⟨gb227, 0, none⟩ = some (.string t223) := (blk_cell BK227.out 0).trans rfl; have hcz137_1 : w135.cell? ⟨gb227, 1, none⟩ = some (.int .i64 t224) := (blk_cell BK227.out 1).trans rfl; have hcz137_2 : w135.cell? ⟨gb227, 2, none⟩ = some (.int .i64 t225) := (blk_cell BK227.out 2).trans rfl; have hfz137_0 := blk_frozen BK227.out 0; have hfz137_1 := blk_frozen BK227.out 1; have hfz137_2 := blk_frozen BK227.out 2))
                          go_ret
                          exact ⟨by first | rfl | (simp [errW_none, errW_some] <;> rfl) | (simp [*, errW_none, errW_some] <;> rfl), by repeat (first | (with_reducible first | exact HB.out | apply below_alloc | apply pw_below_drewN | apply below_drew1 | refine below_set ?_ GE226.out | refine below_set ?_ GE227.out | refine below_set ?_ GE231.out) | exact HB.out)⟩
                        · rw [if_neg c128] at H
                          have c128b0 : (t221 == t224) = false := beq_eq_false_iff_ne.mpr c128
                          have c128b1 : (t221 != t224) = true := bne_iff_ne.mpr c128
                          have cn_ : (t232 == 0) = false := by have z_ := c68b0; rw [c127b0, c128b0] at z_; revert z_; cases (t232 == 0) <;> simp
                          have cm_ : ¬ t232 = 0 := by simpa using cn_
                          obtain rfl := Option.some.inj H
                          have hnb138 := NB226_227.out
                          have hnc138 := NB227_226.out
                          have hnb139 := NB226_231.out
                          have hnc139 := NB231_226.out
                          have hcz140_0 : wc.cell? ⟨gb226, 0, none⟩ = some (.string t220) := (blk_cell BK226.out 0).trans rfl
                          have hcz140_1 : wc.cell? ⟨gb226, 1, none⟩ = some (.int .i64 t221) := (blk_cell BK226.out 1).trans rfl
                          have hcz140_2 : wc.cell? ⟨gb226, 2, none⟩ = some (.int .i64 t222) := (blk_cell BK226.out 2).trans rfl
                          have hfz140_0 := blk_frozen BK226.out 0
                          have hfz140_1 := blk_frozen BK226.out 1
                          have hfz140_2 := blk_frozen BK226.out 2
                          have hnb141 := NB227_231.out
                          have hnc141 := NB231_227.out
                          have hcz142_0 : wc.cell? ⟨gb227, 0, none⟩ = some (.string t223) := (blk_cell BK227.out 0).trans rfl
                          have hcz142_1 : wc.cell? ⟨gb227, 1, none⟩ = some (.int .i64 t224) := (blk_cell BK227.out 1).trans rfl
                          have hcz142_2 : wc.cell? ⟨gb227, 2, none⟩ = some (.int .i64 t225) := (blk_cell BK227.out 2).trans rfl
                          have hfz142_0 := blk_frozen BK227.out 0
                          have hfz142_1 := blk_frozen BK227.out 1
                          have hfz142_2 := blk_frozen BK227.out 2
                          have hcz143_0 : wc.cell? ⟨gb231, 0, none⟩ = some (.string t228) := (blk_cell BK231.out 0).trans rfl
                          have hcz143_1 : wc.cell? ⟨gb231, 1, none⟩ = some (.int .i64 t229) := (blk_cell BK231.out 1).trans rfl
                          have hcz143_2 : wc.cell? ⟨gb231, 2, none⟩ = some (.int .i64 t230) := (blk_cell BK231.out 2).trans rfl
                          have hfz143_0 := blk_frozen BK231.out 0
                          have hfz143_1 := blk_frozen BK231.out 1
                          have hfz143_2 := blk_frozen BK231.out 2
                          go_wp2_with (first | (go_at_call 12; (with_reducible refine (impl_KeyCmp.calls kj40 t223 t224 t225 t228 t229 t230 t238 _ A75.out).mono ?_); rintro e w144 ⟨rfl, hb⟩; have n0_ := Aside0.mk (blk_below (g := gb226) (o := .cells #[.string t220, .int .i64 t221, .int .i64 t222] 26 (0, 0)) (by (with_reducible repeat (first | refine blk_drewN ?_ _ | refine blk_drew ?_ | refine blk_alloc ?_ _)); exact BK226.out) hb); have n1_ := Aside0.mk (blk_below (g := gb227) (o := .cells #[.string t223, .int .i64 t224, .int .i64 t225] 26 (0, 0)) (by (with_reducible repeat (first | refine blk_drewN ?_ _ | refine blk_drew ?_ | refine blk_alloc ?_ _)); exact BK227.out) hb); have n2_ := Aside0.mk (blk_below (g := gb231) (o := .cells #[.string t228, .int .i64 t229, .int .i64 t230] 26 (0, 0)) (by (with_reducible repeat (first | refine blk_drewN ?_ _ | refine blk_drew ?_ | refine blk_alloc ?_ _)); exact BK231.out) hb); have n3_ := Aside0.mk (below_step (by repeat (first | (with_reducible first | exact HB.out | apply below_alloc | apply pw_below_drewN | apply below_drew1 | refine below_set ?_ GE226.out | refine below_set ?_ GE227.out | refine below_set ?_ GE231.out) | exact HB.out)) hb); clear BK226; clear BK227; clear BK231; clear HB; have BK226 := n0_; have BK227 := n1_; have BK231 := n2_; have HB := n3_; clear n0_ n1_ n2_ n3_; (try clear hb); (try clear hb2); (try clear hk); (try clear hi); have hcz145_0 : w144.cell? ⟨gb226, 0, none⟩ = some (.string t220) := (blk_cell BK226.out 0).trans rfl; have hcz145_1 : w144.cell? ⟨gb226, 1, none⟩ = some (.int .i64 t221) := (blk_cell BK226.out 1).trans rfl; have hcz145_2 : w144.cell? ⟨gb226, 2, none⟩ = some (.int .i64 t222) := (blk_cell BK226.out 2).trans rfl; have hfz145_0 := blk_frozen BK226.out 0; have hfz145_1 := blk_frozen BK226.out 1; have hfz145_2 := blk_frozen BK226.out 2; have hcz146_0 : w144.cell? ⟨gb227, 0, none⟩ = some (.string t223) := (blk_cell BK227.out 0).trans rfl; have hcz146_1 : w144.cell? ⟨gb227, 1, none⟩ = some (.int .i64 t224) := (blk_cell BK227.out 1).trans rfl; have hcz146_2 : w144.cell? ⟨gb227, 2, none⟩ = some (.int .i64 t225) := (blk_cell BK227.out 2).trans rfl; have hfz146_0 := blk_frozen BK227.out 0; have hfz146_1 := blk_frozen BK227.out 1; have hfz146_2 := blk_frozen BK227.out 2))
                          go_ret
                          exact ⟨by first | rfl | (simp [errW_none, errW_some] <;> rfl) | (simp [*, errW_none, errW_some] <;> rfl), by repeat (first | (with_reducible first | exact HB.out | apply below_alloc | apply pw_below_drewN | apply below_drew1 | refine below_set ?_ GE226.out | refine below_set ?_ GE227.out | refine below_set ?_ GE231.out) | exact HB.out)⟩
                      · rw [if_neg c127] at H
                        have c127b0 : (t220.toList == t223.toList) = false := beq_eq_false_iff_ne.mpr c127
                        have c127b1 : (t220.toList != t223.toList) = true := bne_iff_ne.mpr c127
                        have cn_ : (t232 == 0) = false := by have z_ := c68b0; rw [show (t220.toList == t223.toList) = false from c127b0] at z_; revert z_; cases (t232 == 0) <;> simp
                        have cm_ : ¬ t232 = 0 := by simpa using cn_
                        obtain rfl := Option.some.inj H
                        have hnb147 := NB226_227.out
                        have hnc147 := NB227_226.out
                        have hnb148 := NB226_231.out
                        have hnc148 := NB231_226.out
                        have hcz149_0 : wc.cell? ⟨gb226, 0, none⟩ = some (.string t220) := (blk_cell BK226.out 0).trans rfl
                        have hcz149_1 : wc.cell? ⟨gb226, 1, none⟩ = some (.int .i64 t221) := (blk_cell BK226.out 1).trans rfl
                        have hcz149_2 : wc.cell? ⟨gb226, 2, none⟩ = some (.int .i64 t222) := (blk_cell BK226.out 2).trans rfl
                        have hfz149_0 := blk_frozen BK226.out 0
                        have hfz149_1 := blk_frozen BK226.out 1
                        have hfz149_2 := blk_frozen BK226.out 2
                        have hnb150 := NB227_231.out
                        have hnc150 := NB231_227.out
                        have hcz151_0 : wc.cell? ⟨gb227, 0, none⟩ = some (.string t223) := (blk_cell BK227.out 0).trans rfl
                        have hcz151_1 : wc.cell? ⟨gb227, 1, none⟩ = some (.int .i64 t224) := (blk_cell BK227.out 1).trans rfl
                        have hcz151_2 : wc.cell? ⟨gb227, 2, none⟩ = some (.int .i64 t225) := (blk_cell BK227.out 2).trans rfl
                        have hfz151_0 := blk_frozen BK227.out 0
                        have hfz151_1 := blk_frozen BK227.out 1
                        have hfz151_2 := blk_frozen BK227.out 2
                        have hcz152_0 : wc.cell? ⟨gb231, 0, none⟩ = some (.string t228) := (blk_cell BK231.out 0).trans rfl
                        have hcz152_1 : wc.cell? ⟨gb231, 1, none⟩ = some (.int .i64 t229) := (blk_cell BK231.out 1).trans rfl
                        have hcz152_2 : wc.cell? ⟨gb231, 2, none⟩ = some (.int .i64 t230) := (blk_cell BK231.out 2).trans rfl
                        have hfz152_0 := blk_frozen BK231.out 0
                        have hfz152_1 := blk_frozen BK231.out 1
                        have hfz152_2 := blk_frozen BK231.out 2
                        go_wp2_with (first | (go_at_call 12; (with_reducible refine (impl_KeyCmp.calls kj40 t223 t224 t225 t228 t229 t230 t238 _ A75.out).mono ?_); rintro e w153 ⟨rfl, hb⟩; have n0_ := Aside0.mk (blk_below (g := gb226) (o := .cells #[.string t220, .int .i64 t221, .int .i64 t222] 26 (0, 0)) (by (with_reducible repeat (first | refine blk_drewN ?_ _ | refine blk_drew ?_ | refine blk_alloc ?_ _)); exact BK226.out) hb); have n1_ := Aside0.mk (blk_below (g := gb227) (o := .cells #[.string t223, .int .i64 t224, .int .i64 t225] 26 (0, 0)) (by (with_reducible repeat (first | refine blk_drewN ?_ _ | refine blk_drew ?_ | refine blk_alloc ?_ _)); exact BK227.out) hb); have n2_ := Aside0.mk (blk_below (g := gb231) (o := .cells #[.string t228, .int .i64 t229, .int .i64 t230] 26 (0, 0)) (by (with_reducible repeat (first | refine blk_drewN ?_ _ | refine blk_drew ?_ | refine blk_alloc ?_ _)); exact BK231.out) hb); have n3_ := Aside0.mk (below_step (by repeat (first | (with_reducible first | exact HB.out | apply below_alloc | apply pw_below_drewN | apply below_drew1 | refine below_set ?_ GE226.out | refine below_set ?_ GE227.out | refine below_set ?_ GE231.out) | exact HB.out)) hb); clear BK226; clear BK227; clear BK231; clear HB; have BK226 := n0_; have BK227 := n1_; have BK231 := n2_; have HB := n3_; clear n0_ n1_ n2_ n3_; (try clear hb); (try clear hb2); (try clear hk); (try clear hi); have hcz154_0 : w153.cell? ⟨gb226, 0, none⟩ = some (.string t220) := (blk_cell BK226.out 0).trans rfl; have hcz154_1 : w153.cell? ⟨gb226, 1, none⟩ = some (.int .i64 t221) := (blk_cell BK226.out 1).trans rfl; have hcz154_2 : w153.cell? ⟨gb226, 2, none⟩ = some (.int .i64 t222) := (blk_cell BK226.out 2).trans rfl; have hfz154_0 := blk_frozen BK226.out 0; have hfz154_1 := blk_frozen BK226.out 1; have hfz154_2 := blk_frozen BK226.out 2; have hcz155_0 : w153.cell? ⟨gb227, 0, none⟩ = some (.string t223) := (blk_cell BK227.out 0).trans rfl; have hcz155_1 : w153.cell? ⟨gb227, 1, none⟩ = some (.int .i64 t224) := (blk_cell BK227.out 1).trans rfl; have hcz155_2 : w153.cell? ⟨gb227, 2, none⟩ = some (.int .i64 t225) := (blk_cell BK227.out 2).trans rfl; have hfz155_0 := blk_frozen BK227.out 0; have hfz155_1 := blk_frozen BK227.out 1; have hfz155_2 := blk_frozen BK227.out 2))
                        go_ret
                        exact ⟨by first | rfl | (simp [errW_none, errW_some] <;> rfl) | (simp [*, errW_none, errW_some] <;> rfl), by repeat (first | (with_reducible first | exact HB.out | apply below_alloc | apply pw_below_drewN | apply below_drew1 | refine below_set ?_ GE226.out | refine below_set ?_ GE227.out | refine below_set ?_ GE231.out) | exact HB.out)⟩
                  · rw [if_neg c74] at H
                    have c74b0 : decide (t232 ≤ 0) = false := decide_eq_false c74
                    clear c74
                    by_cases c156 : t220.toList = t223.toList
                    · rw [if_pos c156] at H
                      have c156b0 : (t220.toList == t223.toList) = true := beq_iff_eq.mpr c156
                      have c156b1 : (t220.toList != t223.toList) = false := bne_eq_false_iff_eq.mpr c156
                      clear c156
                      by_cases c157 : t221 = t224
                      · rw [if_pos c157] at H
                        have c157b0 : (t221 == t224) = true := beq_iff_eq.mpr c157
                        have c157b1 : (t221 != t224) = false := bne_eq_false_iff_eq.mpr c157
                        have cn_ : (t232 == 0) = (t222 == t225) := by have z_ := c68b0; rw [c156b0, c157b0] at z_; revert z_; cases (t232 == 0) <;> cases (t222 == t225) <;> simp
                        clear c157
                        obtain rfl := Option.some.inj H
                        have hnb158 := NB226_227.out
                        have hnc158 := NB227_226.out
                        have hnb159 := NB226_231.out
                        have hnc159 := NB231_226.out
                        have hcz160_0 : wc.cell? ⟨gb226, 0, none⟩ = some (.string t220) := (blk_cell BK226.out 0).trans rfl
                        have hcz160_1 : wc.cell? ⟨gb226, 1, none⟩ = some (.int .i64 t221) := (blk_cell BK226.out 1).trans rfl
                        have hcz160_2 : wc.cell? ⟨gb226, 2, none⟩ = some (.int .i64 t222) := (blk_cell BK226.out 2).trans rfl
                        have hfz160_0 := blk_frozen BK226.out 0
                        have hfz160_1 := blk_frozen BK226.out 1
                        have hfz160_2 := blk_frozen BK226.out 2
                        have hnb161 := NB227_231.out
                        have hnc161 := NB231_227.out
                        have hcz162_0 : wc.cell? ⟨gb227, 0, none⟩ = some (.string t223) := (blk_cell BK227.out 0).trans rfl
                        have hcz162_1 : wc.cell? ⟨gb227, 1, none⟩ = some (.int .i64 t224) := (blk_cell BK227.out 1).trans rfl
                        have hcz162_2 : wc.cell? ⟨gb227, 2, none⟩ = some (.int .i64 t225) := (blk_cell BK227.out 2).trans rfl
                        have hfz162_0 := blk_frozen BK227.out 0
                        have hfz162_1 := blk_frozen BK227.out 1
                        have hfz162_2 := blk_frozen BK227.out 2
                        go_wp2
                        go_ret
                        exact ⟨by first | rfl | (simp [errW_none, errW_some] <;> rfl) | (simp [*, errW_none, errW_some] <;> rfl), by repeat (first | (with_reducible first | exact HB.out | apply below_alloc | apply pw_below_drewN | apply below_drew1 | refine below_set ?_ GE226.out | refine below_set ?_ GE227.out | refine below_set ?_ GE231.out) | exact HB.out)⟩
                      · rw [if_neg c157] at H
                        have c157b0 : (t221 == t224) = false := beq_eq_false_iff_ne.mpr c157
                        have c157b1 : (t221 != t224) = true := bne_iff_ne.mpr c157
                        have cn_ : (t232 == 0) = false := by have z_ := c68b0; rw [c156b0, c157b0] at z_; revert z_; cases (t232 == 0) <;> simp
                        have cm_ : ¬ t232 = 0 := by simpa using cn_
                        obtain rfl := Option.some.inj H
                        have hnb163 := NB226_227.out
                        have hnc163 := NB227_226.out
                        have hnb164 := NB226_231.out
                        have hnc164 := NB231_226.out
                        have hcz165_0 : wc.cell? ⟨gb226, 0, none⟩ = some (.string t220) := (blk_cell BK226.out 0).trans rfl
                        have hcz165_1 : wc.cell? ⟨gb226, 1, none⟩ = some (.int .i64 t221) := (blk_cell BK226.out 1).trans rfl
                        have hcz165_2 : wc.cell? ⟨gb226, 2, none⟩ = some (.int .i64 t222) := (blk_cell BK226.out 2).trans rfl
                        have hfz165_0 := blk_frozen BK226.out 0
                        have hfz165_1 := blk_frozen BK226.out 1
                        have hfz165_2 := blk_frozen BK226.out 2
                        have hnb166 := NB227_231.out
                        have hnc166 := NB231_227.out
                        have hcz167_0 : wc.cell? ⟨gb227, 0, none⟩ = some (.string t223) := (blk_cell BK227.out 0).trans rfl
                        have hcz167_1 : wc.cell? ⟨gb227, 1, none⟩ = some (.int .i64 t224) := (blk_cell BK227.out 1).trans rfl
                        have hcz167_2 : wc.cell? ⟨gb227, 2, none⟩ = some (.int .i64 t225) := (blk_cell BK227.out 2).trans rfl
                        have hfz167_0 := blk_frozen BK227.out 0
                        have hfz167_1 := blk_frozen BK227.out 1
                        have hfz167_2 := blk_frozen BK227.out 2
                        go_wp2
                        go_ret
                        exact ⟨by first | rfl | (simp [errW_none, errW_some] <;> rfl) | (simp [*, errW_none, errW_some] <;> rfl), by repeat (first | (with_reducible first | exact HB.out | apply below_alloc | apply pw_below_drewN | apply below_drew1 | refine below_set ?_ GE226.out | refine below_set ?_ GE227.out | refine below_set ?_ GE231.out) | exact HB.out)⟩
                    · rw [if_neg c156] at H
                      have c156b0 : (t220.toList == t223.toList) = false := beq_eq_false_iff_ne.mpr c156
                      have c156b1 : (t220.toList != t223.toList) = true := bne_iff_ne.mpr c156
                      have cn_ : (t232 == 0) = false := by have z_ := c68b0; rw [show (t220.toList == t223.toList) = false from c156b0] at z_; revert z_; cases (t232 == 0) <;> simp
                      have cm_ : ¬ t232 = 0 := by simpa using cn_
                      obtain rfl := Option.some.inj H
                      have hnb168 := NB226_227.out
                      have hnc168 := NB227_226.out
                      have hnb169 := NB226_231.out
                      have hnc169 := NB231_226.out
                      have hcz170_0 : wc.cell? ⟨gb226, 0, none⟩ = some (.string t220) := (blk_cell BK226.out 0).trans rfl
                      have hcz170_1 : wc.cell? ⟨gb226, 1, none⟩ = some (.int .i64 t221) := (blk_cell BK226.out 1).trans rfl
                      have hcz170_2 : wc.cell? ⟨gb226, 2, none⟩ = some (.int .i64 t222) := (blk_cell BK226.out 2).trans rfl
                      have hfz170_0 := blk_frozen BK226.out 0
                      have hfz170_1 := blk_frozen BK226.out 1
                      have hfz170_2 := blk_frozen BK226.out 2
                      have hnb171 := NB227_231.out
                      have hnc171 := NB231_227.out
                      have hcz172_0 : wc.cell? ⟨gb227, 0, none⟩ = some (.string t223) := (blk_cell BK227.out 0).trans rfl
                      have hcz172_1 : wc.cell? ⟨gb227, 1, none⟩ = some (.int .i64 t224) := (blk_cell BK227.out 1).trans rfl
                      have hcz172_2 : wc.cell? ⟨gb227, 2, none⟩ = some (.int .i64 t225) := (blk_cell BK227.out 2).trans rfl
                      have hfz172_0 := blk_frozen BK227.out 0
                      have hfz172_1 := blk_frozen BK227.out 1
                      have hfz172_2 := blk_frozen BK227.out 2
                      go_wp2
                      go_ret
                      exact ⟨by first | rfl | (simp [errW_none, errW_some] <;> rfl) | (simp [*, errW_none, errW_some] <;> rfl), by repeat (first | (with_reducible first | exact HB.out | apply below_alloc | apply pw_below_drewN | apply below_drew1 | refine below_set ?_ GE226.out | refine below_set ?_ GE227.out | refine below_set ?_ GE231.out) | exact HB.out)⟩

/-- THE ONE PURE STATEMENT of laws_FnKeys: yours. -/
def laws_FnKeys.Pure : Prop := ∀ (l0 : List Int), l0.length ≤ maxLen → l0.length * 1 ≤ 140737488351232 → (∀ x ∈ l0, (Lit.int .u8 x).wf = true) → ∃ k, laws_FnKeys.f k l0 = some true
theorem laws_FnKeys.walk (P : laws_FnKeys.Pure) (a0 : Option Addr) (len0 cap0 : Nat) (z0 : List Int) (w : World) (w0 : (a0 = none ∧ len0 = 0 ∧ cap0 = 0 ∧ z0 = []) ∨ ∃ x, a0 = some x ∧ len0 ≤ cap0 ∧ cap0 ≤ maxLen ∧ z0.length = cap0 ∧ (∀ i, i < z0.length → w.cell? (x.add i) = some (.int .u8 (z0.getD i 0))) ∧ ∀ n ∈ z0, (Lit.int .u8 n).wf = true) (y0 : len0 * 1 ≤ 140737488351232) :
    Calls Try.prog 4 #[.slice a0 len0 cap0] w fun e w' => e = .returned (.bool true) ∧ Below w.heap.size w w' := by
  obtain ⟨l0, rfl, hr0, hm0, hw0, hc0⟩ := ReadsInt.ofRowC w0
  obtain ⟨k, h⟩ := P l0 hm0 y0 hw0
  refine (laws_FnKeys.calls k _ _ l0 true w (Kd.C_of_reads (d := (0 : Int)) (h1 := fun _ => rfl) hr0) hc0 h).mono ?_
  rintro e w' ⟨rfl, hd⟩
  exact ⟨rfl, hd⟩

end Go.Proofs.Ytfcjacncllmapae.QFnKeys
