-- This session's own text: written by a program of this session, begun from the kit's printer.
import Derived.Test.YtfcjacncllmapadQFnBloomsx0
import Derived.Test.YtfcjacncllmapadQFnBloomsx1
import Derived.Test.YtfcjacncllmapadQFnBloomsx2
import Derived.Test.YtfcjacncllmapadQFnBloomsx3
import Derived.Test.YtfcjacncllmapadQFnBloomsx4
import Derived.Test.YtfcjacncllmapadQFnBloomsx5
import Derived.Test.YtfcjacncllmapadQFnBloomsx6
namespace Go.Proofs.Ytfcjacncllmapad.QFnBlooms
open Go.RowKit Go.Proofs.YtfcjacncllmapadW.PrintWords Go.Proofs.YtfcjacncllmapadW.PrintLast Go.Proofs.YtfcjacncllmapadW.PrintMore
attribute [local go_sem] max2_int min2_int max_two min_two max_three min_three max_four min_four   -- for this text's walks alone
set_option linter.unusedVariables false
set_option linter.unusedSimpArgs false

attribute [local go_sem high] eqA26
/-! ### laws_FnBlooms: function 5 -/
mutual
def laws_FnBlooms.j0 : Nat → List ByteArray → Int → Bool → Bool → Bool → Int → Int → Int → ByteArray → Int → Int → Int → ByteArray → Option (Bool)
  | 0, _, _, _, _, _, _, _, _, _, _, _, _, _ => none
  | k + 1, x3, x4, x6, x8, x40, x236000, x236001, x236002, x236003, x242000, x242001, x242002, x242003 => if x40 = true then (if (x236000 == x242000 && (x236001 == x242001 && (x236002 == x242002 && (x236003.toList == x242003.toList)))) = true then (some (x6 == x8)) else (some false)) else (laws_FnBlooms.l0 k x3 x4 0 x236000 x236001 x236002 x236003)
def laws_FnBlooms.l0 : Nat → List ByteArray → Int → Int → Int → Int → Int → ByteArray → Option (Bool)
  | 0, _, _, _, _, _, _, _ => none
  | k + 1, x3, x4, x9, x236000, x236001, x236002, x236003 => if x9 < (x3.length : Int) then (if 0 ≤ x9 then ((impl_BloomMay.f k x236000 x236001 x236002 x236003 (rdOf ByteArray.empty x3 x9)).bind fun t243 => (if t243 = true then (laws_FnBlooms.l0 k x3 x4 (wrap64 (x9 + 1)) x236000 x236001 x236002 x236003) else (some false))) else (none)) else ((impl_FilterOk.f k x236000 x236001 x236002 x236003).bind fun t244 => (if t244 = true then (some (decide ((wrap64 ((x236003.size : Int) * 8)) ≥ (wrap64 ((x3.length : Int) * x4))))) else (some false)))
end
def laws_FnBlooms.f (k : Nat) (l0 : List Int) : Option (Bool) := (laws_big.f l0).bind fun t225 => (if t225 = true then (some true) else ((spec_DrawBloomOf.f k l0).bind fun bt226 => ((impl_BloomOf.f k bt226.1 bt226.2).bind fun bt230 => ((spec_BloomOf.f k bt226.1 bt226.2).bind fun bt236 => (if (!(bt230.1 == bt236.1) || (!(bt230.2.1 == bt236.2.1) || (!(bt230.2.2.1 == bt236.2.2.1) || (!(bt230.2.2.2.1.toList == bt236.2.2.2.1.toList))))) = true then (laws_FnBlooms.j0 k bt226.1 bt226.2 bt230.2.2.2.2 bt236.2.2.2.2 true bt230.1 bt230.2.1 bt230.2.2.1 bt230.2.2.2.1 bt236.1 bt236.2.1 bt236.2.2.1 bt236.2.2.2.1) else (if (bt230.2.2.2.2 != bt236.2.2.2.2) = true then (laws_FnBlooms.j0 k bt226.1 bt226.2 bt230.2.2.2.2 bt236.2.2.2.2 true bt230.1 bt230.2.1 bt230.2.2.1 bt230.2.2.2.1 bt236.1 bt236.2.1 bt236.2.2.1 bt236.2.2.2.1) else (laws_FnBlooms.j0 k bt226.1 bt226.2 bt230.2.2.2.2 bt236.2.2.2.2 (!bt230.2.2.2.2) bt230.1 bt230.2.1 bt230.2.2.1 bt230.2.2.2.1 bt236.1 bt236.2.1 bt236.2.2.1 bt236.2.2.2.1)))))))
set_option maxRecDepth 100000 in
theorem laws_FnBlooms.mono_l : ∀ k, (∀ y0 y1 y2 y3 y4 y5 y6 y7 y8 y9 y10 y11 y12, LeO (laws_FnBlooms.j0 k y0 y1 y2 y3 y4 y5 y6 y7 y8 y9 y10 y11 y12) (laws_FnBlooms.j0 (k + 1) y0 y1 y2 y3 y4 y5 y6 y7 y8 y9 y10 y11 y12)) ∧ (∀ y0 y1 y2 y3 y4 y5 y6, LeO (laws_FnBlooms.l0 k y0 y1 y2 y3 y4 y5 y6) (laws_FnBlooms.l0 (k + 1) y0 y1 y2 y3 y4 y5 y6))
  | 0 => ⟨fun _ _ _ _ _ _ _ _ _ _ _ _ _ r h => by simp [laws_FnBlooms.j0] at h, fun _ _ _ _ _ _ _ r h => by simp [laws_FnBlooms.l0] at h⟩
  | k + 1 => by
    obtain ⟨ih0, ih1⟩ := laws_FnBlooms.mono_l k
    refine ⟨?_, ?_⟩
    · intro y0 y1 y2 y3 y4 y5 y6 y7 y8 y9 y10 y11 y12
      unfold laws_FnBlooms.j0
      repeat' first
      | (with_reducible exact ih0 _ _ _ _ _ _ _ _ _ _ _ _ _)
      | (with_reducible exact ih1 _ _ _ _ _ _ _)
      | (with_reducible exact impl_BloomMay.mono _ _ _ _ _ _)
      | (with_reducible exact impl_BloomOf.mono _ _ _)
      | (with_reducible exact impl_FilterOk.mono _ _ _ _ _)
      | (with_reducible exact spec_BloomOf.mono _ _ _)
      | (with_reducible exact spec_DrawBloomOf.mono _ _)
      | (with_reducible exact LeO.refl _)
      | (with_reducible exact LeO.none _)
      | (with_reducible refine LeO.ite ?_ ?_)
      | (with_reducible refine LeO.bind ?_ (fun _ => ?_))
      | exact ih0 _ _ _ _ _ _ _ _ _ _ _ _ _
      | exact ih1 _ _ _ _ _ _ _
      | exact impl_BloomMay.mono _ _ _ _ _ _
      | exact impl_BloomOf.mono _ _ _
      | exact impl_FilterOk.mono _ _ _ _ _
      | exact spec_BloomOf.mono _ _ _
      | exact spec_DrawBloomOf.mono _ _
      | exact LeO.none _
      | refine LeO.ite ?_ ?_
      | refine LeO.bind ?_ (fun _ => ?_)
    · intro y0 y1 y2 y3 y4 y5 y6
      unfold laws_FnBlooms.l0
      repeat' first
      | (with_reducible exact ih0 _ _ _ _ _ _ _ _ _ _ _ _ _)
      | (with_reducible exact ih1 _ _ _ _ _ _ _)
      | (with_reducible exact impl_BloomMay.mono _ _ _ _ _ _)
      | (with_reducible exact impl_BloomOf.mono _ _ _)
      | (with_reducible exact impl_FilterOk.mono _ _ _ _ _)
      | (with_reducible exact spec_BloomOf.mono _ _ _)
      | (with_reducible exact spec_DrawBloomOf.mono _ _)
      | (with_reducible exact LeO.refl _)
      | (with_reducible exact LeO.none _)
      | (with_reducible refine LeO.ite ?_ ?_)
      | (with_reducible refine LeO.bind ?_ (fun _ => ?_))
      | exact ih0 _ _ _ _ _ _ _ _ _ _ _ _ _
      | exact ih1 _ _ _ _ _ _ _
      | exact impl_BloomMay.mono _ _ _ _ _ _
      | exact impl_BloomOf.mono _ _ _
      | exact impl_FilterOk.mono _ _ _ _ _
      | exact spec_BloomOf.mono _ _ _
      | exact spec_DrawBloomOf.mono _ _
      | exact LeO.none _
      | refine LeO.ite ?_ ?_
      | refine LeO.bind ?_ (fun _ => ?_)
theorem laws_FnBlooms.mono : ∀ a0 k, LeO (laws_FnBlooms.f k a0) (laws_FnBlooms.f (k + 1) a0) := by
  intro a0 k
  obtain ⟨ih0, ih1⟩ := laws_FnBlooms.mono_l k
  unfold laws_FnBlooms.f
  repeat' first
      | (with_reducible exact ih0 _ _ _ _ _ _ _ _ _ _ _ _ _)
      | (with_reducible exact ih1 _ _ _ _ _ _ _)
      | (with_reducible exact impl_BloomMay.mono _ _ _ _ _ _)
      | (with_reducible exact impl_BloomOf.mono _ _ _)
      | (with_reducible exact impl_FilterOk.mono _ _ _ _ _)
      | (with_reducible exact spec_BloomOf.mono _ _ _)
      | (with_reducible exact spec_DrawBloomOf.mono _ _)
      | (with_reducible exact LeO.refl _)
      | (with_reducible exact LeO.none _)
      | (with_reducible refine LeO.ite ?_ ?_)
      | (with_reducible refine LeO.bind ?_ (fun _ => ?_))
      | exact ih0 _ _ _ _ _ _ _ _ _ _ _ _ _
      | exact ih1 _ _ _ _ _ _ _
      | exact impl_BloomMay.mono _ _ _ _ _ _
      | exact impl_BloomOf.mono _ _ _
      | exact impl_FilterOk.mono _ _ _ _ _
      | exact spec_BloomOf.mono _ _ _
      | exact spec_DrawBloomOf.mono _ _
      | exact LeO.none _
      | refine LeO.ite ?_ ?_
      | refine LeO.bind ?_ (fun _ => ?_)
set_option maxHeartbeats 8000000 in
set_option maxRecDepth 100000 in
theorem laws_FnBlooms.calls (k : Nat) (A0 : Option Addr) (c0 : Nat) (l0 : List Int) (r : Bool) (w : World) (hr0 : Kd.C (Kd.int .u8) w A0 l0.length l0) (hc0 : l0.length ≤ c0) (h : laws_FnBlooms.f k l0 = some r) :
    Calls Try.prog 5 #[.slice A0 l0.length c0] w fun e w' => e = .returned (.bool r) ∧ Below w.heap.size w w' := by
  have hu26 := Try.underlying26
  have HR0 := Aside0.mk hr0
  have HC0 := Aside0.mk hc0
  clear hr0 hc0
  have HB := Aside0.mk (Below.refl w.heap.size w)
  have H : ((laws_big.f l0).bind fun t225 => (if t225 = true then (some true) else ((spec_DrawBloomOf.f k l0).bind fun bt226 => ((impl_BloomOf.f k bt226.1 bt226.2).bind fun bt230 => ((spec_BloomOf.f k bt226.1 bt226.2).bind fun bt236 => (if (!(bt230.1 == bt236.1) || (!(bt230.2.1 == bt236.2.1) || (!(bt230.2.2.1 == bt236.2.2.1) || (!(bt230.2.2.2.1.toList == bt236.2.2.2.1.toList))))) = true then (laws_FnBlooms.j0 k bt226.1 bt226.2 bt230.2.2.2.2 bt236.2.2.2.2 true bt230.1 bt230.2.1 bt230.2.2.1 bt230.2.2.2.1 bt236.1 bt236.2.1 bt236.2.2.1 bt236.2.2.2.1) else (if (bt230.2.2.2.2 != bt236.2.2.2.2) = true then (laws_FnBlooms.j0 k bt226.1 bt226.2 bt230.2.2.2.2 bt236.2.2.2.2 true bt230.1 bt230.2.1 bt230.2.2.1 bt230.2.2.2.1 bt236.1 bt236.2.1 bt236.2.2.1 bt236.2.2.2.1) else (laws_FnBlooms.j0 k bt226.1 bt226.2 bt230.2.2.2.2 bt236.2.2.2.2 (!bt230.2.2.2.2) bt230.1 bt230.2.1 bt230.2.2.1 bt230.2.2.2.1 bt236.1 bt236.2.1 bt236.2.2.1 bt236.2.2.2.1)))))))) = some r := h
  clear h
  replace H := Option.bind_eq_some_iff.mp H
  obtain ⟨t225, A20, H⟩ := H
  replace H : (if t225 = true then (some true) else ((spec_DrawBloomOf.f k l0).bind fun bt226 => ((impl_BloomOf.f k bt226.1 bt226.2).bind fun bt230 => ((spec_BloomOf.f k bt226.1 bt226.2).bind fun bt236 => (if (!(bt230.1 == bt236.1) || (!(bt230.2.1 == bt236.2.1) || (!(bt230.2.2.1 == bt236.2.2.1) || (!(bt230.2.2.2.1.toList == bt236.2.2.2.1.toList))))) = true then (laws_FnBlooms.j0 k bt226.1 bt226.2 bt230.2.2.2.2 bt236.2.2.2.2 true bt230.1 bt230.2.1 bt230.2.2.1 bt230.2.2.2.1 bt236.1 bt236.2.1 bt236.2.2.1 bt236.2.2.2.1) else (if (bt230.2.2.2.2 != bt236.2.2.2.2) = true then (laws_FnBlooms.j0 k bt226.1 bt226.2 bt230.2.2.2.2 bt236.2.2.2.2 true bt230.1 bt230.2.1 bt230.2.2.1 bt230.2.2.2.1 bt236.1 bt236.2.1 bt236.2.2.1 bt236.2.2.2.1) else (laws_FnBlooms.j0 k bt226.1 bt226.2 bt230.2.2.2.2 bt236.2.2.2.2 (!bt230.2.2.2.2) bt230.1 bt230.2.1 bt230.2.2.1 bt230.2.2.2.1 bt236.1 bt236.2.1 bt236.2.2.1 bt236.2.2.2.1))))))) = some r := H
  have A2 := Aside0.mk A20
  clear A20
  by_cases c3 : t225 = true
  · subst c3
    have H1 : (some true) = some r := by rw [if_pos rfl] at H; exact H
    clear H
    have H := H1
    clear H1
    obtain rfl := Option.some.inj H
    go_enter Try.func5, Try.ntmps5
    go_wp2_with (first | ((with_reducible refine gate_callee (f := 19) rfl ?_); refine goesL_ (some 11) rfl rfl Try.func19 (by kernel_rfl) rfl #[.slice A0 l0.length c0] rfl (by (try simp only [List.map_toArray, List.map_cons, List.map_nil]); first | done | rfl | (simp only [List.length_drop, List.length_take]; rfl)) ?_; (with_reducible refine (laws_big.calls _ _ l0 true _ ?side1 ?side2 A2.out).mono ?_); (case side1 => repeat (first | exact HR0.out | (with_reducible refine Kd.C_alloc ?_ _) | (with_reducible refine Kd.C_drewN ?_ _) | (with_reducible refine Kd.C_drew ?_))); (case side2 => exact HC0.out); rintro e w' ⟨rfl, ⟨nd, rfl⟩⟩; refine ⟨_, rfl, ?_⟩))
    go_ret
    exact ⟨by first | rfl | (simp [errW_none, errW_some] <;> rfl) | (simp [*, errW_none, errW_some] <;> rfl), by repeat (first | (with_reducible first | exact HB.out | apply below_alloc | apply pw_below_drewN | apply below_drew1) | exact HB.out)⟩
  · replace c3 := Bool.eq_false_iff.mpr c3
    subst c3
    have H1 : ((spec_DrawBloomOf.f k l0).bind fun bt226 => ((impl_BloomOf.f k bt226.1 bt226.2).bind fun bt230 => ((spec_BloomOf.f k bt226.1 bt226.2).bind fun bt236 => (if (!(bt230.1 == bt236.1) || (!(bt230.2.1 == bt236.2.1) || (!(bt230.2.2.1 == bt236.2.2.1) || (!(bt230.2.2.2.1.toList == bt236.2.2.2.1.toList))))) = true then (laws_FnBlooms.j0 k bt226.1 bt226.2 bt230.2.2.2.2 bt236.2.2.2.2 true bt230.1 bt230.2.1 bt230.2.2.1 bt230.2.2.2.1 bt236.1 bt236.2.1 bt236.2.2.1 bt236.2.2.2.1) else (if (bt230.2.2.2.2 != bt236.2.2.2.2) = true then (laws_FnBlooms.j0 k bt226.1 bt226.2 bt230.2.2.2.2 bt236.2.2.2.2 true bt230.1 bt230.2.1 bt230.2.2.1 bt230.2.2.2.1 bt236.1 bt236.2.1 bt236.2.2.1 bt236.2.2.2.1) else (laws_FnBlooms.j0 k bt226.1 bt226.2 bt230.2.2.2.2 bt236.2.2.2.2 (!bt230.2.2.2.2) bt230.1 bt230.2.1 bt230.2.2.1 bt230.2.2.2.1 bt236.1 bt236.2.1 bt236.2.2.1 bt236.2.2.2.1)))))) = some r := by rw [if_neg (show ¬ (false = true) by decide)] at H; exact H
    clear H
    have H := H1
    clear H1
    replace H := Option.bind_eq_some_iff.mp H
    obtain ⟨⟨t226, t227⟩, A40, H⟩ := H
    replace H : ((impl_BloomOf.f k t226 t227).bind fun bt230 => ((spec_BloomOf.f k t226 t227).bind fun bt236 => (if (!(bt230.1 == bt236.1) || (!(bt230.2.1 == bt236.2.1) || (!(bt230.2.2.1 == bt236.2.2.1) || (!(bt230.2.2.2.1.toList == bt236.2.2.2.1.toList))))) = true then (laws_FnBlooms.j0 k t226 t227 bt230.2.2.2.2 bt236.2.2.2.2 true bt230.1 bt230.2.1 bt230.2.2.1 bt230.2.2.2.1 bt236.1 bt236.2.1 bt236.2.2.1 bt236.2.2.2.1) else (if (bt230.2.2.2.2 != bt236.2.2.2.2) = true then (laws_FnBlooms.j0 k t226 t227 bt230.2.2.2.2 bt236.2.2.2.2 true bt230.1 bt230.2.1 bt230.2.2.1 bt230.2.2.2.1 bt236.1 bt236.2.1 bt236.2.2.1 bt236.2.2.2.1) else (laws_FnBlooms.j0 k t226 t227 bt230.2.2.2.2 bt236.2.2.2.2 (!bt230.2.2.2.2) bt230.1 bt230.2.1 bt230.2.2.1 bt230.2.2.2.1 bt236.1 bt236.2.1 bt236.2.2.1 bt236.2.2.2.1))))) = some r := H
    have A4 := Aside0.mk A40
    clear A40
    replace H := Option.bind_eq_some_iff.mp H
    obtain ⟨⟨t230, t231, t232, t233, t234⟩, A50, H⟩ := H
    replace H : ((spec_BloomOf.f k t226 t227).bind fun bt236 => (if (!(t230 == bt236.1) || (!(t231 == bt236.2.1) || (!(t232 == bt236.2.2.1) || (!(t233.toList == bt236.2.2.2.1.toList))))) = true then (laws_FnBlooms.j0 k t226 t227 t234 bt236.2.2.2.2 true t230 t231 t232 t233 bt236.1 bt236.2.1 bt236.2.2.1 bt236.2.2.2.1) else (if (t234 != bt236.2.2.2.2) = true then (laws_FnBlooms.j0 k t226 t227 t234 bt236.2.2.2.2 true t230 t231 t232 t233 bt236.1 bt236.2.1 bt236.2.2.1 bt236.2.2.2.1) else (laws_FnBlooms.j0 k t226 t227 t234 bt236.2.2.2.2 (!t234) t230 t231 t232 t233 bt236.1 bt236.2.1 bt236.2.2.1 bt236.2.2.2.1)))) = some r := H
    have A5 := Aside0.mk A50
    clear A50
    replace H := Option.bind_eq_some_iff.mp H
    obtain ⟨⟨t236, t237, t238, t239, t240⟩, A60, H⟩ := H
    replace H : (if (!(t230 == t236) || (!(t231 == t237) || (!(t232 == t238) || (!(t233.toList == t239.toList))))) = true then (laws_FnBlooms.j0 k t226 t227 t234 t240 true t230 t231 t232 t233 t236 t237 t238 t239) else (if (t234 != t240) = true then (laws_FnBlooms.j0 k t226 t227 t234 t240 true t230 t231 t232 t233 t236 t237 t238 t239) else (laws_FnBlooms.j0 k t226 t227 t234 t240 (!t234) t230 t231 t232 t233 t236 t237 t238 t239))) = some r := H
    have A6 := Aside0.mk A60
    clear A60
    have HC7 := Aside0.mk H
    clear H
    go_enter Try.func5, Try.ntmps5
    go_upto_region 6 with (first | ((with_reducible refine gate_callee (f := 19) rfl ?_); refine goesL_ (some 11) rfl rfl Try.func19 (by kernel_rfl) rfl #[.slice A0 l0.length c0] rfl (by (try simp only [List.map_toArray, List.map_cons, List.map_nil]); first | done | rfl | (simp only [List.length_drop, List.length_take]; rfl)) ?_; (with_reducible refine (laws_big.calls _ _ l0 false _ ?side1 ?side2 A2.out).mono ?_); (case side1 => repeat (first | exact HR0.out | (with_reducible refine Kd.C_alloc ?_ _) | (with_reducible refine Kd.C_drewN ?_ _) | (with_reducible refine Kd.C_drew ?_))); (case side2 => exact HC0.out); rintro e w' ⟨rfl, ⟨nd, rfl⟩⟩; refine ⟨_, rfl, ?_⟩) | ((with_reducible refine gate_callee (f := 20) rfl ?_); refine goesL_ (some 14) rfl rfl Try.func20 (by kernel_rfl) rfl #[.slice A0 l0.length c0] rfl (by (try simp only [List.map_toArray, List.map_cons, List.map_nil]); first | done | rfl | (simp only [List.length_drop, List.length_take]; rfl)) ?_; (with_reducible refine (spec_DrawBloomOf.calls k _ _ l0 t226 t227 _ ?side1 ?side2 A4.out).mono ?_); (case side1 => repeat (first | exact HR0.out | (with_reducible refine Kd.C_alloc ?_ _) | (with_reducible refine Kd.C_drewN ?_ _) | (with_reducible refine Kd.C_drew ?_))); (case side2 => exact HC0.out); rintro e w8 ⟨v228, rfl, ho0, hb⟩; refine ⟨_, rfl, ?_⟩; have n0_ := Aside0.mk (Kd.R_lower ho0 (below_size (by repeat (first | (with_reducible first | exact HB.out | apply below_alloc | apply pw_below_drewN | apply below_drew1) | exact HB.out)))); have n1_ := Aside0.mk (below_step (by repeat (first | (with_reducible first | exact HB.out | apply below_alloc | apply pw_below_drewN | apply below_drew1) | exact HB.out)) hb); clear HB; have HO229 := n0_; have HB := n1_; clear n0_ n1_; (try clear hb); (try clear hb2); (try clear hk); (try clear hi); (try clear ho0); obtain ⟨Ao9, co9, eo9⟩ := Kd.R_slice HO229.out; subst eo9) | ((with_reducible refine gate_callee (f := 16) rfl ?_); refine goesL_ (some 20) rfl rfl Try.func16 (by kernel_rfl) rfl #[.slice Ao9 t226.length co9, .int .i64 t227] rfl (by (try simp only [List.map_toArray, List.map_cons, List.map_nil]); first | done | rfl | (simp only [List.length_drop, List.length_take]; rfl)) ?_; (with_reducible refine (impl_BloomOf.calls k _ _ t226 t227 t230 t231 t232 t233 t234 _ ?side1 ?side2 A5.out).mono ?_); (case side1 => repeat (first | exact (Kd.R_reads' HO229.out).2.2 | (with_reducible refine Kd.C_alloc ?_ _) | (with_reducible refine Kd.C_drewN ?_ _) | (with_reducible refine Kd.C_drew ?_))); (case side2 => exact (Kd.R_reads' HO229.out).2.1); rintro e w10 ⟨rfl, hb⟩; refine ⟨_, rfl, ?_⟩; have n0_ := Aside0.mk (Kd.R_below (by (with_reducible repeat (first | apply Kd.R_alloc | apply Kd.R_drewN | apply Kd.R_drew)); exact HO229.out) hb); have n1_ := Aside0.mk (below_step (by repeat (first | (with_reducible first | exact HB.out | apply below_alloc | apply pw_below_drewN | apply below_drew1) | exact HB.out)) hb); clear HO229; clear HB; have HO229 := n0_; have HB := n1_; clear n0_ n1_; (try clear hb); (try clear hb2); (try clear hk); (try clear hi)) | ((with_reducible refine gate_dst (N := 5) rfl ?_); (try (refine gate_guard (by rfl) ?_; dsimp only)); refine box_event ?hg (N := 5) ?hd (cs := #[.int .i64 0, .int .i64 0, .int .i64 0, .string (⟨#[]⟩ : ByteArray)]) (t := 26) ?hr ?_; (case hd => rfl); (case hg => rfl); (case hr => first | (go_simp; done) | (go_simp; rfl)); intro gb235 hg w11 hbox hb; have n0_ := Aside0.mk (Kd.R_below (by (with_reducible repeat (first | apply Kd.R_alloc | apply Kd.R_drewN | apply Kd.R_drew)); exact HO229.out) hb); have n1_ := Aside0.mk (below_step (by repeat (first | (with_reducible first | exact HB.out | apply below_alloc | apply pw_below_drewN | apply below_drew1) | exact HB.out)) hb); have n2_ := Aside0.mk (hbox); have n3_ := Aside0.mk ((by rw [hg]; exact (below_size (by repeat (first | (with_reducible first | exact HB.out | apply below_alloc | apply pw_below_drewN | apply below_drew1) | exact HB.out))) : w.heap.size ≤ gb235)); have n4_ := Aside0.mk ((by rw [hg]; exact (below_size (by repeat (first | (with_reducible first | exact HB.out | apply below_alloc | apply pw_below_drewN | apply below_drew1) | exact HB.out))) : w.heap.size ≤ gb235)); clear HO229; clear HB; have HO229 := n0_; have HB := n1_; have BK235 := n2_; have GW235 := n3_; have GE235 := n4_; clear n0_ n1_ n2_ n3_ n4_; clear hb hbox hg; have hcz12_0 : w11.cell? ⟨gb235, 0, none⟩ = some (.int .i64 0) := (blk_cell BK235.out 0).trans rfl; have hcz12_1 : w11.cell? ⟨gb235, 1, none⟩ = some (.int .i64 0) := (blk_cell BK235.out 1).trans rfl; have hcz12_2 : w11.cell? ⟨gb235, 2, none⟩ = some (.int .i64 0) := (blk_cell BK235.out 2).trans rfl; have hcz12_3 : w11.cell? ⟨gb235, 3, none⟩ = some (.string (⟨#[]⟩ : ByteArray)) := (blk_cell BK235.out 3).trans rfl; have hfz12_0 := blk_frozen BK235.out 0; have hfz12_1 := blk_frozen BK235.out 1; have hfz12_2 := blk_frozen BK235.out 2; have hfz12_3 := blk_frozen BK235.out 3) | ((with_reducible refine gate_callee (f := 14) rfl ?_); refine goesL_ (some 26) rfl rfl Try.func14 (by kernel_rfl) rfl #[.slice Ao9 t226.length co9, .int .i64 t227] rfl (by (try simp only [List.map_toArray, List.map_cons, List.map_nil]); first | done | rfl | (simp only [List.length_drop, List.length_take]; rfl)) ?_; (with_reducible refine (spec_BloomOf.calls k _ _ t226 t227 t236 t237 t238 t239 t240 _ ?side1 ?side2 A6.out).mono ?_); (case side1 => refine (Kd.R_reads' (e := 9) (base := w.heap.size) (ok := fun k_ => True) (n := t226.length) (c := co9) ?_).2.2; exact (by (with_reducible repeat (first | apply Kd.R_alloc | apply Kd.R_drewN | apply Kd.R_drew)); exact (Kd.R_mono (Kd.R_far (p := ⟨gb235, 3, none⟩) (Kd.R_far (p := ⟨gb235, 2, none⟩) (Kd.R_far (p := ⟨gb235, 1, none⟩) (Kd.R_far (p := ⟨gb235, 0, none⟩) (Kd.R_types HO229.out BK235.out (by decide)) (fun _ hk => hk.2) (.int .i64 t230)) (fun _ hk => hk.2) (.int .i64 t231)) (fun _ hk => hk.2) (.int .i64 t232)) (fun _ hk => hk.2) (.string t233)) (fun _ h_ => h_.1)))); (case side2 => exact (Kd.R_reads' HO229.out).2.1); rintro e w13 ⟨rfl, hb⟩; refine ⟨_, rfl, ?_⟩; have n0_ := Aside0.mk (Kd.R_below (by (with_reducible repeat (first | apply Kd.R_alloc | apply Kd.R_drewN | apply Kd.R_drew)); exact (Kd.R_mono (Kd.R_far (p := ⟨gb235, 3, none⟩) (Kd.R_far (p := ⟨gb235, 2, none⟩) (Kd.R_far (p := ⟨gb235, 1, none⟩) (Kd.R_far (p := ⟨gb235, 0, none⟩) (Kd.R_types HO229.out BK235.out (by decide)) (fun _ hk => hk.2) (.int .i64 t230)) (fun _ hk => hk.2) (.int .i64 t231)) (fun _ hk => hk.2) (.int .i64 t232)) (fun _ hk => hk.2) (.string t233)) (fun _ h_ => h_.1))) hb); have n1_ := Aside0.mk (blk_below (g := gb235) (o := .cells #[.int .i64 t230, .int .i64 t231, .int .i64 t232, .string t233] 26 (0, 0)) (by (with_reducible repeat (first | refine blk_drewN ?_ _ | refine blk_drew ?_ | refine blk_alloc ?_ _)); refine blk_put (cs := #[.int .i64 t230, .int .i64 t231, .int .i64 t232, .string (⟨#[]⟩ : ByteArray)]) ?_ 3 _ rfl; (with_reducible repeat (first | refine blk_drewN ?_ _ | refine blk_drew ?_ | refine blk_alloc ?_ _)); refine blk_put (cs := #[.int .i64 t230, .int .i64 t231, .int .i64 0, .string (⟨#[]⟩ : ByteArray)]) ?_ 2 _ rfl; (with_reducible repeat (first | refine blk_drewN ?_ _ | refine blk_drew ?_ | refine blk_alloc ?_ _)); refine blk_put (cs := #[.int .i64 t230, .int .i64 0, .int .i64 0, .string (⟨#[]⟩ : ByteArray)]) ?_ 1 _ rfl; (with_reducible repeat (first | refine blk_drewN ?_ _ | refine blk_drew ?_ | refine blk_alloc ?_ _)); refine blk_put (cs := #[.int .i64 0, .int .i64 0, .int .i64 0, .string (⟨#[]⟩ : ByteArray)]) ?_ 0 _ rfl; (with_reducible repeat (first | refine blk_drewN ?_ _ | refine blk_drew ?_ | refine blk_alloc ?_ _)); exact BK235.out) hb); have n2_ := Aside0.mk (below_step (by repeat (first | (with_reducible first | exact HB.out | apply below_alloc | apply pw_below_drewN | apply below_drew1 | refine below_set ?_ GE235.out) | exact HB.out)) hb); clear HO229; clear BK235; clear HB; have HO229 := n0_; have BK235 := n1_; have HB := n2_; clear n0_ n1_ n2_; (try clear hb); (try clear hb2); (try clear hk); (try clear hi)) | ((with_reducible refine gate_dst (N := 7) rfl ?_); (try (refine gate_guard (by rfl) ?_; dsimp only)); refine box_event ?hg (N := 7) ?hd (cs := #[.int .i64 0, .int .i64 0, .int .i64 0, .string (⟨#[]⟩ : ByteArray)]) (t := 26) ?hr ?_; (case hd => rfl); (case hg => rfl); (case hr => first | (go_simp; done) | (go_simp; rfl)); intro gb241 hg w14 hbox hb; have n0_ := Aside0.mk (Kd.R_below (by (with_reducible repeat (first | apply Kd.R_alloc | apply Kd.R_drewN | apply Kd.R_drew)); exact HO229.out) hb); have n1_ := Aside0.mk (blk_below (g := gb235) (o := .cells #[.int .i64 t230, .int .i64 t231, .int .i64 t232, .string t233] 26 (0, 0)) (by (with_reducible repeat (first | refine blk_drewN ?_ _ | refine blk_drew ?_ | refine blk_alloc ?_ _)); exact BK235.out) hb); have n2_ := Aside0.mk (below_step (by repeat (first | (with_reducible first | exact HB.out | apply below_alloc | apply pw_below_drewN | apply below_drew1 | refine below_set ?_ GE235.out) | exact HB.out)) hb); have n3_ := Aside0.mk (hbox); have n4_ := Aside0.mk ((by rw [hg]; exact (below_size (by repeat (first | (with_reducible first | exact HB.out | apply below_alloc | apply pw_below_drewN | apply below_drew1 | refine below_set ?_ GE235.out) | exact HB.out))) : w.heap.size ≤ gb241)); have n5_ := Aside0.mk ((by rw [hg]; exact (below_size (by repeat (first | (with_reducible first | exact HB.out | apply below_alloc | apply pw_below_drewN | apply below_drew1 | refine below_set ?_ GE235.out) | exact HB.out))) : w.heap.size ≤ gb241)); have n6_ := Aside0.mk ((by rw [hg]; exact Nat.ne_of_lt (blk_lt (g := gb235) (o := .cells #[.int .i64 t230, .int .i64 t231, .int .i64 t232, .string t233] 26 (0, 0)) (by (with_reducible repeat (first | refine blk_drewN ?_ _ | refine blk_drew ?_ | refine blk_alloc ?_ _)); exact BK235.out)) : gb235 ≠ gb241)); have n7_ := Aside0.mk ((by rw [hg]; exact Nat.ne_of_gt (blk_lt (g := gb235) (o := .cells #[.int .i64 t230, .int .i64 t231, .int .i64 t232, .string t233] 26 (0, 0)) (by (with_reducible repeat (first | refine blk_drewN ?_ _ | refine blk_drew ?_ | refine blk_alloc ?_ _)); exact BK235.out)) : gb241 ≠ gb235)); clear HO229; clear BK235; clear HB; have HO229 := n0_; have BK235 := n1_; have HB := n2_; have BK241 := n3_; have GW241 := n4_; have GE241 := n5_; have NB235_241 := n6_; have NB241_235 := n7_; clear n0_ n1_ n2_ n3_ n4_ n5_ n6_ n7_; clear hb hbox hg; have hnb15 := NB241_235.out; have hnc15 := NB235_241.out; have hcz16_0 : w14.cell? ⟨gb241, 0, none⟩ = some (.int .i64 0) := (blk_cell BK241.out 0).trans rfl; have hcz16_1 : w14.cell? ⟨gb241, 1, none⟩ = some (.int .i64 0) := (blk_cell BK241.out 1).trans rfl; have hcz16_2 : w14.cell? ⟨gb241, 2, none⟩ = some (.int .i64 0) := (blk_cell BK241.out 2).trans rfl; have hcz16_3 : w14.cell? ⟨gb241, 3, none⟩ = some (.string (⟨#[]⟩ : ByteArray)) := (blk_cell BK241.out 3).trans rfl; have hfz16_0 := blk_frozen BK241.out 0; have hfz16_1 := blk_frozen BK241.out 1; have hfz16_2 := blk_frozen BK241.out 2; have hfz16_3 := blk_frozen BK241.out 3))
    (try simp only [Act.put, List.setIfInBounds_toArray, List.set_cons_zero, List.set_cons_succ])
    go_cut [40] (fun v40 wc => ∃ (kq : Nat) (x40_6 : Bool), v40 = .bool x40_6 ∧ Aside0 (laws_FnBlooms.j0 kq t226 t227 t234 t240 x40_6 t230 t231 t232 t233 t236 t237 t238 t239 = some r) ∧ Aside0 (kq ≤ k) ∧ Aside0 (Kd.R Kd.string 9 wc w.heap.size (fun _ => True) (.slice Ao9 t226.length co9) t226) ∧ Aside0 (wc.heap[gb235]? = some (.cells #[.int .i64 t230, .int .i64 t231, .int .i64 t232, .string t233] 26 (0, 0))) ∧ Aside0 (wc.heap[gb241]? = some (.cells #[.int .i64 t236, .int .i64 t237, .int .i64 t238, .string t239] 26 (0, 0))) ∧ Aside0 (Below w.heap.size w wc))
    case first =>
      have H := HC7.out
      clear HC7
      by_cases c17 : (!(t230 == t236) || (!(t231 == t237) || (!(t232 == t238) || (!(t233.toList == t239.toList))))) = true
      · rw [if_pos c17] at H
        have c17b0 : (!(t230 == t236) || (!(t231 == t237) || (!(t232 == t238) || (!(t233.toList == t239.toList))))) = true := c17
        clear c17
        (first | rw [c17b0] | (simp only [i64_w, i32_w]; rw [c17b0]) | skip)
        have H' := Aside0.mk H
        clear H
        have hnb18 := NB235_241.out
        have hnc18 := NB241_235.out
        have hcz19_0 : w14.cell? ⟨gb235, 0, none⟩ = some (.int .i64 t230) := (blk_cell BK235.out 0).trans rfl
        have hcz19_1 : w14.cell? ⟨gb235, 1, none⟩ = some (.int .i64 t231) := (blk_cell BK235.out 1).trans rfl
        have hcz19_2 : w14.cell? ⟨gb235, 2, none⟩ = some (.int .i64 t232) := (blk_cell BK235.out 2).trans rfl
        have hcz19_3 : w14.cell? ⟨gb235, 3, none⟩ = some (.string t233) := (blk_cell BK235.out 3).trans rfl
        have hfz19_0 := blk_frozen BK235.out 0
        have hfz19_1 := blk_frozen BK235.out 1
        have hfz19_2 := blk_frozen BK235.out 2
        have hfz19_3 := blk_frozen BK235.out 3
        have hcz20_0 : w14.cell? ⟨gb241, 0, none⟩ = some (.int .i64 0) := (blk_cell BK241.out 0).trans rfl
        have hcz20_1 : w14.cell? ⟨gb241, 1, none⟩ = some (.int .i64 0) := (blk_cell BK241.out 1).trans rfl
        have hcz20_2 : w14.cell? ⟨gb241, 2, none⟩ = some (.int .i64 0) := (blk_cell BK241.out 2).trans rfl
        have hcz20_3 : w14.cell? ⟨gb241, 3, none⟩ = some (.string (⟨#[]⟩ : ByteArray)) := (blk_cell BK241.out 3).trans rfl
        have hfz20_0 := blk_frozen BK241.out 0
        have hfz20_1 := blk_frozen BK241.out 1
        have hfz20_2 := blk_frozen BK241.out 2
        have hfz20_3 := blk_frozen BK241.out 3
        go_wp2
        go_meet
        case rel => exact ⟨_, (true), (by first | rfl | (simp; done) | (simp [*]; done)), H', ⟨by first | omega | exact Nat.le_refl _⟩, ⟨by (with_reducible repeat (first | apply Kd.R_alloc | apply Kd.R_drewN | apply Kd.R_drew)); exact Kd.R_mono (Kd.R_far (p := ⟨gb241, 3, none⟩) (Kd.R_far (p := ⟨gb241, 2, none⟩) (Kd.R_far (p := ⟨gb241, 1, none⟩) (Kd.R_far (p := ⟨gb241, 0, none⟩) (Kd.R_types HO229.out BK241.out (by decide)) (fun _ hk => hk.2) (.int .i64 t236)) (fun _ hk => hk.2) (.int .i64 t237)) (fun _ hk => hk.2) (.int .i64 t238)) (fun _ hk => hk.2) (.string t239)) (fun _ hk => trivial)⟩, ⟨by (with_reducible repeat (first | refine blk_drewN ?_ _ | refine blk_drew ?_ | refine blk_alloc ?_ _)); refine blk_far ?_ NB235_241.out _; (with_reducible repeat (first | refine blk_drewN ?_ _ | refine blk_drew ?_ | refine blk_alloc ?_ _)); refine blk_far ?_ NB235_241.out _; (with_reducible repeat (first | refine blk_drewN ?_ _ | refine blk_drew ?_ | refine blk_alloc ?_ _)); refine blk_far ?_ NB235_241.out _; (with_reducible repeat (first | refine blk_drewN ?_ _ | refine blk_drew ?_ | refine blk_alloc ?_ _)); refine blk_far ?_ NB235_241.out _; (with_reducible repeat (first | refine blk_drewN ?_ _ | refine blk_drew ?_ | refine blk_alloc ?_ _)); exact BK235.out⟩, ⟨by (with_reducible repeat (first | refine blk_drewN ?_ _ | refine blk_drew ?_ | refine blk_alloc ?_ _)); refine blk_put (cs := #[.int .i64 t236, .int .i64 t237, .int .i64 t238, .string (⟨#[]⟩ : ByteArray)]) ?_ 3 _ rfl; (with_reducible repeat (first | refine blk_drewN ?_ _ | refine blk_drew ?_ | refine blk_alloc ?_ _)); refine blk_put (cs := #[.int .i64 t236, .int .i64 t237, .int .i64 0, .string (⟨#[]⟩ : ByteArray)]) ?_ 2 _ rfl; (with_reducible repeat (first | refine blk_drewN ?_ _ | refine blk_drew ?_ | refine blk_alloc ?_ _)); refine blk_put (cs := #[.int .i64 t236, .int .i64 0, .int .i64 0, .string (⟨#[]⟩ : ByteArray)]) ?_ 1 _ rfl; (with_reducible repeat (first | refine blk_drewN ?_ _ | refine blk_drew ?_ | refine blk_alloc ?_ _)); refine blk_put (cs := #[.int .i64 0, .int .i64 0, .int .i64 0, .string (⟨#[]⟩ : ByteArray)]) ?_ 0 _ rfl; (with_reducible repeat (first | refine blk_drewN ?_ _ | refine blk_drew ?_ | refine blk_alloc ?_ _)); exact BK241.out⟩, ⟨by repeat (first | (with_reducible first | exact HB.out | apply below_alloc | apply pw_below_drewN | apply below_drew1 | refine below_set ?_ GE235.out | refine below_set ?_ GE241.out) | exact HB.out)⟩⟩
      · rw [if_neg c17] at H
        have c17b0 : (!(t230 == t236) || (!(t231 == t237) || (!(t232 == t238) || (!(t233.toList == t239.toList))))) = false := by simpa using c17
        clear c17
        (first | rw [c17b0] | (simp only [i64_w, i32_w]; rw [c17b0]) | skip)
        by_cases c21 : (t234 != t240) = true
        · rw [if_pos c21] at H
          have c21b0 : (t234 != t240) = true := c21
          (try (have c21b1 : decide (t234 = t240) = false := by simpa using c21))
          (try (have c21b2 : (t234 == t240) = false := by simpa using c21))
          (try (have c21b3 : ¬ (t234 = t240) := by simpa using c21))
          clear c21
          have H' := Aside0.mk H
          clear H
          have hnb22 := NB235_241.out
          have hnc22 := NB241_235.out
          have hcz23_0 : w14.cell? ⟨gb235, 0, none⟩ = some (.int .i64 t230) := (blk_cell BK235.out 0).trans rfl
          have hcz23_1 : w14.cell? ⟨gb235, 1, none⟩ = some (.int .i64 t231) := (blk_cell BK235.out 1).trans rfl
          have hcz23_2 : w14.cell? ⟨gb235, 2, none⟩ = some (.int .i64 t232) := (blk_cell BK235.out 2).trans rfl
          have hcz23_3 : w14.cell? ⟨gb235, 3, none⟩ = some (.string t233) := (blk_cell BK235.out 3).trans rfl
          have hfz23_0 := blk_frozen BK235.out 0
          have hfz23_1 := blk_frozen BK235.out 1
          have hfz23_2 := blk_frozen BK235.out 2
          have hfz23_3 := blk_frozen BK235.out 3
          have hcz24_0 : w14.cell? ⟨gb241, 0, none⟩ = some (.int .i64 0) := (blk_cell BK241.out 0).trans rfl
          have hcz24_1 : w14.cell? ⟨gb241, 1, none⟩ = some (.int .i64 0) := (blk_cell BK241.out 1).trans rfl
          have hcz24_2 : w14.cell? ⟨gb241, 2, none⟩ = some (.int .i64 0) := (blk_cell BK241.out 2).trans rfl
          have hcz24_3 : w14.cell? ⟨gb241, 3, none⟩ = some (.string (⟨#[]⟩ : ByteArray)) := (blk_cell BK241.out 3).trans rfl
          have hfz24_0 := blk_frozen BK241.out 0
          have hfz24_1 := blk_frozen BK241.out 1
          have hfz24_2 := blk_frozen BK241.out 2
          have hfz24_3 := blk_frozen BK241.out 3
          go_wp2
          go_meet
          case rel => exact ⟨_, (true), (by first | rfl | (simp; done) | (simp [*]; done)), H', ⟨by first | omega | exact Nat.le_refl _⟩, ⟨by (with_reducible repeat (first | apply Kd.R_alloc | apply Kd.R_drewN | apply Kd.R_drew)); exact Kd.R_mono (Kd.R_far (p := ⟨gb241, 3, none⟩) (Kd.R_far (p := ⟨gb241, 2, none⟩) (Kd.R_far (p := ⟨gb241, 1, none⟩) (Kd.R_far (p := ⟨gb241, 0, none⟩) (Kd.R_types HO229.out BK241.out (by decide)) (fun _ hk => hk.2) (.int .i64 t236)) (fun _ hk => hk.2) (.int .i64 t237)) (fun _ hk => hk.2) (.int .i64 t238)) (fun _ hk => hk.2) (.string t239)) (fun _ hk => trivial)⟩, ⟨by (with_reducible repeat (first | refine blk_drewN ?_ _ | refine blk_drew ?_ | refine blk_alloc ?_ _)); refine blk_far ?_ NB235_241.out _; (with_reducible repeat (first | refine blk_drewN ?_ _ | refine blk_drew ?_ | refine blk_alloc ?_ _)); refine blk_far ?_ NB235_241.out _; (with_reducible repeat (first | refine blk_drewN ?_ _ | refine blk_drew ?_ | refine blk_alloc ?_ _)); refine blk_far ?_ NB235_241.out _; (with_reducible repeat (first | refine blk_drewN ?_ _ | refine blk_drew ?_ | refine blk_alloc ?_ _)); refine blk_far ?_ NB235_241.out _; (with_reducible repeat (first | refine blk_drewN ?_ _ | refine blk_drew ?_ | refine blk_alloc ?_ _)); exact BK235.out⟩, ⟨by (with_reducible repeat (first | refine blk_drewN ?_ _ | refine blk_drew ?_ | refine blk_alloc ?_ _)); refine blk_put (cs := #[.int .i64 t236, .int .i64 t237, .int .i64 t238, .string (⟨#[]⟩ : ByteArray)]) ?_ 3 _ rfl; (with_reducible repeat (first | refine blk_drewN ?_ _ | refine blk_drew ?_ | refine blk_alloc ?_ _)); refine blk_put (cs := #[.int .i64 t236, .int .i64 t237, .int .i64 0, .string (⟨#[]⟩ : ByteArray)]) ?_ 2 _ rfl; (with_reducible repeat (first | refine blk_drewN ?_ _ | refine blk_drew ?_ | refine blk_alloc ?_ _)); refine blk_put (cs := #[.int .i64 t236, .int .i64 0, .int .i64 0, .string (⟨#[]⟩ : ByteArray)]) ?_ 1 _ rfl; (with_reducible repeat (first | refine blk_drewN ?_ _ | refine blk_drew ?_ | refine blk_alloc ?_ _)); refine blk_put (cs := #[.int .i64 0, .int .i64 0, .int .i64 0, .string (⟨#[]⟩ : ByteArray)]) ?_ 0 _ rfl; (with_reducible repeat (first | refine blk_drewN ?_ _ | refine blk_drew ?_ | refine blk_alloc ?_ _)); exact BK241.out⟩, ⟨by repeat (first | (with_reducible first | exact HB.out | apply below_alloc | apply pw_below_drewN | apply below_drew1 | refine below_set ?_ GE235.out | refine below_set ?_ GE241.out) | exact HB.out)⟩⟩
        · rw [if_neg c21] at H
          have c21b0 : (t234 != t240) = false := by simpa using c21
          (try (have c21b1 : decide (t234 = t240) = true := by simpa using c21))
          (try (have c21b2 : (t234 == t240) = true := by simpa using c21))
          clear c21
          have H' := Aside0.mk H
          clear H
          have hnb25 := NB235_241.out
          have hnc25 := NB241_235.out
          have hcz26_0 : w14.cell? ⟨gb235, 0, none⟩ = some (.int .i64 t230) := (blk_cell BK235.out 0).trans rfl
          have hcz26_1 : w14.cell? ⟨gb235, 1, none⟩ = some (.int .i64 t231) := (blk_cell BK235.out 1).trans rfl
          have hcz26_2 : w14.cell? ⟨gb235, 2, none⟩ = some (.int .i64 t232) := (blk_cell BK235.out 2).trans rfl
          have hcz26_3 : w14.cell? ⟨gb235, 3, none⟩ = some (.string t233) := (blk_cell BK235.out 3).trans rfl
          have hfz26_0 := blk_frozen BK235.out 0
          have hfz26_1 := blk_frozen BK235.out 1
          have hfz26_2 := blk_frozen BK235.out 2
          have hfz26_3 := blk_frozen BK235.out 3
          have hcz27_0 : w14.cell? ⟨gb241, 0, none⟩ = some (.int .i64 0) := (blk_cell BK241.out 0).trans rfl
          have hcz27_1 : w14.cell? ⟨gb241, 1, none⟩ = some (.int .i64 0) := (blk_cell BK241.out 1).trans rfl
          have hcz27_2 : w14.cell? ⟨gb241, 2, none⟩ = some (.int .i64 0) := (blk_cell BK241.out 2).trans rfl
          have hcz27_3 : w14.cell? ⟨gb241, 3, none⟩ = some (.string (⟨#[]⟩ : ByteArray)) := (blk_cell BK241.out 3).trans rfl
          have hfz27_0 := blk_frozen BK241.out 0
          have hfz27_1 := blk_frozen BK241.out 1
          have hfz27_2 := blk_frozen BK241.out 2
          have hfz27_3 := blk_frozen BK241.out 3
          go_wp2
          go_meet
          case rel => exact ⟨_, (!t234), (by first | rfl | (simp; done) | (simp [*]; done)), H', ⟨by first | omega | exact Nat.le_refl _⟩, ⟨by (with_reducible repeat (first | apply Kd.R_alloc | apply Kd.R_drewN | apply Kd.R_drew)); exact Kd.R_mono (Kd.R_far (p := ⟨gb241, 3, none⟩) (Kd.R_far (p := ⟨gb241, 2, none⟩) (Kd.R_far (p := ⟨gb241, 1, none⟩) (Kd.R_far (p := ⟨gb241, 0, none⟩) (Kd.R_types HO229.out BK241.out (by decide)) (fun _ hk => hk.2) (.int .i64 t236)) (fun _ hk => hk.2) (.int .i64 t237)) (fun _ hk => hk.2) (.int .i64 t238)) (fun _ hk => hk.2) (.string t239)) (fun _ hk => trivial)⟩, ⟨by (with_reducible repeat (first | refine blk_drewN ?_ _ | refine blk_drew ?_ | refine blk_alloc ?_ _)); refine blk_far ?_ NB235_241.out _; (with_reducible repeat (first | refine blk_drewN ?_ _ | refine blk_drew ?_ | refine blk_alloc ?_ _)); refine blk_far ?_ NB235_241.out _; (with_reducible repeat (first | refine blk_drewN ?_ _ | refine blk_drew ?_ | refine blk_alloc ?_ _)); refine blk_far ?_ NB235_241.out _; (with_reducible repeat (first | refine blk_drewN ?_ _ | refine blk_drew ?_ | refine blk_alloc ?_ _)); refine blk_far ?_ NB235_241.out _; (with_reducible repeat (first | refine blk_drewN ?_ _ | refine blk_drew ?_ | refine blk_alloc ?_ _)); exact BK235.out⟩, ⟨by (with_reducible repeat (first | refine blk_drewN ?_ _ | refine blk_drew ?_ | refine blk_alloc ?_ _)); refine blk_put (cs := #[.int .i64 t236, .int .i64 t237, .int .i64 t238, .string (⟨#[]⟩ : ByteArray)]) ?_ 3 _ rfl; (with_reducible repeat (first | refine blk_drewN ?_ _ | refine blk_drew ?_ | refine blk_alloc ?_ _)); refine blk_put (cs := #[.int .i64 t236, .int .i64 t237, .int .i64 0, .string (⟨#[]⟩ : ByteArray)]) ?_ 2 _ rfl; (with_reducible repeat (first | refine blk_drewN ?_ _ | refine blk_drew ?_ | refine blk_alloc ?_ _)); refine blk_put (cs := #[.int .i64 t236, .int .i64 0, .int .i64 0, .string (⟨#[]⟩ : ByteArray)]) ?_ 1 _ rfl; (with_reducible repeat (first | refine blk_drewN ?_ _ | refine blk_drew ?_ | refine blk_alloc ?_ _)); refine blk_put (cs := #[.int .i64 0, .int .i64 0, .int .i64 0, .string (⟨#[]⟩ : ByteArray)]) ?_ 0 _ rfl; (with_reducible repeat (first | refine blk_drewN ?_ _ | refine blk_drew ?_ | refine blk_alloc ?_ _)); exact BK241.out⟩, ⟨by repeat (first | (with_reducible first | exact HB.out | apply below_alloc | apply pw_below_drewN | apply below_drew1 | refine below_set ?_ GE235.out | refine below_set ?_ GE241.out) | exact HB.out)⟩⟩
    case rest =>
      clear HC7
      try clear c1
      try clear c2
      try clear p2
      try clear c3
      try clear c5
      try clear c14
      try clear c15
      try clear c16
      try clear c17
      try clear c17b0
      try clear c18
      try clear c19
      try clear c20
      try clear c21
      try clear c21b0
      try clear c21b1
      try clear c21b2
      try clear c22
      try clear c25
      try clear hcz12_0
      try clear hcz12_1
      try clear hcz12_2
      try clear hcz12_3
      try clear hcz16_0
      try clear hcz16_1
      try clear hcz16_2
      try clear hcz16_3
      try clear hcz19_0
      try clear hcz19_1
      try clear hcz19_2
      try clear hcz19_3
      try clear hcz20_0
      try clear hcz20_1
      try clear hcz20_2
      try clear hcz20_3
      try clear hcz23_0
      try clear hcz23_1
      try clear hcz23_2
      try clear hcz23_3
      try clear hcz24_0
      try clear hcz24_1
      try clear hcz24_2
      try clear hcz24_3
      try clear hcz26_0
      try clear hcz26_1
      try clear hcz26_2
      try clear hcz26_3
      try clear hcz27_0
      try clear hcz27_1
      try clear hcz27_2
      try clear hcz27_3
      try clear hfz12_0
      try clear hfz12_1
      try clear hfz12_2
      try clear hfz12_3
      try clear hfz16_0
      try clear hfz16_1
      try clear hfz16_2
      try clear hfz16_3
      try clear hfz19_0
      try clear hfz19_1
      try clear hfz19_2
      try clear hfz19_3
      try clear hfz20_0
      try clear hfz20_1
      try clear hfz20_2
      try clear hfz20_3
      try clear hfz23_0
      try clear hfz23_1
      try clear hfz23_2
      try clear hfz23_3
      try clear hfz24_0
      try clear hfz24_1
      try clear hfz24_2
      try clear hfz24_3
      try clear hfz26_0
      try clear hfz26_1
      try clear hfz26_2
      try clear hfz26_3
      try clear hfz27_0
      try clear hfz27_1
      try clear hfz27_2
      try clear hfz27_3
      obtain ⟨kq, x40_6, rfl, HA, HJ6, HO_3, BK235, BK241, HB⟩ := hcut
      cases kq with
      | zero => exact absurd HA.out (by simp [laws_FnBlooms.j0])
      | succ kj6 =>
        have H := HA.out
        clear HA
        simp only [laws_FnBlooms.j0] at H
        by_cases c28 : x40_6 = true
        · subst c28
          have H1 : (if (t230 == t236 && (t231 == t237 && (t232 == t238 && (t233.toList == t239.toList)))) = true then (some (t234 == t240)) else (some false)) = some r := by rw [if_pos rfl] at H; exact H
          clear H
          have H := H1
          clear H1
          by_cases c29 : (t230 == t236 && (t231 == t237 && (t232 == t238 && (t233.toList == t239.toList)))) = true
          · rw [if_pos c29] at H
            have c29b0 : (t230 == t236 && (t231 == t237 && (t232 == t238 && (t233.toList == t239.toList)))) = true := c29
            (try (have c29b1 : decide (t230 = t236 && (t231 == t237 && (t232 == t238 && (t233.toList == t239.toList)))) = true := by simpa using c29))
            (try (have c29b2 : (t230 == t236 && (t231 == t237 && (t232 == t238 && (t233.toList == t239.toList)))) = true := by simpa using c29))
            clear c29
            obtain rfl := Option.some.inj H
            have hnb30 := NB235_241.out
            have hnc30 := NB241_235.out
            have hcz31_0 : wc.cell? ⟨gb235, 0, none⟩ = some (.int .i64 t230) := (blk_cell BK235.out 0).trans rfl
            have hcz31_1 : wc.cell? ⟨gb235, 1, none⟩ = some (.int .i64 t231) := (blk_cell BK235.out 1).trans rfl
            have hcz31_2 : wc.cell? ⟨gb235, 2, none⟩ = some (.int .i64 t232) := (blk_cell BK235.out 2).trans rfl
            have hcz31_3 : wc.cell? ⟨gb235, 3, none⟩ = some (.string t233) := (blk_cell BK235.out 3).trans rfl
            have hfz31_0 := blk_frozen BK235.out 0
            have hfz31_1 := blk_frozen BK235.out 1
            have hfz31_2 := blk_frozen BK235.out 2
            have hfz31_3 := blk_frozen BK235.out 3
            have hcz32_0 : wc.cell? ⟨gb241, 0, none⟩ = some (.int .i64 t236) := (blk_cell BK241.out 0).trans rfl
            have hcz32_1 : wc.cell? ⟨gb241, 1, none⟩ = some (.int .i64 t237) := (blk_cell BK241.out 1).trans rfl
            have hcz32_2 : wc.cell? ⟨gb241, 2, none⟩ = some (.int .i64 t238) := (blk_cell BK241.out 2).trans rfl
            have hcz32_3 : wc.cell? ⟨gb241, 3, none⟩ = some (.string t239) := (blk_cell BK241.out 3).trans rfl
            have hfz32_0 := blk_frozen BK241.out 0
            have hfz32_1 := blk_frozen BK241.out 1
            have hfz32_2 := blk_frozen BK241.out 2
            have hfz32_3 := blk_frozen BK241.out 3
            go_wp2
            go_ret
            exact ⟨by first | rfl | (simp [errW_none, errW_some] <;> rfl) | (simp [*, errW_none, errW_some] <;> rfl), by repeat (first | (with_reducible first | exact HB.out | apply below_alloc | apply pw_below_drewN | apply below_drew1 | refine below_set ?_ GE235.out | refine below_set ?_ GE241.out) | exact HB.out)⟩
          · rw [if_neg c29] at H
            have c29b0 : (t230 == t236 && (t231 == t237 && (t232 == t238 && (t233.toList == t239.toList)))) = false := by simpa using c29
            (try (have c29b1 : decide (t230 = t236 && (t231 == t237 && (t232 == t238 && (t233.toList == t239.toList)))) = false := by simpa using c29))
            (try (have c29b2 : (t230 == t236 && (t231 == t237 && (t232 == t238 && (t233.toList == t239.toList)))) = false := by simpa using c29))
            (try (have c29b3 : ¬ (t230 = t236 && (t231 == t237 && (t232 == t238 && (t233.toList == t239.toList)))) := by simpa using c29))
            clear c29
            obtain rfl := Option.some.inj H
            have hnb33 := NB235_241.out
            have hnc33 := NB241_235.out
            have hcz34_0 : wc.cell? ⟨gb235, 0, none⟩ = some (.int .i64 t230) := (blk_cell BK235.out 0).trans rfl
            have hcz34_1 : wc.cell? ⟨gb235, 1, none⟩ = some (.int .i64 t231) := (blk_cell BK235.out 1).trans rfl
            have hcz34_2 : wc.cell? ⟨gb235, 2, none⟩ = some (.int .i64 t232) := (blk_cell BK235.out 2).trans rfl
            have hcz34_3 : wc.cell? ⟨gb235, 3, none⟩ = some (.string t233) := (blk_cell BK235.out 3).trans rfl
            have hfz34_0 := blk_frozen BK235.out 0
            have hfz34_1 := blk_frozen BK235.out 1
            have hfz34_2 := blk_frozen BK235.out 2
            have hfz34_3 := blk_frozen BK235.out 3
            have hcz35_0 : wc.cell? ⟨gb241, 0, none⟩ = some (.int .i64 t236) := (blk_cell BK241.out 0).trans rfl
            have hcz35_1 : wc.cell? ⟨gb241, 1, none⟩ = some (.int .i64 t237) := (blk_cell BK241.out 1).trans rfl
            have hcz35_2 : wc.cell? ⟨gb241, 2, none⟩ = some (.int .i64 t238) := (blk_cell BK241.out 2).trans rfl
            have hcz35_3 : wc.cell? ⟨gb241, 3, none⟩ = some (.string t239) := (blk_cell BK241.out 3).trans rfl
            have hfz35_0 := blk_frozen BK241.out 0
            have hfz35_1 := blk_frozen BK241.out 1
            have hfz35_2 := blk_frozen BK241.out 2
            have hfz35_3 := blk_frozen BK241.out 3
            go_wp2
            go_ret
            exact ⟨by first | rfl | (simp [errW_none, errW_some] <;> rfl) | (simp [*, errW_none, errW_some] <;> rfl), by repeat (first | (with_reducible first | exact HB.out | apply below_alloc | apply pw_below_drewN | apply below_drew1 | refine below_set ?_ GE235.out | refine below_set ?_ GE241.out) | exact HB.out)⟩
        · replace c28 := Bool.eq_false_iff.mpr c28
          subst c28
          have H1 : (laws_FnBlooms.l0 kj6 t226 t227 0 t230 t231 t232 t233) = some r := by rw [if_neg (show ¬ (false = true) by decide)] at H; exact H
          clear H
          have H := H1
          clear H1
          have H' := Aside0.mk H
          clear H
          go_wp2
          go_loopg [9] kj6 (fun kq v9 w' => ∃ (x9_2 : Int), v9 = .int .i64 x9_2 ∧ Aside0 (laws_FnBlooms.l0 kq t226 t227 x9_2 t230 t231 t232 t233 = some r) ∧ Aside0 (kq ≤ kj6) ∧ Aside0 (Kd.R Kd.string 9 w' w.heap.size (fun _ => True) (.slice Ao9 t226.length co9) t226) ∧ Aside0 (w'.heap[gb235]? = some (.cells #[.int .i64 t230, .int .i64 t231, .int .i64 t232, .string t233] 26 (0, 0))) ∧ Aside0 (w'.heap[gb241]? = some (.cells #[.int .i64 t236, .int .i64 t237, .int .i64 t238, .string t239] 26 (0, 0))) ∧ Aside0 (Below w.heap.size w w'))
          case atStart => exact ⟨(0), (by first | rfl | (simp; done) | (simp [*]; done)), H', ⟨Nat.le_refl _⟩, ⟨by (with_reducible repeat (first | apply Kd.R_alloc | apply Kd.R_drewN | apply Kd.R_drew)); exact HO_3.out⟩, ⟨by (with_reducible repeat (first | refine blk_drewN ?_ _ | refine blk_drew ?_ | refine blk_alloc ?_ _)); exact BK235.out⟩, ⟨by (with_reducible repeat (first | refine blk_drewN ?_ _ | refine blk_drew ?_ | refine blk_alloc ?_ _)); exact BK241.out⟩, ⟨by repeat (first | (with_reducible first | exact HB.out | apply below_alloc | apply pw_below_drewN | apply below_drew1 | refine below_set ?_ GE235.out | refine below_set ?_ GE241.out) | exact HB.out)⟩⟩
          case round =>
            clear H'
            try clear c1
            try clear c2
            try clear p2
            try clear c3
            try clear c5
            try clear c14
            try clear c15
            try clear c16
            try clear c17
            try clear c17b0
            try clear c18
            try clear c19
            try clear c20
            try clear c21
            try clear c21b0
            try clear c21b1
            try clear c21b2
            try clear c22
            try clear c25
            try clear c28
            try clear c29
            try clear c29b0
            try clear c29b1
            try clear c29b2
            try clear c30
            try clear c33
            try clear hcz12_0
            try clear hcz12_1
            try clear hcz12_2
            try clear hcz12_3
            try clear hcz16_0
            try clear hcz16_1
            try clear hcz16_2
            try clear hcz16_3
            try clear hcz19_0
            try clear hcz19_1
            try clear hcz19_2
            try clear hcz19_3
            try clear hcz20_0
            try clear hcz20_1
            try clear hcz20_2
            try clear hcz20_3
            try clear hcz23_0
            try clear hcz23_1
            try clear hcz23_2
            try clear hcz23_3
            try clear hcz24_0
            try clear hcz24_1
            try clear hcz24_2
            try clear hcz24_3
            try clear hcz26_0
            try clear hcz26_1
            try clear hcz26_2
            try clear hcz26_3
            try clear hcz27_0
            try clear hcz27_1
            try clear hcz27_2
            try clear hcz27_3
            try clear hcz31_0
            try clear hcz31_1
            try clear hcz31_2
            try clear hcz31_3
            try clear hcz32_0
            try clear hcz32_1
            try clear hcz32_2
            try clear hcz32_3
            try clear hcz34_0
            try clear hcz34_1
            try clear hcz34_2
            try clear hcz34_3
            try clear hcz35_0
            try clear hcz35_1
            try clear hcz35_2
            try clear hcz35_3
            try clear hfz12_0
            try clear hfz12_1
            try clear hfz12_2
            try clear hfz12_3
            try clear hfz16_0
            try clear hfz16_1
            try clear hfz16_2
            try clear hfz16_3
            try clear hfz19_0
            try clear hfz19_1
            try clear hfz19_2
            try clear hfz19_3
            try clear hfz20_0
            try clear hfz20_1
            try clear hfz20_2
            try clear hfz20_3
            try clear hfz23_0
            try clear hfz23_1
            try clear hfz23_2
            try clear hfz23_3
            try clear hfz24_0
            try clear hfz24_1
            try clear hfz24_2
            try clear hfz24_3
            try clear hfz26_0
            try clear hfz26_1
            try clear hfz26_2
            try clear hfz26_3
            try clear hfz27_0
            try clear hfz27_1
            try clear hfz27_2
            try clear hfz27_3
            try clear hfz31_0
            try clear hfz31_1
            try clear hfz31_2
            try clear hfz31_3
            try clear hfz32_0
            try clear hfz32_1
            try clear hfz32_2
            try clear hfz32_3
            try clear hfz34_0
            try clear hfz34_1
            try clear hfz34_2
            try clear hfz34_3
            try clear hfz35_0
            try clear hfz35_1
            try clear hfz35_2
            try clear hfz35_3
            try clear p2
            obtain ⟨x9_2, rfl, HA, HK2, HO_3, BK235, BK241, HB⟩ := hrel
            cases gk with
            | zero => exact absurd HA.out (by simp [laws_FnBlooms.l0])
            | succ k2 =>
              have H := HA.out
              clear HA
              simp only [laws_FnBlooms.l0] at H
              by_cases c36 : x9_2 < (t226.length : Int)
              · rw [if_pos c36] at H
                have c36b0 : decide (x9_2 < (t226.length : Int)) = true := decide_eq_true c36
                clear c36
                by_cases c37 : 0 ≤ x9_2
                · rw [if_pos c37] at H
                  have c37b0 : decide (0 ≤ x9_2) = true := decide_eq_true c37
                  clear c37
                  replace H := Option.bind_eq_some_iff.mp H
                  obtain ⟨t243, A380, H⟩ := H
                  replace H : (if t243 = true then (laws_FnBlooms.l0 k2 t226 t227 (wrap64 (x9_2 + 1)) t230 t231 t232 t233) else (some false)) = some r := H
                  have A38 := Aside0.mk A380
                  clear A380
                  by_cases c39 : t243 = true
                  · subst c39
                    have H1 : (laws_FnBlooms.l0 k2 t226 t227 (wrap64 (x9_2 + 1)) t230 t231 t232 t233) = some r := by rw [if_pos rfl] at H; exact H
                    clear H
                    have H := H1
                    clear H1
                    have H' := Aside0.mk H
                    clear H
                    try go_wp2
                    have n0_ := Aside0.mk (Kd.R_drew HO_3.out)
                    have n1_ := Aside0.mk (blk_drew BK235.out)
                    have n2_ := Aside0.mk (blk_drew BK241.out)
                    have n3_ := Aside0.mk (below_drew1 HB.out)
                    clear HO_3
                    clear BK235
                    clear BK241
                    clear HB
                    have HO_3 := n0_
                    have BK235 := n1_
                    have BK241 := n2_
                    have HB := n3_
                    clear n0_ n1_ n2_ n3_
                    have p242 : 0 ≤ (x9_2 : Int) := of_decide_eq_true (by first | (with_reducible assumption) | assumption)
                    have q242 : x9_2 < (t226.length : Int) := of_decide_eq_true (by first | (with_reducible assumption) | assumption)
                    obtain ⟨ad242, e242, hx242_0⟩ := Kd.at_string (Kd.R_reads' HO_3.out).2.2 x9_2 p242 q242
                    cases e242
                    replace p242 := eq_true p242
                    replace q242 := eq_true q242
                    refine start_ (n := 7) (S := fun w' => w'.cell? ⟨gb235, 0, none⟩ = some (.int .i64 t230) ∧ w'.cell? ⟨gb235, 1, none⟩ = some (.int .i64 t231) ∧ w'.cell? ⟨gb235, 2, none⟩ = some (.int .i64 t232) ∧ w'.cell? ⟨gb235, 3, none⟩ = some (.string t233) ∧ w'.cell? (ad242.add (x9_2).toNat) = some (.string (rdOf ByteArray.empty t226 x9_2))) (ds := []) #[false, false, false, false, false, false, false] (by kernel_rfl) rfl rfl ⟨(blk_cell BK235.out 0).trans rfl, (blk_cell BK235.out 1).trans rfl, (blk_cell BK235.out 2).trans rfl, (blk_cell BK235.out 3).trans rfl, hx242_0⟩ (fun hHeld => ?_)
                    generalize wr.drew = w40 at HO_3 BK235 BK241 HB hx242_0 hHeld ⊢
                    refine pure_ (i := 1) (N := some 56) (v := ?_) (a' := ?_) #[false, true, false, false, false, false, false] rfl rfl (by kernel_rfl) (fun _ _ _ h => h) (Or.inl ⟨by rfl, ?_⟩) ?_ ?_
                    rotate_left
                    · intro w'
                      go_simp
                      with_reducible rfl
                    rotate_left
                    · simp only [Act.put, List.setIfInBounds_toArray, List.set_cons_zero, List.set_cons_succ, i64_w, i32_w]
                      rfl
                    refine pure_ (i := 2) (N := some 57) (v := ?_) (a' := ?_) #[false, true, true, false, false, false, false] rfl rfl (by kernel_rfl) (fun _ _ _ h => h) (Or.inl ⟨by rfl, ?_⟩) ?_ ?_
                    rotate_left
                    · intro w'
                      go_simp
                      with_reducible rfl
                    rotate_left
                    · simp only [Act.put, List.setIfInBounds_toArray, List.set_cons_zero, List.set_cons_succ, i64_w, i32_w]
                      rfl
                    refine pure_ (i := 3) (N := some 58) (v := ?_) (a' := ?_) #[false, true, true, true, false, false, false] rfl rfl (by kernel_rfl) (fun _ _ _ h => h) (Or.inl ⟨by rfl, ?_⟩) ?_ ?_
                    rotate_left
                    · intro w'
                      go_simp
                      with_reducible rfl
                    rotate_left
                    · simp only [Act.put, List.setIfInBounds_toArray, List.set_cons_zero, List.set_cons_succ, i64_w, i32_w]
                      rfl
                    refine take_ (i := 0) (N := some 55) (v := ?_) (a' := ?_) #[true, true, true, true, false, false, false] rfl rfl (by kernel_rfl) (fun _ _ _ h => h) (Or.inl ⟨by rfl, ?_⟩) hHeld ?_ ?_
                    rotate_left
                    · rintro w' ⟨s0, s1, s2, s3, s4⟩
                      go_simp
                      with_reducible rfl
                    rotate_left
                    · simp only [Act.put, List.setIfInBounds_toArray, List.set_cons_zero, List.set_cons_succ, i64_w, i32_w]
                      rfl
                    refine take_ (i := 4) (N := some 59) (v := ?_) (a' := ?_) #[true, true, true, true, true, false, false] rfl rfl (by kernel_rfl) (fun _ _ _ h => h) (Or.inl ⟨by rfl, ?_⟩) hHeld ?_ ?_
                    rotate_left
                    · rintro w' ⟨s0, s1, s2, s3, s4⟩
                      go_simp
                      with_reducible rfl
                    rotate_left
                    · simp only [Act.put, List.setIfInBounds_toArray, List.set_cons_zero, List.set_cons_succ, i64_w, i32_w]
                      rfl
                    refine one_ (i := 5) (N := some 60) #[true, true, true, true, true, true, false] rfl rfl (by kernel_rfl) (by decide) (fun K hK => ?_)
                    refine goes_ Try.func12 (by kernel_rfl) rfl #[.agg #[.int .i64 t230, .int .i64 t231, .int .i64 t232, .string t233], .string (rdOf ByteArray.empty t226 x9_2)] (by rfl) rfl rfl (by (try simp only [List.map_toArray, List.map_cons, List.map_nil]); first | done | rfl | (simp only [List.length_drop, List.length_take]; rfl)) ?_
                    with_reducible refine (impl_BloomMay.calls k2 t230 t231 t232 t233 (rdOf ByteArray.empty t226 x9_2) true _ A38.out).mono ?_
                    rintro e w41 ⟨rfl, hb⟩
                    have HS4_ := (hb.cell (World.block_lt_of_cell? _ _ (hHeld.2.2.2.2))).trans (hHeld.2.2.2.2)
                    refine ⟨_, rfl, ?_⟩
                    have n0_ := Aside0.mk (Kd.R_below (by (with_reducible repeat (first | apply Kd.R_alloc | apply Kd.R_drewN | apply Kd.R_drew)); exact HO_3.out) hb)
                    have n1_ := Aside0.mk (blk_below (g := gb235) (o := .cells #[.int .i64 t230, .int .i64 t231, .int .i64 t232, .string t233] 26 (0, 0)) (by (with_reducible repeat (first | refine blk_drewN ?_ _ | refine blk_drew ?_ | refine blk_alloc ?_ _)); exact BK235.out) hb)
                    have n2_ := Aside0.mk (blk_below (g := gb241) (o := .cells #[.int .i64 t236, .int .i64 t237, .int .i64 t238, .string t239] 26 (0, 0)) (by (with_reducible repeat (first | refine blk_drewN ?_ _ | refine blk_drew ?_ | refine blk_alloc ?_ _)); exact BK241.out) hb)
                    have n3_ := Aside0.mk (below_step (by repeat (first | (with_reducible first | exact HB.out | apply below_alloc | apply pw_below_drewN | apply below_drew1 | refine below_set ?_ GE235.out | refine below_set ?_ GE241.out) | exact HB.out)) hb)
                    clear HO_3
                    clear BK235
                    clear BK241
                    clear HB
                    have HO_3 := n0_
                    have BK235 := n1_
                    have BK241 := n2_
                    have HB := n3_
                    clear n0_ n1_ n2_ n3_
                    (try clear hb)
                    (try clear hb2)
                    (try clear hk)
                    (try clear hi)
                    refine hK.out _ _ ⟨(blk_cell BK235.out 0).trans rfl, (blk_cell BK235.out 1).trans rfl, (blk_cell BK235.out 2).trans rfl, (blk_cell BK235.out 3).trans rfl, HS4_⟩ (fun hHeld => ?_)
                    clear hK K
                    refine norm_ (a' := ?_) ?_ ?_
                    rotate_left
                    · show Act.put _ (some 60) _ = _
                      simp only [Act.put, List.setIfInBounds_toArray, List.set_cons_zero, List.set_cons_succ, i64_w, i32_w]
                      rfl
                    refine pure_ (i := 6) (N := some 61) (v := ?_) (a' := ?_) #[true, true, true, true, true, true, true] rfl rfl (by kernel_rfl) (fun _ _ _ h => h) (Or.inl ⟨by rfl, ?_⟩) ?_ ?_
                    rotate_left
                    · intro w'
                      go_simp
                      with_reducible rfl
                    rotate_left
                    · simp only [Act.put, List.setIfInBounds_toArray, List.set_cons_zero, List.set_cons_succ, i64_w, i32_w]
                      rfl
                    refine done_ (by kernel_rfl) ?_
                    try go_wp2
                    go_roundg k2
                    case measure => have := HJ6.out; have := HK2.out; omega
                    case rel => exact ⟨(wrap64 (x9_2 + 1)), (by first | rfl | (simp; done) | (simp [*]; done)), H', ⟨by have := HJ6.out; have := HK2.out; omega⟩, ⟨by (with_reducible repeat (first | apply Kd.R_alloc | apply Kd.R_drewN | apply Kd.R_drew)); exact HO_3.out⟩, ⟨by (with_reducible repeat (first | refine blk_drewN ?_ _ | refine blk_drew ?_ | refine blk_alloc ?_ _)); exact BK235.out⟩, ⟨by (with_reducible repeat (first | refine blk_drewN ?_ _ | refine blk_drew ?_ | refine blk_alloc ?_ _)); exact BK241.out⟩, ⟨by repeat (first | (with_reducible first | exact HB.out | apply below_alloc | apply pw_below_drewN | apply below_drew1 | refine below_set ?_ GE235.out | refine below_set ?_ GE241.out) | exact HB.out)⟩⟩
                  · replace c39 := Bool.eq_false_iff.mpr c39
                    subst c39
                    have H1 : (some false) = some r := by rw [if_neg (show ¬ (false = true) by decide)] at H; exact H
                    clear H
                    have H := H1
                    clear H1
                    obtain rfl := Option.some.inj H
                    try go_wp2
                    have n0_ := Aside0.mk (Kd.R_drew HO_3.out)
                    have n1_ := Aside0.mk (blk_drew BK235.out)
                    have n2_ := Aside0.mk (blk_drew BK241.out)
                    have n3_ := Aside0.mk (below_drew1 HB.out)
                    clear HO_3
                    clear BK235
                    clear BK241
                    clear HB
                    have HO_3 := n0_
                    have BK235 := n1_
                    have BK241 := n2_
                    have HB := n3_
                    clear n0_ n1_ n2_ n3_
                    have p242 : 0 ≤ (x9_2 : Int) := of_decide_eq_true (by first | (with_reducible assumption) | assumption)
                    have q242 : x9_2 < (t226.length : Int) := of_decide_eq_true (by first | (with_reducible assumption) | assumption)
                    obtain ⟨ad242, e242, hx242_0⟩ := Kd.at_string (Kd.R_reads' HO_3.out).2.2 x9_2 p242 q242
                    cases e242
                    replace p242 := eq_true p242
                    replace q242 := eq_true q242
                    refine start_ (n := 7) (S := fun w' => w'.cell? ⟨gb235, 0, none⟩ = some (.int .i64 t230) ∧ w'.cell? ⟨gb235, 1, none⟩ = some (.int .i64 t231) ∧ w'.cell? ⟨gb235, 2, none⟩ = some (.int .i64 t232) ∧ w'.cell? ⟨gb235, 3, none⟩ = some (.string t233) ∧ w'.cell? (ad242.add (x9_2).toNat) = some (.string (rdOf ByteArray.empty t226 x9_2))) (ds := []) #[false, false, false, false, false, false, false] (by kernel_rfl) rfl rfl ⟨(blk_cell BK235.out 0).trans rfl, (blk_cell BK235.out 1).trans rfl, (blk_cell BK235.out 2).trans rfl, (blk_cell BK235.out 3).trans rfl, hx242_0⟩ (fun hHeld => ?_)
                    generalize wr.drew = w42 at HO_3 BK235 BK241 HB hx242_0 hHeld ⊢
                    refine pure_ (i := 1) (N := some 56) (v := ?_) (a' := ?_) #[false, true, false, false, false, false, false] rfl rfl (by kernel_rfl) (fun _ _ _ h => h) (Or.inl ⟨by rfl, ?_⟩) ?_ ?_
                    rotate_left
                    · intro w'
                      go_simp
                      with_reducible rfl
                    rotate_left
                    · simp only [Act.put, List.setIfInBounds_toArray, List.set_cons_zero, List.set_cons_succ, i64_w, i32_w]
                      rfl
                    refine pure_ (i := 2) (N := some 57) (v := ?_) (a' := ?_) #[false, true, true, false, false, false, false] rfl rfl (by kernel_rfl) (fun _ _ _ h => h) (Or.inl ⟨by rfl, ?_⟩) ?_ ?_
                    rotate_left
                    · intro w'
                      go_simp
                      with_reducible rfl
                    rotate_left
                    · simp only [Act.put, List.setIfInBounds_toArray, List.set_cons_zero, List.set_cons_succ, i64_w, i32_w]
                      rfl
                    refine pure_ (i := 3) (N := some 58) (v := ?_) (a' := ?_) #[false, true, true, true, false, false, false] rfl rfl (by kernel_rfl) (fun _ _ _ h => h) (Or.inl ⟨by rfl, ?_⟩) ?_ ?_
                    rotate_left
                    · intro w'
                      go_simp
                      with_reducible rfl
                    rotate_left
                    · simp only [Act.put, List.setIfInBounds_toArray, List.set_cons_zero, List.set_cons_succ, i64_w, i32_w]
                      rfl
                    refine take_ (i := 0) (N := some 55) (v := ?_) (a' := ?_) #[true, true, true, true, false, false, false] rfl rfl (by kernel_rfl) (fun _ _ _ h => h) (Or.inl ⟨by rfl, ?_⟩) hHeld ?_ ?_
                    rotate_left
                    · rintro w' ⟨s0, s1, s2, s3, s4⟩
                      go_simp
                      with_reducible rfl
                    rotate_left
                    · simp only [Act.put, List.setIfInBounds_toArray, List.set_cons_zero, List.set_cons_succ, i64_w, i32_w]
                      rfl
                    refine take_ (i := 4) (N := some 59) (v := ?_) (a' := ?_) #[true, true, true, true, true, false, false] rfl rfl (by kernel_rfl) (fun _ _ _ h => h) (Or.inl ⟨by rfl, ?_⟩) hHeld ?_ ?_
                    rotate_left
                    · rintro w' ⟨s0, s1, s2, s3, s4⟩
                      go_simp
                      with_reducible rfl
                    rotate_left
                    · simp only [Act.put, List.setIfInBounds_toArray, List.set_cons_zero, List.set_cons_succ, i64_w, i32_w]
                      rfl
                    refine one_ (i := 5) (N := some 60) #[true, true, true, true, true, true, false] rfl rfl (by kernel_rfl) (by decide) (fun K hK => ?_)
                    refine goes_ Try.func12 (by kernel_rfl) rfl #[.agg #[.int .i64 t230, .int .i64 t231, .int .i64 t232, .string t233], .string (rdOf ByteArray.empty t226 x9_2)] (by rfl) rfl rfl (by (try simp only [List.map_toArray, List.map_cons, List.map_nil]); first | done | rfl | (simp only [List.length_drop, List.length_take]; rfl)) ?_
                    with_reducible refine (impl_BloomMay.calls k2 t230 t231 t232 t233 (rdOf ByteArray.empty t226 x9_2) false _ A38.out).mono ?_
                    rintro e w43 ⟨rfl, hb⟩
                    have HS4_ := (hb.cell (World.block_lt_of_cell? _ _ (hHeld.2.2.2.2))).trans (hHeld.2.2.2.2)
                    refine ⟨_, rfl, ?_⟩
                    have n0_ := Aside0.mk (Kd.R_below (by (with_reducible repeat (first | apply Kd.R_alloc | apply Kd.R_drewN | apply Kd.R_drew)); exact HO_3.out) hb)
                    have n1_ := Aside0.mk (blk_below (g := gb235) (o := .cells #[.int .i64 t230, .int .i64 t231, .int .i64 t232, .string t233] 26 (0, 0)) (by (with_reducible repeat (first | refine blk_drewN ?_ _ | refine blk_drew ?_ | refine blk_alloc ?_ _)); exact BK235.out) hb)
                    have n2_ := Aside0.mk (blk_below (g := gb241) (o := .cells #[.int .i64 t236, .int .i64 t237, .int .i64 t238, .string t239] 26 (0, 0)) (by (with_reducible repeat (first | refine blk_drewN ?_ _ | refine blk_drew ?_ | refine blk_alloc ?_ _)); exact BK241.out) hb)
                    have n3_ := Aside0.mk (below_step (by repeat (first | (with_reducible first | exact HB.out | apply below_alloc | apply pw_below_drewN | apply below_drew1 | refine below_set ?_ GE235.out | refine below_set ?_ GE241.out) | exact HB.out)) hb)
                    clear HO_3
                    clear BK235
                    clear BK241
                    clear HB
                    have HO_3 := n0_
                    have BK235 := n1_
                    have BK241 := n2_
                    have HB := n3_
                    clear n0_ n1_ n2_ n3_
                    (try clear hb)
                    (try clear hb2)
                    (try clear hk)
                    (try clear hi)
                    refine hK.out _ _ ⟨(blk_cell BK235.out 0).trans rfl, (blk_cell BK235.out 1).trans rfl, (blk_cell BK235.out 2).trans rfl, (blk_cell BK235.out 3).trans rfl, HS4_⟩ (fun hHeld => ?_)
                    clear hK K
                    refine norm_ (a' := ?_) ?_ ?_
                    rotate_left
                    · show Act.put _ (some 60) _ = _
                      simp only [Act.put, List.setIfInBounds_toArray, List.set_cons_zero, List.set_cons_succ, i64_w, i32_w]
                      rfl
                    refine pure_ (i := 6) (N := some 61) (v := ?_) (a' := ?_) #[true, true, true, true, true, true, true] rfl rfl (by kernel_rfl) (fun _ _ _ h => h) (Or.inl ⟨by rfl, ?_⟩) ?_ ?_
                    rotate_left
                    · intro w'
                      go_simp
                      with_reducible rfl
                    rotate_left
                    · simp only [Act.put, List.setIfInBounds_toArray, List.set_cons_zero, List.set_cons_succ, i64_w, i32_w]
                      rfl
                    refine done_ (by kernel_rfl) ?_
                    try go_wp2
                    go_ret
                    exact ⟨by first | rfl | (simp [errW_none, errW_some] <;> rfl) | (simp [*, errW_none, errW_some] <;> rfl), by repeat (first | (with_reducible first | exact HB.out | apply below_alloc | apply pw_below_drewN | apply below_drew1 | refine below_set ?_ GE235.out | refine below_set ?_ GE241.out) | exact HB.out)⟩
                · rw [if_neg c37] at H
                  exact absurd H (by simp)
              · rw [if_neg c36] at H
                have c36b0 : decide (x9_2 < (t226.length : Int)) = false := decide_eq_false c36
                clear c36
                replace H := Option.bind_eq_some_iff.mp H
                obtain ⟨t244, A440, H⟩ := H
                replace H : (if t244 = true then (some (decide ((wrap64 ((t233.size : Int) * 8)) ≥ (wrap64 ((t226.length : Int) * t227))))) else (some false)) = some r := H
                have A44 := Aside0.mk A440
                clear A440
                by_cases c45 : t244 = true
                · subst c45
                  have H1 : (some (decide ((wrap64 ((t233.size : Int) * 8)) ≥ (wrap64 ((t226.length : Int) * t227))))) = some r := by rw [if_pos rfl] at H; exact H
                  clear H
                  have H := H1
                  clear H1
                  obtain rfl := Option.some.inj H
                  have hnb46 := NB235_241.out
                  have hnc46 := NB241_235.out
                  have hcz47_0 : wr.cell? ⟨gb235, 0, none⟩ = some (.int .i64 t230) := (blk_cell BK235.out 0).trans rfl
                  have hcz47_1 : wr.cell? ⟨gb235, 1, none⟩ = some (.int .i64 t231) := (blk_cell BK235.out 1).trans rfl
                  have hcz47_2 : wr.cell? ⟨gb235, 2, none⟩ = some (.int .i64 t232) := (blk_cell BK235.out 2).trans rfl
                  have hcz47_3 : wr.cell? ⟨gb235, 3, none⟩ = some (.string t233) := (blk_cell BK235.out 3).trans rfl
                  have hfz47_0 := blk_frozen BK235.out 0
                  have hfz47_1 := blk_frozen BK235.out 1
                  have hfz47_2 := blk_frozen BK235.out 2
                  have hfz47_3 := blk_frozen BK235.out 3
                  go_wp2_with (first | ((with_reducible refine gate_callee (f := 21) rfl ?_); refine goesL_ (some 63) rfl rfl Try.func21 (by kernel_rfl) rfl #[.agg #[.int .i64 t230, .int .i64 t231, .int .i64 t232, .string t233]] rfl (by (try simp only [List.map_toArray, List.map_cons, List.map_nil]); first | done | rfl | (simp only [List.length_drop, List.length_take]; rfl)) ?_; (with_reducible refine (impl_FilterOk.calls k2 t230 t231 t232 t233 true _ A44.out).mono ?_); rintro e w48 ⟨rfl, hb⟩; refine ⟨_, rfl, ?_⟩; have n0_ := Aside0.mk (Kd.R_below (by (with_reducible repeat (first | apply Kd.R_alloc | apply Kd.R_drewN | apply Kd.R_drew)); exact HO_3.out) hb); have n1_ := Aside0.mk (blk_below (g := gb235) (o := .cells #[.int .i64 t230, .int .i64 t231, .int .i64 t232, .string t233] 26 (0, 0)) (by (with_reducible repeat (first | refine blk_drewN ?_ _ | refine blk_drew ?_ | refine blk_alloc ?_ _)); exact BK235.out) hb); have n2_ := Aside0.mk (blk_below (g := gb241) (o := .cells #[.int .i64 t236, .int .i64 t237, .int .i64 t238, .string t239] 26 (0, 0)) (by (with_reducible repeat (first | refine blk_drewN ?_ _ | refine blk_drew ?_ | refine blk_alloc ?_ _)); exact BK241.out) hb); have n3_ := Aside0.mk (below_step (by repeat (first | (with_reducible first | exact HB.out | apply below_alloc | apply pw_below_drewN | apply below_drew1 | refine below_set ?_ GE235.out | refine below_set ?_ GE241.out) | exact HB.out)) hb); clear HO_3; clear BK235; clear BK241; clear HB; have HO_3 := n0_; have BK235 := n1_; have BK241 := n2_; have HB := n3_; clear n0_ n1_ n2_ n3_; (try clear hb); (try clear hb2); (try clear hk); (try clear hi); have hcz49_0 : w48.cell? ⟨gb235, 0, none⟩ = some (.int .i64 t230) := (blk_cell BK235.out 0).trans rfl; have hcz49_1 : w48.cell? ⟨gb235, 1, none⟩ = some (.int .i64 t231) := (blk_cell BK235.out 1).trans rfl; have hcz49_2 : w48.cell? ⟨gb235, 2, none⟩ = some (.int .i64 t232) := (blk_cell BK235.out 2).trans rfl; have hcz49_3 : w48.cell? ⟨gb235, 3, none⟩ = some (.string t233) := (blk_cell BK235.out 3).trans rfl; have hfz49_0 := blk_frozen BK235.out 0; have hfz49_1 := blk_frozen BK235.out 1; have hfz49_2 := blk_frozen BK235.out 2; have hfz49_3 := blk_frozen BK235.out 3))
                  go_ret
                  exact ⟨by first | rfl | (simp [errW_none, errW_some] <;> rfl) | (simp [*, errW_none, errW_some] <;> rfl), by repeat (first | (with_reducible first | exact HB.out | apply below_alloc | apply pw_below_drewN | apply below_drew1 | refine below_set ?_ GE235.out | refine below_set ?_ GE241.out) | exact HB.out)⟩
                · replace c45 := Bool.eq_false_iff.mpr c45
                  subst c45
                  have H1 : (some false) = some r := by rw [if_neg (show ¬ (false = true) by decide)] at H; exact H
                  clear H
                  have H := H1
                  clear H1
                  obtain rfl := Option.some.inj H
                  have hnb50 := NB235_241.out
                  have hnc50 := NB241_235.out
                  have hcz51_0 : wr.cell? ⟨gb235, 0, none⟩ = some (.int .i64 t230) := (blk_cell BK235.out 0).trans rfl
                  have hcz51_1 : wr.cell? ⟨gb235, 1, none⟩ = some (.int .i64 t231) := (blk_cell BK235.out 1).trans rfl
                  have hcz51_2 : wr.cell? ⟨gb235, 2, none⟩ = some (.int .i64 t232) := (blk_cell BK235.out 2).trans rfl
                  have hcz51_3 : wr.cell? ⟨gb235, 3, none⟩ = some (.string t233) := (blk_cell BK235.out 3).trans rfl
                  have hfz51_0 := blk_frozen BK235.out 0
                  have hfz51_1 := blk_frozen BK235.out 1
                  have hfz51_2 := blk_frozen BK235.out 2
                  have hfz51_3 := blk_frozen BK235.out 3
                  go_wp2_with (first | ((with_reducible refine gate_callee (f := 21) rfl ?_); refine goesL_ (some 63) rfl rfl Try.func21 (by kernel_rfl) rfl #[.agg #[.int .i64 t230, .int .i64 t231, .int .i64 t232, .string t233]] rfl (by (try simp only [List.map_toArray, List.map_cons, List.map_nil]); first | done | rfl | (simp only [List.length_drop, List.length_take]; rfl)) ?_; (with_reducible refine (impl_FilterOk.calls k2 t230 t231 t232 t233 false _ A44.out).mono ?_); rintro e w52 ⟨rfl, hb⟩; refine ⟨_, rfl, ?_⟩; have n0_ := Aside0.mk (Kd.R_below (by (with_reducible repeat (first | apply Kd.R_alloc | apply Kd.R_drewN | apply Kd.R_drew)); exact HO_3.out) hb); have n1_ := Aside0.mk (blk_below (g := gb235) (o := .cells #[.int .i64 t230, .int .i64 t231, .int .i64 t232, .string t233] 26 (0, 0)) (by (with_reducible repeat (first | refine blk_drewN ?_ _ | refine blk_drew ?_ | refine blk_alloc ?_ _)); exact BK235.out) hb); have n2_ := Aside0.mk (blk_below (g := gb241) (o := .cells #[.int .i64 t236, .int .i64 t237, .int .i64 t238, .string t239] 26 (0, 0)) (by (with_reducible repeat (first | refine blk_drewN ?_ _ | refine blk_drew ?_ | refine blk_alloc ?_ _)); exact BK241.out) hb); have n3_ := Aside0.mk (below_step (by repeat (first | (with_reducible first | exact HB.out | apply below_alloc | apply pw_below_drewN | apply below_drew1 | refine below_set ?_ GE235.out | refine below_set ?_ GE241.out) | exact HB.out)) hb); clear HO_3; clear BK235; clear BK241; clear HB; have HO_3 := n0_; have BK235 := n1_; have BK241 := n2_; have HB := n3_; clear n0_ n1_ n2_ n3_; (try clear hb); (try clear hb2); (try clear hk); (try clear hi)))
                  go_ret
                  exact ⟨by first | rfl | (simp [errW_none, errW_some] <;> rfl) | (simp [*, errW_none, errW_some] <;> rfl), by repeat (first | (with_reducible first | exact HB.out | apply below_alloc | apply pw_below_drewN | apply below_drew1 | refine below_set ?_ GE235.out | refine below_set ?_ GE241.out) | exact HB.out)⟩

/-- THE ONE PURE STATEMENT of laws_FnBlooms: yours. -/
def laws_FnBlooms.Pure : Prop := ∀ (l0 : List Int), l0.length ≤ maxLen → l0.length * 1 ≤ 140737488351232 → (∀ x ∈ l0, (Lit.int .u8 x).wf = true) → ∃ k, laws_FnBlooms.f k l0 = some true
theorem laws_FnBlooms.walk (P : laws_FnBlooms.Pure) (a0 : Option Addr) (len0 cap0 : Nat) (z0 : List Int) (w : World) (w0 : (a0 = none ∧ len0 = 0 ∧ cap0 = 0 ∧ z0 = []) ∨ ∃ x, a0 = some x ∧ len0 ≤ cap0 ∧ cap0 ≤ maxLen ∧ z0.length = cap0 ∧ (∀ i, i < z0.length → w.cell? (x.add i) = some (.int .u8 (z0.getD i 0))) ∧ ∀ n ∈ z0, (Lit.int .u8 n).wf = true) (y0 : len0 * 1 ≤ 140737488351232) :
    Calls Try.prog 5 #[.slice a0 len0 cap0] w fun e w' => e = .returned (.bool true) ∧ Below w.heap.size w w' := by
  obtain ⟨l0, rfl, hr0, hm0, hw0, hc0⟩ := ReadsInt.ofRowC w0
  obtain ⟨k, h⟩ := P l0 hm0 y0 hw0
  refine (laws_FnBlooms.calls k _ _ l0 true w (Kd.C_of_reads (d := (0 : Int)) (h1 := fun _ => rfl) hr0) hc0 h).mono ?_
  rintro e w' ⟨rfl, hd⟩
  exact ⟨rfl, hd⟩

end Go.Proofs.Ytfcjacncllmapad.QFnBlooms
