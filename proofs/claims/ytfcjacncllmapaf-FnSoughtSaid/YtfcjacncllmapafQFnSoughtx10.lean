-- This session's own text: written by a program of this session, begun from the kit's printer.
import Derived.Test.YtfcjacncllmapafQFnSoughtx0
import Derived.Test.YtfcjacncllmapafQFnSoughtx2
import Derived.Test.YtfcjacncllmapafQFnSoughtx5
import Derived.Test.YtfcjacncllmapafQFnSoughtx6
import Derived.Test.YtfcjacncllmapafQFnSoughtx7
import Derived.Test.YtfcjacncllmapafQFnSoughtx9
namespace Go.Proofs.Ytfcjacncllmapaf.QFnSought
open Go.RowKit Go.Proofs.YtfcjacncllmapafW.PrintWords Go.Proofs.YtfcjacncllmapafW.PrintLast Go.Proofs.YtfcjacncllmapafW.PrintMore
attribute [local go_sem] max2_int min2_int max_two min_two max_three min_three max_four min_four   -- for this text's walks alone
set_option linter.unusedVariables false
set_option linter.unusedSimpArgs false

/-! ### laws_FnSought: function 8 -/
mutual
def laws_FnSought.j0 : Nat → List (S52) → Int → Bool → ByteArray → Int → Int → Option (Bool)
 | 0, _, _, _, _, _, _ => none
 | k + 1, x3, x5, x25, x323000, x323001, x323002 => if x25 = true then ((spec_SeekEntry.f k x3 x323000 x323001 x323002).bind fun t325 => (if x5 = t325 then ((impl_EntriesOk.f k x3).bind fun t326 => (if t326 = true then ((impl_KeyOk.f x323000 x323001 x323002).bind fun t327 => (some (!t327))) else (some true))) else (some false))) else (laws_FnSought.l0 k x3 x5 0 x323000 x323001 x323002)
def laws_FnSought.l0 : Nat → List (S52) → Int → Int → ByteArray → Int → Int → Option (Bool)
 | 0, _, _, _, _, _, _ => none
 | k + 1, x3, x5, x6, x323000, x323001, x323002 => if x6 < (x3.length : Int) then (if 0 ≤ x6 then ((impl_KeyCmp.f k ((rd_T52 x3 x6).f0.f0) ((rd_T52 x3 x6).f0.f1) ((rd_T52 x3 x6).f0.f2) x323000 x323001 x323002).bind fun t329 => (if ((decide (t329 < 0)) != (decide (x6 < x5))) = true then (some false) else (laws_FnSought.l0 k x3 x5 (wrap64 (x6 + 1)) x323000 x323001 x323002))) else (none)) else (some (decide (x5 ≤ (x3.length : Int))))
end
def laws_FnSought.f (k : Nat) (l0 : List Int) : Option (Bool) := (laws_big.f l0).bind fun t315 => (if t315 = true then (some true) else ((spec_DrawSeekEntry.f k l0).bind fun bt316 => ((impl_SeekEntry.f k bt316.1 bt316.2.1 bt316.2.2.1 bt316.2.2.2).bind fun t323 => ((spec_SeekEntry.f k bt316.1 bt316.2.1 bt316.2.2.1 bt316.2.2.2).bind fun t324 => (if t323 = t324 then (laws_FnSought.j0 k bt316.1 t323 (decide (t323 < 0)) bt316.2.1 bt316.2.2.1 bt316.2.2.2) else (laws_FnSought.j0 k bt316.1 t323 true bt316.2.1 bt316.2.2.1 bt316.2.2.2))))))
set_option maxRecDepth 100000 in
theorem laws_FnSought.mono_l : ∀ k, (∀ y0 y1 y2 y3 y4 y5, LeO (laws_FnSought.j0 k y0 y1 y2 y3 y4 y5) (laws_FnSought.j0 (k + 1) y0 y1 y2 y3 y4 y5)) ∧ (∀ y0 y1 y2 y3 y4 y5, LeO (laws_FnSought.l0 k y0 y1 y2 y3 y4 y5) (laws_FnSought.l0 (k + 1) y0 y1 y2 y3 y4 y5))
 | 0 => ⟨fun _ _ _ _ _ _ r h => by simp [laws_FnSought.j0] at h, fun _ _ _ _ _ _ r h => by simp [laws_FnSought.l0] at h⟩
 | k + 1 => by
  obtain ⟨ih0, ih1⟩ := laws_FnSought.mono_l k
  refine ⟨?_, ?_⟩
  ·intro y0 y1 y2 y3 y4 y5
   unfold laws_FnSought.j0
   repeat' first
   | (with_reducible exact ih0 _ _ _ _ _ _)
   | (with_reducible exact ih1 _ _ _ _ _ _)
   | (with_reducible exact impl_EntriesOk.mono _ _)
   | (with_reducible exact impl_KeyCmp.mono _ _ _ _ _ _ _)
   | (with_reducible exact impl_SeekEntry.mono _ _ _ _ _)
   | (with_reducible exact spec_DrawSeekEntry.mono _ _)
   | (with_reducible exact spec_SeekEntry.mono _ _ _ _ _)
   | (with_reducible exact LeO.refl _)
   | (with_reducible exact LeO.none _)
   | (with_reducible refine LeO.ite ?_ ?_)
   | (with_reducible refine LeO.bind ?_ (fun _ => ?_))
   | exact ih0 _ _ _ _ _ _
   | exact ih1 _ _ _ _ _ _
   | exact impl_EntriesOk.mono _ _
   | exact impl_KeyCmp.mono _ _ _ _ _ _ _
   | exact impl_SeekEntry.mono _ _ _ _ _
   | exact spec_DrawSeekEntry.mono _ _
   | exact spec_SeekEntry.mono _ _ _ _ _
   | exact LeO.none _
   | refine LeO.ite ?_ ?_
   | refine LeO.bind ?_ (fun _ => ?_)
  ·intro y0 y1 y2 y3 y4 y5
   unfold laws_FnSought.l0
   repeat' first
   | (with_reducible exact ih0 _ _ _ _ _ _)
   | (with_reducible exact ih1 _ _ _ _ _ _)
   | (with_reducible exact impl_EntriesOk.mono _ _)
   | (with_reducible exact impl_KeyCmp.mono _ _ _ _ _ _ _)
   | (with_reducible exact impl_SeekEntry.mono _ _ _ _ _)
   | (with_reducible exact spec_DrawSeekEntry.mono _ _)
   | (with_reducible exact spec_SeekEntry.mono _ _ _ _ _)
   | (with_reducible exact LeO.refl _)
   | (with_reducible exact LeO.none _)
   | (with_reducible refine LeO.ite ?_ ?_)
   | (with_reducible refine LeO.bind ?_ (fun _ => ?_))
   | exact ih0 _ _ _ _ _ _
   | exact ih1 _ _ _ _ _ _
   | exact impl_EntriesOk.mono _ _
   | exact impl_KeyCmp.mono _ _ _ _ _ _ _
   | exact impl_SeekEntry.mono _ _ _ _ _
   | exact spec_DrawSeekEntry.mono _ _
   | exact spec_SeekEntry.mono _ _ _ _ _
   | exact LeO.none _
   | refine LeO.ite ?_ ?_
   | refine LeO.bind ?_ (fun _ => ?_)
theorem laws_FnSought.mono : ∀ a0 k, LeO (laws_FnSought.f k a0) (laws_FnSought.f (k + 1) a0) := by
 intro a0 k
 obtain ⟨ih0, ih1⟩ := laws_FnSought.mono_l k
 unfold laws_FnSought.f
 repeat' first
   | (with_reducible exact ih0 _ _ _ _ _ _)
   | (with_reducible exact ih1 _ _ _ _ _ _)
   | (with_reducible exact impl_EntriesOk.mono _ _)
   | (with_reducible exact impl_KeyCmp.mono _ _ _ _ _ _ _)
   | (with_reducible exact impl_SeekEntry.mono _ _ _ _ _)
   | (with_reducible exact spec_DrawSeekEntry.mono _ _)
   | (with_reducible exact spec_SeekEntry.mono _ _ _ _ _)
   | (with_reducible exact LeO.refl _)
   | (with_reducible exact LeO.none _)
   | (with_reducible refine LeO.ite ?_ ?_)
   | (with_reducible refine LeO.bind ?_ (fun _ => ?_))
   | exact ih0 _ _ _ _ _ _
   | exact ih1 _ _ _ _ _ _
   | exact impl_EntriesOk.mono _ _
   | exact impl_KeyCmp.mono _ _ _ _ _ _ _
   | exact impl_SeekEntry.mono _ _ _ _ _
   | exact spec_DrawSeekEntry.mono _ _
   | exact spec_SeekEntry.mono _ _ _ _ _
   | exact LeO.none _
   | refine LeO.ite ?_ ?_
   | refine LeO.bind ?_ (fun _ => ?_)
def laws_FnSought.T10 : Bool × List (List Nat × List Nat) := (true, [([], []), ([], []), ([0, 1], [0, 1]), ([2], [2]), ([3], [3]), ([], []), ([4, 5], [4, 5]), ([6], [6]), ([], []), ([], []), ([8, 9], [8, 9]), ([7, 10], [7, 10])])
def laws_FnSought.B10 : List Nat := [0, 0, 3, 7, 15, 0, 63, 127, 0, 0, 768, 2047]
theorem laws_FnSought.tab10 : rtab .any (opsOf Try.f8 10) = laws_FnSought.T10 := by kernel_rfl
theorem laws_FnSought.bits10 : waitsOk laws_FnSought.T10.2 laws_FnSought.B10 = true := by kernel_rfl
set_option maxHeartbeats 8000000 in
set_option maxRecDepth 100000 in
theorem laws_FnSought.calls (k : Nat) (A0 : Option Addr) (c0 : Nat) (l0 : List Int) (r : Bool) (w : World) (hr0 : Kd.C (Kd.int .u8) w A0 l0.length l0) (hc0 : l0.length ≤ c0) (h : laws_FnSought.f k l0 = some r) :
  Calls Try.prog 8 #[.slice A0 l0.length c0] w fun e w' => e = .returned (.bool r) ∧ Below w.heap.size w w' := by
 have hu44 := Try.underlying44
 have HR0 := Aside0.mk hr0
 have HC0 := Aside0.mk hc0
 clear hr0 hc0
 have HB := Aside0.mk (Below.refl w.heap.size w)
 have H : ((laws_big.f l0).bind fun t315 => (if t315 = true then (some true) else ((spec_DrawSeekEntry.f k l0).bind fun bt316 => ((impl_SeekEntry.f k bt316.1 bt316.2.1 bt316.2.2.1 bt316.2.2.2).bind fun t323 => ((spec_SeekEntry.f k bt316.1 bt316.2.1 bt316.2.2.1 bt316.2.2.2).bind fun t324 => (if t323 = t324 then (laws_FnSought.j0 k bt316.1 t323 (decide (t323 < 0)) bt316.2.1 bt316.2.2.1 bt316.2.2.2) else (laws_FnSought.j0 k bt316.1 t323 true bt316.2.1 bt316.2.2.1 bt316.2.2.2))))))) = some r := h
 clear h
 replace H := Option.bind_eq_some_iff.mp H
 obtain ⟨t315, A20, H⟩ := H
 replace H : (if t315 = true then (some true) else ((spec_DrawSeekEntry.f k l0).bind fun bt316 => ((impl_SeekEntry.f k bt316.1 bt316.2.1 bt316.2.2.1 bt316.2.2.2).bind fun t323 => ((spec_SeekEntry.f k bt316.1 bt316.2.1 bt316.2.2.1 bt316.2.2.2).bind fun t324 => (if t323 = t324 then (laws_FnSought.j0 k bt316.1 t323 (decide (t323 < 0)) bt316.2.1 bt316.2.2.1 bt316.2.2.2) else (laws_FnSought.j0 k bt316.1 t323 true bt316.2.1 bt316.2.2.1 bt316.2.2.2)))))) = some r := H
 have A2 := Aside0.mk A20
 clear A20
 by_cases c3 : t315 = true
 ·subst c3
  have H1 : (some true) = some r := by rw [if_pos rfl] at H; exact H
  clear H
  have H := H1
  clear H1
  obtain rfl := Option.some.inj H
  go_enter Try.func8, Try.ntmps8
  go_wp2_with (first | ((with_reducible refine gate_callee (f := 19) rfl ?_); refine goesL_ (some 8) rfl rfl Try.func19 (by kernel_rfl) rfl #[.slice A0 l0.length c0] rfl (by (try simp only [qm_, qn_, qo_]); first | done | rfl) ?_; (with_reducible refine (laws_big.calls _ _ l0 true _ ?side1 ?side2 A2.out).mono ?_); (case side1 => repeat (first | exact HR0.out | (with_reducible refine Kd.C_alloc ?_ _) | (with_reducible refine Kd.C_drewN ?_ _) | (with_reducible refine Kd.C_drew ?_))); (case side2 => exact HC0.out); rintro e w' ⟨rfl, ⟨nd, rfl⟩⟩; refine ⟨_, rfl, ?_⟩))
  go_ret
  exact ⟨by first | rfl | (simp [errW_none, errW_some] <;> rfl) | (simp [*, errW_none, errW_some] <;> rfl), by repeat (first | (with_reducible first | exact HB.out | apply below_alloc | apply pw_below_drewN | apply below_drew1) | exact HB.out)⟩
 ·replace c3 := Bool.eq_false_iff.mpr c3
  subst c3
  have H1 : ((spec_DrawSeekEntry.f k l0).bind fun bt316 => ((impl_SeekEntry.f k bt316.1 bt316.2.1 bt316.2.2.1 bt316.2.2.2).bind fun t323 => ((spec_SeekEntry.f k bt316.1 bt316.2.1 bt316.2.2.1 bt316.2.2.2).bind fun t324 => (if t323 = t324 then (laws_FnSought.j0 k bt316.1 t323 (decide (t323 < 0)) bt316.2.1 bt316.2.2.1 bt316.2.2.2) else (laws_FnSought.j0 k bt316.1 t323 true bt316.2.1 bt316.2.2.1 bt316.2.2.2))))) = some r := by rw [if_neg (show ¬ (false = true) by decide)] at H; exact H
  clear H
  have H := H1
  clear H1
  replace H := Option.bind_eq_some_iff.mp H
  obtain ⟨⟨t316, t319, t320, t321⟩, A40, H⟩ := H
  replace H : ((impl_SeekEntry.f k t316 t319 t320 t321).bind fun t323 => ((spec_SeekEntry.f k t316 t319 t320 t321).bind fun t324 => (if t323 = t324 then (laws_FnSought.j0 k t316 t323 (decide (t323 < 0)) t319 t320 t321) else (laws_FnSought.j0 k t316 t323 true t319 t320 t321)))) = some r := H
  have A4 := Aside0.mk A40
  clear A40
  replace H := Option.bind_eq_some_iff.mp H
  obtain ⟨t323, A50, H⟩ := H
  replace H : ((spec_SeekEntry.f k t316 t319 t320 t321).bind fun t324 => (if t323 = t324 then (laws_FnSought.j0 k t316 t323 (decide (t323 < 0)) t319 t320 t321) else (laws_FnSought.j0 k t316 t323 true t319 t320 t321))) = some r := H
  have A5 := Aside0.mk A50
  clear A50
  have HC6 := Aside0.mk H
  clear H
  go_enter Try.func8, Try.ntmps8
  go_upto_region 5 with (first | ((with_reducible refine gate_callee (f := 19) rfl ?_); refine goesL_ (some 8) rfl rfl Try.func19 (by kernel_rfl) rfl #[.slice A0 l0.length c0] rfl (by (try simp only [qm_, qn_, qo_]); first | done | rfl) ?_; (with_reducible refine (laws_big.calls _ _ l0 false _ ?side1 ?side2 A2.out).mono ?_); (case side1 => repeat (first | exact HR0.out | (with_reducible refine Kd.C_alloc ?_ _) | (with_reducible refine Kd.C_drewN ?_ _) | (with_reducible refine Kd.C_drew ?_))); (case side2 => exact HC0.out); rintro e w' ⟨rfl, ⟨nd, rfl⟩⟩; refine ⟨_, rfl, ?_⟩) | ((with_reducible refine gate_callee (f := 26) rfl ?_); refine goesL_ (some 11) rfl rfl Try.func26 (by kernel_rfl) rfl #[.slice A0 l0.length c0] rfl (by (try simp only [qm_, qn_, qo_]); first | done | rfl) ?_; (with_reducible refine (spec_DrawSeekEntry.calls k _ _ l0 t316 t319 t320 t321 _ ?side1 ?side2 A4.out).mono ?_); (case side1 => repeat (first | exact HR0.out | (with_reducible refine Kd.C_alloc ?_ _) | (with_reducible refine Kd.C_drewN ?_ _) | (with_reducible refine Kd.C_drew ?_))); (case side2 => exact HC0.out); rintro e w7 ⟨v317, rfl, ho0, hb⟩; refine ⟨_, rfl, ?_⟩; have n0_ := Aside0.mk (Kd.R_lower ho0 (below_size (by repeat (first | (with_reducible first | exact HB.out | apply below_alloc | apply pw_below_drewN | apply below_drew1) | exact HB.out)))); have n1_ := Aside0.mk (below_step (by repeat (first | (with_reducible first | exact HB.out | apply below_alloc | apply pw_below_drewN | apply below_drew1) | exact HB.out)) hb); clear HB; have HO318 := n0_; have HB := n1_; clear n0_ n1_; (try clear hb); (try clear hb2); (try clear hk); (try clear hi); (try clear ho0)) | ((with_reducible refine gate_dst (N := 4) rfl ?_); refine box_event ?hg (N := 4) ?hd (cs := #[.string (⟨#[]⟩ : ByteArray), .int .i64 0, .int .i64 0]) (t := 44) ?hr ?_; (case hd => rfl); (case hg => rfl); (case hr => first | (go_simp; done) | (go_simp; rfl)); intro gb322 hg w8 hbox hb; have n0_ := Aside0.mk (Kd.R_below (by (with_reducible repeat (first | apply Kd.R_alloc | apply Kd.R_drewN | apply Kd.R_drew)); exact HO318.out) hb); have n1_ := Aside0.mk (below_step (by repeat (first | (with_reducible first | exact HB.out | apply below_alloc | apply pw_below_drewN | apply below_drew1) | exact HB.out)) hb); have n2_ := Aside0.mk (hbox); have n3_ := Aside0.mk ((by rw [hg]; exact (below_size (by repeat (first | (with_reducible first | exact HB.out | apply below_alloc | apply pw_below_drewN | apply below_drew1) | exact HB.out))) : w.heap.size ≤ gb322)); have n4_ := Aside0.mk ((by rw [hg]; exact (below_size (by repeat (first | (with_reducible first | exact HB.out | apply below_alloc | apply pw_below_drewN | apply below_drew1) | exact HB.out))) : w.heap.size ≤ gb322)); clear HO318; clear HB; have HO318 := n0_; have HB := n1_; have BK322 := n2_; have GW322 := n3_; have GE322 := n4_; clear n0_ n1_ n2_ n3_ n4_; clear hb hbox hg; have hcz9_0 : w8.cell? ⟨gb322, 0, none⟩ = some (.string (⟨#[]⟩ : ByteArray)) := (blk_cell BK322.out 0).trans rfl; have hcz9_1 : w8.cell? ⟨gb322, 1, none⟩ = some (.int .i64 0) := (blk_cell BK322.out 1).trans rfl; have hcz9_2 : w8.cell? ⟨gb322, 2, none⟩ = some (.int .i64 0) := (blk_cell BK322.out 2).trans rfl; have hfz9_0 := blk_frozen BK322.out 0; have hfz9_1 := blk_frozen BK322.out 1; have hfz9_2 := blk_frozen BK322.out 2; obtain ⟨Ao10, co10, eo10⟩ := Kd.R_slice HO318.out; subst eo10) | ((with_reducible refine gate_callee (f := 27) rfl ?_); refine goesL_ (some 16) rfl rfl Try.func27 (by kernel_rfl) rfl #[.slice Ao10 t316.length co10, .agg #[.string t319, .int .i64 t320, .int .i64 t321]] rfl (by (try simp only [qm_, qn_, qo_]); first | done | rfl) ?_; (with_reducible refine (impl_SeekEntry.calls k _ _ t316 t319 t320 t321 t323 _ ?side1 ?side2 A5.out).mono ?_); (case side1 => refine (Kd.R_reads' (e := 52) (base := w.heap.size) (ok := fun k_ => True) (n := t316.length) (c := co10) ?_).2.2; exact (by (with_reducible repeat (first | apply Kd.R_alloc | apply Kd.R_drewN | apply Kd.R_drew)); exact (Kd.R_mono (Kd.R_far (p := ⟨gb322, 2, none⟩) (Kd.R_far (p := ⟨gb322, 1, none⟩) (Kd.R_far (p := ⟨gb322, 0, none⟩) (Kd.R_types HO318.out BK322.out (by decide)) (fun _ hk => hk.2) (.string t319)) (fun _ hk => hk.2) (.int .i64 t320)) (fun _ hk => hk.2) (.int .i64 t321)) (fun _ h_ => h_.1)))); (case side2 => exact (Kd.R_reads' HO318.out).2.1); rintro e w11 ⟨rfl, hb⟩; refine ⟨_, rfl, ?_⟩; have n0_ := Aside0.mk (Kd.R_below (by (with_reducible repeat (first | apply Kd.R_alloc | apply Kd.R_drewN | apply Kd.R_drew)); exact (Kd.R_mono (Kd.R_far (p := ⟨gb322, 2, none⟩) (Kd.R_far (p := ⟨gb322, 1, none⟩) (Kd.R_far (p := ⟨gb322, 0, none⟩) (Kd.R_types HO318.out BK322.out (by decide)) (fun _ hk => hk.2) (.string t319)) (fun _ hk => hk.2) (.int .i64 t320)) (fun _ hk => hk.2) (.int .i64 t321)) (fun _ h_ => h_.1))) hb); have n1_ := Aside0.mk (blk_below (g := gb322) (o := .cells #[.string t319, .int .i64 t320, .int .i64 t321] 44 (0, 0)) (by (with_reducible repeat (first | refine blk_drewN ?_ _ | refine blk_drew ?_ | refine blk_alloc ?_ _)); refine blk_put (cs := #[.string t319, .int .i64 t320, .int .i64 0]) ?_ 2 _ rfl; (with_reducible repeat (first | refine blk_drewN ?_ _ | refine blk_drew ?_ | refine blk_alloc ?_ _)); refine blk_put (cs := #[.string t319, .int .i64 0, .int .i64 0]) ?_ 1 _ rfl; (with_reducible repeat (first | refine blk_drewN ?_ _ | refine blk_drew ?_ | refine blk_alloc ?_ _)); refine blk_put (cs := #[.string (⟨#[]⟩ : ByteArray), .int .i64 0, .int .i64 0]) ?_ 0 _ rfl; (with_reducible repeat (first | refine blk_drewN ?_ _ | refine blk_drew ?_ | refine blk_alloc ?_ _)); exact BK322.out) hb); have n2_ := Aside0.mk (below_step (by repeat (first | (with_reducible first | exact HB.out | apply below_alloc | apply pw_below_drewN | apply below_drew1 | refine below_set ?_ GE322.out) | exact HB.out)) hb); clear HO318; clear BK322; clear HB; have HO318 := n0_; have BK322 := n1_; have HB := n2_; clear n0_ n1_ n2_; (try clear hb); (try clear hb2); (try clear hk); (try clear hi)))
  (try simp only [Act.put, List.setIfInBounds_toArray, List.set_cons_zero, List.set_cons_succ])
  go_cut [25] (fun v25 wc => ∃ (kq : Nat) (x25_5 : Bool), v25 = .bool x25_5 ∧ Aside0 (laws_FnSought.j0 kq t316 t323 x25_5 t319 t320 t321 = some r) ∧ Aside0 (kq ≤ k) ∧ Aside0 (Kd.R k52 52 wc w.heap.size (fun _ => True) (.slice Ao10 t316.length co10) t316) ∧ Aside0 (wc.heap[gb322]? = some (.cells #[.string t319, .int .i64 t320, .int .i64 t321] 44 (0, 0))) ∧ Aside0 (Below w.heap.size w wc))
  case first =>
   have H := HC6.out
   clear HC6
   replace H := Option.bind_eq_some_iff.mp H
   obtain ⟨t324, A120, H⟩ := H
   replace H : (if t323 = t324 then (laws_FnSought.j0 k t316 t323 (decide (t323 < 0)) t319 t320 t321) else (laws_FnSought.j0 k t316 t323 true t319 t320 t321)) = some r := H
   have A12 := Aside0.mk A120
   clear A120
   by_cases c13 : t323 = t324
   ·rw [if_pos c13] at H
    have c13b0 : (t323 == t324) = true := beq_iff_eq.mpr c13
    have c13b1 : (t323 != t324) = false := bne_eq_false_iff_eq.mpr c13
    clear c13
    (first | rw [c13b0] | (simp only [i64_w, i32_w]; rw [c13b0]) | skip)
    have H' := Aside0.mk H
    clear H
    have hcz14_0 : w11.cell? ⟨gb322, 0, none⟩ = some (.string t319) := (blk_cell BK322.out 0).trans rfl
    have hcz14_1 : w11.cell? ⟨gb322, 1, none⟩ = some (.int .i64 t320) := (blk_cell BK322.out 1).trans rfl
    have hcz14_2 : w11.cell? ⟨gb322, 2, none⟩ = some (.int .i64 t321) := (blk_cell BK322.out 2).trans rfl
    have hfz14_0 := blk_frozen BK322.out 0
    have hfz14_1 := blk_frozen BK322.out 1
    have hfz14_2 := blk_frozen BK322.out 2
    go_wp2_with (first | ((with_reducible refine gate_callee (f := 28) rfl ?_); refine goesL_ (some 20) rfl rfl Try.func28 (by kernel_rfl) rfl #[.slice Ao10 t316.length co10, .agg #[.string t319, .int .i64 t320, .int .i64 t321]] rfl (by (try simp only [qm_, qn_, qo_]); first | done | rfl) ?_; (with_reducible refine (spec_SeekEntry.calls k _ _ t316 t319 t320 t321 t324 _ ?side1 ?side2 A12.out).mono ?_); (case side1 => repeat (first | exact (Kd.R_reads' HO318.out).2.2 | (with_reducible refine Kd.C_alloc ?_ _) | (with_reducible refine Kd.C_drewN ?_ _) | (with_reducible refine Kd.C_drew ?_))); (case side2 => exact (Kd.R_reads' HO318.out).2.1); rintro e w15 ⟨rfl, hb⟩; refine ⟨_, rfl, ?_⟩; have n0_ := Aside0.mk (Kd.R_below (by (with_reducible repeat (first | apply Kd.R_alloc | apply Kd.R_drewN | apply Kd.R_drew)); exact HO318.out) hb); have n1_ := Aside0.mk (blk_below (g := gb322) (o := .cells #[.string t319, .int .i64 t320, .int .i64 t321] 44 (0, 0)) (by (with_reducible repeat (first | refine blk_drewN ?_ _ | refine blk_drew ?_ | refine blk_alloc ?_ _)); exact BK322.out) hb); have n2_ := Aside0.mk (below_step (by repeat (first | (with_reducible first | exact HB.out | apply below_alloc | apply pw_below_drewN | apply below_drew1 | refine below_set ?_ GE322.out) | exact HB.out)) hb); clear HO318; clear BK322; clear HB; have HO318 := n0_; have BK322 := n1_; have HB := n2_; clear n0_ n1_ n2_; (try clear hb); (try clear hb2); (try clear hk); (try clear hi)))
    go_meet
    case rel => exact ⟨_, (decide (t323 < 0)), (by first | rfl | (simp; done) | (simp [*]; done)), H', ⟨by first | omega | exact Nat.le_refl _⟩, ⟨by (with_reducible repeat (first | apply Kd.R_alloc | apply Kd.R_drewN | apply Kd.R_drew)); exact HO318.out⟩, ⟨by (with_reducible repeat (first | refine blk_drewN ?_ _ | refine blk_drew ?_ | refine blk_alloc ?_ _)); exact BK322.out⟩, ⟨by repeat (first | (with_reducible first | exact HB.out | apply below_alloc | apply pw_below_drewN | apply below_drew1 | refine below_set ?_ GE322.out) | exact HB.out)⟩⟩
   ·rw [if_neg c13] at H
    have c13b0 : (t323 == t324) = false := beq_eq_false_iff_ne.mpr c13
    have c13b1 : (t323 != t324) = true := bne_iff_ne.mpr c13
    (first | rw [c13b0] | (simp only [i64_w, i32_w]; rw [c13b0]) | skip)
    have H' := Aside0.mk H
    clear H
    have hcz16_0 : w11.cell? ⟨gb322, 0, none⟩ = some (.string t319) := (blk_cell BK322.out 0).trans rfl
    have hcz16_1 : w11.cell? ⟨gb322, 1, none⟩ = some (.int .i64 t320) := (blk_cell BK322.out 1).trans rfl
    have hcz16_2 : w11.cell? ⟨gb322, 2, none⟩ = some (.int .i64 t321) := (blk_cell BK322.out 2).trans rfl
    have hfz16_0 := blk_frozen BK322.out 0
    have hfz16_1 := blk_frozen BK322.out 1
    have hfz16_2 := blk_frozen BK322.out 2
    go_wp2_with (first | ((with_reducible refine gate_callee (f := 28) rfl ?_); refine goesL_ (some 20) rfl rfl Try.func28 (by kernel_rfl) rfl #[.slice Ao10 t316.length co10, .agg #[.string t319, .int .i64 t320, .int .i64 t321]] rfl (by (try simp only [qm_, qn_, qo_]); first | done | rfl) ?_; (with_reducible refine (spec_SeekEntry.calls k _ _ t316 t319 t320 t321 t324 _ ?side1 ?side2 A12.out).mono ?_); (case side1 => repeat (first | exact (Kd.R_reads' HO318.out).2.2 | (with_reducible refine Kd.C_alloc ?_ _) | (with_reducible refine Kd.C_drewN ?_ _) | (with_reducible refine Kd.C_drew ?_))); (case side2 => exact (Kd.R_reads' HO318.out).2.1); rintro e w17 ⟨rfl, hb⟩; refine ⟨_, rfl, ?_⟩; have n0_ := Aside0.mk (Kd.R_below (by (with_reducible repeat (first | apply Kd.R_alloc | apply Kd.R_drewN | apply Kd.R_drew)); exact HO318.out) hb); have n1_ := Aside0.mk (blk_below (g := gb322) (o := .cells #[.string t319, .int .i64 t320, .int .i64 t321] 44 (0, 0)) (by (with_reducible repeat (first | refine blk_drewN ?_ _ | refine blk_drew ?_ | refine blk_alloc ?_ _)); exact BK322.out) hb); have n2_ := Aside0.mk (below_step (by repeat (first | (with_reducible first | exact HB.out | apply below_alloc | apply pw_below_drewN | apply below_drew1 | refine below_set ?_ GE322.out) | exact HB.out)) hb); clear HO318; clear BK322; clear HB; have HO318 := n0_; have BK322 := n1_; have HB := n2_; clear n0_ n1_ n2_; (try clear hb); (try clear hb2); (try clear hk); (try clear hi)))
    go_meet
    case rel => exact ⟨_, (true), (by first | rfl | (simp; done) | (simp [*]; done)), H', ⟨by first | omega | exact Nat.le_refl _⟩, ⟨by (with_reducible repeat (first | apply Kd.R_alloc | apply Kd.R_drewN | apply Kd.R_drew)); exact HO318.out⟩, ⟨by (with_reducible repeat (first | refine blk_drewN ?_ _ | refine blk_drew ?_ | refine blk_alloc ?_ _)); exact BK322.out⟩, ⟨by repeat (first | (with_reducible first | exact HB.out | apply below_alloc | apply pw_below_drewN | apply below_drew1 | refine below_set ?_ GE322.out) | exact HB.out)⟩⟩
  case rest =>
   clear HC6
   try clear c1
   try clear c2
   try clear p2
   try clear c3
   try clear c8
   try clear c13
   try clear c13b0
   try clear c13b1
   try clear hcz14_0
   try clear hcz14_1
   try clear hcz14_2
   try clear hcz16_0
   try clear hcz16_1
   try clear hcz16_2
   try clear hcz9_0
   try clear hcz9_1
   try clear hcz9_2
   try clear hfz14_0
   try clear hfz14_1
   try clear hfz14_2
   try clear hfz16_0
   try clear hfz16_1
   try clear hfz16_2
   try clear hfz9_0
   try clear hfz9_1
   try clear hfz9_2
   obtain ⟨kq, x25_5, rfl, HA, HJ5, HO_3, BK322, HB⟩ := hcut
   cases kq with
   | zero => exact absurd HA.out (by simp [laws_FnSought.j0])
   | succ kj5 =>
    have H := HA.out
    clear HA
    simp only [laws_FnSought.j0] at H
    by_cases c18 : x25_5 = true
    ·subst c18
     have H1 : ((spec_SeekEntry.f kj5 t316 t319 t320 t321).bind fun t325 => (if t323 = t325 then ((impl_EntriesOk.f kj5 t316).bind fun t326 => (if t326 = true then ((impl_KeyOk.f t319 t320 t321).bind fun t327 => (some (!t327))) else (some true))) else (some false))) = some r := by rw [if_pos rfl] at H; exact H
     clear H
     have H := H1
     clear H1
     replace H := Option.bind_eq_some_iff.mp H
     obtain ⟨t325, A190, H⟩ := H
     replace H : (if t323 = t325 then ((impl_EntriesOk.f kj5 t316).bind fun t326 => (if t326 = true then ((impl_KeyOk.f t319 t320 t321).bind fun t327 => (some (!t327))) else (some true))) else (some false)) = some r := H
     have A19 := Aside0.mk A190
     clear A190
     by_cases c20 : t323 = t325
     ·rw [if_pos c20] at H
      have c20b0 : (t323 == t325) = true := beq_iff_eq.mpr c20
      have c20b1 : (t323 != t325) = false := bne_eq_false_iff_eq.mpr c20
      clear c20
      replace H := Option.bind_eq_some_iff.mp H
      obtain ⟨t326, A210, H⟩ := H
      replace H : (if t326 = true then ((impl_KeyOk.f t319 t320 t321).bind fun t327 => (some (!t327))) else (some true)) = some r := H
      have A21 := Aside0.mk A210
      clear A210
      by_cases c22 : t326 = true
      ·subst c22
       have H1 : ((impl_KeyOk.f t319 t320 t321).bind fun t327 => (some (!t327))) = some r := by rw [if_pos rfl] at H; exact H
       clear H
       have H := H1
       clear H1
       replace H := Option.bind_eq_some_iff.mp H
       obtain ⟨t327, A230, H⟩ := H
       replace H : (some (!t327)) = some r := H
       have A23 := Aside0.mk A230
       clear A230
       obtain rfl := Option.some.inj H
       have hcz24_0 : wc.cell? ⟨gb322, 0, none⟩ = some (.string t319) := (blk_cell BK322.out 0).trans rfl
       have hcz24_1 : wc.cell? ⟨gb322, 1, none⟩ = some (.int .i64 t320) := (blk_cell BK322.out 1).trans rfl
       have hcz24_2 : wc.cell? ⟨gb322, 2, none⟩ = some (.int .i64 t321) := (blk_cell BK322.out 2).trans rfl
       have hfz24_0 := blk_frozen BK322.out 0
       have hfz24_1 := blk_frozen BK322.out 1
       have hfz24_2 := blk_frozen BK322.out 2
       go_wp2_with (first | ((with_reducible refine gate_callee (f := 28) rfl ?_); refine goesL_ (some 29) rfl rfl Try.func28 (by kernel_rfl) rfl #[.slice Ao10 t316.length co10, .agg #[.string t319, .int .i64 t320, .int .i64 t321]] rfl (by (try simp only [qm_, qn_, qo_]); first | done | rfl) ?_; (with_reducible refine (spec_SeekEntry.calls kj5 _ _ t316 t319 t320 t321 t325 _ ?side1 ?side2 A19.out).mono ?_); (case side1 => repeat (first | exact (Kd.R_reads' HO_3.out).2.2 | (with_reducible refine Kd.C_alloc ?_ _) | (with_reducible refine Kd.C_drewN ?_ _) | (with_reducible refine Kd.C_drew ?_))); (case side2 => exact (Kd.R_reads' HO_3.out).2.1); rintro e w25 ⟨rfl, hb⟩; refine ⟨_, rfl, ?_⟩; have n0_ := Aside0.mk (Kd.R_below (by (with_reducible repeat (first | apply Kd.R_alloc | apply Kd.R_drewN | apply Kd.R_drew)); exact HO_3.out) hb); have n1_ := Aside0.mk (blk_below (g := gb322) (o := .cells #[.string t319, .int .i64 t320, .int .i64 t321] 44 (0, 0)) (by (with_reducible repeat (first | refine blk_drewN ?_ _ | refine blk_drew ?_ | refine blk_alloc ?_ _)); exact BK322.out) hb); have n2_ := Aside0.mk (below_step (by repeat (first | (with_reducible first | exact HB.out | apply below_alloc | apply pw_below_drewN | apply below_drew1 | refine below_set ?_ GE322.out) | exact HB.out)) hb); clear HO_3; clear BK322; clear HB; have HO_3 := n0_; have BK322 := n1_; have HB := n2_; clear n0_ n1_ n2_; (try clear hb); (try clear hb2); (try clear hk); (try clear hi)) | (go_at_call 29; (with_reducible refine (impl_EntriesOk.calls kj5 _ _ t316 true _ ?side1 ?side2 A21.out).mono ?_); (case side1 => repeat (first | exact (Kd.R_reads' HO_3.out).2.2 | (with_reducible refine Kd.C_alloc ?_ _) | (with_reducible refine Kd.C_drewN ?_ _) | (with_reducible refine Kd.C_drew ?_))); (case side2 => exact (Kd.R_reads' HO_3.out).2.1); rintro e w26 ⟨rfl, hb⟩; have n0_ := Aside0.mk (Kd.R_below (by (with_reducible repeat (first | apply Kd.R_alloc | apply Kd.R_drewN | apply Kd.R_drew)); exact HO_3.out) hb); have n1_ := Aside0.mk (blk_below (g := gb322) (o := .cells #[.string t319, .int .i64 t320, .int .i64 t321] 44 (0, 0)) (by (with_reducible repeat (first | refine blk_drewN ?_ _ | refine blk_drew ?_ | refine blk_alloc ?_ _)); exact BK322.out) hb); have n2_ := Aside0.mk (below_step (by repeat (first | (with_reducible first | exact HB.out | apply below_alloc | apply pw_below_drewN | apply below_drew1 | refine below_set ?_ GE322.out) | exact HB.out)) hb); clear HO_3; clear BK322; clear HB; have HO_3 := n0_; have BK322 := n1_; have HB := n2_; clear n0_ n1_ n2_; (try clear hb); (try clear hb2); (try clear hk); (try clear hi); have hcz27_0 : w26.cell? ⟨gb322, 0, none⟩ = some (.string t319) := (blk_cell BK322.out 0).trans rfl; have hcz27_1 : w26.cell? ⟨gb322, 1, none⟩ = some (.int .i64 t320) := (blk_cell BK322.out 1).trans rfl; have hcz27_2 : w26.cell? ⟨gb322, 2, none⟩ = some (.int .i64 t321) := (blk_cell BK322.out 2).trans rfl; have hfz27_0 := blk_frozen BK322.out 0; have hfz27_1 := blk_frozen BK322.out 1; have hfz27_2 := blk_frozen BK322.out 2) | (go_at_call 30; (with_reducible refine (impl_KeyOk.calls t319 t320 t321 t327 _ A23.out).mono ?_); rintro e w28 ⟨rfl, hb⟩; have n0_ := Aside0.mk (Kd.R_below (by (with_reducible repeat (first | apply Kd.R_alloc | apply Kd.R_drewN | apply Kd.R_drew)); exact HO_3.out) hb); have n1_ := Aside0.mk (blk_below (g := gb322) (o := .cells #[.string t319, .int .i64 t320, .int .i64 t321] 44 (0, 0)) (by (with_reducible repeat (first | refine blk_drewN ?_ _ | refine blk_drew ?_ | refine blk_alloc ?_ _)); exact BK322.out) hb); have n2_ := Aside0.mk (below_step (by repeat (first | (with_reducible first | exact HB.out | apply below_alloc | apply pw_below_drewN | apply below_drew1 | refine below_set ?_ GE322.out) | exact HB.out)) hb); clear HO_3; clear BK322; clear HB; have HO_3 := n0_; have BK322 := n1_; have HB := n2_; clear n0_ n1_ n2_; (try clear hb); (try clear hb2); (try clear hk); (try clear hi)))
       go_ret
       exact ⟨by first | rfl | (simp [errW_none, errW_some] <;> rfl) | (simp [*, errW_none, errW_some] <;> rfl), by repeat (first | (with_reducible first | exact HB.out | apply below_alloc | apply pw_below_drewN | apply below_drew1 | refine below_set ?_ GE322.out) | exact HB.out)⟩
      ·replace c22 := Bool.eq_false_iff.mpr c22
       subst c22
       have H1 : (some true) = some r := by rw [if_neg (show ¬ (false = true) by decide)] at H; exact H
       clear H
       have H := H1
       clear H1
       obtain rfl := Option.some.inj H
       have hcz29_0 : wc.cell? ⟨gb322, 0, none⟩ = some (.string t319) := (blk_cell BK322.out 0).trans rfl
       have hcz29_1 : wc.cell? ⟨gb322, 1, none⟩ = some (.int .i64 t320) := (blk_cell BK322.out 1).trans rfl
       have hcz29_2 : wc.cell? ⟨gb322, 2, none⟩ = some (.int .i64 t321) := (blk_cell BK322.out 2).trans rfl
       have hfz29_0 := blk_frozen BK322.out 0
       have hfz29_1 := blk_frozen BK322.out 1
       have hfz29_2 := blk_frozen BK322.out 2
       go_wp2_with (first | ((with_reducible refine gate_callee (f := 28) rfl ?_); refine goesL_ (some 29) rfl rfl Try.func28 (by kernel_rfl) rfl #[.slice Ao10 t316.length co10, .agg #[.string t319, .int .i64 t320, .int .i64 t321]] rfl (by (try simp only [qm_, qn_, qo_]); first | done | rfl) ?_; (with_reducible refine (spec_SeekEntry.calls kj5 _ _ t316 t319 t320 t321 t325 _ ?side1 ?side2 A19.out).mono ?_); (case side1 => repeat (first | exact (Kd.R_reads' HO_3.out).2.2 | (with_reducible refine Kd.C_alloc ?_ _) | (with_reducible refine Kd.C_drewN ?_ _) | (with_reducible refine Kd.C_drew ?_))); (case side2 => exact (Kd.R_reads' HO_3.out).2.1); rintro e w30 ⟨rfl, hb⟩; refine ⟨_, rfl, ?_⟩; have n0_ := Aside0.mk (Kd.R_below (by (with_reducible repeat (first | apply Kd.R_alloc | apply Kd.R_drewN | apply Kd.R_drew)); exact HO_3.out) hb); have n1_ := Aside0.mk (blk_below (g := gb322) (o := .cells #[.string t319, .int .i64 t320, .int .i64 t321] 44 (0, 0)) (by (with_reducible repeat (first | refine blk_drewN ?_ _ | refine blk_drew ?_ | refine blk_alloc ?_ _)); exact BK322.out) hb); have n2_ := Aside0.mk (below_step (by repeat (first | (with_reducible first | exact HB.out | apply below_alloc | apply pw_below_drewN | apply below_drew1 | refine below_set ?_ GE322.out) | exact HB.out)) hb); clear HO_3; clear BK322; clear HB; have HO_3 := n0_; have BK322 := n1_; have HB := n2_; clear n0_ n1_ n2_; (try clear hb); (try clear hb2); (try clear hk); (try clear hi)) | (go_at_call 29; (with_reducible refine (impl_EntriesOk.calls kj5 _ _ t316 false _ ?side1 ?side2 A21.out).mono ?_); (case side1 => repeat (first | exact (Kd.R_reads' HO_3.out).2.2 | (with_reducible refine Kd.C_alloc ?_ _) | (with_reducible refine Kd.C_drewN ?_ _) | (with_reducible refine Kd.C_drew ?_))); (case side2 => exact (Kd.R_reads' HO_3.out).2.1); rintro e w31 ⟨rfl, hb⟩; have n0_ := Aside0.mk (Kd.R_below (by (with_reducible repeat (first | apply Kd.R_alloc | apply Kd.R_drewN | apply Kd.R_drew)); exact HO_3.out) hb); have n1_ := Aside0.mk (blk_below (g := gb322) (o := .cells #[.string t319, .int .i64 t320, .int .i64 t321] 44 (0, 0)) (by (with_reducible repeat (first | refine blk_drewN ?_ _ | refine blk_drew ?_ | refine blk_alloc ?_ _)); exact BK322.out) hb); have n2_ := Aside0.mk (below_step (by repeat (first | (with_reducible first | exact HB.out | apply below_alloc | apply pw_below_drewN | apply below_drew1 | refine below_set ?_ GE322.out) | exact HB.out)) hb); clear HO_3; clear BK322; clear HB; have HO_3 := n0_; have BK322 := n1_; have HB := n2_; clear n0_ n1_ n2_; (try clear hb); (try clear hb2); (try clear hk); (try clear hi)))
       go_ret
       exact ⟨by first | rfl | (simp [errW_none, errW_some] <;> rfl) | (simp [*, errW_none, errW_some] <;> rfl), by repeat (first | (with_reducible first | exact HB.out | apply below_alloc | apply pw_below_drewN | apply below_drew1 | refine below_set ?_ GE322.out) | exact HB.out)⟩
     ·rw [if_neg c20] at H
      have c20b0 : (t323 == t325) = false := beq_eq_false_iff_ne.mpr c20
      have c20b1 : (t323 != t325) = true := bne_iff_ne.mpr c20
      obtain rfl := Option.some.inj H
      have hcz32_0 : wc.cell? ⟨gb322, 0, none⟩ = some (.string t319) := (blk_cell BK322.out 0).trans rfl
      have hcz32_1 : wc.cell? ⟨gb322, 1, none⟩ = some (.int .i64 t320) := (blk_cell BK322.out 1).trans rfl
      have hcz32_2 : wc.cell? ⟨gb322, 2, none⟩ = some (.int .i64 t321) := (blk_cell BK322.out 2).trans rfl
      have hfz32_0 := blk_frozen BK322.out 0
      have hfz32_1 := blk_frozen BK322.out 1
      have hfz32_2 := blk_frozen BK322.out 2
      go_wp2_with (first | ((with_reducible refine gate_callee (f := 28) rfl ?_); refine goesL_ (some 29) rfl rfl Try.func28 (by kernel_rfl) rfl #[.slice Ao10 t316.length co10, .agg #[.string t319, .int .i64 t320, .int .i64 t321]] rfl (by (try simp only [qm_, qn_, qo_]); first | done | rfl) ?_; (with_reducible refine (spec_SeekEntry.calls kj5 _ _ t316 t319 t320 t321 t325 _ ?side1 ?side2 A19.out).mono ?_); (case side1 => repeat (first | exact (Kd.R_reads' HO_3.out).2.2 | (with_reducible refine Kd.C_alloc ?_ _) | (with_reducible refine Kd.C_drewN ?_ _) | (with_reducible refine Kd.C_drew ?_))); (case side2 => exact (Kd.R_reads' HO_3.out).2.1); rintro e w33 ⟨rfl, hb⟩; refine ⟨_, rfl, ?_⟩; have n0_ := Aside0.mk (Kd.R_below (by (with_reducible repeat (first | apply Kd.R_alloc | apply Kd.R_drewN | apply Kd.R_drew)); exact HO_3.out) hb); have n1_ := Aside0.mk (blk_below (g := gb322) (o := .cells #[.string t319, .int .i64 t320, .int .i64 t321] 44 (0, 0)) (by (with_reducible repeat (first | refine blk_drewN ?_ _ | refine blk_drew ?_ | refine blk_alloc ?_ _)); exact BK322.out) hb); have n2_ := Aside0.mk (below_step (by repeat (first | (with_reducible first | exact HB.out | apply below_alloc | apply pw_below_drewN | apply below_drew1 | refine below_set ?_ GE322.out) | exact HB.out)) hb); clear HO_3; clear BK322; clear HB; have HO_3 := n0_; have BK322 := n1_; have HB := n2_; clear n0_ n1_ n2_; (try clear hb); (try clear hb2); (try clear hk); (try clear hi)))
      go_ret
      exact ⟨by first | rfl | (simp [errW_none, errW_some] <;> rfl) | (simp [*, errW_none, errW_some] <;> rfl), by repeat (first | (with_reducible first | exact HB.out | apply below_alloc | apply pw_below_drewN | apply below_drew1 | refine below_set ?_ GE322.out) | exact HB.out)⟩
    ·replace c18 := Bool.eq_false_iff.mpr c18
     subst c18
     have H1 : (laws_FnSought.l0 kj5 t316 t323 0 t319 t320 t321) = some r := by rw [if_neg (show ¬ (false = true) by decide)] at H; exact H
     clear H
     have H := H1
     clear H1
     have H' := Aside0.mk H
     clear H
     go_wp2
     go_loopg [6] kj5 (fun kq v6 w' => ∃ (x6_2 : Int), v6 = .int .i64 x6_2 ∧ Aside0 (laws_FnSought.l0 kq t316 t323 x6_2 t319 t320 t321 = some r) ∧ Aside0 (kq ≤ kj5) ∧ Aside0 (Kd.R k52 52 w' w.heap.size (fun _ => True) (.slice Ao10 t316.length co10) t316) ∧ Aside0 (w'.heap[gb322]? = some (.cells #[.string t319, .int .i64 t320, .int .i64 t321] 44 (0, 0))) ∧ Aside0 (Below w.heap.size w w'))
     case atStart => exact ⟨(0), (by first | rfl | (simp; done) | (simp [*]; done)), H', ⟨Nat.le_refl _⟩, ⟨by (with_reducible repeat (first | apply Kd.R_alloc | apply Kd.R_drewN | apply Kd.R_drew)); exact HO_3.out⟩, ⟨by (with_reducible repeat (first | refine blk_drewN ?_ _ | refine blk_drew ?_ | refine blk_alloc ?_ _)); exact BK322.out⟩, ⟨by repeat (first | (with_reducible first | exact HB.out | apply below_alloc | apply pw_below_drewN | apply below_drew1 | refine below_set ?_ GE322.out) | exact HB.out)⟩⟩
     case round =>
      clear H'
      try clear c1
      try clear c2
      try clear p2
      try clear c3
      try clear c8
      try clear c13
      try clear c13b0
      try clear c13b1
      try clear c18
      try clear c19
      try clear c20
      try clear c20b0
      try clear c20b1
      try clear c22
      try clear c26
      try clear c27
      try clear c28
      try clear hcz14_0
      try clear hcz14_1
      try clear hcz14_2
      try clear hcz16_0
      try clear hcz16_1
      try clear hcz16_2
      try clear hcz24_0
      try clear hcz24_1
      try clear hcz24_2
      try clear hcz27_0
      try clear hcz27_1
      try clear hcz27_2
      try clear hcz29_0
      try clear hcz29_1
      try clear hcz29_2
      try clear hcz32_0
      try clear hcz32_1
      try clear hcz32_2
      try clear hcz9_0
      try clear hcz9_1
      try clear hcz9_2
      try clear hfz14_0
      try clear hfz14_1
      try clear hfz14_2
      try clear hfz16_0
      try clear hfz16_1
      try clear hfz16_2
      try clear hfz24_0
      try clear hfz24_1
      try clear hfz24_2
      try clear hfz27_0
      try clear hfz27_1
      try clear hfz27_2
      try clear hfz29_0
      try clear hfz29_1
      try clear hfz29_2
      try clear hfz32_0
      try clear hfz32_1
      try clear hfz32_2
      try clear hfz9_0
      try clear hfz9_1
      try clear hfz9_2
      try clear p2
      obtain ⟨x6_2, rfl, HA, HK2, HO_3, BK322, HB⟩ := hrel
      cases gk with
      | zero => exact absurd HA.out (by simp [laws_FnSought.l0])
      | succ k2 =>
       have H := HA.out
       clear HA
       simp only [laws_FnSought.l0] at H
       by_cases c34 : x6_2 < (t316.length : Int)
       ·rw [if_pos c34] at H
        have c34b0 : decide (x6_2 < (t316.length : Int)) = true := decide_eq_true c34
        clear c34
        by_cases c35 : 0 ≤ x6_2
        ·rw [if_pos c35] at H
         have c35b0 : decide (0 ≤ x6_2) = true := decide_eq_true c35
         clear c35
         replace H := Option.bind_eq_some_iff.mp H
         obtain ⟨t329, A360, H⟩ := H
         replace H : (if ((decide (t329 < 0)) != (decide (x6_2 < t323))) = true then (some false) else (laws_FnSought.l0 k2 t316 t323 (wrap64 (x6_2 + 1)) t319 t320 t321)) = some r := H
         have A36 := Aside0.mk A360
         clear A360
         by_cases c37 : ((decide (t329 < 0)) != (decide (x6_2 < t323))) = true
         ·rw [if_pos c37] at H
          have c37b0 : ((decide (t329 < 0)) != (decide (x6_2 < t323))) = true := c37
          (try (have c37b1 : decide ((decide (t329 < 0)) = (decide (x6_2 < t323))) = false := by simpa using c37))
          (try (have c37b2 : ((decide (t329 < 0)) == (decide (x6_2 < t323))) = false := by simpa using c37))
          (try (have c37b3 : ¬ ((decide (t329 < 0)) = (decide (x6_2 < t323))) := by simpa using c37))
          clear c37
          obtain rfl := Option.some.inj H
          try go_wp2
          have n0_ := Aside0.mk (Kd.R_drew HO_3.out)
          have n1_ := Aside0.mk (blk_drew BK322.out)
          have n2_ := Aside0.mk (below_drew1 HB.out)
          clear HO_3
          clear BK322
          clear HB
          have HO_3 := n0_
          have BK322 := n1_
          have HB := n2_
          clear n0_ n1_ n2_
          have p328 : 0 ≤ (x6_2 : Int) := of_decide_eq_true (by first | (with_reducible assumption) | assumption)
          have q328 : x6_2 < (t316.length : Int) := of_decide_eq_true (by first | (with_reducible assumption) | assumption)
          obtain ⟨ad328, e328, hx328_0, hx328_1, hx328_2, hx328_3⟩ := at_T52 (Kd.R_reads' HO_3.out).2.2 x6_2 p328 q328
          cases e328
          replace p328 := eq_true p328
          replace q328 := eq_true q328
          refine start_ (n := 12) (S := fun w' => w'.cell? ⟨gb322, 0, none⟩ = some (.string t319) ∧ w'.cell? ⟨gb322, 1, none⟩ = some (.int .i64 t320) ∧ w'.cell? ⟨gb322, 2, none⟩ = some (.int .i64 t321) ∧ w'.cell? (ad328.add ((x6_2).toNat * 4)) = some (.string ((rd_T52 t316 x6_2).f0.f0)) ∧ w'.cell? ⟨(ad328.add ((x6_2).toNat * 4)).block, (ad328.add ((x6_2).toNat * 4)).off + 1, none⟩ = some (.int .i64 ((rd_T52 t316 x6_2).f0.f1)) ∧ w'.cell? ⟨(ad328.add ((x6_2).toNat * 4)).block, (ad328.add ((x6_2).toNat * 4)).off + 2, none⟩ = some (.int .i64 ((rd_T52 t316 x6_2).f0.f2)) ∧ w'.cell? ⟨(ad328.add ((x6_2).toNat * 4)).block, (ad328.add ((x6_2).toNat * 4)).off + 3, none⟩ = some (.string ((rd_T52 t316 x6_2).f1))) (ds := []) #[false, false, false, false, false, false, false, false, false, false, false, false] (by kernel_rfl) rfl rfl ⟨(blk_cell BK322.out 0).trans rfl, (blk_cell BK322.out 1).trans rfl, (blk_cell BK322.out 2).trans rfl, hx328_0, hx328_1, hx328_2, hx328_3⟩ (fun hHeld => ?_); refine with_tabW laws_FnSought.tab10 laws_FnSought.bits10 (fun HT_ HW_ => ?_)
          generalize wr.drew = w38 at HO_3 BK322 HB hx328_0 hx328_1 hx328_2 hx328_3 hHeld ⊢
          refine pure_ (i := 0) (N := some 47) (v := ?_) (a' := ?_) #[true, false, false, false, false, false, false, false, false, false, false, false] rfl rfl (any_of HT_.out (by kernel_rfl)) (fun _ _ _ h => h) (Or.inl ⟨by rfl, ?_⟩) ?_ ?_
          rotate_left
          ·intro w'
           go_simp
           with_reducible rfl
          rotate_left
          ·simp only [qa_, qe_, qb_, qc_, qd_, i64_w, i32_w]
           rfl
          refine pure_ (i := 1) (N := some 48) (v := ?_) (a' := ?_) #[true, true, false, false, false, false, false, false, false, false, false, false] rfl rfl (any_of HT_.out (by kernel_rfl)) (fun _ _ _ h => h) (Or.inl ⟨by rfl, ?_⟩) ?_ ?_
          rotate_left
          ·intro w'
           go_simp
           with_reducible rfl
          rotate_left
          ·simp only [qa_, qe_, qb_, qc_, qd_, i64_w, i32_w]
           rfl
          refine pure_ (i := 2) (N := some 49) (v := ?_) (a' := ?_) #[true, true, true, false, false, false, false, false, false, false, false, false] rfl rfl (any_of HT_.out (by kernel_rfl)) (fun _ _ _ h => h) (Or.inl ⟨by rfl, ?_⟩) ?_ ?_
          rotate_left
          ·intro w'
           go_simp
           with_reducible rfl
          rotate_left
          ·simp only [qa_, qe_, qb_, qc_, qd_, i64_w, i32_w]
           rfl
          refine pure_ (i := 3) (N := some 50) (v := ?_) (a' := ?_) #[true, true, true, true, false, false, false, false, false, false, false, false] rfl rfl (any_of HT_.out (by kernel_rfl)) (fun _ _ _ h => h) (Or.inl ⟨by rfl, ?_⟩) ?_ ?_
          rotate_left
          ·intro w'
           go_simp
           with_reducible rfl
          rotate_left
          ·simp only [qa_, qe_, qb_, qc_, qd_, i64_w, i32_w]
           rfl
          refine pure_ (i := 8) (N := some 55) (v := ?_) (a' := ?_) #[true, true, true, true, false, false, false, false, true, false, false, false] rfl rfl (any_of HT_.out (by kernel_rfl)) (fun _ _ _ h => h) (Or.inl ⟨by rfl, ?_⟩) ?_ ?_
          rotate_left
          ·intro w'
           go_simp
           with_reducible rfl
          rotate_left
          ·simp only [qa_, qe_, qb_, qc_, qd_, i64_w, i32_w]
           rfl
          refine pure_ (i := 9) (N := some 56) (v := ?_) (a' := ?_) #[true, true, true, true, false, false, false, false, true, true, false, false] rfl rfl (any_of HT_.out (by kernel_rfl)) (fun _ _ _ h => h) (Or.inl ⟨by rfl, ?_⟩) ?_ ?_
          rotate_left
          ·intro w'
           go_simp
           with_reducible rfl
          rotate_left
          ·simp only [qa_, qe_, qb_, qc_, qd_, i64_w, i32_w]
           rfl
          refine pure_ (i := 10) (N := some 57) (v := ?_) (a' := ?_) #[true, true, true, true, false, false, false, false, true, true, true, false] rfl rfl (any_of HT_.out (by kernel_rfl)) (fun _ _ _ h => h) (Or.inl ⟨by rfl, ?_⟩) ?_ ?_
          rotate_left
          ·intro w'
           go_simp
           with_reducible rfl
          rotate_left
          ·simp only [qa_, qe_, qb_, qc_, qd_, i64_w, i32_w]
           rfl
          refine take_ (i := 4) (N := some 51) (v := ?_) (a' := ?_) #[true, true, true, true, true, false, false, false, true, true, true, false] rfl rfl (take_ofW HT_.out HW_.out (by kernel_rfl)) (fun _ _ _ h => h) (Or.inl ⟨by rfl, ?_⟩) hHeld ?_ ?_
          rotate_left
          ·rintro w' ⟨s0, s1, s2, s3, s4, s5, s6⟩
           go_simp
           with_reducible rfl
          rotate_left
          ·simp only [qa_, qe_, qb_, qc_, qd_, i64_w, i32_w]
           rfl
          refine take_ (i := 5) (N := some 52) (v := ?_) (a' := ?_) #[true, true, true, true, true, true, false, false, true, true, true, false] rfl rfl (take_ofW HT_.out HW_.out (by kernel_rfl)) (fun _ _ _ h => h) (Or.inl ⟨by rfl, ?_⟩) hHeld ?_ ?_
          rotate_left
          ·rintro w' ⟨s0, s1, s2, s3, s4, s5, s6⟩
           go_simp
           with_reducible rfl
          rotate_left
          ·simp only [qa_, qe_, qb_, qc_, qd_, i64_w, i32_w]
           rfl
          refine one_ (i := 6) (N := some 53) #[true, true, true, true, true, true, true, false, true, true, true, false] rfl rfl (one_of HT_.out (by kernel_rfl)) (by decide) (fun K hK => ?_)
          refine goes_ Try.func31 (by kernel_rfl) rfl #[.agg #[.string ((rd_T52 t316 x6_2).f0.f0), .int .i64 ((rd_T52 t316 x6_2).f0.f1), .int .i64 ((rd_T52 t316 x6_2).f0.f2)], .agg #[.string t319, .int .i64 t320, .int .i64 t321]] (by rfl) rfl rfl (by (try simp only [qm_, qn_, qo_]); first | done | rfl) ?_
          with_reducible refine (impl_KeyCmp.calls k2 ((rd_T52 t316 x6_2).f0.f0) ((rd_T52 t316 x6_2).f0.f1) ((rd_T52 t316 x6_2).f0.f2) t319 t320 t321 t329 _ A36.out).mono ?_
          rintro e w39 ⟨rfl, hb⟩
          have HS3_ := (hb.cell (World.block_lt_of_cell? _ _ (hHeld.2.2.2.1))).trans (hHeld.2.2.2.1)
          have HS4_ := (hb.cell (World.block_lt_of_cell? _ _ (hHeld.2.2.2.2.1))).trans (hHeld.2.2.2.2.1)
          have HS5_ := (hb.cell (World.block_lt_of_cell? _ _ (hHeld.2.2.2.2.2.1))).trans (hHeld.2.2.2.2.2.1)
          have HS6_ := (hb.cell (World.block_lt_of_cell? _ _ (hHeld.2.2.2.2.2.2))).trans (hHeld.2.2.2.2.2.2)
          refine ⟨_, rfl, ?_⟩
          have n0_ := Aside0.mk (Kd.R_below (by (with_reducible repeat (first | apply Kd.R_alloc | apply Kd.R_drewN | apply Kd.R_drew)); exact HO_3.out) hb)
          have n1_ := Aside0.mk (blk_below (g := gb322) (o := .cells #[.string t319, .int .i64 t320, .int .i64 t321] 44 (0, 0)) (by (with_reducible repeat (first | refine blk_drewN ?_ _ | refine blk_drew ?_ | refine blk_alloc ?_ _)); exact BK322.out) hb)
          have n2_ := Aside0.mk (below_step (by repeat (first | (with_reducible first | exact HB.out | apply below_alloc | apply pw_below_drewN | apply below_drew1 | refine below_set ?_ GE322.out) | exact HB.out)) hb)
          clear HO_3
          clear BK322
          clear HB
          have HO_3 := n0_
          have BK322 := n1_
          have HB := n2_
          clear n0_ n1_ n2_
          (try clear hb)
          (try clear hb2)
          (try clear hk)
          (try clear hi)
          refine hK.out _ _ ⟨(blk_cell BK322.out 0).trans rfl, (blk_cell BK322.out 1).trans rfl, (blk_cell BK322.out 2).trans rfl, HS3_, HS4_, HS5_, HS6_⟩ (fun hHeld => ?_)
          clear hK K
          refine norm_ (a' := ?_) ?_ ?_
          rotate_left
          ·show Act.put _ (some 53) _ = _
           simp only [qa_, qe_, qb_, qc_, qd_, i64_w, i32_w]
           rfl
          refine pure_ (i := 7) (N := some 54) (v := ?_) (a' := ?_) #[true, true, true, true, true, true, true, true, true, true, true, false] rfl rfl (any_of HT_.out (by kernel_rfl)) (fun _ _ _ h => h) (Or.inl ⟨by rfl, ?_⟩) ?_ ?_
          rotate_left
          ·intro w'
           go_simp
           with_reducible rfl
          rotate_left
          ·simp only [qa_, qe_, qb_, qc_, qd_, i64_w, i32_w]
           rfl
          refine pure_ (i := 11) (N := some 58) (v := ?_) (a' := ?_) #[true, true, true, true, true, true, true, true, true, true, true, true] rfl rfl (any_of HT_.out (by kernel_rfl)) (fun _ _ _ h => h) (Or.inl ⟨by rfl, ?_⟩) ?_ ?_
          rotate_left
          ·intro w'
           go_simp
           with_reducible rfl
          rotate_left
          ·simp only [qa_, qe_, qb_, qc_, qd_, i64_w, i32_w]
           rfl
          refine done_ (done_of HT_.out (by kernel_rfl)) ?_
          try go_wp2
          go_ret
          exact ⟨by first | rfl | (simp [errW_none, errW_some] <;> rfl) | (simp [*, errW_none, errW_some] <;> rfl), by repeat (first | (with_reducible first | exact HB.out | apply below_alloc | apply pw_below_drewN | apply below_drew1 | refine below_set ?_ GE322.out) | exact HB.out)⟩
         ·rw [if_neg c37] at H
          have c37b0 : ((decide (t329 < 0)) != (decide (x6_2 < t323))) = false := by simpa using c37
          (try (have c37b1 : decide ((decide (t329 < 0)) = (decide (x6_2 < t323))) = true := by simpa using c37))
          (try (have c37b2 : ((decide (t329 < 0)) == (decide (x6_2 < t323))) = true := by simpa using c37))
          clear c37
          have H' := Aside0.mk H
          clear H
          try go_wp2
          have n0_ := Aside0.mk (Kd.R_drew HO_3.out)
          have n1_ := Aside0.mk (blk_drew BK322.out)
          have n2_ := Aside0.mk (below_drew1 HB.out)
          clear HO_3
          clear BK322
          clear HB
          have HO_3 := n0_
          have BK322 := n1_
          have HB := n2_
          clear n0_ n1_ n2_
          have p328 : 0 ≤ (x6_2 : Int) := of_decide_eq_true (by first | (with_reducible assumption) | assumption)
          have q328 : x6_2 < (t316.length : Int) := of_decide_eq_true (by first | (with_reducible assumption) | assumption)
          obtain ⟨ad328, e328, hx328_0, hx328_1, hx328_2, hx328_3⟩ := at_T52 (Kd.R_reads' HO_3.out).2.2 x6_2 p328 q328
          cases e328
          replace p328 := eq_true p328
          replace q328 := eq_true q328
          refine start_ (n := 12) (S := fun w' => w'.cell? ⟨gb322, 0, none⟩ = some (.string t319) ∧ w'.cell? ⟨gb322, 1, none⟩ = some (.int .i64 t320) ∧ w'.cell? ⟨gb322, 2, none⟩ = some (.int .i64 t321) ∧ w'.cell? (ad328.add ((x6_2).toNat * 4)) = some (.string ((rd_T52 t316 x6_2).f0.f0)) ∧ w'.cell? ⟨(ad328.add ((x6_2).toNat * 4)).block, (ad328.add ((x6_2).toNat * 4)).off + 1, none⟩ = some (.int .i64 ((rd_T52 t316 x6_2).f0.f1)) ∧ w'.cell? ⟨(ad328.add ((x6_2).toNat * 4)).block, (ad328.add ((x6_2).toNat * 4)).off + 2, none⟩ = some (.int .i64 ((rd_T52 t316 x6_2).f0.f2)) ∧ w'.cell? ⟨(ad328.add ((x6_2).toNat * 4)).block, (ad328.add ((x6_2).toNat * 4)).off + 3, none⟩ = some (.string ((rd_T52 t316 x6_2).f1))) (ds := []) #[false, false, false, false, false, false, false, false, false, false, false, false] (by kernel_rfl) rfl rfl ⟨(blk_cell BK322.out 0).trans rfl, (blk_cell BK322.out 1).trans rfl, (blk_cell BK322.out 2).trans rfl, hx328_0, hx328_1, hx328_2, hx328_3⟩ (fun hHeld => ?_); refine with_tabW laws_FnSought.tab10 laws_FnSought.bits10 (fun HT_ HW_ => ?_)
          generalize wr.drew = w40 at HO_3 BK322 HB hx328_0 hx328_1 hx328_2 hx328_3 hHeld ⊢
          refine pure_ (i := 0) (N := some 47) (v := ?_) (a' := ?_) #[true, false, false, false, false, false, false, false, false, false, false, false] rfl rfl (any_of HT_.out (by kernel_rfl)) (fun _ _ _ h => h) (Or.inl ⟨by rfl, ?_⟩) ?_ ?_
          rotate_left
          ·intro w'
           go_simp
           with_reducible rfl
          rotate_left
          ·simp only [qa_, qe_, qb_, qc_, qd_, i64_w, i32_w]
           rfl
          refine pure_ (i := 1) (N := some 48) (v := ?_) (a' := ?_) #[true, true, false, false, false, false, false, false, false, false, false, false] rfl rfl (any_of HT_.out (by kernel_rfl)) (fun _ _ _ h => h) (Or.inl ⟨by rfl, ?_⟩) ?_ ?_
          rotate_left
          ·intro w'
           go_simp
           with_reducible rfl
          rotate_left
          ·simp only [qa_, qe_, qb_, qc_, qd_, i64_w, i32_w]
           rfl
          refine pure_ (i := 2) (N := some 49) (v := ?_) (a' := ?_) #[true, true, true, false, false, false, false, false, false, false, false, false] rfl rfl (any_of HT_.out (by kernel_rfl)) (fun _ _ _ h => h) (Or.inl ⟨by rfl, ?_⟩) ?_ ?_
          rotate_left
          ·intro w'
           go_simp
           with_reducible rfl
          rotate_left
          ·simp only [qa_, qe_, qb_, qc_, qd_, i64_w, i32_w]
           rfl
          refine pure_ (i := 3) (N := some 50) (v := ?_) (a' := ?_) #[true, true, true, true, false, false, false, false, false, false, false, false] rfl rfl (any_of HT_.out (by kernel_rfl)) (fun _ _ _ h => h) (Or.inl ⟨by rfl, ?_⟩) ?_ ?_
          rotate_left
          ·intro w'
           go_simp
           with_reducible rfl
          rotate_left
          ·simp only [qa_, qe_, qb_, qc_, qd_, i64_w, i32_w]
           rfl
          refine pure_ (i := 8) (N := some 55) (v := ?_) (a' := ?_) #[true, true, true, true, false, false, false, false, true, false, false, false] rfl rfl (any_of HT_.out (by kernel_rfl)) (fun _ _ _ h => h) (Or.inl ⟨by rfl, ?_⟩) ?_ ?_
          rotate_left
          ·intro w'
           go_simp
           with_reducible rfl
          rotate_left
          ·simp only [qa_, qe_, qb_, qc_, qd_, i64_w, i32_w]
           rfl
          refine pure_ (i := 9) (N := some 56) (v := ?_) (a' := ?_) #[true, true, true, true, false, false, false, false, true, true, false, false] rfl rfl (any_of HT_.out (by kernel_rfl)) (fun _ _ _ h => h) (Or.inl ⟨by rfl, ?_⟩) ?_ ?_
          rotate_left
          ·intro w'
           go_simp
           with_reducible rfl
          rotate_left
          ·simp only [qa_, qe_, qb_, qc_, qd_, i64_w, i32_w]
           rfl
          refine pure_ (i := 10) (N := some 57) (v := ?_) (a' := ?_) #[true, true, true, true, false, false, false, false, true, true, true, false] rfl rfl (any_of HT_.out (by kernel_rfl)) (fun _ _ _ h => h) (Or.inl ⟨by rfl, ?_⟩) ?_ ?_
          rotate_left
          ·intro w'
           go_simp
           with_reducible rfl
          rotate_left
          ·simp only [qa_, qe_, qb_, qc_, qd_, i64_w, i32_w]
           rfl
          refine take_ (i := 4) (N := some 51) (v := ?_) (a' := ?_) #[true, true, true, true, true, false, false, false, true, true, true, false] rfl rfl (take_ofW HT_.out HW_.out (by kernel_rfl)) (fun _ _ _ h => h) (Or.inl ⟨by rfl, ?_⟩) hHeld ?_ ?_
          rotate_left
          ·rintro w' ⟨s0, s1, s2, s3, s4, s5, s6⟩
           go_simp
           with_reducible rfl
          rotate_left
          ·simp only [qa_, qe_, qb_, qc_, qd_, i64_w, i32_w]
           rfl
          refine take_ (i := 5) (N := some 52) (v := ?_) (a' := ?_) #[true, true, true, true, true, true, false, false, true, true, true, false] rfl rfl (take_ofW HT_.out HW_.out (by kernel_rfl)) (fun _ _ _ h => h) (Or.inl ⟨by rfl, ?_⟩) hHeld ?_ ?_
          rotate_left
          ·rintro w' ⟨s0, s1, s2, s3, s4, s5, s6⟩
           go_simp
           with_reducible rfl
          rotate_left
          ·simp only [qa_, qe_, qb_, qc_, qd_, i64_w, i32_w]
           rfl
          refine one_ (i := 6) (N := some 53) #[true, true, true, true, true, true, true, false, true, true, true, false] rfl rfl (one_of HT_.out (by kernel_rfl)) (by decide) (fun K hK => ?_)
          refine goes_ Try.func31 (by kernel_rfl) rfl #[.agg #[.string ((rd_T52 t316 x6_2).f0.f0), .int .i64 ((rd_T52 t316 x6_2).f0.f1), .int .i64 ((rd_T52 t316 x6_2).f0.f2)], .agg #[.string t319, .int .i64 t320, .int .i64 t321]] (by rfl) rfl rfl (by (try simp only [qm_, qn_, qo_]); first | done | rfl) ?_
          with_reducible refine (impl_KeyCmp.calls k2 ((rd_T52 t316 x6_2).f0.f0) ((rd_T52 t316 x6_2).f0.f1) ((rd_T52 t316 x6_2).f0.f2) t319 t320 t321 t329 _ A36.out).mono ?_
          rintro e w41 ⟨rfl, hb⟩
          have HS3_ := (hb.cell (World.block_lt_of_cell? _ _ (hHeld.2.2.2.1))).trans (hHeld.2.2.2.1)
          have HS4_ := (hb.cell (World.block_lt_of_cell? _ _ (hHeld.2.2.2.2.1))).trans (hHeld.2.2.2.2.1)
          have HS5_ := (hb.cell (World.block_lt_of_cell? _ _ (hHeld.2.2.2.2.2.1))).trans (hHeld.2.2.2.2.2.1)
          have HS6_ := (hb.cell (World.block_lt_of_cell? _ _ (hHeld.2.2.2.2.2.2))).trans (hHeld.2.2.2.2.2.2)
          refine ⟨_, rfl, ?_⟩
          have n0_ := Aside0.mk (Kd.R_below (by (with_reducible repeat (first | apply Kd.R_alloc | apply Kd.R_drewN | apply Kd.R_drew)); exact HO_3.out) hb)
          have n1_ := Aside0.mk (blk_below (g := gb322) (o := .cells #[.string t319, .int .i64 t320, .int .i64 t321] 44 (0, 0)) (by (with_reducible repeat (first | refine blk_drewN ?_ _ | refine blk_drew ?_ | refine blk_alloc ?_ _)); exact BK322.out) hb)
          have n2_ := Aside0.mk (below_step (by repeat (first | (with_reducible first | exact HB.out | apply below_alloc | apply pw_below_drewN | apply below_drew1 | refine below_set ?_ GE322.out) | exact HB.out)) hb)
          clear HO_3
          clear BK322
          clear HB
          have HO_3 := n0_
          have BK322 := n1_
          have HB := n2_
          clear n0_ n1_ n2_
          (try clear hb)
          (try clear hb2)
          (try clear hk)
          (try clear hi)
          refine hK.out _ _ ⟨(blk_cell BK322.out 0).trans rfl, (blk_cell BK322.out 1).trans rfl, (blk_cell BK322.out 2).trans rfl, HS3_, HS4_, HS5_, HS6_⟩ (fun hHeld => ?_)
          clear hK K
          refine norm_ (a' := ?_) ?_ ?_
          rotate_left
          ·show Act.put _ (some 53) _ = _
           simp only [qa_, qe_, qb_, qc_, qd_, i64_w, i32_w]
           rfl
          refine pure_ (i := 7) (N := some 54) (v := ?_) (a' := ?_) #[true, true, true, true, true, true, true, true, true, true, true, false] rfl rfl (any_of HT_.out (by kernel_rfl)) (fun _ _ _ h => h) (Or.inl ⟨by rfl, ?_⟩) ?_ ?_
          rotate_left
          ·intro w'
           go_simp
           with_reducible rfl
          rotate_left
          ·simp only [qa_, qe_, qb_, qc_, qd_, i64_w, i32_w]
           rfl
          refine pure_ (i := 11) (N := some 58) (v := ?_) (a' := ?_) #[true, true, true, true, true, true, true, true, true, true, true, true] rfl rfl (any_of HT_.out (by kernel_rfl)) (fun _ _ _ h => h) (Or.inl ⟨by rfl, ?_⟩) ?_ ?_
          rotate_left
          ·intro w'
           go_simp
           with_reducible rfl
          rotate_left
          ·simp only [qa_, qe_, qb_, qc_, qd_, i64_w, i32_w]
           rfl
          refine done_ (done_of HT_.out (by kernel_rfl)) ?_
          try go_wp2
          go_roundg k2
          case measure => have := HJ5.out; have := HK2.out; omega
          case rel => exact ⟨(wrap64 (x6_2 + 1)), (by first | rfl | (simp; done) | (simp [*]; done)), H', ⟨by have := HJ5.out; have := HK2.out; omega⟩, ⟨by (with_reducible repeat (first | apply Kd.R_alloc | apply Kd.R_drewN | apply Kd.R_drew)); exact HO_3.out⟩, ⟨by (with_reducible repeat (first | refine blk_drewN ?_ _ | refine blk_drew ?_ | refine blk_alloc ?_ _)); exact BK322.out⟩, ⟨by repeat (first | (with_reducible first | exact HB.out | apply below_alloc | apply pw_below_drewN | apply below_drew1 | refine below_set ?_ GE322.out) | exact HB.out)⟩⟩
        ·rw [if_neg c35] at H
         exact absurd H (by simp)
       ·rw [if_neg c34] at H
        have c34b0 : decide (x6_2 < (t316.length : Int)) = false := decide_eq_false c34
        clear c34
        obtain rfl := Option.some.inj H
        go_wp2
        go_ret
        exact ⟨by first | rfl | (simp [errW_none, errW_some] <;> rfl) | (simp [*, errW_none, errW_some] <;> rfl), by repeat (first | (with_reducible first | exact HB.out | apply below_alloc | apply pw_below_drewN | apply below_drew1 | refine below_set ?_ GE322.out) | exact HB.out)⟩

/-- THE ONE PURE STATEMENT of laws_FnSought: yours. -/
def laws_FnSought.Pure : Prop := ∀ (l0 : List Int), l0.length ≤ maxLen → l0.length * 1 ≤ 140737488351232 → (∀ x ∈ l0, (Lit.int .u8 x).wf = true) → ∃ k, laws_FnSought.f k l0 = some true
theorem laws_FnSought.walk (P : laws_FnSought.Pure) (a0 : Option Addr) (len0 cap0 : Nat) (z0 : List Int) (w : World) (w0 : (a0 = none ∧ len0 = 0 ∧ cap0 = 0 ∧ z0 = []) ∨ ∃ x, a0 = some x ∧ len0 ≤ cap0 ∧ cap0 ≤ maxLen ∧ z0.length = cap0 ∧ (∀ i, i < z0.length → w.cell? (x.add i) = some (.int .u8 (z0.getD i 0))) ∧ ∀ n ∈ z0, (Lit.int .u8 n).wf = true) (y0 : len0 * 1 ≤ 140737488351232) :
  Calls Try.prog 8 #[.slice a0 len0 cap0] w fun e w' => e = .returned (.bool true) ∧ Below w.heap.size w w' := by
 obtain ⟨l0, rfl, hr0, hm0, hw0, hc0⟩ := ReadsInt.ofRowC w0
 obtain ⟨k, h⟩ := P l0 hm0 y0 hw0
 refine (laws_FnSought.calls k _ _ l0 true w (Kd.C_of_reads (d := (0 : Int)) (h1 := fun _ => rfl) hr0) hc0 h).mono ?_
 rintro e w' ⟨rfl, hd⟩
 exact ⟨rfl, hd⟩

end Go.Proofs.Ytfcjacncllmapaf.QFnSought
