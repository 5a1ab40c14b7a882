/- Rows that '[]byte(s)' makes: they bear a mark behind their cells, so no row of one's own in the words' sense; what the words say of such rows, said of these. This session's own text. -/
import Derived.Test.YtfcjacncllmapaaDoorWWords
namespace Go.Proofs.YtfcjacncllmapaaDoorW.PrintWords
open Go.RowKit
set_option linter.unusedVariables false
set_option linter.unusedSimpArgs false
/-- the world, but for one block's mark -/
def zr_bare (w : World) (g : Nat) (c : Array Value) (e : Nat) : World := { w with heap := w.heap.setIfInBounds g (.cells c e (0, 0)) }
theorem zr_bare_size (w : World) (g : Nat) (c : Array Value) (e : Nat) : (zr_bare w g c e).heap.size = w.heap.size := by simp [zr_bare]
theorem zr_bare_ne {w : World} {g k : Nat} (c : Array Value) (e : Nat) (h : k ≠ g) : (zr_bare w g c e).heap[k]? = w.heap[k]? := by
  simp [zr_bare, Array.getElem?_setIfInBounds, Ne.symm h]
theorem zr_bare_at {w : World} {g : Nat} {o : Obj} (c : Array Value) (e : Nat) (h : w.heap[g]? = some o) : (zr_bare w g c e).heap[g]? = some (.cells c e (0, 0)) := by
  have hl : g < w.heap.size := by
    rcases Nat.lt_or_ge g w.heap.size with h' | h'
    · exact h'
    · rw [Array.getElem?_eq_none h'] at h; cases h
  simp [zr_bare, Array.getElem?_setIfInBounds, hl]
theorem zr_heap_lt {w : World} {g : Nat} {o : Obj} (h : w.heap[g]? = some o) : g < w.heap.size := by
  rcases Nat.lt_or_ge g w.heap.size with h' | h'
  · exact h'
  · rw [Array.getElem?_eq_none h'] at h; cases h
theorem zr_bare_cell {w : World} {g : Nat} {c : Array Value} {e : Nat} {m : Nat × Nat} (h : w.heap[g]? = some (.cells c e m)) (a : Addr) : (zr_bare w g c e).cell? a = w.cell? a := by
  unfold World.cell?
  by_cases hk : a.block = g
  · rw [hk, zr_bare_at c e h, h]
  · rw [zr_bare_ne c e hk]
namespace Kd
section
variable {α : Type} {d : Kd α} {e : Nat} {w w1 : World} {base : Nat} {ok ok' : Nat → Prop} {v : Value} {xs : List α}
/-- a row of the call's own, but for a mark behind its cells -/
def Z {α : Type} (d : Kd α) (e : Nat) (w : World) (base : Nat) (ok : Nat → Prop) (v : Value) (xs : List α) : Prop :=
  ∃ (g : Nat) (c : Array Value) (m : Nat × Nat), v.ownBlock = some g ∧ w.heap[g]? = some (.cells c e m) ∧ c.size ≤ m.1 ∧ d.R e (zr_bare w g c e) base ok v xs
theorem Z_step (h : d.Z e w base ok v xs) (hm : ∀ k, ok k → k < w.heap.size → w1.heap[k]? = w.heap[k]?) : d.Z e w1 base ok v xs := by
  obtain ⟨g, c, m, hv, hg, hc, hr⟩ := h
  have hg1 : w1.heap[g]? = some (.cells c e m) := by rw [hm g (hr.1 g hv) (zr_heap_lt hg)]; exact hg
  refine ⟨g, c, m, hv, hg1, hc, R_step hr fun k ho hk => ?_⟩
  by_cases hkg : k = g
  · subst hkg; rw [zr_bare_at c e hg1, zr_bare_at c e hg]
  · rw [zr_bare_ne c e hkg, zr_bare_ne c e hkg]; exact hm k ho (by rw [zr_bare_size] at hk; exact hk)
theorem Z_mono (h : d.Z e w base ok v xs) (hok : ∀ k, ok k → ok' k) : d.Z e w base ok' v xs := by
  obtain ⟨g, c, m, hv, hg, hc, hr⟩ := h
  exact ⟨g, c, m, hv, hg, hc, R_mono hr hok⟩
theorem Z_lower {base' : Nat} (h : d.Z e w base ok v xs) (hb : base' ≤ base) : d.Z e w base' ok v xs := by
  obtain ⟨g, c, m, hv, hg, hc, hr⟩ := h
  exact ⟨g, c, m, hv, hg, hc, R_lower hr hb⟩
theorem Z_bound (h : d.Z e w base ok v xs) : d.Z e w base (fun k => ok k ∧ base ≤ k ∧ k < w.heap.size) v xs := by
  obtain ⟨g, c, m, hv, hg, hc, hr⟩ := h
  exact ⟨g, c, m, hv, hg, hc, R_mono (R_bound hr) (fun k hk => ⟨hk.1, hk.2.1, by have := hk.2.2.1; rwa [zr_bare_size] at this⟩)⟩
theorem Z_below (h : d.Z e w base ok v xs) (hb : Below w.heap.size w w1) : d.Z e w1 base ok v xs := Z_step h (fun k _ hk => hb.block k hk)
theorem Z_alloc (h : d.Z e w base ok v xs) (o : Obj) : d.Z e (w.alloc o) base ok v xs := Z_below h (below_alloc (Below.refl _ _) o)
theorem Z_drew (h : d.Z e w base ok v xs) : d.Z e w.drew base ok v xs := Z_below h (below_drew (Below.refl _ _))
theorem Z_drewN (h : d.Z e w base ok v xs) (m : Nat) : d.Z e (w.drewN m) base ok v xs := Z_below h (pw_below_drewN (Below.refl _ _) m)
theorem Z_grown (h : d.Z e w base ok v xs) {row : Option Nat} (hg : w.grownBy w1 row) (hok : ∀ k, ok k → some k ≠ row) : d.Z e w1 base ok v xs := Z_step h (fun k ho hk => hg.block k hk (hok k ho))
theorem Z_far (h : d.Z e w base ok v xs) {p : Addr} (hok : ∀ k, ok k → k ≠ p.block) (u : Value) : d.Z e (w.setCell p u) base ok v xs := Z_step h (fun k ho _ => Below.heap_setCell w p u k (hok k ho))
theorem Z_keep (h : d.Z e w base ok v xs) {g : Nat} (hk : KeepBut w w1 g none) (hok : ∀ k, ok k → k ≠ g) : d.Z e w1 base ok v xs := Z_step h (fun k ho hlt => hk.2 k hlt (hok k ho) (by simp))
theorem Z_types (h : d.Z e w base ok v xs) {g t : Nat} {cells : Array Value} (hb : w.heap[g]? = some (.cells cells t (0, 0))) (ht : ∀ q, q ∈ e :: d.E → q ≠ t) : d.Z e w base (fun k => ok k ∧ k ≠ g) v xs := by
  obtain ⟨g0, c, m, hv, hg, hc, hr⟩ := h
  have hne : g ≠ g0 := by
    intro h'; subst h'
    rw [hg] at hb
    injection hb with hb; injection hb with _ h2 _
    exact ht e (List.mem_cons_self ..) h2
  exact ⟨g0, c, m, hv, hg, hc, R_types hr (by rw [zr_bare_ne c e hne]; exact hb) ht⟩
theorem Z_set (h : d.Z e w base ok v xs) {g t : Nat} {cells : Array Value} (hb : w.heap[g]? = some (.cells cells t (0, 0))) (ht : ∀ q, q ∈ e :: d.E → q ≠ t) (j : Nat) (u : Value) : d.Z e (w.setCell ⟨g, j, none⟩ u) base ok v xs :=
  Z_mono (Z_far (Z_types h hb ht) (p := ⟨g, j, none⟩) (fun k hk => hk.2) u) (fun _ hk => hk.1)
theorem Z_lt (h : d.Z e w base ok v xs) : ∀ k, v.ownBlock = some k → k < w.heap.size := by
  obtain ⟨g, c, m, hv, hg, hc, hr⟩ := h
  intro k hk
  rw [hv] at hk; cases hk
  exact zr_heap_lt hg
theorem Z_base (h : d.Z e w base ok v xs) : ∀ k, v.ownBlock = some k → base ≤ k := by
  obtain ⟨g, c, m, hv, hg, hc, hr⟩ := h
  exact R_base hr
theorem Z_ok (h : d.Z e w base ok v xs) : ∀ k, v.ownBlock = some k → ok k := by
  obtain ⟨g, c, m, hv, hg, hc, hr⟩ := h
  exact hr.1
theorem Z_away (h : d.Z e w base ok v xs) {g : Nat} (hok : ∀ k, ok k → k ≠ g) : some g ≠ v.ownBlock := fun he => hok g (Z_ok h g he.symm) rfl
theorem Z_ne (h : d.Z e w base ok v xs) {g t : Nat} {cells : Array Value} (hb : w.heap[g]? = some (.cells cells t (0, 0))) (ht : e ≠ t) : some g ≠ v.ownBlock := by
  obtain ⟨g0, c, m, hv, hg, hc, hr⟩ := h
  intro h'
  rw [hv] at h'; cases h'
  rw [hg] at hb
  injection hb with hb; injection hb with _ h2 _
  exact ht h2
theorem Z_slice (h : d.Z e w base ok v xs) : ∃ A c, v = .slice A xs.length c := by
  obtain ⟨g, c, m, hv, hg, hc, hr⟩ := h
  exact R_slice hr
theorem Z_form (h : d.Z e w base ok v xs) (hp : 0 < xs.length) : ∃ g cap, v = .slice (some ⟨g, 0, none⟩) xs.length cap ∧ base ≤ g ∧ g < w.heap.size ∧ ∃ cells m, w.heap[g]? = some (.cells cells e m) := by
  obtain ⟨g0, c, m, hv, hg, hc, hr⟩ := h
  obtain ⟨g, cap, h1, h2, h3, _⟩ := R_form hr hp
  rw [h1] at hv
  cases hv
  exact ⟨_, cap, h1, h2, zr_heap_lt hg, c, m, hg⟩
theorem Z_typed (h : d.Z e w base ok v xs) : ∀ k, v.ownBlock = some k → ∃ cells m, w.heap[k]? = some (.cells cells e m) := by
  obtain ⟨g, c, m, hv, hg, hc, hr⟩ := h
  intro k hk
  rw [hv] at hk; cases hk
  exact ⟨c, m, hg⟩
theorem R_overZ {e' : Nat} {W : World} {u : Value} (h : d.R e W base ok u xs) (hty : ∀ k, v.ownBlock = some k → ∃ cells m, W.heap[k]? = some (.cells cells e' m)) (ht : ∀ q, q ∈ e :: d.E → q ≠ e') (hg : W.grownBy w1 v.ownBlock) : d.R e w1 base ok u xs := by
  refine R_mono (R_move (R_bound h) (fun k hk => hg.block k hk.2.2.1 (fun he => ?_))) (fun _ hk => hk.1)
  obtain ⟨_, _, _, q, hq, cells, hc⟩ := hk
  obtain ⟨cells', m', hc'⟩ := hty k he.symm
  rw [hc] at hc'
  injection hc' with hc'
  injection hc' with _ hc'
  exact ht q hq hc'
theorem Z_at {m : Nat} {w' : World} (hq : w.drewN m = w') (h : d.Z e w base ok v xs) : d.Z e w' base ok v xs := by subst hq; exact Z_drewN h m
theorem Z_elderB (h : d.Z e w base ok v xs) (a : Nat) (ha : w.heap.size ≤ a) : d.Z e w base (fun k => ok k ∧ k ≠ a) v xs := Z_mono (Z_bound h) (fun k hk => ⟨hk.1, by have := hk.2.2; omega⟩)
theorem Z_newB {w1 : World} {g : Nat} {o : Obj} (h : d.Z e w1 w.heap.size ok v xs) (hb : w.heap[g]? = some o) : d.Z e w1 w.heap.size (fun k => ok k ∧ k ≠ g) v xs := Z_mono (Z_bound h) (fun k hk => ⟨hk.1, by have := zr_heap_lt hb; have := hk.2.1; omega⟩)
theorem Z_elder' {W : World} {u : Value} (hu : d.Z e W base ok u xs) (hbase : ∀ k, v.ownBlock = some k → W.heap.size ≤ k) (hb : Below W.heap.size W w1) : d.Z e w1 base (fun k => ok k ∧ some k ≠ v.ownBlock) u xs :=
  Z_mono (Z_below (Z_bound hu) hb) (fun k hk => ⟨hk.1, fun he => by have := hbase k he.symm; have := hk.2.2; omega⟩)
theorem Z_new' {W : World} {u : Value} (h : d.Z e w1 W.heap.size ok v xs) (hlt : ∀ k, u.ownBlock = some k → k < W.heap.size) : d.Z e w1 W.heap.size (fun k => ok k ∧ some k ≠ u.ownBlock) v xs :=
  Z_mono (Z_bound h) (fun k hk => ⟨hk.1, fun he => by have := hlt k he.symm; have := hk.2.1; omega⟩)
end
section
variable {α : Type} {enc : α → Value} {h1 : ∀ x, (enc x).oneCell' = true} {e : Nat} {W w : World} {base n cap g : Nat} {ok : Nat → Prop} {v : Value} {xs : List α}
theorem C_zr_bare {w : World} {g : Nat} {c : Array Value} {m : Nat × Nat} {A : Option Addr} {n : Nat} (hg : w.heap[g]? = some (.cells c e m)) (h : (scalar enc h1).C (zr_bare w g c e) A n xs) : (scalar enc h1).C w A n xs := by
  refine ⟨h.1, h.2.1, fun hn => ?_⟩
  obtain ⟨ad, he, hc⟩ := h.2.2 hn
  refine ⟨ad, he, fun j p hj => ?_⟩
  obtain ⟨cc, hl, hk, hcell⟩ := hc j p hj
  exact ⟨cc, hl, hk, fun i u hu => by rw [← zr_bare_cell hg]; exact hcell i u hu⟩
theorem Z_reads' {A : Option Addr} {n c : Nat} (h : (scalar enc h1).Z e w base ok (.slice A n c) xs) : n = xs.length ∧ n ≤ c ∧ (scalar enc h1).C w A xs.length xs := by
  obtain ⟨g, cc, m, hv, hg, hc, hr⟩ := h
  obtain ⟨a, b, hC⟩ := R_reads' hr
  exact ⟨a, b, C_zr_bare hg hC⟩
theorem Z_reads (h : (scalar enc h1).Z e w base ok v xs) : ∃ A c, v = .slice A xs.length c ∧ xs.length ≤ c ∧ (scalar enc h1).C w A xs.length xs := by
  obtain ⟨g, cc, m, hv, hg, hc, hr⟩ := h
  obtain ⟨A, c, h2, h3, hC⟩ := R_reads hr
  exact ⟨A, c, h2, h3, C_zr_bare hg hC⟩
theorem Z_cell (d : α) (h : (scalar enc h1).Z e W base ok (.slice (some ⟨g, 0, none⟩) n cap) xs) (i : Int) (h0 : 0 ≤ i) (hi : i < n) : W.cell? ⟨g, i.toNat, none⟩ = some (enc (rdOf d xs i)) ∧ W.frozen? ⟨g, i.toNat, none⟩ = false := by
  obtain ⟨g0, c, m, hv, hg, hc, hr⟩ := h
  simp only [Value.ownBlock, Option.some.injEq] at hv
  subst hv
  obtain ⟨h2, _⟩ := R_celln d hr i h0 hi
  rw [zr_bare_cell hg] at h2
  refine ⟨h2, ?_⟩
  have hlt : i.toNat < c.size := by
    rw [World.cell?, hg] at h2
    simp at h2
    obtain ⟨hlt, _⟩ := Array.getElem?_eq_some_iff.1 h2
    exact hlt
  rw [World.frozen?, hg]
  obtain ⟨lo, hi'⟩ := m
  simp only [Bool.and_eq_false_iff, decide_eq_false_iff_not]
  exact .inl (by have : c.size ≤ lo := hc
                 omega)
theorem Z_putg (h : (scalar enc h1).Z e W base ok (.slice (some ⟨g, 0, none⟩) n cap) xs) (i : Int) (x : α) : (scalar enc h1).Z e (W.setCell ⟨g, i.toNat, none⟩ (enc x)) base ok (.slice (some ⟨g, 0, none⟩) n cap) (xs.set i.toNat x) ∧ W.grownBy (W.setCell ⟨g, i.toNat, none⟩ (enc x)) (some g) := by
  obtain ⟨g0, c, m, hv, hg, hc, hr⟩ := h
  simp only [Value.ownBlock, Option.some.injEq] at hv
  subst hv
  have hs1 : (W.setCell ⟨g, i.toNat, none⟩ (enc x)).heap[g]? = some (.cells (c.setIfInBounds i.toNat (enc x)) e m) := by
    simp [World.setCell, Array.getElem?_modify, hg]
  have hs2 : ((zr_bare W g c e).setCell ⟨g, i.toNat, none⟩ (enc x)).heap[g]? = some (.cells (c.setIfInBounds i.toNat (enc x)) e (0, 0)) := by
    have := zr_bare_at c e hg
    simp [World.setCell, Array.getElem?_modify, this]
  refine ⟨⟨g, c.setIfInBounds i.toNat (enc x), m, rfl, hs1, by rw [Array.size_setIfInBounds]; exact hc, R_step (R_putg hr i x).1 fun k _ _ => ?_⟩, ?_⟩
  · by_cases hk : k = g
    · subst hk; rw [hs2, zr_bare_at _ e hs1]
    · rw [zr_bare_ne _ e hk, Below.heap_setCell _ _ _ _ hk, Below.heap_setCell _ _ _ _ hk, zr_bare_ne c e hk]
  · exact ⟨rfl, rfl, rfl, by simp [World.setCell], fun k _ hk => Below.heap_setCell W _ _ k (fun h' => hk (by rw [h']))⟩
end
section
variable {P : Program} {ops : Array Oper} {rest : List Oper} {o : Oper} {a : Act} {Q : Exit → Act → World → Prop}
/-- '[]byte(s)': the row of the string's bytes -/
theorem Z_conv {w0 W : World} (base : Nat) (hgd : o.guard = none) (src dst e : TypeId) (x : Operand) (ho : o.op = .convert src dst x) {u : TypeDesc} (hs : P.underlying src = some u) (hd : P.underlying dst = some (.slice e)) (he : P.underlying e = some (.int .u8))
    (s : ByteArray) (hx : a.eval x = .string s) (hl : s.size ≤ 140737488355328) {ok : Nat → Prop} (hfresh : ok W.heap.size) (HB : Below base w0 W) (hbase : base ≤ W.heap.size)
    (h : ∀ v1 w1, (Kd.int .u8).Z e w1 base ok v1 (bytesOf s) → Below base w0 w1 → W.grownBy w1 none → (∃ b, v1.ownBlock = some b ∧ W.heap.size ≤ b) → wpList P ops Q rest (a.put o.dst v1) w1) : wpList P ops Q (o :: rest) a W := by
  have hsz : (Lib.bytesCells W e s).size = grownCap W s.size 0 e := by
    have := grownCap_ge W s.size 0 e
    have hd' : s.data.size = s.size := rfl
    simp [Lib.bytesCells, hd']
    omega
  refine event_run (v := .slice (some ⟨W.heap.size, 0, none⟩) s.size (grownCap W s.size 0 e)) (w1 := Lib.bytesWorld W e s) hgd ?_ (h _ _ ?_ (bytes_below HB hbase e s) ?_ ⟨W.heap.size, rfl, Nat.le_refl _⟩)
  · simp [execOp, ho, hx, print_bytes src dst e hs hd he s W]
  · refine ⟨W.heap.size, Lib.bytesCells W e s, ((Lib.bytesCells W e s).size, (Lib.bytesCells W e s).size + 1), rfl, Lib.bytesWorld_at_new W e s, Nat.le_refl _, ?_⟩
    refine R_of_own ?_ (fun k hk => by cases hk; exact hfresh)
    refine ⟨by simp [encs], .inr ⟨W.heap.size, grownCap W s.size 0 e, Lib.bytesCells W e s, by rw [bytesOf_length], hbase, zr_bare_at _ e (Lib.bytesWorld_at_new W e s), by rw [bytesOf_length]; exact grownCap_ge W s.size 0 e, grownCap_le_maxLen W s.size 0 e (by simp only [maxLen]; omega), by rw [hsz, Nat.mul_one], ?_⟩⟩
    rw [bytesOf_length, Nat.mul_one]
    have hd' : s.data.toList.length = s.size := data_length s
    simp [Lib.bytesCells, encs, bytesOf, List.take_append_of_le_length, hd']
  · exact ⟨rfl, rfl, rfl, by rw [Lib.bytesWorld_size]; omega, fun k hk _ => Lib.bytesWorld_at_old W e s k hk⟩
theorem Z_conv_step {Kc : Act → World → Prop} {w0 W : World} (base : Nat) (hw : Region.wanted o (yielded ops a.tmps) = true) (src dst e : TypeId) (x : Operand) (ho : o.op = .convert src dst x) {u : TypeDesc} (hs : P.underlying src = some u) (hd : P.underlying dst = some (.slice e)) (he : P.underlying e = some (.int .u8))
    (s : ByteArray) (hx : a.eval x = .string s) (hl : s.size ≤ 140737488355328) {ok : Nat → Prop} (hfresh : ok W.heap.size) (HB : Below base w0 W) (hbase : base ≤ W.heap.size)
    (h : ∀ v1 w1, (Kd.int .u8).Z e w1 base ok v1 (bytesOf s) → Below base w0 w1 → W.grownBy w1 none → (∃ b, v1.ownBlock = some b ∧ W.heap.size ≤ b) → Kc (a.put o.dst v1) w1) : if Region.wanted o (yielded ops a.tmps) = true then Oper.wp P o a W Kc Q else Kc (a.put o.dst undef) W := by
  have hsz : (Lib.bytesCells W e s).size = grownCap W s.size 0 e := by
    have := grownCap_ge W s.size 0 e
    have hd' : s.data.size = s.size := rfl
    simp [Lib.bytesCells, hd']
    omega
  refine event_step (v := .slice (some ⟨W.heap.size, 0, none⟩) s.size (grownCap W s.size 0 e)) (w1 := Lib.bytesWorld W e s) hw ?_ (h _ _ ?_ (bytes_below HB hbase e s) ?_ ⟨W.heap.size, rfl, Nat.le_refl _⟩)
  · simp [execOp, ho, hx, print_bytes src dst e hs hd he s W]
  · refine ⟨W.heap.size, Lib.bytesCells W e s, ((Lib.bytesCells W e s).size, (Lib.bytesCells W e s).size + 1), rfl, Lib.bytesWorld_at_new W e s, Nat.le_refl _, ?_⟩
    refine R_of_own ?_ (fun k hk => by cases hk; exact hfresh)
    refine ⟨by simp [encs], .inr ⟨W.heap.size, grownCap W s.size 0 e, Lib.bytesCells W e s, by rw [bytesOf_length], hbase, zr_bare_at _ e (Lib.bytesWorld_at_new W e s), by rw [bytesOf_length]; exact grownCap_ge W s.size 0 e, grownCap_le_maxLen W s.size 0 e (by simp only [maxLen]; omega), by rw [hsz, Nat.mul_one], ?_⟩⟩
    rw [bytesOf_length, Nat.mul_one]
    have hd' : s.data.toList.length = s.size := data_length s
    simp [Lib.bytesCells, encs, bytesOf, List.take_append_of_le_length, hd']
  · exact ⟨rfl, rfl, rfl, by rw [Lib.bytesWorld_size]; omega, fun k hk _ => Lib.bytesWorld_at_old W e s k hk⟩
end
/-- 'string(b)' of such a row -/
theorem Z_string {P : Program} {w : World} {base : Nat} {ok : Nat → Prop} {e' src dst e : TypeId} {v : Value} {xs : List Int} (hs : P.underlying src = some (.slice e)) (he : P.underlying e = some (.int .u8)) (hd : P.underlying dst = some .string)
    (h : (Kd.int .u8).Z e' w base ok v xs) : (convert src dst v).run P w = .ok (.string (strOfNums xs)) w := by
  obtain ⟨A, c, hv, _, hC⟩ := Z_reads h
  rw [hv]
  exact Kd.C_string hs he hd hC
end Kd
end Go.Proofs.YtfcjacncllmapaaDoorW.PrintWords
