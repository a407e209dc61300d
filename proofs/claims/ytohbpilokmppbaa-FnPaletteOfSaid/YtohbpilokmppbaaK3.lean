/- Contracts and row, written by a program of this place out of the translation: the call answers true and its argument reads as before, for every input; no condition. -/
import Derived.Test.YtohbpilokmppbaaK0
import Derived.Test.YtohbpilokmppbaaK1
import Derived.Test.YtohbpilokmppbaaK2
namespace Go.Proofs.Ytohbpilokmppbaa.P
open Go.RowKit Go.Proofs.YtohbpilokmppbaaW.PrintWords Go.Proofs.YtohbpilokmppbaaW.PrintLast Go.Proofs.YtohbpilokmppbaaW.PrintMore
attribute [local go_sem] max2_int min2_int max_two min_two max_three min_three max_four min_four   -- for this text's walks alone
set_option linter.unusedVariables false
set_option linter.unusedSimpArgs false
def spec_PaletteOf.f (k : Nat) (a0_0 : Int) (a0_1 : Int) (a0_2 : Int) (l0_3 : List Int) : Option ((List (List Int)) × Bool) := (spec_validImage.f k a0_0 a0_1 a0_2 l0_3).bind fun t134 => (if t134 = true then ((spec_allColors.f k a0_0 a0_1 a0_2 l0_3).bind fun t135 => (if (t135.length : Int) > 16 then (some (([] : List (List Int)), false)) else ((spec_allColors.f k a0_0 a0_1 a0_2 l0_3).bind fun t138 => (some (t138, true))))) else (some (([] : List (List Int)), false)))
theorem spec_PaletteOf.mono : ∀ a0 a1 a2 a3 k, LeO (spec_PaletteOf.f k a0 a1 a2 a3) (spec_PaletteOf.f (k + 1) a0 a1 a2 a3) := by
 intro a0 a1 a2 a3 k
 unfold spec_PaletteOf.f
 repeat' first | (with_reducible first | exact spec_allColors.mono _ _ _ _ _ | exact spec_validImage.mono _ _ _ _ _ | exact lR | exact lN | refine lI ?_ ?_ | refine lB ?_ fun _ => ?_) | exact spec_allColors.mono _ _ _ _ _ | exact spec_validImage.mono _ _ _ _ _ | exact lN | refine lI ?_ ?_ | refine lB ?_ fun _ => ?_
set_option maxHeartbeats 8000000 in
set_option maxRecDepth 100000 in
theorem spec_PaletteOf.calls (k : Nat) (a0_0 : Int) (a0_1 : Int) (a0_2 : Int) (A0_3 : Option Addr) (c0_3 : Nat) (l0_3 : List Int) (r1 : List (List Int)) (r2 : Bool) (w : World) (hr0_3 : Kd.C (Kd.int .i64) w A0_3 l0_3.length l0_3) (hc0_3 : l0_3.length ≤ c0_3) (h : spec_PaletteOf.f k a0_0 a0_1 a0_2 l0_3 = some (r1, r2)) :
  Calls Try.prog 13 #[.agg #[.int .i64 a0_0, .int .i64 a0_1, .int .i64 a0_2, .slice A0_3 l0_3.length c0_3]] w fun e w' => ∃ v0_ : Value, e = .returned (.tuple #[v0_, .bool r2]) ∧ Kd.S (Kd.slice 3 (Kd.int .i64)) 22 w' w.heap.size (fun _ => True) v0_ r1 ∧ Below w.heap.size w w' := by
 have hu29 := Try.underlying29
 have HR0_3 := aM hr0_3
 have HC0_3 := aM hc0_3
 clear hr0_3 hc0_3
 have HB := aM (Below.refl w.heap.size w)
 unfold spec_PaletteOf.f at h
 have H := h
 clear h
 replace H := Option.bind_eq_some_iff.mp H
 obtain ⟨t134, A20, H⟩ := H
 replace H : (if t134 = true then ((spec_allColors.f k a0_0 a0_1 a0_2 l0_3).bind fun t135 => (if (t135.length : Int) > 16 then (some (([] : List (List Int)), false)) else ((spec_allColors.f k a0_0 a0_1 a0_2 l0_3).bind fun t138 => (some (t138, true))))) else (some (([] : List (List Int)), false))) = some (r1, r2) := H
 have A2 := aM A20
 clear A20
 by_cases c3 : t134 = true
 rotate_left
 ·replace c3 := Bool.eq_false_iff.mpr c3
  subst c3
  have H1 : (some (([] : List (List Int)), false)) = some (r1, r2) := by rw [if_neg (show ¬ (false = true) by decide)] at H; exact H
  clear H
  have H := H1
  clear H1
  simp only [Option.some.injEq, Prod.mk.injEq] at H
  obtain ⟨rfl, rfl⟩ := H
  go_enter Try.func13, Try.ntmps13
  go_wp2_with (first | ((with_reducible refine gate_dst (N := 1) rfl ?_); (try (refine gate_guard (by rfl) ?_; dsimp only)); refine bxE (N := 1) (cs := #[.int .i64 a0_0, .int .i64 a0_1, .int .i64 a0_2, .slice A0_3 l0_3.length c0_3]) (t := 29) ?_; intro gb133 hg w21 hbox hb; have BK133 := aM (hbox); have GW133 := gW hg HB; have GE133 := gW hg HB; replace HB := bS HB hb; clear hb hbox hg; obtain ⟨⟨hcz22_0, hcz22_1, hcz22_2, hcz22_3⟩, hfz22_0, hfz22_1, hfz22_2, hfz22_3⟩ := cf4 BK133) | ((with_reducible refine gate_callee (f := 40) rfl ?_); refine gL (some 5) Try.func40 #[.agg #[.int .i64 a0_0, .int .i64 a0_1, .int .i64 a0_2, .slice A0_3 l0_3.length c0_3]] ?_; (with_reducible refine (spec_validImage.calls k a0_0 a0_1 a0_2 _ _ l0_3 false _ ?side1 ?side2 A2.out).mono ?_); (case side1 => exact qC (Kd.C_below HR0_3.out HB.out)); (case side2 => exact HC0_3.out); rintro e w23 ⟨rfl, hb⟩; refine ⟨_, rfl, ?_⟩; replace BK133 := bB BK133 hb; replace HB := bS HB hb; clear hb))
  go_ret2
  exact ⟨_, qX, by first | exact Kd.S_nil _ _ _ _ _ | exact Kd.N_nil _ _ _ _ _ | exact Kd.V_nil _ _ _ _ _ | exact Kd.Q_nil _ _ _ _ _ | exact Kd.R_nil _ _ _ _ _, by exact qW HB.out⟩
 subst c3
 have H1 : ((spec_allColors.f k a0_0 a0_1 a0_2 l0_3).bind fun t135 => (if (t135.length : Int) > 16 then (some (([] : List (List Int)), false)) else ((spec_allColors.f k a0_0 a0_1 a0_2 l0_3).bind fun t138 => (some (t138, true))))) = some (r1, r2) := by rw [if_pos rfl] at H; exact H
 clear H
 have H := H1
 clear H1
 replace H := Option.bind_eq_some_iff.mp H
 obtain ⟨t135, A40, H⟩ := H
 replace H : (if (t135.length : Int) > 16 then (some (([] : List (List Int)), false)) else ((spec_allColors.f k a0_0 a0_1 a0_2 l0_3).bind fun t138 => (some (t138, true)))) = some (r1, r2) := H
 have A4 := aM A40
 clear A40
 by_cases c5 : (t135.length : Int) > 16
 ·rw [if_pos c5] at H
  have c5b0 : decide (16 < (t135.length : Int)) = true := decide_eq_true c5
  have c5b1 : decide (16 < t135.length) = true := decide_eq_true (by omega)
  clear c5
  simp only [Option.some.injEq, Prod.mk.injEq] at H
  obtain ⟨rfl, rfl⟩ := H
  go_enter Try.func13, Try.ntmps13
  go_wp2_with (first | ((with_reducible refine gate_dst (N := 1) rfl ?_); (try (refine gate_guard (by rfl) ?_; dsimp only)); refine bxE (N := 1) (cs := #[.int .i64 a0_0, .int .i64 a0_1, .int .i64 a0_2, .slice A0_3 l0_3.length c0_3]) (t := 29) ?_; intro gb133 hg w6 hbox hb; have BK133 := aM (hbox); have GW133 := gW hg HB; have GE133 := gW hg HB; replace HB := bS HB hb; clear hb hbox hg; obtain ⟨⟨hcz7_0, hcz7_1, hcz7_2, hcz7_3⟩, hfz7_0, hfz7_1, hfz7_2, hfz7_3⟩ := cf4 BK133) | ((with_reducible refine gate_callee (f := 40) rfl ?_); refine gL (some 5) Try.func40 #[.agg #[.int .i64 a0_0, .int .i64 a0_1, .int .i64 a0_2, .slice A0_3 l0_3.length c0_3]] ?_; (with_reducible refine (spec_validImage.calls k a0_0 a0_1 a0_2 _ _ l0_3 true _ ?side1 ?side2 A2.out).mono ?_); (case side1 => exact qC (Kd.C_below HR0_3.out HB.out)); (case side2 => exact HC0_3.out); rintro e w8 ⟨rfl, hb⟩; refine ⟨_, rfl, ?_⟩; replace BK133 := bB BK133 hb; replace HB := bS HB hb; clear hb; obtain ⟨⟨hcz9_0, hcz9_1, hcz9_2, hcz9_3⟩, hfz9_0, hfz9_1, hfz9_2, hfz9_3⟩ := cf4 BK133) | (go_at_call 41; (with_reducible refine (spec_allColors.calls k a0_0 a0_1 a0_2 _ _ l0_3 t135 _ ?side1 ?side2 A4.out).mono ?_); (case side1 => exact qC (Kd.C_below HR0_3.out HB.out)); (case side2 => exact HC0_3.out); rintro e w10 ⟨v136, rfl, ho0, hb⟩; have HO137 := aM (Kd.S_lower ho0 (below_size (qW HB.out))); replace BK133 := bB BK133 hb; replace HB := bS HB hb; clear hb ho0; obtain ⟨Ao11, co11, eo11⟩ := Kd.S_slice HO137.out; subst eo11))
  go_ret2
  exact ⟨_, qX, by first | exact Kd.S_nil _ _ _ _ _ | exact Kd.N_nil _ _ _ _ _ | exact Kd.V_nil _ _ _ _ _ | exact Kd.Q_nil _ _ _ _ _ | exact Kd.R_nil _ _ _ _ _, by exact qW HB.out⟩
 rw [if_neg c5] at H
 have c5b0 : decide (16 < (t135.length : Int)) = false := decide_eq_false c5
 have c5b1 : decide (16 < t135.length) = false := decide_eq_false (by omega)
 clear c5
 replace H := Option.bind_eq_some_iff.mp H
 obtain ⟨t138, A120, H⟩ := H
 replace H : (some (t138, true)) = some (r1, r2) := H
 have A12 := aM A120
 clear A120
 simp only [Option.some.injEq, Prod.mk.injEq] at H
 obtain ⟨rfl, rfl⟩ := H
 go_enter Try.func13, Try.ntmps13
 go_wp2_with (first | ((with_reducible refine gate_dst (N := 1) rfl ?_); (try (refine gate_guard (by rfl) ?_; dsimp only)); refine bxE (N := 1) (cs := #[.int .i64 a0_0, .int .i64 a0_1, .int .i64 a0_2, .slice A0_3 l0_3.length c0_3]) (t := 29) ?_; intro gb133 hg w13 hbox hb; have BK133 := aM (hbox); have GW133 := gW hg HB; have GE133 := gW hg HB; replace HB := bS HB hb; clear hb hbox hg; obtain ⟨⟨hcz14_0, hcz14_1, hcz14_2, hcz14_3⟩, hfz14_0, hfz14_1, hfz14_2, hfz14_3⟩ := cf4 BK133) | ((with_reducible refine gate_callee (f := 40) rfl ?_); refine gL (some 5) Try.func40 #[.agg #[.int .i64 a0_0, .int .i64 a0_1, .int .i64 a0_2, .slice A0_3 l0_3.length c0_3]] ?_; (with_reducible refine (spec_validImage.calls k a0_0 a0_1 a0_2 _ _ l0_3 true _ ?side1 ?side2 A2.out).mono ?_); (case side1 => exact qC (Kd.C_below HR0_3.out HB.out)); (case side2 => exact HC0_3.out); rintro e w15 ⟨rfl, hb⟩; refine ⟨_, rfl, ?_⟩; replace BK133 := bB BK133 hb; replace HB := bS HB hb; clear hb; obtain ⟨⟨hcz16_0, hcz16_1, hcz16_2, hcz16_3⟩, hfz16_0, hfz16_1, hfz16_2, hfz16_3⟩ := cf4 BK133) | (go_at_call 41; (with_reducible refine (spec_allColors.calls k a0_0 a0_1 a0_2 _ _ l0_3 t135 _ ?side1 ?side2 A4.out).mono ?_); (case side1 => exact qC (Kd.C_below HR0_3.out HB.out)); (case side2 => exact HC0_3.out); rintro e w17 ⟨v136, rfl, ho0, hb⟩; have HO137 := aM (Kd.S_lower ho0 (below_size (qW HB.out))); replace BK133 := bB BK133 hb; replace HB := bS HB hb; clear hb ho0; obtain ⟨Ao18, co18, eo18⟩ := Kd.S_slice HO137.out; subst eo18; obtain ⟨⟨hcz19_0, hcz19_1, hcz19_2, hcz19_3⟩, hfz19_0, hfz19_1, hfz19_2, hfz19_3⟩ := cf4 BK133) | ((with_reducible refine gate_callee (f := 41) rfl ?_); refine gL (some 14) Try.func41 #[.agg #[.int .i64 a0_0, .int .i64 a0_1, .int .i64 a0_2, .slice A0_3 l0_3.length c0_3]] ?_; (with_reducible refine (spec_allColors.calls k a0_0 a0_1 a0_2 _ _ l0_3 t138 _ ?side1 ?side2 A12.out).mono ?_); (case side1 => exact qC (Kd.C_below HR0_3.out HB.out)); (case side2 => exact HC0_3.out); rintro e w20 ⟨v139, rfl, ho0, hb⟩; refine ⟨_, rfl, ?_⟩; have HO140 := aM (Kd.S_lower (Kd.S_new' ho0 (Kd.S_lt (by (with_reducible repeat (first | apply Kd.S_alloc | apply Kd.S_drewN | apply Kd.S_drew)); exact HO137.out))) (below_size (qW HB.out))); replace HO137 := aM (Kd.S_elder' (by (with_reducible repeat (first | apply Kd.S_alloc | apply Kd.S_drewN | apply Kd.S_drew)); exact HO137.out) (Kd.S_base ho0) hb); replace BK133 := bB BK133 hb; replace HB := bS HB hb; clear hb ho0))
 go_ret2
 exact ⟨_, qX, by (with_reducible repeat (first | apply Kd.S_alloc | apply Kd.S_drewN | apply Kd.S_drew)); exact Kd.S_mono HO140.out (fun _ hk => trivial), by exact qW HB.out⟩
def badColor (planes : Int) (c : List Int) : Bool := ((c.length : Int) != planes) || (c.any fun n => decide (n < 0) || decide (255 < n))
set_option maxHeartbeats 8000000 in
set_option maxRecDepth 100000 in
theorem isPaletteTest (w : World) (B : Nat) (planes : Int) (hB : B < w.heap.size) (hc : w.cell? ⟨B, 0, none⟩ = some (.int .i64 planes)) :
  PredL 82 #[.pointer (some ⟨B, 0, none⟩)] (badColor planes) w := fun W A c x hb hr hl => by
 have hc' : W.cell? ⟨B, 0, none⟩ = some (.int .i64 planes) := (hb.cell (p := ⟨B, 0, none⟩) hB).trans hc
 have HR := aM hr
 have HL := aM hl
 clear hb hc hB hr hl
 by_cases h1 : (x.length : Int) = planes
 ·have e : badColor planes x = (x.any fun n => decide (n < 0) || decide (255 < n)) := by unfold badColor; simp [h1]
  rw [e]
  have c1 : ((x.length : Int) != planes) = false := bne_eq_false_iff_eq.2 h1
  clear e h1
  have hC := impl_areBytes.calls A c x (!(x.any fun n => decide (n < 0) || decide (255 < n))) W HR.out HL.out rfl
  generalize (x.any fun n => decide (n < 0) || decide (255 < n)) = b at hC ⊢
  go_enter Try.func82, Try.ntmps82
  go_wp2_with (go_at_call 68; refine hC.mono ?_; rintro e w' ⟨rfl, ⟨q, rfl⟩⟩)
  go_ret
  exact ⟨by simp, ⟨⟨q, rfl⟩⟩⟩
 ·have c1 : ((x.length : Int) != planes) = true := bne_iff_ne.2 h1
  have e : badColor planes x = true := by unfold badColor; rw [c1]; rfl
  rw [e]
  clear e h1
  go_enter Try.func82, Try.ntmps82
  go_wp2
  go_ret
  exact ⟨rfl, Drawn0.refl _⟩
def impl_isPalette.f (l0 : List (List Int)) (a1 : Int) : Option (Bool) := some (if (l0.length : Int) < 1 then false else if 16 < (l0.length : Int) then false else if a1 < 1 then false else if 4 < a1 then false else !(l0.any (badColor a1)))
set_option maxHeartbeats 8000000 in
set_option maxRecDepth 100000 in
theorem impl_isPalette.calls (A0 : Option Addr) (c0 : Nat) (l0 : List (List Int)) (a1 : Int) (r : Bool) (w : World) (hr0 : Kd.C (Kd.slice 3 (Kd.int .i64)) w A0 l0.length l0) (hc0 : l0.length ≤ c0) (h : impl_isPalette.f l0 a1 = some r) :
  Calls Try.prog 53 #[.slice A0 l0.length c0, .int .i64 a1] w fun e w' => e = .returned (.bool r) ∧ Below w.heap.size w w' := by
 have hr := Option.some.inj h
 clear h
 have HR0 := aM hr0
 have HC0 := aM hc0
 clear hr0 hc0
 by_cases h1 : (l0.length : Int) < 1
 ·rw [if_pos h1] at hr
  subst hr
  have c1 : decide ((l0.length : Int) < 1) = true := decide_eq_true h1
  have c1' : decide (l0.length < 1) = true := decide_eq_true (by omega)
  clear h1
  go_enter Try.func53, Try.ntmps53
  go_wp2
  go_ret
  exact ⟨rfl, by repeat (first | exact Below.refl _ _ | apply below_alloc | apply pw_below_drewN)⟩
 rw [if_neg h1] at hr
 have c1 : decide ((l0.length : Int) < 1) = false := decide_eq_false h1
 have c1' : decide (l0.length < 1) = false := decide_eq_false (by omega)
 clear h1
 by_cases h2 : 16 < (l0.length : Int)
 ·rw [if_pos h2] at hr
  subst hr
  have c2 : decide (16 < (l0.length : Int)) = true := decide_eq_true h2
  have c2' : decide (16 < l0.length) = true := decide_eq_true (by omega)
  clear h2
  go_enter Try.func53, Try.ntmps53
  go_wp2
  go_ret
  exact ⟨rfl, by repeat (first | exact Below.refl _ _ | apply below_alloc | apply pw_below_drewN)⟩
 rw [if_neg h2] at hr
 have c2 : decide (16 < (l0.length : Int)) = false := decide_eq_false h2
 have c2' : decide (16 < l0.length) = false := decide_eq_false (by omega)
 clear h2
 by_cases h3 : a1 < 1
 ·rw [if_pos h3] at hr
  subst hr
  have c3 : decide (a1 < 1) = true := decide_eq_true h3
  clear h3
  go_enter Try.func53, Try.ntmps53
  go_wp2
  go_ret
  exact ⟨rfl, by repeat (first | exact Below.refl _ _ | apply below_alloc | apply pw_below_drewN)⟩
 rw [if_neg h3] at hr
 have c3 : decide (a1 < 1) = false := decide_eq_false h3
 clear h3
 by_cases h4 : 4 < a1
 ·rw [if_pos h4] at hr
  subst hr
  have c4 : decide (4 < a1) = true := decide_eq_true h4
  clear h4
  go_enter Try.func53, Try.ntmps53
  go_wp2
  go_ret
  exact ⟨rfl, by repeat (first | exact Below.refl _ _ | apply below_alloc | apply pw_below_drewN)⟩
 rw [if_neg h4] at hr
 have c4 : decide (4 < a1) = false := decide_eq_false h4
 clear h4
 subst hr
 have hC := containsFuncList.calls 82 #[.pointer (some ⟨w.heap.size, 0, none⟩)] (enters_of Try.func82 (by kernel_rfl) rfl) (badColor a1) A0 c0 l0 (w.alloc (.cells #[.int .i64 a1] 3))
  (isPaletteTest _ w.heap.size a1 (by simp) (by simp)) (Kd.C_alloc HR0.out _) HC0.out
 generalize l0.any (badColor a1) = b at hC ⊢
 go_enter Try.func53, Try.ntmps53
 go_wp2_with (go_at_call 45; refine hC.mono ?_; rintro e w' ⟨rfl, ⟨q, rfl⟩⟩)
 go_ret
 exact ⟨rfl, by repeat (first | exact Below.refl _ _ | apply below_alloc | apply pw_below_drewN)⟩
mutual
def impl_nearestColor.l0 : Nat → List Int → Int → Int → List (List Int) → Int → Int → Option (Int)
 | 0, _, _, _, _, _, _ => none
 | k + 1, x1, x5, x6, x12, x13, x14 => if x14 < x13 then (if 0 ≤ x14 then (if x14 < (x12.length : Int) then (impl_nearestColor.l1 k x1 x5 x6 x14 0 x12 x13 x14 (rd_L1 x12 x14) ((rd_L1 x12 x14).length : Int) 0) else (none)) else (none)) else (some x5)
def impl_nearestColor.l1 : Nat → List Int → Int → Int → Int → Int → List (List Int) → Int → Int → List Int → Int → Int → Option (Int)
 | 0, _, _, _, _, _, _, _, _, _, _, _ => none
 | k + 1, x1, x5, x6, x7, x9, x12, x13, x14, x19, x20, x21 => if x21 < x20 then (if 0 ≤ x21 then (if x21 < (x19.length : Int) then (if x21 < (x1.length : Int) then (impl_nearestColor.l1 k x1 x5 x6 x7 (wrap64 (x9 + (wrap64 ((wrap64 ((rd x19 x21) - (rd x1 x21))) * (wrap64 ((rd x19 x21) - (rd x1 x21))))))) x12 x13 x14 x19 x20 (wrap64 (x21 + 1))) else (none)) else (none)) else (none)) else (if x6 < 0 then (impl_nearestColor.l0 k x1 x7 x9 x12 x13 (wrap64 (x14 + 1))) else (if x9 < x6 then (impl_nearestColor.l0 k x1 x7 x9 x12 x13 (wrap64 (x14 + 1))) else (impl_nearestColor.l0 k x1 x5 x6 x12 x13 (wrap64 (x14 + 1)))))
end
def impl_nearestColor.f (k : Nat) (l0 : List (List Int)) (l1 : List Int) : Option (Int) := impl_nearestColor.l0 k l1 0 (-1) l0 (l0.length : Int) 0
theorem impl_nearestColor.mono_l : ∀ k, (∀ y0 y1 y2 y3 y4 y5, LeO (impl_nearestColor.l0 k y0 y1 y2 y3 y4 y5) (impl_nearestColor.l0 (k + 1) y0 y1 y2 y3 y4 y5)) ∧ (∀ y0 y1 y2 y3 y4 y5 y6 y7 y8 y9 y10, LeO (impl_nearestColor.l1 k y0 y1 y2 y3 y4 y5 y6 y7 y8 y9 y10) (impl_nearestColor.l1 (k + 1) y0 y1 y2 y3 y4 y5 y6 y7 y8 y9 y10))
 | 0 => ⟨fun _ _ _ _ _ _ r h => by simp [impl_nearestColor.l0] at h, fun _ _ _ _ _ _ _ _ _ _ _ r h => by simp [impl_nearestColor.l1] at h⟩
 | k + 1 => by
  obtain ⟨ih0, ih1⟩ := impl_nearestColor.mono_l k
  refine ⟨?_, ?_⟩
  all_goals intros
  all_goals first | unfold impl_nearestColor.l0 | unfold impl_nearestColor.l1
  all_goals repeat' first | (with_reducible first | exact ih0 _ _ _ _ _ _ | exact ih1 _ _ _ _ _ _ _ _ _ _ _ | exact lR | exact lN | refine lI ?_ ?_ | refine lB ?_ fun _ => ?_) | exact ih0 _ _ _ _ _ _ | exact ih1 _ _ _ _ _ _ _ _ _ _ _ | exact lN | refine lI ?_ ?_ | refine lB ?_ fun _ => ?_
theorem impl_nearestColor.mono : ∀ a0 a1 k, LeO (impl_nearestColor.f k a0 a1) (impl_nearestColor.f (k + 1) a0 a1) := by
 intro a0 a1 k
 obtain ⟨ih0, ih1⟩ := impl_nearestColor.mono_l k
 unfold impl_nearestColor.f
 repeat' first | (with_reducible first | exact ih0 _ _ _ _ _ _ | exact ih1 _ _ _ _ _ _ _ _ _ _ _ | exact lR | exact lN | refine lI ?_ ?_ | refine lB ?_ fun _ => ?_) | exact ih0 _ _ _ _ _ _ | exact ih1 _ _ _ _ _ _ _ _ _ _ _ | exact lN | refine lI ?_ ?_ | refine lB ?_ fun _ => ?_
set_option maxHeartbeats 8000000 in
set_option maxRecDepth 100000 in
theorem impl_nearestColor.calls (k : Nat) (A0 : Option Addr) (c0 : Nat) (l0 : List (List Int)) (A1 : Option Addr) (c1 : Nat) (l1 : List Int) (r : Int) (w : World) (hr0 : Kd.C (Kd.slice 3 (Kd.int .i64)) w A0 l0.length l0) (hc0 : l0.length ≤ c0) (hr1 : Kd.C (Kd.int .i64) w A1 l1.length l1) (hc1 : l1.length ≤ c1) (h : impl_nearestColor.f k l0 l1 = some r) :
  Calls Try.prog 56 #[.slice A0 l0.length c0, .slice A1 l1.length c1] w fun e w' => e = .returned (.int .i64 r) ∧ Drawn0 w w' := by
 have HR0 := aM hr0
 have HC0 := aM hc0
 clear hr0 hc0
 have HR1 := aM hr1
 have HC1 := aM hc1
 clear hr1 hc1
 unfold impl_nearestColor.f at h
 have H := h
 clear h
 have H' := aM H
 clear H
 go_enter Try.func56, Try.ntmps56
 go_wp2
 repeat (go_quiet (fail); try go_wp2)
 go_loopg [5, 6, 14] k (fun kq v5 v6 v14 w' => ∃ (x5_1 : Int) (x6_1 : Int) (x14_1 : Int), v5 = .int .i64 x5_1 ∧ v6 = .int .i64 x6_1 ∧ v14 = .int .i64 x14_1 ∧ Aside0 (impl_nearestColor.l0 kq l1 x5_1 x6_1 l0 (l0.length : Int) x14_1 = some r) ∧ Aside0 (kq ≤ k) ∧ Drawn0 w w')
 case atStart => exact ⟨(0), ((-1)), (0), qE, qE, qE, H', ⟨Nat.le_refl _⟩, qD⟩
 case round =>
  clear H'
  try clear c1
  obtain ⟨x5_1, x6_1, x14_1, rfl, rfl, rfl, HA, HK1, ⟨m1, rfl⟩⟩ := hrel
  cases gk with
  | zero => exact absurd HA.out (by simp [impl_nearestColor.l0])
  | succ k1 =>
   have H := HA.out
   clear HA
   simp only [impl_nearestColor.l0] at H
   by_cases c3 : x14_1 < (l0.length : Int)
   rotate_left
   ·rw [if_neg c3] at H
    have c3b0 : decide (x14_1 < (l0.length : Int)) = false := decide_eq_false c3
    clear c3
    obtain rfl := Option.some.inj H
    go_wp2
    repeat (go_quiet (fail); try go_wp2)
    go_ret
    exact ⟨qE, qD⟩
   rw [if_pos c3] at H
   have c3b0 : decide (x14_1 < (l0.length : Int)) = true := decide_eq_true c3
   clear c3
   replace H := iD H
   obtain ⟨c4b0, H⟩ := H
   replace H := iD H
   obtain ⟨c5b0, H⟩ := H
   have H' := aM H
   clear H
   have p315 : 0 ≤ (x14_1 : Int) := oD
   have q315 : x14_1 < (l0.length : Int) := oD
   obtain ⟨ad315, A315_0, c315_0, e315, hx315_0, hl315_0, hi315_0⟩ := at_L1 HR0.out x14_1 p315 q315
   cases e315
   have HR315_0 := aM hi315_0
   have HC315_0 := aM hl315_0
   clear hi315_0 hl315_0
   replace p315 := eq_true p315
   replace q315 := eq_true q315
   go_wp2
   repeat (go_quiet (fail); try go_wp2)
   go_loopg [9, 21] k1 (fun kq v9 v21 w' => ∃ (x9_2 : Int) (x21_2 : Int), v9 = .int .i64 x9_2 ∧ v21 = .int .i64 x21_2 ∧ Aside0 (impl_nearestColor.l1 kq l1 x5_1 x6_1 x14_1 x9_2 l0 (l0.length : Int) x14_1 (rd_L1 l0 x14_1) ((rd_L1 l0 x14_1).length : Int) x21_2 = some r) ∧ Aside0 (kq ≤ k1) ∧ Drawn0 w w')
   case atStart => exact ⟨(0), (0), qE, qE, H', ⟨Nat.le_refl _⟩, qD⟩
   case round =>
    clear H'
    try clear c1
    try clear c3
    try clear c3b0
    try clear c4b0
    try clear c5b0
    try clear hx315_0
    try clear p315
    try clear q315
    obtain ⟨x9_2, x21_2, rfl, rfl, HA, HK2, ⟨m2, rfl⟩⟩ := hrel
    cases gk with
    | zero => exact absurd HA.out (by simp [impl_nearestColor.l1])
    | succ k2 =>
     have H := HA.out
     clear HA
     simp only [impl_nearestColor.l1] at H
     by_cases c6 : x21_2 < ((rd_L1 l0 x14_1).length : Int)
     rotate_left
     ·rw [if_neg c6] at H
      have c6b0 : decide (x21_2 < ((rd_L1 l0 x14_1).length : Int)) = false := decide_eq_false c6
      clear c6
      by_cases c10 : x6_1 < 0
      ·rw [if_pos c10] at H
       have c10b0 : decide (x6_1 < 0) = true := decide_eq_true c10
       clear c10
       have H' := aM H
       clear H
       go_wp2
       repeat (go_quiet (fail); try go_wp2)
       go_roundg k2
       case measure => have := HK1.out; have := HK2.out; omega
       case rel => exact ⟨(x14_1), (x9_2), (wrap64 (x14_1 + 1)), qE, qE, qE, H', ⟨by have := HK1.out; have := HK2.out; omega⟩, qD⟩
      rw [if_neg c10] at H
      have c10b0 : decide (x6_1 < 0) = false := decide_eq_false c10
      clear c10
      by_cases c11 : x9_2 < x6_1
      ·rw [if_pos c11] at H
       have c11b0 : decide (x9_2 < x6_1) = true := decide_eq_true c11
       clear c11
       have H' := aM H
       clear H
       go_wp2
       repeat (go_quiet (fail); try go_wp2)
       go_roundg k2
       case measure => have := HK1.out; have := HK2.out; omega
       case rel => exact ⟨(x14_1), (x9_2), (wrap64 (x14_1 + 1)), qE, qE, qE, H', ⟨by have := HK1.out; have := HK2.out; omega⟩, qD⟩
      rw [if_neg c11] at H
      have c11b0 : decide (x9_2 < x6_1) = false := decide_eq_false c11
      clear c11
      have H' := aM H
      clear H
      go_wp2
      repeat (go_quiet (fail); try go_wp2)
      go_roundg k2
      case measure => have := HK1.out; have := HK2.out; omega
      case rel => exact ⟨(x5_1), (x6_1), (wrap64 (x14_1 + 1)), qE, qE, qE, H', ⟨by have := HK1.out; have := HK2.out; omega⟩, qD⟩
     rw [if_pos c6] at H
     have c6b0 : decide (x21_2 < ((rd_L1 l0 x14_1).length : Int)) = true := decide_eq_true c6
     clear c6
     replace H := iD H
     obtain ⟨c7b0, H⟩ := H
     replace H := iD H
     obtain ⟨c8b0, H⟩ := H
     replace H := iD H
     obtain ⟨c9b0, H⟩ := H
     have H' := aM H
     clear H
     obtain ⟨ad316, e316, hx316_0⟩ := Kd.at_int HR315_0.out x21_2 oD oD
     cases e316
     have p316 := eq_true (oD : 0 ≤ (x21_2 : Int))
     have q316 := eq_true (oD : x21_2 < ((rd_L1 l0 x14_1).length : Int))
     obtain ⟨ad317, e317, hx317_0⟩ := Kd.at_int HR1.out x21_2 oD oD
     cases e317
     have p317 := eq_true (oD : 0 ≤ (x21_2 : Int))
     have q317 := eq_true (oD : x21_2 < (l1.length : Int))
     obtain ⟨ad318, e318, hx318_0⟩ := Kd.at_int HR1.out x21_2 oD oD
     obtain rfl : ad317 = ad318 := (by injection e318)
     have p318 := eq_true (oD : 0 ≤ (x21_2 : Int))
     have q318 := eq_true (oD : x21_2 < (l1.length : Int))
     go_wp2
     repeat (go_quiet (fail); try go_wp2)
     go_roundg k2
     case measure => have := HK1.out; have := HK2.out; omega
     case rel => exact ⟨(wrap64 (x9_2 + (wrap64 ((wrap64 ((rd (rd_L1 l0 x14_1) x21_2) - (rd l1 x21_2))) * (wrap64 ((rd (rd_L1 l0 x14_1) x21_2) - (rd l1 x21_2))))))), (wrap64 (x21_2 + 1)), qE, qE, H', ⟨by have := HK1.out; have := HK2.out; omega⟩, qD⟩
def spec_validColors.l0 : Nat → List (List Int) → Int → Int → Option (Bool)
 | 0, _, _, _ => none
 | k + 1, x0, x1, x5 => if x5 < (x0.length : Int) then (if 0 ≤ x5 then (if ((rd_L1 x0 x5).length : Int) = x1 then ((spec_allIn.f k (rd_L1 x0 x5) 0 255).bind fun t370 => (if t370 = true then (spec_validColors.l0 k x0 x1 (wrap64 (x5 + 1))) else (some false))) else (some false)) else (none)) else (some (decide ((x0.length : Int) ≤ 16)))
def spec_validColors.f (k : Nat) (l0 : List (List Int)) (a1 : Int) : Option (Bool) := spec_validColors.l0 k l0 a1 0
theorem spec_validColors.mono_l : ∀ k, (∀ y0 y1 y2, LeO (spec_validColors.l0 k y0 y1 y2) (spec_validColors.l0 (k + 1) y0 y1 y2))
 | 0 => fun _ _ _ r h => by simp [spec_validColors.l0] at h
 | k + 1 => by
  have ih0 := spec_validColors.mono_l k
  ·intro y0 y1 y2
   unfold spec_validColors.l0
   repeat' first | (with_reducible first | exact ih0 _ _ _ | exact spec_allIn.mono _ _ _ _ | exact lR | exact lN | refine lI ?_ ?_ | refine lB ?_ fun _ => ?_) | exact ih0 _ _ _ | exact spec_allIn.mono _ _ _ _ | exact lN | refine lI ?_ ?_ | refine lB ?_ fun _ => ?_
theorem spec_validColors.mono : ∀ a0 a1 k, LeO (spec_validColors.f k a0 a1) (spec_validColors.f (k + 1) a0 a1) := by
 intro a0 a1 k
 have ih0 := spec_validColors.mono_l k
 unfold spec_validColors.f
 repeat' first | (with_reducible first | exact ih0 _ _ _ | exact spec_allIn.mono _ _ _ _ | exact lR | exact lN | refine lI ?_ ?_ | refine lB ?_ fun _ => ?_) | exact ih0 _ _ _ | exact spec_allIn.mono _ _ _ _ | exact lN | refine lI ?_ ?_ | refine lB ?_ fun _ => ?_
set_option maxHeartbeats 8000000 in
set_option maxRecDepth 100000 in
theorem spec_validColors.calls (k : Nat) (A0 : Option Addr) (c0 : Nat) (l0 : List (List Int)) (a1 : Int) (r : Bool) (w : World) (hr0 : Kd.C (Kd.slice 3 (Kd.int .i64)) w A0 l0.length l0) (hc0 : l0.length ≤ c0) (h : spec_validColors.f k l0 a1 = some r) :
  Calls Try.prog 60 #[.slice A0 l0.length c0, .int .i64 a1] w fun e w' => e = .returned (.bool r) ∧ Drawn0 w w' := by
 have HR0 := aM hr0
 have HC0 := aM hc0
 clear hr0 hc0
 unfold spec_validColors.f at h
 have H := h
 clear h
 have H' := aM H
 clear H
 go_enter Try.func60, Try.ntmps60
 go_wp2
 go_loopg [5] k (fun kq v5 w' => ∃ (x5_1 : Int), v5 = .int .i64 x5_1 ∧ Aside0 (spec_validColors.l0 kq l0 a1 x5_1 = some r) ∧ Aside0 (kq ≤ k) ∧ Drawn0 w w')
 case atStart => exact ⟨(0), qE, H', ⟨Nat.le_refl _⟩, qD⟩
 case round =>
  clear H'
  obtain ⟨x5_1, rfl, HA, HK1, ⟨m1, rfl⟩⟩ := hrel
  cases gk with
  | zero => exact absurd HA.out (by simp [spec_validColors.l0])
  | succ k1 =>
   have H := HA.out
   clear HA
   simp only [spec_validColors.l0] at H
   by_cases c3 : x5_1 < (l0.length : Int)
   rotate_left
   ·rw [if_neg c3] at H
    have c3b0 : decide (x5_1 < (l0.length : Int)) = false := decide_eq_false c3
    clear c3
    obtain rfl := Option.some.inj H
    go_wp2
    go_ret
    exact ⟨qE, qD⟩
   rw [if_pos c3] at H
   have c3b0 : decide (x5_1 < (l0.length : Int)) = true := decide_eq_true c3
   clear c3
   replace H := iD H
   obtain ⟨c4b0, H⟩ := H
   by_cases c5 : ((rd_L1 l0 x5_1).length : Int) = a1
   rotate_left
   ·rw [if_neg c5] at H
    have c5b0 : (((rd_L1 l0 x5_1).length : Int) == a1) = false := beq_eq_false_iff_ne.mpr c5
    have c5b1 : (((rd_L1 l0 x5_1).length : Int) != a1) = true := bne_iff_ne.mpr c5
    obtain rfl := Option.some.inj H
    have p368 : 0 ≤ (x5_1 : Int) := oD
    have q368 : x5_1 < (l0.length : Int) := oD
    obtain ⟨ad368, A368_0, c368_0, e368, hx368_0, hl368_0, hi368_0⟩ := at_L1 HR0.out x5_1 p368 q368
    cases e368
    have HR368_0 := aM hi368_0
    have HC368_0 := aM hl368_0
    clear hi368_0 hl368_0
    replace p368 := eq_true p368
    replace q368 := eq_true q368
    go_wp2
    go_ret
    exact ⟨qE, qD⟩
   rw [if_pos c5] at H
   have c5b0 : (((rd_L1 l0 x5_1).length : Int) == a1) = true := beq_iff_eq.mpr c5
   have c5b1 : (((rd_L1 l0 x5_1).length : Int) != a1) = false := bne_eq_false_iff_eq.mpr c5
   clear c5
   replace H := Option.bind_eq_some_iff.mp H
   obtain ⟨t370, A60, H⟩ := H
   replace H : (if t370 = true then (spec_validColors.l0 k1 l0 a1 (wrap64 (x5_1 + 1))) else (some false)) = some r := H
   have A6 := aM A60
   clear A60
   by_cases c7 : t370 = true
   rotate_left
   ·replace c7 := Bool.eq_false_iff.mpr c7
    subst c7
    have H1 : (some false) = some r := by rw [if_neg (show ¬ (false = true) by decide)] at H; exact H
    clear H
    have H := H1
    clear H1
    obtain rfl := Option.some.inj H
    have p368 : 0 ≤ (x5_1 : Int) := oD
    have q368 : x5_1 < (l0.length : Int) := oD
    obtain ⟨ad368, A368_0, c368_0, e368, hx368_0, hl368_0, hi368_0⟩ := at_L1 HR0.out x5_1 p368 q368
    cases e368
    have HR368_0 := aM hi368_0
    have HC368_0 := aM hl368_0
    clear hi368_0 hl368_0
    replace p368 := eq_true p368
    replace q368 := eq_true q368
    have p369 : 0 ≤ (x5_1 : Int) := oD
    have q369 : x5_1 < (l0.length : Int) := oD
    obtain ⟨ad369, A369_0, c369_0, e369, hx369_0, hl369_0, hi369_0⟩ := at_L1 HR0.out x5_1 p369 q369
    obtain rfl : ad368 = ad369 := (by injection e369)
    have HR369_0 := aM hi369_0
    have HC369_0 := aM hl369_0
    clear hi369_0 hl369_0
    replace p369 := eq_true p369
    replace q369 := eq_true q369
    have ea_ := Option.some.inj (hx368_0.symm.trans hx369_0)
    injection ea_ with ea_ en_ ec_
    subst ea_
    subst ec_
    clear en_
    go_wp2_with (first | (go_at_call 61; (with_reducible refine (spec_allIn.calls k1 _ _ (rd_L1 l0 x5_1) 0 255 false _ ?side1 ?side2 A6.out).mono ?_); (case side1 => exact qC HR369_0.out); (case side2 => exact HC369_0.out); rintro e w' ⟨rfl, ⟨nd, rfl⟩⟩))
    go_ret
    exact ⟨qE, qD⟩
   subst c7
   have H1 : (spec_validColors.l0 k1 l0 a1 (wrap64 (x5_1 + 1))) = some r := by rw [if_pos rfl] at H; exact H
   clear H
   have H := H1
   clear H1
   have H' := aM H
   clear H
   have p368 : 0 ≤ (x5_1 : Int) := oD
   have q368 : x5_1 < (l0.length : Int) := oD
   obtain ⟨ad368, A368_0, c368_0, e368, hx368_0, hl368_0, hi368_0⟩ := at_L1 HR0.out x5_1 p368 q368
   cases e368
   have HR368_0 := aM hi368_0
   have HC368_0 := aM hl368_0
   clear hi368_0 hl368_0
   replace p368 := eq_true p368
   replace q368 := eq_true q368
   have p369 : 0 ≤ (x5_1 : Int) := oD
   have q369 : x5_1 < (l0.length : Int) := oD
   obtain ⟨ad369, A369_0, c369_0, e369, hx369_0, hl369_0, hi369_0⟩ := at_L1 HR0.out x5_1 p369 q369
   obtain rfl : ad368 = ad369 := (by injection e369)
   have HR369_0 := aM hi369_0
   have HC369_0 := aM hl369_0
   clear hi369_0 hl369_0
   replace p369 := eq_true p369
   replace q369 := eq_true q369
   have ea_ := Option.some.inj (hx368_0.symm.trans hx369_0)
   injection ea_ with ea_ en_ ec_
   subst ea_
   subst ec_
   clear en_
   go_wp2_with (first | (go_at_call 61; (with_reducible refine (spec_allIn.calls k1 _ _ (rd_L1 l0 x5_1) 0 255 true _ ?side1 ?side2 A6.out).mono ?_); (case side1 => exact qC HR369_0.out); (case side2 => exact HC369_0.out); rintro e w' ⟨rfl, ⟨nd, rfl⟩⟩))
   go_roundg k1
   case measure => have := HK1.out; omega
   case rel => exact ⟨(wrap64 (x5_1 + 1)), qE, H', ⟨by have := HK1.out; omega⟩, qD⟩
def spec_gap.l0 : Nat → List Int → List Int → Int → Int → Option (Int)
 | 0, _, _, _, _ => none
 | k + 1, x0, x1, x5, x6 => if x6 < (x0.length : Int) then (if 0 ≤ x6 then (if x6 < (x1.length : Int) then (spec_gap.l0 k x0 x1 (wrap64 (x5 + (wrap64 ((wrap64 ((rd x0 x6) - (rd x1 x6))) * (wrap64 ((rd x0 x6) - (rd x1 x6))))))) (wrap64 (x6 + 1))) else (none)) else (none)) else (some x5)
def spec_gap.f (k : Nat) (l0 : List Int) (l1 : List Int) : Option (Int) := spec_gap.l0 k l0 l1 0 0
theorem spec_gap.mono_l : ∀ k, (∀ y0 y1 y2 y3, LeO (spec_gap.l0 k y0 y1 y2 y3) (spec_gap.l0 (k + 1) y0 y1 y2 y3))
 | 0 => fun _ _ _ _ r h => by simp [spec_gap.l0] at h
 | k + 1 => by
  have ih0 := spec_gap.mono_l k
  ·intro y0 y1 y2 y3
   unfold spec_gap.l0
   repeat' first | (with_reducible first | exact ih0 _ _ _ _ | exact lR | exact lN | refine lI ?_ ?_ | refine lB ?_ fun _ => ?_) | exact ih0 _ _ _ _ | exact lN | refine lI ?_ ?_ | refine lB ?_ fun _ => ?_
theorem spec_gap.mono : ∀ a0 a1 k, LeO (spec_gap.f k a0 a1) (spec_gap.f (k + 1) a0 a1) := by
 intro a0 a1 k
 have ih0 := spec_gap.mono_l k
 unfold spec_gap.f
 repeat' first | (with_reducible first | exact ih0 _ _ _ _ | exact lR | exact lN | refine lI ?_ ?_ | refine lB ?_ fun _ => ?_) | exact ih0 _ _ _ _ | exact lN | refine lI ?_ ?_ | refine lB ?_ fun _ => ?_
set_option maxHeartbeats 8000000 in
set_option maxRecDepth 100000 in
theorem spec_gap.calls (k : Nat) (A0 : Option Addr) (c0 : Nat) (l0 : List Int) (A1 : Option Addr) (c1 : Nat) (l1 : List Int) (r : Int) (w : World) (hr0 : Kd.C (Kd.int .i64) w A0 l0.length l0) (hc0 : l0.length ≤ c0) (hr1 : Kd.C (Kd.int .i64) w A1 l1.length l1) (hc1 : l1.length ≤ c1) (h : spec_gap.f k l0 l1 = some r) :
  Calls Try.prog 84 #[.slice A0 l0.length c0, .slice A1 l1.length c1] w fun e w' => e = .returned (.int .i64 r) ∧ Drawn0 w w' := by
 have HR0 := aM hr0
 have HC0 := aM hc0
 clear hr0 hc0
 have HR1 := aM hr1
 have HC1 := aM hc1
 clear hr1 hc1
 unfold spec_gap.f at h
 have H := h
 clear h
 have H' := aM H
 clear H
 go_enter Try.func84, Try.ntmps84
 go_wp2
 repeat (go_quiet (fail); try go_wp2)
 go_loopg [5, 6] k (fun kq v5 v6 w' => ∃ (x5_1 : Int) (x6_1 : Int), v5 = .int .i64 x5_1 ∧ v6 = .int .i64 x6_1 ∧ Aside0 (spec_gap.l0 kq l0 l1 x5_1 x6_1 = some r) ∧ Aside0 (kq ≤ k) ∧ Drawn0 w w')
 case atStart => exact ⟨(0), (0), qE, qE, H', ⟨Nat.le_refl _⟩, qD⟩
 case round =>
  clear H'
  try clear c1
  obtain ⟨x5_1, x6_1, rfl, rfl, HA, HK1, ⟨m1, rfl⟩⟩ := hrel
  cases gk with
  | zero => exact absurd HA.out (by simp [spec_gap.l0])
  | succ k1 =>
   have H := HA.out
   clear HA
   simp only [spec_gap.l0] at H
   by_cases c3 : x6_1 < (l0.length : Int)
   rotate_left
   ·rw [if_neg c3] at H
    have c3b0 : decide (x6_1 < (l0.length : Int)) = false := decide_eq_false c3
    clear c3
    obtain rfl := Option.some.inj H
    go_wp2
    repeat (go_quiet (fail); try go_wp2)
    go_ret
    exact ⟨qE, qD⟩
   rw [if_pos c3] at H
   have c3b0 : decide (x6_1 < (l0.length : Int)) = true := decide_eq_true c3
   clear c3
   replace H := iD H
   obtain ⟨c4b0, H⟩ := H
   replace H := iD H
   obtain ⟨c5b0, H⟩ := H
   have H' := aM H
   clear H
   obtain ⟨ad539, e539, hx539_0⟩ := Kd.at_int HR0.out x6_1 oD oD
   cases e539
   have p539 := eq_true (oD : 0 ≤ (x6_1 : Int))
   have q539 := eq_true (oD : x6_1 < (l0.length : Int))
   obtain ⟨ad540, e540, hx540_0⟩ := Kd.at_int HR1.out x6_1 oD oD
   cases e540
   have p540 := eq_true (oD : 0 ≤ (x6_1 : Int))
   have q540 := eq_true (oD : x6_1 < (l1.length : Int))
   obtain ⟨ad541, e541, hx541_0⟩ := Kd.at_int HR0.out x6_1 oD oD
   obtain rfl : ad539 = ad541 := (by injection e541)
   have p541 := eq_true (oD : 0 ≤ (x6_1 : Int))
   have q541 := eq_true (oD : x6_1 < (l0.length : Int))
   obtain ⟨ad542, e542, hx542_0⟩ := Kd.at_int HR1.out x6_1 oD oD
   obtain rfl : ad540 = ad542 := (by injection e542)
   have p542 := eq_true (oD : 0 ≤ (x6_1 : Int))
   have q542 := eq_true (oD : x6_1 < (l1.length : Int))
   go_wp2
   repeat (go_quiet (fail); try go_wp2)
   go_roundg k1
   case measure => have := HK1.out; omega
   case rel => exact ⟨(wrap64 (x5_1 + (wrap64 ((wrap64 ((rd l0 x6_1) - (rd l1 x6_1))) * (wrap64 ((rd l0 x6_1) - (rd l1 x6_1))))))), (wrap64 (x6_1 + 1)), qE, qE, H', ⟨by have := HK1.out; omega⟩, qD⟩
def spec_nearest.l0 : Nat → List (List Int) → List Int → Int → Int → Option (Int)
 | 0, _, _, _, _ => none
 | k + 1, x0, x1, x5, x6 => if x6 < (x0.length : Int) then (if 0 ≤ x6 then ((spec_gap.f k (rd_L1 x0 x6) x1).bind fun t544 => (if 0 ≤ x5 then (if x5 < (x0.length : Int) then ((spec_gap.f k (rd_L1 x0 x5) x1).bind fun t546 => (if t544 < t546 then (spec_nearest.l0 k x0 x1 x6 (wrap64 (x6 + 1))) else (spec_nearest.l0 k x0 x1 x5 (wrap64 (x6 + 1))))) else (none)) else (none))) else (none)) else (some x5)
def spec_nearest.f (k : Nat) (l0 : List (List Int)) (l1 : List Int) : Option (Int) := spec_nearest.l0 k l0 l1 0 1
theorem spec_nearest.mono_l : ∀ k, (∀ y0 y1 y2 y3, LeO (spec_nearest.l0 k y0 y1 y2 y3) (spec_nearest.l0 (k + 1) y0 y1 y2 y3))
 | 0 => fun _ _ _ _ r h => by simp [spec_nearest.l0] at h
 | k + 1 => by
  have ih0 := spec_nearest.mono_l k
  ·intro y0 y1 y2 y3
   unfold spec_nearest.l0
   repeat' first | (with_reducible first | exact ih0 _ _ _ _ | exact spec_gap.mono _ _ _ | exact lR | exact lN | refine lI ?_ ?_ | refine lB ?_ fun _ => ?_) | exact ih0 _ _ _ _ | exact spec_gap.mono _ _ _ | exact lN | refine lI ?_ ?_ | refine lB ?_ fun _ => ?_
theorem spec_nearest.mono : ∀ a0 a1 k, LeO (spec_nearest.f k a0 a1) (spec_nearest.f (k + 1) a0 a1) := by
 intro a0 a1 k
 have ih0 := spec_nearest.mono_l k
 unfold spec_nearest.f
 repeat' first | (with_reducible first | exact ih0 _ _ _ _ | exact spec_gap.mono _ _ _ | exact lR | exact lN | refine lI ?_ ?_ | refine lB ?_ fun _ => ?_) | exact ih0 _ _ _ _ | exact spec_gap.mono _ _ _ | exact lN | refine lI ?_ ?_ | refine lB ?_ fun _ => ?_
set_option maxHeartbeats 8000000 in
set_option maxRecDepth 100000 in
theorem spec_nearest.calls (k : Nat) (A0 : Option Addr) (c0 : Nat) (l0 : List (List Int)) (A1 : Option Addr) (c1 : Nat) (l1 : List Int) (r : Int) (w : World) (hr0 : Kd.C (Kd.slice 3 (Kd.int .i64)) w A0 l0.length l0) (hc0 : l0.length ≤ c0) (hr1 : Kd.C (Kd.int .i64) w A1 l1.length l1) (hc1 : l1.length ≤ c1) (h : spec_nearest.f k l0 l1 = some r) :
  Calls Try.prog 67 #[.slice A0 l0.length c0, .slice A1 l1.length c1] w fun e w' => e = .returned (.int .i64 r) ∧ Drawn0 w w' := by
 have HR0 := aM hr0
 have HC0 := aM hc0
 clear hr0 hc0
 have HR1 := aM hr1
 have HC1 := aM hc1
 clear hr1 hc1
 unfold spec_nearest.f at h
 have H := h
 clear h
 have H' := aM H
 clear H
 go_enter Try.func67, Try.ntmps67
 go_wp2
 repeat (go_quiet (fail); try go_wp2)
 go_loopg [5, 6] k (fun kq v5 v6 w' => ∃ (x5_1 : Int) (x6_1 : Int), v5 = .int .i64 x5_1 ∧ v6 = .int .i64 x6_1 ∧ Aside0 (spec_nearest.l0 kq l0 l1 x5_1 x6_1 = some r) ∧ Aside0 (kq ≤ k) ∧ Drawn0 w w')
 case atStart => exact ⟨(0), (1), qE, qE, H', ⟨Nat.le_refl _⟩, qD⟩
 case round =>
  clear H'
  try clear c1
  obtain ⟨x5_1, x6_1, rfl, rfl, HA, HK1, ⟨m1, rfl⟩⟩ := hrel
  cases gk with
  | zero => exact absurd HA.out (by simp [spec_nearest.l0])
  | succ k1 =>
   have H := HA.out
   clear HA
   simp only [spec_nearest.l0] at H
   by_cases c3 : x6_1 < (l0.length : Int)
   rotate_left
   ·rw [if_neg c3] at H
    have c3b0 : decide (x6_1 < (l0.length : Int)) = false := decide_eq_false c3
    clear c3
    obtain rfl := Option.some.inj H
    go_wp2
    repeat (go_quiet (fail); try go_wp2)
    go_ret
    exact ⟨qE, qD⟩
   rw [if_pos c3] at H
   have c3b0 : decide (x6_1 < (l0.length : Int)) = true := decide_eq_true c3
   clear c3
   replace H := iD H
   obtain ⟨c4b0, H⟩ := H
   replace H := Option.bind_eq_some_iff.mp H
   obtain ⟨t544, A50, H⟩ := H
   replace H : (if 0 ≤ x5_1 then (if x5_1 < (l0.length : Int) then ((spec_gap.f k1 (rd_L1 l0 x5_1) l1).bind fun t546 => (if t544 < t546 then (spec_nearest.l0 k1 l0 l1 x6_1 (wrap64 (x6_1 + 1))) else (spec_nearest.l0 k1 l0 l1 x5_1 (wrap64 (x6_1 + 1))))) else (none)) else (none)) = some r := H
   have A5 := aM A50
   clear A50
   replace H := iD H
   obtain ⟨c6b0, H⟩ := H
   replace H := iD H
   obtain ⟨c7b0, H⟩ := H
   replace H := Option.bind_eq_some_iff.mp H
   obtain ⟨t546, A80, H⟩ := H
   replace H : (if t544 < t546 then (spec_nearest.l0 k1 l0 l1 x6_1 (wrap64 (x6_1 + 1))) else (spec_nearest.l0 k1 l0 l1 x5_1 (wrap64 (x6_1 + 1)))) = some r := H
   have A8 := aM A80
   clear A80
   by_cases c9 : t544 < t546
   ·rw [if_pos c9] at H
    have c9b0 : decide (t544 < t546) = true := decide_eq_true c9
    clear c9
    have H' := aM H
    clear H
    have p543 : 0 ≤ (x6_1 : Int) := oD
    have q543 : x6_1 < (l0.length : Int) := oD
    obtain ⟨ad543, A543_0, c543_0, e543, hx543_0, hl543_0, hi543_0⟩ := at_L1 HR0.out x6_1 p543 q543
    cases e543
    have HR543_0 := aM hi543_0
    have HC543_0 := aM hl543_0
    clear hi543_0 hl543_0
    replace p543 := eq_true p543
    replace q543 := eq_true q543
    go_wp2_with (first | (go_at_call 84; (with_reducible refine (spec_gap.calls k1 _ _ (rd_L1 l0 x6_1) _ _ l1 t544 _ ?side1 ?side2 ?side3 ?side4 A5.out).mono ?_); (case side1 => exact qC HR543_0.out); (case side2 => exact HC543_0.out); (case side3 => exact qC HR1.out); (case side4 => exact HC1.out); rintro e w' ⟨rfl, ⟨nd, rfl⟩⟩; (try first | exact ⟨rfl, _, World.drewN_drewN _ _ _⟩ | exact ⟨rfl, _, Eq.trans (World.drewN_drewN _ _ _) (congrArg (World.drewN _) (Nat.add_assoc _ _ _))⟩); have p545 : 0 ≤ (x5_1 : Int) := oD; have q545 : x5_1 < (l0.length : Int) := oD; obtain ⟨ad545, A545_0, c545_0, e545, hx545_0, hl545_0, hi545_0⟩ := at_L1 HR0.out x5_1 p545 q545; obtain rfl : ad543 = ad545 := (by injection e545); have HR545_0 := aM hi545_0; have HC545_0 := aM hl545_0; clear hi545_0 hl545_0; replace p545 := eq_true p545; replace q545 := eq_true q545) | (go_at_call 84; (with_reducible refine (spec_gap.calls k1 _ _ (rd_L1 l0 x5_1) _ _ l1 t546 _ ?side1 ?side2 ?side3 ?side4 A8.out).mono ?_); (case side1 => exact qC HR545_0.out); (case side2 => exact HC545_0.out); (case side3 => exact qC HR1.out); (case side4 => exact HC1.out); rintro e w' ⟨rfl, ⟨nd, rfl⟩⟩; (try first | exact ⟨rfl, _, World.drewN_drewN _ _ _⟩ | exact ⟨rfl, _, Eq.trans (World.drewN_drewN _ _ _) (congrArg (World.drewN _) (Nat.add_assoc _ _ _))⟩)))
    repeat (go_quiet (first | (go_at_call 84; (with_reducible refine (spec_gap.calls k1 _ _ (rd_L1 l0 x6_1) _ _ l1 t544 _ ?side1 ?side2 ?side3 ?side4 A5.out).mono ?_); (case side1 => exact qC HR543_0.out); (case side2 => exact HC543_0.out); (case side3 => exact qC HR1.out); (case side4 => exact HC1.out); rintro e w' ⟨rfl, ⟨nd, rfl⟩⟩; (try first | exact ⟨rfl, _, World.drewN_drewN _ _ _⟩ | exact ⟨rfl, _, Eq.trans (World.drewN_drewN _ _ _) (congrArg (World.drewN _) (Nat.add_assoc _ _ _))⟩); have p545 : 0 ≤ (x5_1 : Int) := oD; have q545 : x5_1 < (l0.length : Int) := oD; obtain ⟨ad545, A545_0, c545_0, e545, hx545_0, hl545_0, hi545_0⟩ := at_L1 HR0.out x5_1 p545 q545; obtain rfl : ad543 = ad545 := (by injection e545); have HR545_0 := aM hi545_0; have HC545_0 := aM hl545_0; clear hi545_0 hl545_0; replace p545 := eq_true p545; replace q545 := eq_true q545) | (go_at_call 84; (with_reducible refine (spec_gap.calls k1 _ _ (rd_L1 l0 x5_1) _ _ l1 t546 _ ?side1 ?side2 ?side3 ?side4 A8.out).mono ?_); (case side1 => exact qC HR545_0.out); (case side2 => exact HC545_0.out); (case side3 => exact qC HR1.out); (case side4 => exact HC1.out); rintro e w' ⟨rfl, ⟨nd, rfl⟩⟩; (try first | exact ⟨rfl, _, World.drewN_drewN _ _ _⟩ | exact ⟨rfl, _, Eq.trans (World.drewN_drewN _ _ _) (congrArg (World.drewN _) (Nat.add_assoc _ _ _))⟩))); try go_wp2_with (first | (go_at_call 84; (with_reducible refine (spec_gap.calls k1 _ _ (rd_L1 l0 x6_1) _ _ l1 t544 _ ?side1 ?side2 ?side3 ?side4 A5.out).mono ?_); (case side1 => exact qC HR543_0.out); (case side2 => exact HC543_0.out); (case side3 => exact qC HR1.out); (case side4 => exact HC1.out); rintro e w' ⟨rfl, ⟨nd, rfl⟩⟩; (try first | exact ⟨rfl, _, World.drewN_drewN _ _ _⟩ | exact ⟨rfl, _, Eq.trans (World.drewN_drewN _ _ _) (congrArg (World.drewN _) (Nat.add_assoc _ _ _))⟩); have p545 : 0 ≤ (x5_1 : Int) := oD; have q545 : x5_1 < (l0.length : Int) := oD; obtain ⟨ad545, A545_0, c545_0, e545, hx545_0, hl545_0, hi545_0⟩ := at_L1 HR0.out x5_1 p545 q545; obtain rfl : ad543 = ad545 := (by injection e545); have HR545_0 := aM hi545_0; have HC545_0 := aM hl545_0; clear hi545_0 hl545_0; replace p545 := eq_true p545; replace q545 := eq_true q545) | (go_at_call 84; (with_reducible refine (spec_gap.calls k1 _ _ (rd_L1 l0 x5_1) _ _ l1 t546 _ ?side1 ?side2 ?side3 ?side4 A8.out).mono ?_); (case side1 => exact qC HR545_0.out); (case side2 => exact HC545_0.out); (case side3 => exact qC HR1.out); (case side4 => exact HC1.out); rintro e w' ⟨rfl, ⟨nd, rfl⟩⟩; (try first | exact ⟨rfl, _, World.drewN_drewN _ _ _⟩ | exact ⟨rfl, _, Eq.trans (World.drewN_drewN _ _ _) (congrArg (World.drewN _) (Nat.add_assoc _ _ _))⟩))))
    go_roundg k1
    case measure => have := HK1.out; omega
    case rel => exact ⟨(x6_1), (wrap64 (x6_1 + 1)), qE, qE, H', ⟨by have := HK1.out; omega⟩, qD⟩
   rw [if_neg c9] at H
   have c9b0 : decide (t544 < t546) = false := decide_eq_false c9
   clear c9
   have H' := aM H
   clear H
   have p543 : 0 ≤ (x6_1 : Int) := oD
   have q543 : x6_1 < (l0.length : Int) := oD
   obtain ⟨ad543, A543_0, c543_0, e543, hx543_0, hl543_0, hi543_0⟩ := at_L1 HR0.out x6_1 p543 q543
   cases e543
   have HR543_0 := aM hi543_0
   have HC543_0 := aM hl543_0
   clear hi543_0 hl543_0
   replace p543 := eq_true p543
   replace q543 := eq_true q543
   go_wp2_with (first | (go_at_call 84; (with_reducible refine (spec_gap.calls k1 _ _ (rd_L1 l0 x6_1) _ _ l1 t544 _ ?side1 ?side2 ?side3 ?side4 A5.out).mono ?_); (case side1 => exact qC HR543_0.out); (case side2 => exact HC543_0.out); (case side3 => exact qC HR1.out); (case side4 => exact HC1.out); rintro e w' ⟨rfl, ⟨nd, rfl⟩⟩; (try first | exact ⟨rfl, _, World.drewN_drewN _ _ _⟩ | exact ⟨rfl, _, Eq.trans (World.drewN_drewN _ _ _) (congrArg (World.drewN _) (Nat.add_assoc _ _ _))⟩); have p545 : 0 ≤ (x5_1 : Int) := oD; have q545 : x5_1 < (l0.length : Int) := oD; obtain ⟨ad545, A545_0, c545_0, e545, hx545_0, hl545_0, hi545_0⟩ := at_L1 HR0.out x5_1 p545 q545; obtain rfl : ad543 = ad545 := (by injection e545); have HR545_0 := aM hi545_0; have HC545_0 := aM hl545_0; clear hi545_0 hl545_0; replace p545 := eq_true p545; replace q545 := eq_true q545) | (go_at_call 84; (with_reducible refine (spec_gap.calls k1 _ _ (rd_L1 l0 x5_1) _ _ l1 t546 _ ?side1 ?side2 ?side3 ?side4 A8.out).mono ?_); (case side1 => exact qC HR545_0.out); (case side2 => exact HC545_0.out); (case side3 => exact qC HR1.out); (case side4 => exact HC1.out); rintro e w' ⟨rfl, ⟨nd, rfl⟩⟩; (try first | exact ⟨rfl, _, World.drewN_drewN _ _ _⟩ | exact ⟨rfl, _, Eq.trans (World.drewN_drewN _ _ _) (congrArg (World.drewN _) (Nat.add_assoc _ _ _))⟩)))
   repeat (go_quiet (first | (go_at_call 84; (with_reducible refine (spec_gap.calls k1 _ _ (rd_L1 l0 x6_1) _ _ l1 t544 _ ?side1 ?side2 ?side3 ?side4 A5.out).mono ?_); (case side1 => exact qC HR543_0.out); (case side2 => exact HC543_0.out); (case side3 => exact qC HR1.out); (case side4 => exact HC1.out); rintro e w' ⟨rfl, ⟨nd, rfl⟩⟩; (try first | exact ⟨rfl, _, World.drewN_drewN _ _ _⟩ | exact ⟨rfl, _, Eq.trans (World.drewN_drewN _ _ _) (congrArg (World.drewN _) (Nat.add_assoc _ _ _))⟩); have p545 : 0 ≤ (x5_1 : Int) := oD; have q545 : x5_1 < (l0.length : Int) := oD; obtain ⟨ad545, A545_0, c545_0, e545, hx545_0, hl545_0, hi545_0⟩ := at_L1 HR0.out x5_1 p545 q545; obtain rfl : ad543 = ad545 := (by injection e545); have HR545_0 := aM hi545_0; have HC545_0 := aM hl545_0; clear hi545_0 hl545_0; replace p545 := eq_true p545; replace q545 := eq_true q545) | (go_at_call 84; (with_reducible refine (spec_gap.calls k1 _ _ (rd_L1 l0 x5_1) _ _ l1 t546 _ ?side1 ?side2 ?side3 ?side4 A8.out).mono ?_); (case side1 => exact qC HR545_0.out); (case side2 => exact HC545_0.out); (case side3 => exact qC HR1.out); (case side4 => exact HC1.out); rintro e w' ⟨rfl, ⟨nd, rfl⟩⟩; (try first | exact ⟨rfl, _, World.drewN_drewN _ _ _⟩ | exact ⟨rfl, _, Eq.trans (World.drewN_drewN _ _ _) (congrArg (World.drewN _) (Nat.add_assoc _ _ _))⟩))); try go_wp2_with (first | (go_at_call 84; (with_reducible refine (spec_gap.calls k1 _ _ (rd_L1 l0 x6_1) _ _ l1 t544 _ ?side1 ?side2 ?side3 ?side4 A5.out).mono ?_); (case side1 => exact qC HR543_0.out); (case side2 => exact HC543_0.out); (case side3 => exact qC HR1.out); (case side4 => exact HC1.out); rintro e w' ⟨rfl, ⟨nd, rfl⟩⟩; (try first | exact ⟨rfl, _, World.drewN_drewN _ _ _⟩ | exact ⟨rfl, _, Eq.trans (World.drewN_drewN _ _ _) (congrArg (World.drewN _) (Nat.add_assoc _ _ _))⟩); have p545 : 0 ≤ (x5_1 : Int) := oD; have q545 : x5_1 < (l0.length : Int) := oD; obtain ⟨ad545, A545_0, c545_0, e545, hx545_0, hl545_0, hi545_0⟩ := at_L1 HR0.out x5_1 p545 q545; obtain rfl : ad543 = ad545 := (by injection e545); have HR545_0 := aM hi545_0; have HC545_0 := aM hl545_0; clear hi545_0 hl545_0; replace p545 := eq_true p545; replace q545 := eq_true q545) | (go_at_call 84; (with_reducible refine (spec_gap.calls k1 _ _ (rd_L1 l0 x5_1) _ _ l1 t546 _ ?side1 ?side2 ?side3 ?side4 A8.out).mono ?_); (case side1 => exact qC HR545_0.out); (case side2 => exact HC545_0.out); (case side3 => exact qC HR1.out); (case side4 => exact HC1.out); rintro e w' ⟨rfl, ⟨nd, rfl⟩⟩; (try first | exact ⟨rfl, _, World.drewN_drewN _ _ _⟩ | exact ⟨rfl, _, Eq.trans (World.drewN_drewN _ _ _) (congrArg (World.drewN _) (Nat.add_assoc _ _ _))⟩))))
   go_roundg k1
   case measure => have := HK1.out; omega
   case rel => exact ⟨(x5_1), (wrap64 (x6_1 + 1)), qE, qE, H', ⟨by have := HK1.out; omega⟩, qD⟩
def impl_NearestColor.f (k : Nat) (l0 : List (List Int)) (l1 : List Int) : Option (Int) := (impl_isPalette.f l0 (l1.length : Int)).bind fun t631 => (if t631 = true then ((impl_areBytes.f l1).bind fun t632 => (if t632 = true then ((impl_nearestColor.f k l0 l1).bind fun t633 => (some t633)) else (some (-1)))) else (some (-1)))
theorem impl_NearestColor.mono : ∀ a0 a1 k, LeO (impl_NearestColor.f k a0 a1) (impl_NearestColor.f (k + 1) a0 a1) := by
 intro a0 a1 k
 unfold impl_NearestColor.f
 repeat' first | (with_reducible first | exact impl_nearestColor.mono _ _ _ | exact lR | exact lN | refine lI ?_ ?_ | refine lB ?_ fun _ => ?_) | exact impl_nearestColor.mono _ _ _ | exact lN | refine lI ?_ ?_ | refine lB ?_ fun _ => ?_
set_option maxHeartbeats 8000000 in
set_option maxRecDepth 100000 in
theorem impl_NearestColor.calls (k : Nat) (A0 : Option Addr) (c0 : Nat) (l0 : List (List Int)) (A1 : Option Addr) (c1 : Nat) (l1 : List Int) (r : Int) (w : World) (hr0 : Kd.C (Kd.slice 3 (Kd.int .i64)) w A0 l0.length l0) (hc0 : l0.length ≤ c0) (hr1 : Kd.C (Kd.int .i64) w A1 l1.length l1) (hc1 : l1.length ≤ c1) (h : impl_NearestColor.f k l0 l1 = some r) :
  Calls Try.prog 35 #[.slice A0 l0.length c0, .slice A1 l1.length c1] w fun e w' => e = .returned (.int .i64 r) ∧ Below w.heap.size w w' := by
 have HR0 := aM hr0
 have HC0 := aM hc0
 clear hr0 hc0
 have HR1 := aM hr1
 have HC1 := aM hc1
 clear hr1 hc1
 have HB := aM (Below.refl w.heap.size w)
 unfold impl_NearestColor.f at h
 have H := h
 clear h
 replace H := Option.bind_eq_some_iff.mp H
 obtain ⟨t631, A30, H⟩ := H
 replace H : (if t631 = true then ((impl_areBytes.f l1).bind fun t632 => (if t632 = true then ((impl_nearestColor.f k l0 l1).bind fun t633 => (some t633)) else (some (-1)))) else (some (-1))) = some r := H
 have A3 := aM A30
 clear A30
 by_cases c4 : t631 = true
 ·subst c4
  have H1 : ((impl_areBytes.f l1).bind fun t632 => (if t632 = true then ((impl_nearestColor.f k l0 l1).bind fun t633 => (some t633)) else (some (-1)))) = some r := by rw [if_pos rfl] at H; exact H
  clear H
  have H := H1
  clear H1
  replace H := Option.bind_eq_some_iff.mp H
  obtain ⟨t632, A50, H⟩ := H
  replace H : (if t632 = true then ((impl_nearestColor.f k l0 l1).bind fun t633 => (some t633)) else (some (-1))) = some r := H
  have A5 := aM A50
  clear A50
  by_cases c6 : t632 = true
  rotate_left
  ·replace c6 := Bool.eq_false_iff.mpr c6
   subst c6
   have H1 : (some (-1)) = some r := by rw [if_neg (show ¬ (false = true) by decide)] at H; exact H
   clear H
   have H := H1
   clear H1
   obtain rfl := Option.some.inj H
   go_enter Try.func35, Try.ntmps35
   go_wp2_with (first | ((with_reducible refine gate_callee (f := 53) rfl ?_); refine gL (some 8) Try.func53 #[.slice A0 l0.length c0, .int .i64 (l1.length : Int)] ?_; (with_reducible refine (impl_isPalette.calls _ _ l0 (l1.length : Int) true _ ?side1 ?side2 A3.out).mono ?_); (case side1 => exact qC HR0.out); (case side2 => exact HC0.out); rintro e w9 ⟨rfl, hb⟩; refine ⟨_, rfl, ?_⟩; replace HB := bS HB hb; clear hb) | (go_at_call 68; (with_reducible refine (impl_areBytes.calls _ _ l1 false _ ?side1 ?side2 A5.out).mono ?_); (case side1 => exact qC (Kd.C_below HR1.out HB.out)); (case side2 => exact HC1.out); rintro e w' ⟨rfl, ⟨nd, rfl⟩⟩))
   go_ret
   exact ⟨qX, by exact qW HB.out⟩
  subst c6
  have H1 : ((impl_nearestColor.f k l0 l1).bind fun t633 => (some t633)) = some r := by rw [if_pos rfl] at H; exact H
  clear H
  have H := H1
  clear H1
  replace H := Option.bind_eq_some_iff.mp H
  obtain ⟨t633, A70, H⟩ := H
  replace H : (some t633) = some r := H
  have A7 := aM A70
  clear A70
  obtain rfl := Option.some.inj H
  go_enter Try.func35, Try.ntmps35
  go_wp2_with (first | ((with_reducible refine gate_callee (f := 53) rfl ?_); refine gL (some 8) Try.func53 #[.slice A0 l0.length c0, .int .i64 (l1.length : Int)] ?_; (with_reducible refine (impl_isPalette.calls _ _ l0 (l1.length : Int) true _ ?side1 ?side2 A3.out).mono ?_); (case side1 => exact qC HR0.out); (case side2 => exact HC0.out); rintro e w8 ⟨rfl, hb⟩; refine ⟨_, rfl, ?_⟩; replace HB := bS HB hb; clear hb) | (go_at_call 68; (with_reducible refine (impl_areBytes.calls _ _ l1 true _ ?side1 ?side2 A5.out).mono ?_); (case side1 => exact qC (Kd.C_below HR1.out HB.out)); (case side2 => exact HC1.out); rintro e w' ⟨rfl, ⟨nd, rfl⟩⟩) | ((with_reducible refine gate_callee (f := 56) rfl ?_); refine gL (some 17) Try.func56 #[.slice A0 l0.length c0, .slice A1 l1.length c1] ?_; (with_reducible refine (impl_nearestColor.calls k _ _ l0 _ _ l1 t633 _ ?side1 ?side2 ?side3 ?side4 A7.out).mono ?_); (case side1 => exact qC (Kd.C_below HR0.out (qW HB.out))); (case side2 => exact HC0.out); (case side3 => exact qC (Kd.C_below HR1.out (qW HB.out))); (case side4 => exact HC1.out); rintro e w' ⟨rfl, ⟨nd, rfl⟩⟩; refine ⟨_, rfl, ?_⟩))
  go_ret
  exact ⟨qX, by exact qW HB.out⟩
 ·replace c4 := Bool.eq_false_iff.mpr c4
  subst c4
  have H1 : (some (-1)) = some r := by rw [if_neg (show ¬ (false = true) by decide)] at H; exact H
  clear H
  have H := H1
  clear H1
  obtain rfl := Option.some.inj H
  go_enter Try.func35, Try.ntmps35
  go_wp2_with (first | ((with_reducible refine gate_callee (f := 53) rfl ?_); refine gL (some 8) Try.func53 #[.slice A0 l0.length c0, .int .i64 (l1.length : Int)] ?_; (with_reducible refine (impl_isPalette.calls _ _ l0 (l1.length : Int) false _ ?side1 ?side2 A3.out).mono ?_); (case side1 => exact qC HR0.out); (case side2 => exact HC0.out); rintro e w10 ⟨rfl, hb⟩; refine ⟨_, rfl, ?_⟩; replace HB := bS HB hb; clear hb))
  go_ret
  exact ⟨qX, by exact qW HB.out⟩
theorem nc_total (L : List (List Int)) (px : List Int) (hL : L.length ≤ 16) (hc : ∀ c ∈ L, c.length ≤ px.length) (hp : px.length ≤ 4) : ∃ r, impl_nearestColor.f 200 L px = some r := by
 have hg : ∀ i : Nat, i < L.length → (rd_L1 L (i : Int)).length ≤ px.length := fun i hi => by
  unfold rd_L1
  rw [Int.toNat_natCast, List.getD_eq_getElem?_getD, List.getElem?_eq_getElem hi]
  exact hc _ (List.getElem_mem _)
 have key : ∀ k : Nat, (∀ (i : Nat) (best least : Int), i ≤ L.length → (L.length - i) * 7 < k → ∃ r, impl_nearestColor.l0 k px best least L L.length i = some r) ∧
   (∀ (i t : Nat) (best least s : Int), i < L.length → t ≤ (rd_L1 L (i : Int)).length → (L.length - i) * 7 < k + 1 + t → ∃ r, impl_nearestColor.l1 k px best least i s L L.length i (rd_L1 L (i : Int)) ((rd_L1 L (i : Int)).length : Int) t = some r) := by
  intro k
  induction k with
  | zero =>
   refine ⟨fun i b s hi h => by omega, fun i t b s z hi ht h => ?_⟩
   have := hg i hi
   omega
  | succ k ih =>
   obtain ⟨ih0, ih1⟩ := ih
   refine ⟨fun i b s hi h => ?_, fun i t b s z hi ht h => ?_⟩
   ·rw [impl_nearestColor.l0]
    by_cases h1 : i < L.length
    ·rw [if_pos (by omega), if_pos (by omega), if_pos (by omega)]
     exact ih1 i 0 b s 0 h1 (Nat.zero_le _) (by omega)
    ·rw [if_neg (by omega)]
     exact ⟨_, rfl⟩
   ·have hgi := hg i hi
    have next : ∀ (b' s' : Int), 0 < k → (L.length - i) * 7 < k + 7 → ∃ r, impl_nearestColor.l0 k px b' s' L L.length (wrap64 ((i : Int) + 1)) = some r := fun b' s' hk0 hk => by
     rw [wrap_small (by omega) (by omega), show (i : Int) + 1 = ((i + 1 : Nat) : Int) by omega]
     exact ih0 (i + 1) b' s' (by omega) (by omega)
    rw [impl_nearestColor.l1]
    by_cases h1 : t < (rd_L1 L (i : Int)).length
    ·rw [if_pos (by omega), if_pos (by omega), if_pos (by omega), if_pos (by omega), wrap_small (x := (t : Int) + 1) (by omega) (by omega), show (t : Int) + 1 = ((t + 1 : Nat) : Int) by omega]
     exact ih1 i (t + 1) b s _ hi (by omega) (by omega)
    ·rw [if_neg (by omega)]
     by_cases h2 : s < 0
     ·rw [if_pos h2]; exact next _ _ (by omega) (by omega)
     ·rw [if_neg h2]
      by_cases h3 : z < s
      ·rw [if_pos h3]; exact next _ _ (by omega) (by omega)
      ·rw [if_neg h3]; exact next _ _ (by omega) (by omega)
 unfold impl_nearestColor.f
 exact (key 200).1 0 0 (-1) (Nat.zero_le _) (by omega)
def idxPix (L : List (List Int)) (l : List Int) (a0 a2 x y : Int) : List Int := [(impl_nearestColor.f 200 L (pixOf l a0 a2 x y)).getD 0]
set_option maxHeartbeats 8000000 in
set_option maxRecDepth 100000 in
theorem indexImagePix (w : World) (B1 B2 : Nat) (a0 a1 a2 : Int) (A : Option Addr) (c : Nat) (l : List Int) (AL : Option Addr) (cL : Nat) (L : List (List Int))
  (hB1 : w.heap[B1]? = some (.cells #[.slice AL L.length cL] 26 (0, 0))) (hB2 : w.heap[B2]? = some (.cells #[.int .i64 a0, .int .i64 a1, .int .i64 a2, .slice A l.length c] 29 (0, 0)))
  (hr : Kd.C (Kd.int .i64) w A l.length l) (hc : l.length ≤ c) (hrL : Kd.C (Kd.slice 3 (Kd.int .i64)) w AL L.length L) (hcL : L.length ≤ cL) (V : ImgOk a0 a1 a2 l) (hL : L.length ≤ 16) (hLc : ∀ z ∈ L, (z.length : Int) = a2) :
  PixAt 55 #[.pointer (some ⟨B1, 0, none⟩), .pointer (some ⟨B2, 0, none⟩)] (fun x y => idxPix L l a0 a2 x y) a0 a1 w := fun W x y hb hx hx' hy hy' => by
 obtain ⟨⟨v0, v0'⟩, ⟨v1, v1'⟩, ⟨v2, v2'⟩, hlen, hby⟩ := V
 have hfit := pix_fits (a0 := a0) (a1 := a1) (a2 := a2) (x := x) (y := y) (by omega) (by omega) (by omega) (by omega) (by omega)
 rw [← hlen] at hfit
 have m1 : 0 ≤ y * a0 := Int.mul_nonneg hy (by omega)
 have m2 : 0 ≤ (y * a0 + x) * a2 := Int.mul_nonneg (by omega) (by omega)
 have hpl := pixOf_length (l := l) (n := a0) (p := a2) (x := x) (y := y) m2 (by omega) hfit
 have hpm : ∀ v ∈ pixOf l a0 a2 x y, v ∈ l := fun v hv => pixOf_mem hv
 have HR0 := aM (Kd.C_below hr hb)
 have HRL := aM (Kd.C_below hrL hb)
 have HCL := aM hcL
 have KB1 := aM (blk_below hB1 hb)
 have KB2 := aM (blk_below hB2 hb)
 have HC := aM (fun (W' : World) (hb' : Below W.heap.size W W') => impl_at.calls2 a0 a1 a2 A c l x y W' (Kd.C_below HR0.out hb') hc (by omega) v0' (by omega) (by omega) (by omega) (by omega) (by omega) (by omega) hfit)
 clear hfit hlen hr hrL hcL hc hB1 hB2 hb m1 m2 hby
 dsimp only
 unfold idxPix
 generalize pixOf l a0 a2 x y = px at HC hpl hpm ⊢
 obtain ⟨r, hr⟩ := nc_total L px hL (fun z hz => by have := hLc z hz; omega) (by omega)
 rw [hr]
 have HNC := aM hr
 have HL := aM hpl
 clear hr hpl hpm hL hLc
 show Calls Try.prog 55 _ W fun e w' => ∃ (A : Option Addr) (c : Nat), e = .returned (.slice A [r].length c) ∧ Kd.C (Kd.int .i64) w' A [r].length [r] ∧ [r].length ≤ c ∧ Below W.heap.size W w'
 go_enter Try.func55, Try.ntmps55
 go_wp2
 refine start_ (n := 8) (S := fun w' => Below W.heap.size W w') (ds := []) (bA 8 0) (by kernel_rfl) rfl rfl (below_drew (Below.refl _ _)) (fun hHeld => ?_)
 have HB := aM hHeld
 clear hHeld
 generalize W.drew = w2 at HB ⊢
 refine pure_ (i := 2) (N := some 9) (v := ?_) (a' := ?_) (bA 8 4) rfl rfl (by kernel_rfl) (fun _ _ _ h => h) (Or.inl ⟨by rfl, ?_⟩) ?_ ?_
 rotate_left
 ·intro w'
  go_simp
  with_reducible rfl
 rotate_left
 ·refine pZ ?_
  rfl
 refine pure_ (i := 3) (N := some 10) (v := ?_) (a' := ?_) (bA 8 12) rfl rfl (by kernel_rfl) (fun _ _ _ h => h) (Or.inl ⟨by rfl, ?_⟩) ?_ ?_
 rotate_left
 ·intro w'
  go_simp
  with_reducible rfl
 rotate_left
 ·refine pZ ?_
  rfl
 refine take_ (i := 0) (N := some 7) (v := ?_) (a' := ?_) (bA 8 13) rfl rfl (by kernel_rfl) (fun _ _ _ h => h) (Or.inl ⟨by rfl, ?_⟩) HB.out ?_ ?_
 rotate_left
 ·intro w' s0
  have z : w'.cell? ⟨B1, 0, none⟩ = some (.slice AL L.length cL) := (blk_cell (blk_below KB1.out s0) 0).trans rfl
  go_simp
  with_reducible rfl
 rotate_left
 ·refine pZ ?_
  rfl
 refine take_ (i := 1) (N := some 8) (v := ?_) (a' := ?_) (bA 8 15) rfl rfl (by kernel_rfl) (fun _ _ _ h => h) (Or.inl ⟨by rfl, ?_⟩) HB.out ?_ ?_
 rotate_left
 ·intro w' s0
  have z0 : w'.cell? ⟨B2, 0, none⟩ = some (.int .i64 a0) := (blk_cell (blk_below KB2.out s0) 0).trans rfl
  have z1 : w'.cell? ⟨B2, 1, none⟩ = some (.int .i64 a1) := (blk_cell (blk_below KB2.out s0) 1).trans rfl
  have z2 : w'.cell? ⟨B2, 2, none⟩ = some (.int .i64 a2) := (blk_cell (blk_below KB2.out s0) 2).trans rfl
  have z3 : w'.cell? ⟨B2, 3, none⟩ = some (.slice A l.length c) := (blk_cell (blk_below KB2.out s0) 3).trans rfl
  go_simp
  with_reducible rfl
 rotate_left
 ·refine pZ ?_
  rfl
 refine one_ (i := 4) (N := some 11) (bA 8 31) rfl rfl (by kernel_rfl) (by decide) (fun K hK => ?_)
 refine goes_ Try.func44 (by kernel_rfl) rfl #[.agg #[.int .i64 a0, .int .i64 a1, .int .i64 a2, .slice A l.length c], .int .i64 x, .int .i64 y] (by rfl) rfl rfl (by (try simp only [List.map_toArray, List.map_cons, List.map_nil]); first | done | rfl) ?_
 refine (HC.out _ HB.out).mono ?_
 rintro e w3 ⟨A', c', rfl, hr', hl', hb', hall⟩
 refine ⟨_, rfl, ?_⟩
 have HB3 := aM (below_step HB.out hb')
 have HALL := aM hall
 have HLC := aM hl'
 clear HB hr' hall hb' hl'
 have HB := HB3
 clear HB3
 refine hK.out _ _ HB.out (fun hHeld => ?_)
 clear hK K hHeld
 refine norm_ (a' := ?_) ?_ ?_
 rotate_left
 ·show Act.put _ (some 11) _ = _
  refine pZ ?_
  rfl
 refine one_ (i := 5) (N := some 12) (bA 8 63) rfl rfl (by kernel_rfl) (by decide) (fun K hK => ?_)
 refine goes_ Try.func56 (by kernel_rfl) rfl #[.slice AL L.length cL, .slice A' px.length c'] (by rfl) rfl rfl (by (try simp only [List.map_toArray, List.map_cons, List.map_nil]); first | done | rfl) ?_
 refine (impl_nearestColor.calls 200 _ _ L _ _ px r _ (Kd.C_below HRL.out HB.out) HCL.out (HALL.out _ (Kd.C_below HR0.out HB.out)) HLC.out HNC.out).mono ?_
 rintro e w' ⟨rfl, ⟨nd, rfl⟩⟩
 refine ⟨_, rfl, ?_⟩
 have HB4 := aM (pw_below_drewN HB.out nd)
 refine hK.out _ _ HB4.out (fun hHeld => ?_)
 clear hK K hHeld HB
 refine norm_ (a' := ?_) ?_ ?_
 rotate_left
 ·show Act.put _ (some 12) _ = _
  refine pZ ?_
  rfl
 obtain ⟨w4, e4⟩ : ∃ z, w3.drewN nd = z := ⟨_, rfl⟩
 rw [e4] at HB4 ⊢
 have HB := HB4
 clear HB4 e4
 refine one_ (i := 6) (N := some 13) (bA 8 127) rfl rfl (by kernel_rfl) (by decide) (fun K hK => ?_)
 refine Kd.R_lit_step (Kd.int .i64) _ 3 ?hg (N := 13) ?hd (xs := ([r] : List Int)) (inner := [.int .i64 r]) (ok := fun _ => True) (okp := fun _ => True) ?hr ?hp (fun _ hk => hk) trivial (Below.refl _ _) (Nat.le_refl _) (by simp) ?_
 (case hd => rfl)
 (case hg => rfl)
 (case hr => first | (go_simp; done) | (go_simp; rfl))
 (case hp => exact (Reps.one (show Kd.M (Kd.int .i64) _ _ _ r [.int .i64 r] from rfl) (Reps.none _ _)))
 intro vr w5 ho hb hg_ hnew_
 clear hg_ hnew_
 have HB5 := aM (below_step HB.out hb)
 obtain ⟨Ar, cr, er⟩ := Kd.R_slice ho
 subst er
 have HRR := aM (Kd.R_reads' ho)
 clear ho hb HB
 have HB := HB5
 clear HB5
 refine hK.out _ _ HB.out (fun hHeld => ?_)
 clear hK K hHeld
 refine norm_ (a' := ?_) ?_ ?_
 rotate_left
 ·show Act.put _ (some 13) _ = _
  refine pZ ?_
  rfl
 refine pure_ (i := 7) (N := some 6) (v := ?_) (a' := ?_) (bA 8 255) rfl rfl (by kernel_rfl) (fun _ _ _ h => h) (Or.inl ⟨by rfl, ?_⟩) ?_ ?_
 rotate_left
 ·intro w'
  go_simp
  with_reducible rfl
 rotate_left
 ·refine pZ ?_
  rfl
 refine done_ (by kernel_rfl) ?_
 try go_wp2
 go_ret
 exact ⟨_, _, rfl, HRR.out.2.2, HRR.out.2.1, by repeat (first | exact HB.out | apply below_alloc | apply pw_below_drewN)⟩
theorem isPalette_true {l : List (List Int)} {p : Int} (h : impl_isPalette.f l p = some true) : (1 ≤ l.length ∧ l.length ≤ 16) ∧ (1 ≤ p ∧ p ≤ 4) ∧ ∀ z ∈ l, (z.length : Int) = p ∧ ∀ v ∈ z, 0 ≤ v ∧ v ≤ 255 := by
 unfold impl_isPalette.f at h
 have h := Option.some.inj h
 by_cases h1 : (l.length : Int) < 1
 ·rw [if_pos h1] at h; cases h
 rw [if_neg h1] at h
 by_cases h2 : 16 < (l.length : Int)
 ·rw [if_pos h2] at h; cases h
 rw [if_neg h2] at h
 by_cases h3 : p < 1
 ·rw [if_pos h3] at h; cases h
 rw [if_neg h3] at h
 by_cases h4 : 4 < p
 ·rw [if_pos h4] at h; cases h
 rw [if_neg h4, Bool.not_eq_true', List.any_eq_false] at h
 refine ⟨by omega, by omega, fun z hz => ?_⟩
 have h5 := h z hz
 unfold badColor at h5
 simp only [Bool.or_eq_true, not_or, List.any_eq_true, not_exists, not_and, decide_eq_true_eq] at h5
 refine ⟨?_, fun v hv => ?_⟩
 rotate_left
 ·have := h5.2 v hv
  omega
 have := h5.1
 simpa using this
def impl_IndexImage.f (a0_0 : Int) (a0_1 : Int) (a0_2 : Int) (l0_3 : List Int) (l1 : List (List Int)) : Option (Int × Int × Int × List Int × Bool) := (impl_isImage.f a0_0 a0_1 a0_2 l0_3).bind fun t0 => (if t0 = true then ((impl_isPalette.f l1 a0_2).bind fun t1 => (if t1 = true then (some (a0_0, a0_1, 1, imgOf (fun x y => idxPix l1 l0_3 a0_0 a0_2 x y) a0_0.toNat a0_1.toNat, true)) else (some (0, 0, 0, ([] : List Int), false)))) else (some (0, 0, 0, ([] : List Int), false)))
set_option maxHeartbeats 8000000 in
set_option maxRecDepth 100000 in
theorem impl_IndexImage.calls (a0_0 : Int) (a0_1 : Int) (a0_2 : Int) (A0_3 : Option Addr) (c0_3 : Nat) (l0_3 : List Int) (Aq1 : Option Addr) (cq1 : Nat) (l1 : List (List Int)) (r1 : Int) (r2 : Int) (r3 : Int) (r4 : List Int) (r5 : Bool) (w : World) (hr0_3 : Kd.C (Kd.int .i64) w A0_3 l0_3.length l0_3) (hc0_3 : l0_3.length ≤ c0_3) (hr1 : Kd.C (Kd.slice 3 (Kd.int .i64)) w Aq1 l1.length l1) (hc1 : l1.length ≤ cq1) (h : impl_IndexImage.f a0_0 a0_1 a0_2 l0_3 l1 = some (r1, r2, r3, r4, r5)) :
  Calls Try.prog 24 #[.agg #[.int .i64 a0_0, .int .i64 a0_1, .int .i64 a0_2, .slice A0_3 l0_3.length c0_3], .slice Aq1 l1.length cq1] w fun e w' => ∃ v3_ : Value, e = .returned (.tuple #[.agg #[.int .i64 r1, .int .i64 r2, .int .i64 r3, v3_], .bool r5]) ∧ Kd.R (Kd.int .i64) 3 w' w.heap.size (fun _ => True) v3_ r4 ∧ Below w.heap.size w w' := by
 have hu26 := Try.underlying29
 have HR0 := aM hr0_3
 have HC0 := aM hc0_3
 clear hr0_3 hc0_3
 have HR1 := aM hr1
 have HC1 := aM hc1
 clear hr1 hc1
 have HB := aM (Below.refl w.heap.size w)
 unfold impl_IndexImage.f at h
 have H := h
 clear h
 replace H := Option.bind_eq_some_iff.mp H
 obtain ⟨t0, q0, H⟩ := H
 have A0 := aM q0
 clear q0
 cases t0 with
 | false =>
  rw [if_neg (show ¬ (false = true) by decide)] at H
  simp only [Option.some.injEq, Prod.mk.injEq] at H
  obtain ⟨rfl, rfl, rfl, rfl, rfl⟩ := H
  go_enter Try.func24, Try.ntmps24
  go_wp2_with (first | ((with_reducible refine gate_dst (N := 2) rfl ?_); (try (refine gate_guard (by rfl) ?_; dsimp only)); refine bxE (N := 2) (cs := #[.int .i64 a0_0, .int .i64 a0_1, .int .i64 a0_2, .slice A0_3 l0_3.length c0_3]) (t := 29) ?_; intro gm hg w1 hbox hb; have n2 := bS HB hb; have n3 := aM hbox; have n4 := aM ((by rw [hg]; exact (below_size (qW HB.out))) : w.heap.size ≤ gm); clear HB; have HB := n2; have BKgm := n3; have GEgm := n4; clear n2 n3 n4; clear hb hbox hg; have hz5 : w1.cell? ⟨gm, 0, none⟩ = some (.int .i64 a0_0) := (blk_cell BKgm.out 0).trans rfl; have hz6 : w1.cell? ⟨gm, 1, none⟩ = some (.int .i64 a0_1) := (blk_cell BKgm.out 1).trans rfl; have hz7 : w1.cell? ⟨gm, 2, none⟩ = some (.int .i64 a0_2) := (blk_cell BKgm.out 2).trans rfl; have hz8 : w1.cell? ⟨gm, 3, none⟩ = some (.slice A0_3 l0_3.length c0_3) := (blk_cell BKgm.out 3).trans rfl; have hf9 := blk_frozen BKgm.out 0; have hf10 := blk_frozen BKgm.out 1; have hf11 := blk_frozen BKgm.out 2; have hf12 := blk_frozen BKgm.out 3) | ((with_reducible refine gate_dst (N := 3) rfl ?_); (try (refine gate_guard (by rfl) ?_; dsimp only)); refine bxE (N := 3) (cs := #[.slice Aq1 l1.length cq1]) (t := 26) ?_; intro gl hg w13 hbox hb; have n14 := bB BKgm hb; have n15 := bS HB hb; have n16 := aM hbox; have n17 := aM ((by rw [hg]; exact (below_size (qW HB.out))) : w.heap.size ≤ gl); have n18 := aM ((by rw [hg]; exact Nat.ne_of_lt (blk_lt (g := gm) (o := .cells #[.int .i64 a0_0, .int .i64 a0_1, .int .i64 a0_2, .slice A0_3 l0_3.length c0_3] 29 (0, 0)) (qB BKgm.out))) : gm ≠ gl); have n19 := aM ((by rw [hg]; exact Nat.ne_of_gt (blk_lt (g := gm) (o := .cells #[.int .i64 a0_0, .int .i64 a0_1, .int .i64 a0_2, .slice A0_3 l0_3.length c0_3] 29 (0, 0)) (qB BKgm.out))) : gl ≠ gm); clear HB BKgm; have BKgm := n14; have HB := n15; have BKgl := n16; have GEgl := n17; have NBgm_gl := n18; have NBgl_gm := n19; clear n14 n15 n16 n17 n18 n19; clear hb hbox hg; have hz20 : w13.cell? ⟨gm, 0, none⟩ = some (.int .i64 a0_0) := (blk_cell BKgm.out 0).trans rfl; have hz21 : w13.cell? ⟨gm, 1, none⟩ = some (.int .i64 a0_1) := (blk_cell BKgm.out 1).trans rfl; have hz22 : w13.cell? ⟨gm, 2, none⟩ = some (.int .i64 a0_2) := (blk_cell BKgm.out 2).trans rfl; have hz23 : w13.cell? ⟨gm, 3, none⟩ = some (.slice A0_3 l0_3.length c0_3) := (blk_cell BKgm.out 3).trans rfl; have hf24 := blk_frozen BKgm.out 0; have hf25 := blk_frozen BKgm.out 1; have hf26 := blk_frozen BKgm.out 2; have hf27 := blk_frozen BKgm.out 3; have hz28 : w13.cell? ⟨gl, 0, none⟩ = some (.slice Aq1 l1.length cq1) := (blk_cell BKgl.out 0).trans rfl; have hf29 := blk_frozen BKgl.out 0) | ((with_reducible refine gate_dst (N := 4) rfl ?_); (try (refine gate_guard (by rfl) ?_; dsimp only)); refine bxE (N := 4) (cs := #[.int .i64 0, .int .i64 0, .int .i64 0, .slice none 0 0]) (t := 29) ?_; intro gr hg w30 hbox hb; have n31 := bB BKgm hb; have n32 := bB BKgl hb; have n33 := bS HB hb; have n34 := aM hbox; have n35 := aM ((by rw [hg]; exact (below_size (qW HB.out))) : w.heap.size ≤ gr); have n36 := aM ((by rw [hg]; exact Nat.ne_of_lt (blk_lt (g := gm) (o := .cells #[.int .i64 a0_0, .int .i64 a0_1, .int .i64 a0_2, .slice A0_3 l0_3.length c0_3] 29 (0, 0)) (qB BKgm.out))) : gm ≠ gr); have n37 := aM ((by rw [hg]; exact Nat.ne_of_gt (blk_lt (g := gm) (o := .cells #[.int .i64 a0_0, .int .i64 a0_1, .int .i64 a0_2, .slice A0_3 l0_3.length c0_3] 29 (0, 0)) (qB BKgm.out))) : gr ≠ gm); have n38 := aM ((by rw [hg]; exact Nat.ne_of_lt (blk_lt (g := gl) (o := .cells #[.slice Aq1 l1.length cq1] 26 (0, 0)) (qB BKgl.out))) : gl ≠ gr); have n39 := aM ((by rw [hg]; exact Nat.ne_of_gt (blk_lt (g := gl) (o := .cells #[.slice Aq1 l1.length cq1] 26 (0, 0)) (qB BKgl.out))) : gr ≠ gl); clear HB BKgm BKgl; have BKgm := n31; have BKgl := n32; have HB := n33; have BKgr := n34; have GEgr := n35; have NBgm_gr := n36; have NBgr_gm := n37; have NBgl_gr := n38; have NBgr_gl := n39; clear n31 n32 n33 n34 n35 n36 n37 n38 n39; clear hb hbox hg; have hz40 : w30.cell? ⟨gm, 0, none⟩ = some (.int .i64 a0_0) := (blk_cell BKgm.out 0).trans rfl; have hz41 : w30.cell? ⟨gm, 1, none⟩ = some (.int .i64 a0_1) := (blk_cell BKgm.out 1).trans rfl; have hz42 : w30.cell? ⟨gm, 2, none⟩ = some (.int .i64 a0_2) := (blk_cell BKgm.out 2).trans rfl; have hz43 : w30.cell? ⟨gm, 3, none⟩ = some (.slice A0_3 l0_3.length c0_3) := (blk_cell BKgm.out 3).trans rfl; have hf44 := blk_frozen BKgm.out 0; have hf45 := blk_frozen BKgm.out 1; have hf46 := blk_frozen BKgm.out 2; have hf47 := blk_frozen BKgm.out 3; have hz48 : w30.cell? ⟨gl, 0, none⟩ = some (.slice Aq1 l1.length cq1) := (blk_cell BKgl.out 0).trans rfl; have hf49 := blk_frozen BKgl.out 0; have hz50 : w30.cell? ⟨gr, 0, none⟩ = some (.int .i64 0) := (blk_cell BKgr.out 0).trans rfl; have hz51 : w30.cell? ⟨gr, 1, none⟩ = some (.int .i64 0) := (blk_cell BKgr.out 1).trans rfl; have hz52 : w30.cell? ⟨gr, 2, none⟩ = some (.int .i64 0) := (blk_cell BKgr.out 2).trans rfl; have hz53 : w30.cell? ⟨gr, 3, none⟩ = some (.slice none 0 0) := (blk_cell BKgr.out 3).trans rfl; have hf54 := blk_frozen BKgr.out 0; have hf55 := blk_frozen BKgr.out 1; have hf56 := blk_frozen BKgr.out 2; have hf57 := blk_frozen BKgr.out 3) | (go_at_call 43; (with_reducible refine (impl_isImage.calls a0_0 a0_1 a0_2 _ _ l0_3 false _ ?side1 ?side2 A0.out).mono ?_); (case side1 => exact (Kd.C_below HR0.out (qW HB.out))); (case side2 => exact HC0.out); rintro e w58 ⟨rfl, hb⟩; have n59 := bB BKgm hb; have n60 := bB BKgl hb; have n61 := bB BKgr hb; have n62 := bS HB hb; clear HB BKgm BKgl BKgr; have BKgm := n59; have BKgl := n60; have BKgr := n61; have HB := n62; clear n59 n60 n61 n62 hb; have hz63 : w58.cell? ⟨gm, 0, none⟩ = some (.int .i64 a0_0) := (blk_cell BKgm.out 0).trans rfl; have hz64 : w58.cell? ⟨gm, 1, none⟩ = some (.int .i64 a0_1) := (blk_cell BKgm.out 1).trans rfl; have hz65 : w58.cell? ⟨gm, 2, none⟩ = some (.int .i64 a0_2) := (blk_cell BKgm.out 2).trans rfl; have hz66 : w58.cell? ⟨gm, 3, none⟩ = some (.slice A0_3 l0_3.length c0_3) := (blk_cell BKgm.out 3).trans rfl; have hf67 := blk_frozen BKgm.out 0; have hf68 := blk_frozen BKgm.out 1; have hf69 := blk_frozen BKgm.out 2; have hf70 := blk_frozen BKgm.out 3; have hz71 : w58.cell? ⟨gl, 0, none⟩ = some (.slice Aq1 l1.length cq1) := (blk_cell BKgl.out 0).trans rfl; have hf72 := blk_frozen BKgl.out 0; have hz73 : w58.cell? ⟨gr, 0, none⟩ = some (.int .i64 0) := (blk_cell BKgr.out 0).trans rfl; have hz74 : w58.cell? ⟨gr, 1, none⟩ = some (.int .i64 0) := (blk_cell BKgr.out 1).trans rfl; have hz75 : w58.cell? ⟨gr, 2, none⟩ = some (.int .i64 0) := (blk_cell BKgr.out 2).trans rfl; have hz76 : w58.cell? ⟨gr, 3, none⟩ = some (.slice none 0 0) := (blk_cell BKgr.out 3).trans rfl; have hf77 := blk_frozen BKgr.out 0; have hf78 := blk_frozen BKgr.out 1; have hf79 := blk_frozen BKgr.out 2; have hf80 := blk_frozen BKgr.out 3))
  refine bodyPost_ret (results_ct rfl _ _ gr 29 #[.int .i64 0, .int .i64 0, .int .i64 0, .slice none 0 0] (0, 0) _ rfl (by exact bP BKgr.out) Try.underlying29 rfl (by kernel_rfl)) rfl ?_
  exact ⟨_, by first | rfl | (simp; done), Kd.R_nil _ _ _ _ _, by exact qW HB.out⟩
 | true =>
  rw [if_pos rfl] at H
  replace H := Option.bind_eq_some_iff.mp H
  obtain ⟨t1, q1, H⟩ := H
  have A1 := aM q1
  clear q1
  cases t1 with
  | false =>
   rw [if_neg (show ¬ (false = true) by decide)] at H
   simp only [Option.some.injEq, Prod.mk.injEq] at H
   obtain ⟨rfl, rfl, rfl, rfl, rfl⟩ := H
   go_enter Try.func24, Try.ntmps24
   go_wp2_with (first | ((with_reducible refine gate_dst (N := 2) rfl ?_); (try (refine gate_guard (by rfl) ?_; dsimp only)); refine bxE (N := 2) (cs := #[.int .i64 a0_0, .int .i64 a0_1, .int .i64 a0_2, .slice A0_3 l0_3.length c0_3]) (t := 29) ?_; intro gm hg w81 hbox hb; have n82 := bS HB hb; have n83 := aM hbox; have n84 := aM ((by rw [hg]; exact (below_size (qW HB.out))) : w.heap.size ≤ gm); clear HB; have HB := n82; have BKgm := n83; have GEgm := n84; clear n82 n83 n84; clear hb hbox hg; have hz85 : w81.cell? ⟨gm, 0, none⟩ = some (.int .i64 a0_0) := (blk_cell BKgm.out 0).trans rfl; have hz86 : w81.cell? ⟨gm, 1, none⟩ = some (.int .i64 a0_1) := (blk_cell BKgm.out 1).trans rfl; have hz87 : w81.cell? ⟨gm, 2, none⟩ = some (.int .i64 a0_2) := (blk_cell BKgm.out 2).trans rfl; have hz88 : w81.cell? ⟨gm, 3, none⟩ = some (.slice A0_3 l0_3.length c0_3) := (blk_cell BKgm.out 3).trans rfl; have hf89 := blk_frozen BKgm.out 0; have hf90 := blk_frozen BKgm.out 1; have hf91 := blk_frozen BKgm.out 2; have hf92 := blk_frozen BKgm.out 3) | ((with_reducible refine gate_dst (N := 3) rfl ?_); (try (refine gate_guard (by rfl) ?_; dsimp only)); refine bxE (N := 3) (cs := #[.slice Aq1 l1.length cq1]) (t := 26) ?_; intro gl hg w93 hbox hb; have n94 := bB BKgm hb; have n95 := bS HB hb; have n96 := aM hbox; have n97 := aM ((by rw [hg]; exact (below_size (qW HB.out))) : w.heap.size ≤ gl); have n98 := aM ((by rw [hg]; exact Nat.ne_of_lt (blk_lt (g := gm) (o := .cells #[.int .i64 a0_0, .int .i64 a0_1, .int .i64 a0_2, .slice A0_3 l0_3.length c0_3] 29 (0, 0)) (qB BKgm.out))) : gm ≠ gl); have n99 := aM ((by rw [hg]; exact Nat.ne_of_gt (blk_lt (g := gm) (o := .cells #[.int .i64 a0_0, .int .i64 a0_1, .int .i64 a0_2, .slice A0_3 l0_3.length c0_3] 29 (0, 0)) (qB BKgm.out))) : gl ≠ gm); clear HB BKgm; have BKgm := n94; have HB := n95; have BKgl := n96; have GEgl := n97; have NBgm_gl := n98; have NBgl_gm := n99; clear n94 n95 n96 n97 n98 n99; clear hb hbox hg; have hz100 : w93.cell? ⟨gm, 0, none⟩ = some (.int .i64 a0_0) := (blk_cell BKgm.out 0).trans rfl; have hz101 : w93.cell? ⟨gm, 1, none⟩ = some (.int .i64 a0_1) := (blk_cell BKgm.out 1).trans rfl; have hz102 : w93.cell? ⟨gm, 2, none⟩ = some (.int .i64 a0_2) := (blk_cell BKgm.out 2).trans rfl; have hz103 : w93.cell? ⟨gm, 3, none⟩ = some (.slice A0_3 l0_3.length c0_3) := (blk_cell BKgm.out 3).trans rfl; have hf104 := blk_frozen BKgm.out 0; have hf105 := blk_frozen BKgm.out 1; have hf106 := blk_frozen BKgm.out 2; have hf107 := blk_frozen BKgm.out 3; have hz108 : w93.cell? ⟨gl, 0, none⟩ = some (.slice Aq1 l1.length cq1) := (blk_cell BKgl.out 0).trans rfl; have hf109 := blk_frozen BKgl.out 0) | ((with_reducible refine gate_dst (N := 4) rfl ?_); (try (refine gate_guard (by rfl) ?_; dsimp only)); refine bxE (N := 4) (cs := #[.int .i64 0, .int .i64 0, .int .i64 0, .slice none 0 0]) (t := 29) ?_; intro gr hg w110 hbox hb; have n111 := bB BKgm hb; have n112 := bB BKgl hb; have n113 := bS HB hb; have n114 := aM hbox; have n115 := aM ((by rw [hg]; exact (below_size (qW HB.out))) : w.heap.size ≤ gr); have n116 := aM ((by rw [hg]; exact Nat.ne_of_lt (blk_lt (g := gm) (o := .cells #[.int .i64 a0_0, .int .i64 a0_1, .int .i64 a0_2, .slice A0_3 l0_3.length c0_3] 29 (0, 0)) (qB BKgm.out))) : gm ≠ gr); have n117 := aM ((by rw [hg]; exact Nat.ne_of_gt (blk_lt (g := gm) (o := .cells #[.int .i64 a0_0, .int .i64 a0_1, .int .i64 a0_2, .slice A0_3 l0_3.length c0_3] 29 (0, 0)) (qB BKgm.out))) : gr ≠ gm); have n118 := aM ((by rw [hg]; exact Nat.ne_of_lt (blk_lt (g := gl) (o := .cells #[.slice Aq1 l1.length cq1] 26 (0, 0)) (qB BKgl.out))) : gl ≠ gr); have n119 := aM ((by rw [hg]; exact Nat.ne_of_gt (blk_lt (g := gl) (o := .cells #[.slice Aq1 l1.length cq1] 26 (0, 0)) (qB BKgl.out))) : gr ≠ gl); clear HB BKgm BKgl; have BKgm := n111; have BKgl := n112; have HB := n113; have BKgr := n114; have GEgr := n115; have NBgm_gr := n116; have NBgr_gm := n117; have NBgl_gr := n118; have NBgr_gl := n119; clear n111 n112 n113 n114 n115 n116 n117 n118 n119; clear hb hbox hg; have hz120 : w110.cell? ⟨gm, 0, none⟩ = some (.int .i64 a0_0) := (blk_cell BKgm.out 0).trans rfl; have hz121 : w110.cell? ⟨gm, 1, none⟩ = some (.int .i64 a0_1) := (blk_cell BKgm.out 1).trans rfl; have hz122 : w110.cell? ⟨gm, 2, none⟩ = some (.int .i64 a0_2) := (blk_cell BKgm.out 2).trans rfl; have hz123 : w110.cell? ⟨gm, 3, none⟩ = some (.slice A0_3 l0_3.length c0_3) := (blk_cell BKgm.out 3).trans rfl; have hf124 := blk_frozen BKgm.out 0; have hf125 := blk_frozen BKgm.out 1; have hf126 := blk_frozen BKgm.out 2; have hf127 := blk_frozen BKgm.out 3; have hz128 : w110.cell? ⟨gl, 0, none⟩ = some (.slice Aq1 l1.length cq1) := (blk_cell BKgl.out 0).trans rfl; have hf129 := blk_frozen BKgl.out 0; have hz130 : w110.cell? ⟨gr, 0, none⟩ = some (.int .i64 0) := (blk_cell BKgr.out 0).trans rfl; have hz131 : w110.cell? ⟨gr, 1, none⟩ = some (.int .i64 0) := (blk_cell BKgr.out 1).trans rfl; have hz132 : w110.cell? ⟨gr, 2, none⟩ = some (.int .i64 0) := (blk_cell BKgr.out 2).trans rfl; have hz133 : w110.cell? ⟨gr, 3, none⟩ = some (.slice none 0 0) := (blk_cell BKgr.out 3).trans rfl; have hf134 := blk_frozen BKgr.out 0; have hf135 := blk_frozen BKgr.out 1; have hf136 := blk_frozen BKgr.out 2; have hf137 := blk_frozen BKgr.out 3) | (go_at_call 43; (with_reducible refine (impl_isImage.calls a0_0 a0_1 a0_2 _ _ l0_3 true _ ?side1 ?side2 A0.out).mono ?_); (case side1 => exact (Kd.C_below HR0.out (qW HB.out))); (case side2 => exact HC0.out); rintro e w138 ⟨rfl, hb⟩; have n139 := bB BKgm hb; have n140 := bB BKgl hb; have n141 := bB BKgr hb; have n142 := bS HB hb; clear HB BKgm BKgl BKgr; have BKgm := n139; have BKgl := n140; have BKgr := n141; have HB := n142; clear n139 n140 n141 n142 hb; have hz143 : w138.cell? ⟨gm, 0, none⟩ = some (.int .i64 a0_0) := (blk_cell BKgm.out 0).trans rfl; have hz144 : w138.cell? ⟨gm, 1, none⟩ = some (.int .i64 a0_1) := (blk_cell BKgm.out 1).trans rfl; have hz145 : w138.cell? ⟨gm, 2, none⟩ = some (.int .i64 a0_2) := (blk_cell BKgm.out 2).trans rfl; have hz146 : w138.cell? ⟨gm, 3, none⟩ = some (.slice A0_3 l0_3.length c0_3) := (blk_cell BKgm.out 3).trans rfl; have hf147 := blk_frozen BKgm.out 0; have hf148 := blk_frozen BKgm.out 1; have hf149 := blk_frozen BKgm.out 2; have hf150 := blk_frozen BKgm.out 3; have hz151 : w138.cell? ⟨gl, 0, none⟩ = some (.slice Aq1 l1.length cq1) := (blk_cell BKgl.out 0).trans rfl; have hf152 := blk_frozen BKgl.out 0; have hz153 : w138.cell? ⟨gr, 0, none⟩ = some (.int .i64 0) := (blk_cell BKgr.out 0).trans rfl; have hz154 : w138.cell? ⟨gr, 1, none⟩ = some (.int .i64 0) := (blk_cell BKgr.out 1).trans rfl; have hz155 : w138.cell? ⟨gr, 2, none⟩ = some (.int .i64 0) := (blk_cell BKgr.out 2).trans rfl; have hz156 : w138.cell? ⟨gr, 3, none⟩ = some (.slice none 0 0) := (blk_cell BKgr.out 3).trans rfl; have hf157 := blk_frozen BKgr.out 0; have hf158 := blk_frozen BKgr.out 1; have hf159 := blk_frozen BKgr.out 2; have hf160 := blk_frozen BKgr.out 3) | (go_at_call 53; (with_reducible refine (impl_isPalette.calls _ _ l1 a0_2 false _ ?side1 ?side2 A1.out).mono ?_); (case side1 => exact (Kd.C_below HR1.out (qW HB.out))); (case side2 => exact HC1.out); rintro e w161 ⟨rfl, hb⟩; have n162 := bB BKgm hb; have n163 := bB BKgl hb; have n164 := bB BKgr hb; have n165 := bS HB hb; clear HB BKgm BKgl BKgr; have BKgm := n162; have BKgl := n163; have BKgr := n164; have HB := n165; clear n162 n163 n164 n165 hb; have hz166 : w161.cell? ⟨gm, 0, none⟩ = some (.int .i64 a0_0) := (blk_cell BKgm.out 0).trans rfl; have hz167 : w161.cell? ⟨gm, 1, none⟩ = some (.int .i64 a0_1) := (blk_cell BKgm.out 1).trans rfl; have hz168 : w161.cell? ⟨gm, 2, none⟩ = some (.int .i64 a0_2) := (blk_cell BKgm.out 2).trans rfl; have hz169 : w161.cell? ⟨gm, 3, none⟩ = some (.slice A0_3 l0_3.length c0_3) := (blk_cell BKgm.out 3).trans rfl; have hf170 := blk_frozen BKgm.out 0; have hf171 := blk_frozen BKgm.out 1; have hf172 := blk_frozen BKgm.out 2; have hf173 := blk_frozen BKgm.out 3; have hz174 : w161.cell? ⟨gl, 0, none⟩ = some (.slice Aq1 l1.length cq1) := (blk_cell BKgl.out 0).trans rfl; have hf175 := blk_frozen BKgl.out 0; have hz176 : w161.cell? ⟨gr, 0, none⟩ = some (.int .i64 0) := (blk_cell BKgr.out 0).trans rfl; have hz177 : w161.cell? ⟨gr, 1, none⟩ = some (.int .i64 0) := (blk_cell BKgr.out 1).trans rfl; have hz178 : w161.cell? ⟨gr, 2, none⟩ = some (.int .i64 0) := (blk_cell BKgr.out 2).trans rfl; have hz179 : w161.cell? ⟨gr, 3, none⟩ = some (.slice none 0 0) := (blk_cell BKgr.out 3).trans rfl; have hf180 := blk_frozen BKgr.out 0; have hf181 := blk_frozen BKgr.out 1; have hf182 := blk_frozen BKgr.out 2; have hf183 := blk_frozen BKgr.out 3))
   refine bodyPost_ret (results_ct rfl _ _ gr 29 #[.int .i64 0, .int .i64 0, .int .i64 0, .slice none 0 0] (0, 0) _ rfl (by exact bP BKgr.out) Try.underlying29 rfl (by kernel_rfl)) rfl ?_
   exact ⟨_, by first | rfl | (simp; done), Kd.R_nil _ _ _ _ _, by exact qW HB.out⟩
  | true =>
   rw [if_pos rfl] at H
   simp only [Option.some.injEq, Prod.mk.injEq] at H
   obtain ⟨rfl, rfl, rfl, hy, rfl⟩ := H
   have HY := aM hy
   clear hy
   have V := aM (isImage_true A0.out)
   have b0 := V.out.1
   have b1 := V.out.2.1
   have b2 := V.out.2.2.1
   have U := aM (isPalette_true A1.out)
   have HF : Aside0 (∀ x y : Int, ((fun x y => idxPix l1 l0_3 a0_0 a0_2 x y) x y).length ≤ 100) := ⟨fun _ _ => by simp [idxPix]⟩
   generalize hyl : imgOf (fun x y => idxPix l1 l0_3 a0_0 a0_2 x y) a0_0.toNat a0_1.toNat = yl at HY
   have HYL := aM hyl
   clear hyl
   go_enter Try.func24, Try.ntmps24
   go_wp2_with (first | ((with_reducible refine gate_dst (N := 2) rfl ?_); (try (refine gate_guard (by rfl) ?_; dsimp only)); refine bxE (N := 2) (cs := #[.int .i64 a0_0, .int .i64 a0_1, .int .i64 a0_2, .slice A0_3 l0_3.length c0_3]) (t := 29) ?_; intro gm hg w184 hbox hb; have n185 := bS HB hb; have n186 := aM hbox; have n187 := aM ((by rw [hg]; exact (below_size (qW HB.out))) : w.heap.size ≤ gm); clear HB; have HB := n185; have BKgm := n186; have GEgm := n187; clear n185 n186 n187; clear hb hbox hg; have hz188 : w184.cell? ⟨gm, 0, none⟩ = some (.int .i64 a0_0) := (blk_cell BKgm.out 0).trans rfl; have hz189 : w184.cell? ⟨gm, 1, none⟩ = some (.int .i64 a0_1) := (blk_cell BKgm.out 1).trans rfl; have hz190 : w184.cell? ⟨gm, 2, none⟩ = some (.int .i64 a0_2) := (blk_cell BKgm.out 2).trans rfl; have hz191 : w184.cell? ⟨gm, 3, none⟩ = some (.slice A0_3 l0_3.length c0_3) := (blk_cell BKgm.out 3).trans rfl; have hf192 := blk_frozen BKgm.out 0; have hf193 := blk_frozen BKgm.out 1; have hf194 := blk_frozen BKgm.out 2; have hf195 := blk_frozen BKgm.out 3) | ((with_reducible refine gate_dst (N := 3) rfl ?_); (try (refine gate_guard (by rfl) ?_; dsimp only)); refine bxE (N := 3) (cs := #[.slice Aq1 l1.length cq1]) (t := 26) ?_; intro gl hg w196 hbox hb; have n197 := bB BKgm hb; have n198 := bS HB hb; have n199 := aM hbox; have n200 := aM ((by rw [hg]; exact (below_size (qW HB.out))) : w.heap.size ≤ gl); have n201 := aM ((by rw [hg]; exact Nat.ne_of_lt (blk_lt (g := gm) (o := .cells #[.int .i64 a0_0, .int .i64 a0_1, .int .i64 a0_2, .slice A0_3 l0_3.length c0_3] 29 (0, 0)) (qB BKgm.out))) : gm ≠ gl); have n202 := aM ((by rw [hg]; exact Nat.ne_of_gt (blk_lt (g := gm) (o := .cells #[.int .i64 a0_0, .int .i64 a0_1, .int .i64 a0_2, .slice A0_3 l0_3.length c0_3] 29 (0, 0)) (qB BKgm.out))) : gl ≠ gm); clear HB BKgm; have BKgm := n197; have HB := n198; have BKgl := n199; have GEgl := n200; have NBgm_gl := n201; have NBgl_gm := n202; clear n197 n198 n199 n200 n201 n202; clear hb hbox hg; have hz203 : w196.cell? ⟨gm, 0, none⟩ = some (.int .i64 a0_0) := (blk_cell BKgm.out 0).trans rfl; have hz204 : w196.cell? ⟨gm, 1, none⟩ = some (.int .i64 a0_1) := (blk_cell BKgm.out 1).trans rfl; have hz205 : w196.cell? ⟨gm, 2, none⟩ = some (.int .i64 a0_2) := (blk_cell BKgm.out 2).trans rfl; have hz206 : w196.cell? ⟨gm, 3, none⟩ = some (.slice A0_3 l0_3.length c0_3) := (blk_cell BKgm.out 3).trans rfl; have hf207 := blk_frozen BKgm.out 0; have hf208 := blk_frozen BKgm.out 1; have hf209 := blk_frozen BKgm.out 2; have hf210 := blk_frozen BKgm.out 3; have hz211 : w196.cell? ⟨gl, 0, none⟩ = some (.slice Aq1 l1.length cq1) := (blk_cell BKgl.out 0).trans rfl; have hf212 := blk_frozen BKgl.out 0) | ((with_reducible refine gate_dst (N := 4) rfl ?_); (try (refine gate_guard (by rfl) ?_; dsimp only)); refine bxE (N := 4) (cs := #[.int .i64 0, .int .i64 0, .int .i64 0, .slice none 0 0]) (t := 29) ?_; intro gr hg w213 hbox hb; have n214 := bB BKgm hb; have n215 := bB BKgl hb; have n216 := bS HB hb; have n217 := aM hbox; have n218 := aM ((by rw [hg]; exact (below_size (qW HB.out))) : w.heap.size ≤ gr); have n219 := aM ((by rw [hg]; exact Nat.ne_of_lt (blk_lt (g := gm) (o := .cells #[.int .i64 a0_0, .int .i64 a0_1, .int .i64 a0_2, .slice A0_3 l0_3.length c0_3] 29 (0, 0)) (qB BKgm.out))) : gm ≠ gr); have n220 := aM ((by rw [hg]; exact Nat.ne_of_gt (blk_lt (g := gm) (o := .cells #[.int .i64 a0_0, .int .i64 a0_1, .int .i64 a0_2, .slice A0_3 l0_3.length c0_3] 29 (0, 0)) (qB BKgm.out))) : gr ≠ gm); have n221 := aM ((by rw [hg]; exact Nat.ne_of_lt (blk_lt (g := gl) (o := .cells #[.slice Aq1 l1.length cq1] 26 (0, 0)) (qB BKgl.out))) : gl ≠ gr); have n222 := aM ((by rw [hg]; exact Nat.ne_of_gt (blk_lt (g := gl) (o := .cells #[.slice Aq1 l1.length cq1] 26 (0, 0)) (qB BKgl.out))) : gr ≠ gl); clear HB BKgm BKgl; have BKgm := n214; have BKgl := n215; have HB := n216; have BKgr := n217; have GEgr := n218; have NBgm_gr := n219; have NBgr_gm := n220; have NBgl_gr := n221; have NBgr_gl := n222; clear n214 n215 n216 n217 n218 n219 n220 n221 n222; clear hb hbox hg; have hz223 : w213.cell? ⟨gm, 0, none⟩ = some (.int .i64 a0_0) := (blk_cell BKgm.out 0).trans rfl; have hz224 : w213.cell? ⟨gm, 1, none⟩ = some (.int .i64 a0_1) := (blk_cell BKgm.out 1).trans rfl; have hz225 : w213.cell? ⟨gm, 2, none⟩ = some (.int .i64 a0_2) := (blk_cell BKgm.out 2).trans rfl; have hz226 : w213.cell? ⟨gm, 3, none⟩ = some (.slice A0_3 l0_3.length c0_3) := (blk_cell BKgm.out 3).trans rfl; have hf227 := blk_frozen BKgm.out 0; have hf228 := blk_frozen BKgm.out 1; have hf229 := blk_frozen BKgm.out 2; have hf230 := blk_frozen BKgm.out 3; have hz231 : w213.cell? ⟨gl, 0, none⟩ = some (.slice Aq1 l1.length cq1) := (blk_cell BKgl.out 0).trans rfl; have hf232 := blk_frozen BKgl.out 0; have hz233 : w213.cell? ⟨gr, 0, none⟩ = some (.int .i64 0) := (blk_cell BKgr.out 0).trans rfl; have hz234 : w213.cell? ⟨gr, 1, none⟩ = some (.int .i64 0) := (blk_cell BKgr.out 1).trans rfl; have hz235 : w213.cell? ⟨gr, 2, none⟩ = some (.int .i64 0) := (blk_cell BKgr.out 2).trans rfl; have hz236 : w213.cell? ⟨gr, 3, none⟩ = some (.slice none 0 0) := (blk_cell BKgr.out 3).trans rfl; have hf237 := blk_frozen BKgr.out 0; have hf238 := blk_frozen BKgr.out 1; have hf239 := blk_frozen BKgr.out 2; have hf240 := blk_frozen BKgr.out 3) | (go_at_call 43; (with_reducible refine (impl_isImage.calls a0_0 a0_1 a0_2 _ _ l0_3 true _ ?side1 ?side2 A0.out).mono ?_); (case side1 => exact (Kd.C_below HR0.out (qW HB.out))); (case side2 => exact HC0.out); rintro e w241 ⟨rfl, hb⟩; have n242 := bB BKgm hb; have n243 := bB BKgl hb; have n244 := bB BKgr hb; have n245 := bS HB hb; clear HB BKgm BKgl BKgr; have BKgm := n242; have BKgl := n243; have BKgr := n244; have HB := n245; clear n242 n243 n244 n245 hb; have hz246 : w241.cell? ⟨gm, 0, none⟩ = some (.int .i64 a0_0) := (blk_cell BKgm.out 0).trans rfl; have hz247 : w241.cell? ⟨gm, 1, none⟩ = some (.int .i64 a0_1) := (blk_cell BKgm.out 1).trans rfl; have hz248 : w241.cell? ⟨gm, 2, none⟩ = some (.int .i64 a0_2) := (blk_cell BKgm.out 2).trans rfl; have hz249 : w241.cell? ⟨gm, 3, none⟩ = some (.slice A0_3 l0_3.length c0_3) := (blk_cell BKgm.out 3).trans rfl; have hf250 := blk_frozen BKgm.out 0; have hf251 := blk_frozen BKgm.out 1; have hf252 := blk_frozen BKgm.out 2; have hf253 := blk_frozen BKgm.out 3; have hz254 : w241.cell? ⟨gl, 0, none⟩ = some (.slice Aq1 l1.length cq1) := (blk_cell BKgl.out 0).trans rfl; have hf255 := blk_frozen BKgl.out 0; have hz256 : w241.cell? ⟨gr, 0, none⟩ = some (.int .i64 0) := (blk_cell BKgr.out 0).trans rfl; have hz257 : w241.cell? ⟨gr, 1, none⟩ = some (.int .i64 0) := (blk_cell BKgr.out 1).trans rfl; have hz258 : w241.cell? ⟨gr, 2, none⟩ = some (.int .i64 0) := (blk_cell BKgr.out 2).trans rfl; have hz259 : w241.cell? ⟨gr, 3, none⟩ = some (.slice none 0 0) := (blk_cell BKgr.out 3).trans rfl; have hf260 := blk_frozen BKgr.out 0; have hf261 := blk_frozen BKgr.out 1; have hf262 := blk_frozen BKgr.out 2; have hf263 := blk_frozen BKgr.out 3) | (go_at_call 53; (with_reducible refine (impl_isPalette.calls _ _ l1 a0_2 true _ ?side1 ?side2 A1.out).mono ?_); (case side1 => exact (Kd.C_below HR1.out (qW HB.out))); (case side2 => exact HC1.out); rintro e w264 ⟨rfl, hb⟩; have n265 := bB BKgm hb; have n266 := bB BKgl hb; have n267 := bB BKgr hb; have n268 := bS HB hb; clear HB BKgm BKgl BKgr; have BKgm := n265; have BKgl := n266; have BKgr := n267; have HB := n268; clear n265 n266 n267 n268 hb; have hz269 : w264.cell? ⟨gm, 0, none⟩ = some (.int .i64 a0_0) := (blk_cell BKgm.out 0).trans rfl; have hz270 : w264.cell? ⟨gm, 1, none⟩ = some (.int .i64 a0_1) := (blk_cell BKgm.out 1).trans rfl; have hz271 : w264.cell? ⟨gm, 2, none⟩ = some (.int .i64 a0_2) := (blk_cell BKgm.out 2).trans rfl; have hz272 : w264.cell? ⟨gm, 3, none⟩ = some (.slice A0_3 l0_3.length c0_3) := (blk_cell BKgm.out 3).trans rfl; have hf273 := blk_frozen BKgm.out 0; have hf274 := blk_frozen BKgm.out 1; have hf275 := blk_frozen BKgm.out 2; have hf276 := blk_frozen BKgm.out 3; have hz277 : w264.cell? ⟨gl, 0, none⟩ = some (.slice Aq1 l1.length cq1) := (blk_cell BKgl.out 0).trans rfl; have hf278 := blk_frozen BKgl.out 0; have hz279 : w264.cell? ⟨gr, 0, none⟩ = some (.int .i64 0) := (blk_cell BKgr.out 0).trans rfl; have hz280 : w264.cell? ⟨gr, 1, none⟩ = some (.int .i64 0) := (blk_cell BKgr.out 1).trans rfl; have hz281 : w264.cell? ⟨gr, 2, none⟩ = some (.int .i64 0) := (blk_cell BKgr.out 2).trans rfl; have hz282 : w264.cell? ⟨gr, 3, none⟩ = some (.slice none 0 0) := (blk_cell BKgr.out 3).trans rfl; have hf283 := blk_frozen BKgr.out 0; have hf284 := blk_frozen BKgr.out 1; have hf285 := blk_frozen BKgr.out 2; have hf286 := blk_frozen BKgr.out 3) | (go_at_call 54; refine (impl_imageBy.calls 55 #[.pointer (some ⟨gl, 0, none⟩), .pointer (some ⟨gm, 0, none⟩)] (enters_of Try.func55 (by kernel_rfl) rfl) _ a0_0 a0_1 1 _ ?b0 ?b1 ?b2 ?b3 ?bf (indexImagePix _ gl gm a0_0 a0_1 a0_2 _ _ l0_3 _ _ l1 (qB BKgl.out) (qB BKgm.out) (Kd.C_below HR0.out (qW HB.out)) HC0.out (Kd.C_below HR1.out (qW HB.out)) HC1.out V.out U.out.1.2 (fun z hz => (U.out.2.2 z hz).1))).mono ?_; (case b0 => omega); (case b1 => omega); (case b2 => omega); (case b3 => omega); (case bf => exact HF.out); rintro e w287 ⟨v3, rfl, ho, hb⟩; rw [HYL.out] at ho; have HLB := aM (below_size (qW HB.out)); obtain ⟨Ao, co, eo⟩ := Kd.R_slice ho; subst eo; have HO := aM ho; clear ho; have n289 := bB BKgm hb; have n290 := bB BKgl hb; have n291 := bB BKgr hb; have n292 := bS HB hb; clear HB BKgm BKgl BKgr; have BKgm := n289; have BKgl := n290; have BKgr := n291; have HB := n292; clear n289 n290 n291 n292 hb; have hz293 : w287.cell? ⟨gm, 0, none⟩ = some (.int .i64 a0_0) := (blk_cell BKgm.out 0).trans rfl; have hz294 : w287.cell? ⟨gm, 1, none⟩ = some (.int .i64 a0_1) := (blk_cell BKgm.out 1).trans rfl; have hz295 : w287.cell? ⟨gm, 2, none⟩ = some (.int .i64 a0_2) := (blk_cell BKgm.out 2).trans rfl; have hz296 : w287.cell? ⟨gm, 3, none⟩ = some (.slice A0_3 l0_3.length c0_3) := (blk_cell BKgm.out 3).trans rfl; have hf297 := blk_frozen BKgm.out 0; have hf298 := blk_frozen BKgm.out 1; have hf299 := blk_frozen BKgm.out 2; have hf300 := blk_frozen BKgm.out 3; have hz301 : w287.cell? ⟨gl, 0, none⟩ = some (.slice Aq1 l1.length cq1) := (blk_cell BKgl.out 0).trans rfl; have hf302 := blk_frozen BKgl.out 0; have hz303 : w287.cell? ⟨gr, 0, none⟩ = some (.int .i64 0) := (blk_cell BKgr.out 0).trans rfl; have hz304 : w287.cell? ⟨gr, 1, none⟩ = some (.int .i64 0) := (blk_cell BKgr.out 1).trans rfl; have hz305 : w287.cell? ⟨gr, 2, none⟩ = some (.int .i64 0) := (blk_cell BKgr.out 2).trans rfl; have hz306 : w287.cell? ⟨gr, 3, none⟩ = some (.slice none 0 0) := (blk_cell BKgr.out 3).trans rfl; have hf307 := blk_frozen BKgr.out 0; have hf308 := blk_frozen BKgr.out 1; have hf309 := blk_frozen BKgr.out 2; have hf310 := blk_frozen BKgr.out 3))
   refine bodyPost_ret (results_ct rfl _ _ gr 29 #[.int .i64 a0_0, .int .i64 a0_1, .int .i64 1, .slice Ao yl.length co] (0, 0) _ rfl (by exact bP BKgr.out) Try.underlying29 rfl (by kernel_rfl)) rfl ?_
   exact ⟨_, by first | rfl | (simp; done), by rw [← HY.out]; refine qR ?_; exact Kd.R_mono (Kd.R_far (p := ⟨gr, 3, none⟩) (Kd.R_far (p := ⟨gr, 2, none⟩) (Kd.R_far (p := ⟨gr, 1, none⟩) (Kd.R_far (p := ⟨gr, 0, none⟩) (Kd.R_types (Kd.R_lower HO.out HLB.out) BKgr.out (by decide)) (fun _ hk => hk.2) _) (fun _ hk => hk.2) _) (fun _ hk => hk.2) _) (fun _ hk => hk.2) _) (fun _ hk => trivial), by exact qW HB.out⟩
def slices_Max_int_int.l0 : Nat → List Int → Int → Int → Option (Int)
 | 0, _, _, _ => none
 | k + 1, x0, x3, x4 => if x4 < (x0.length : Int) then (if 0 ≤ x4 then (slices_Max_int_int.l0 k x0 (mx x3 (rd x0 x4)) (wrap64 (x4 + 1))) else (none)) else (some x3)
def slices_Max_int_int.f (k : Nat) (l0 : List Int) : Option (Int) := if (l0.length : Int) < 1 then (none) else (if 0 < (l0.length : Int) then (slices_Max_int_int.l0 k l0 (rd l0 0) 1) else (none))
theorem slices_Max_int_int.mono_l : ∀ k, (∀ y0 y1 y2, LeO (slices_Max_int_int.l0 k y0 y1 y2) (slices_Max_int_int.l0 (k + 1) y0 y1 y2))
 | 0 => fun _ _ _ r h => by simp [slices_Max_int_int.l0] at h
 | k + 1 => by
  have ih0 := slices_Max_int_int.mono_l k
  ·intro y0 y1 y2
   unfold slices_Max_int_int.l0
   repeat' first | (with_reducible first | exact ih0 _ _ _ | exact lR | exact lN | refine lI ?_ ?_ | refine lB ?_ fun _ => ?_) | exact ih0 _ _ _ | exact lN | refine lI ?_ ?_ | refine lB ?_ fun _ => ?_
theorem slices_Max_int_int.mono : ∀ a0 k, LeO (slices_Max_int_int.f k a0) (slices_Max_int_int.f (k + 1) a0) := by
 intro a0 k
 have ih0 := slices_Max_int_int.mono_l k
 unfold slices_Max_int_int.f
 repeat' first | (with_reducible first | exact ih0 _ _ _ | exact lR | exact lN | refine lI ?_ ?_ | refine lB ?_ fun _ => ?_) | exact ih0 _ _ _ | exact lN | refine lI ?_ ?_ | refine lB ?_ fun _ => ?_
set_option maxHeartbeats 8000000 in
set_option maxRecDepth 100000 in
theorem slices_Max_int_int.calls (k : Nat) (A0 : Option Addr) (c0 : Nat) (l0 : List Int) (r : Int) (w : World) (hr0 : Kd.C (Kd.int .i64) w A0 l0.length l0) (hc0 : l0.length ≤ c0) (h : slices_Max_int_int.f k l0 = some r) :
  Calls Try.prog 57 #[.slice A0 l0.length c0] w fun e w' => e = .returned (.int .i64 r) ∧ Below w.heap.size w w' := by
 have HR0 := aM hr0
 have HC0 := aM hc0
 clear hr0 hc0
 have HB := aM (Below.refl w.heap.size w)
 unfold slices_Max_int_int.f at h
 have H := h
 clear h
 by_cases c2 : (l0.length : Int) < 1
 ·rw [if_pos c2] at H
  exact absurd H (by simp)
 rw [if_neg c2] at H
 have c2b0 : decide ((l0.length : Int) < 1) = false := decide_eq_false c2
 have c2b1 : decide (l0.length < 1) = false := decide_eq_false (by omega)
 clear c2
 replace H := iS H
 obtain ⟨c3, H⟩ := H
 have c3b0 : decide (0 < (l0.length : Int)) = true := decide_eq_true c3
 have c3b1 : decide (0 < l0.length) = true := decide_eq_true (by omega)
 clear c3
 have H' := aM H
 clear H
 have p319 : 0 ≤ (0 : Int) := (by omega)
 have q319 : 0 < (l0.length : Int) := oD
 obtain ⟨ad319, e319, hx319_0⟩ := Kd.at_int HR0.out 0 p319 q319
 cases e319
 have qi319 : (0 < l0.length) = True := eq_true (by omega)
 (try rw [show ((0 : Int)).toNat = 0 from rfl] at hx319_0)
 (try rw [Addr.add_zero'] at hx319_0)
 replace p319 := eq_true p319
 replace q319 := eq_true q319
 go_enter Try.func57, Try.ntmps57
 go_wp2
 go_loopg [3, 4] k (fun kq v3 v4 w' => ∃ (x3_1 : Int) (x4_1 : Int), v3 = .int .i64 x3_1 ∧ v4 = .int .i64 x4_1 ∧ Aside0 (slices_Max_int_int.l0 kq l0 x3_1 x4_1 = some r) ∧ Aside0 (kq ≤ k) ∧ Aside0 (Below w.heap.size w w'))
 case atStart => exact ⟨(rd l0 0), (1), qE, qE, H', ⟨Nat.le_refl _⟩, ⟨by exact qW HB.out⟩⟩
 case round =>
  clear H'
  try clear c2
  try clear c2b0
  try clear c2b1
  try clear c3
  try clear c3b0
  try clear c3b1
  try clear hx319_0
  try clear p319
  try clear q319
  obtain ⟨x3_1, x4_1, rfl, rfl, HA, HK1, HB⟩ := hrel
  cases gk with
  | zero => exact absurd HA.out (by simp [slices_Max_int_int.l0])
  | succ k1 =>
   have H := HA.out
   clear HA
   simp only [slices_Max_int_int.l0] at H
   by_cases c4 : x4_1 < (l0.length : Int)
   rotate_left
   ·rw [if_neg c4] at H
    have c4b0 : decide (x4_1 < (l0.length : Int)) = false := decide_eq_false c4
    clear c4
    obtain rfl := Option.some.inj H
    go_wp2
    go_ret
    exact ⟨qX, by exact qW HB.out⟩
   rw [if_pos c4] at H
   have c4b0 : decide (x4_1 < (l0.length : Int)) = true := decide_eq_true c4
   clear c4
   replace H := iD H
   obtain ⟨c5b0, H⟩ := H
   obtain ⟨ji6, hji6⟩ : ∃ j_ : Int, (mx x3_1 (rd l0 x4_1)) = j_ := ⟨_, rfl⟩
   replace H : (slices_Max_int_int.l0 k1 l0 ji6 (wrap64 (x4_1 + 1))) = some r := by first | (rw [hji6] at H; exact H) | (simp only [hji6] at H ⊢; exact H)
   have hji6_ : (if x3_1 < (rd l0 x4_1) then (rd l0 x4_1) else x3_1) = ji6 := hji6
   have H' := aM H
   clear H
   obtain ⟨ad320, e320, hx320_0⟩ := Kd.at_int HR0.out x4_1 oD oD
   obtain rfl : ad319 = ad320 := (by injection e320)
   replace hx320_0 := bD HB hx320_0
   have p320 := eq_true (oD : 0 ≤ (x4_1 : Int))
   have q320 := eq_true (oD : x4_1 < (l0.length : Int))
   go_wp2
   go_roundg k1
   case measure => have := HK1.out; omega
   case rel => exact ⟨(ji6), (wrap64 (x4_1 + 1)), (by first | rfl | (simp; done) | (simp only [← hji6] <;> (first | rfl | simp)) | (simp [*]; done)), qE, H', ⟨by have := HK1.out; omega⟩, ⟨by exact qW HB.out⟩⟩
def colPix (L : List (List Int)) (l : List Int) (a0 a2 x y : Int) : List Int := rd_L1 L (rd (pixOf l a0 a2 x y) 0)
theorem colPix_len (L : List (List Int)) (l : List Int) (a0 a2 x y : Int) (h : ∀ z ∈ L, z.length ≤ 100) : (colPix L l a0 a2 x y).length ≤ 100 := by
 unfold colPix rd_L1
 rw [List.getD_eq_getElem?_getD]
 cases e : L[(rd (pixOf l a0 a2 x y) 0).toNat]? with
 | none => simp
 | some z => exact h z (List.mem_of_getElem? e)
set_option maxHeartbeats 8000000 in
set_option maxRecDepth 100000 in
theorem colorImagePix (w : World) (B1 B2 : Nat) (a0 a1 a2 : Int) (A : Option Addr) (c : Nat) (l : List Int) (AL : Option Addr) (cL : Nat) (L : List (List Int))
  (hB1 : w.heap[B1]? = some (.cells #[.slice AL L.length cL] 26 (0, 0))) (hB2 : w.heap[B2]? = some (.cells #[.int .i64 a0, .int .i64 a1, .int .i64 a2, .slice A l.length c] 29 (0, 0)))
  (hr : Kd.C (Kd.int .i64) w A l.length l) (hc : l.length ≤ c) (hrL : Kd.C (Kd.slice 3 (Kd.int .i64)) w AL L.length L) (hcL : L.length ≤ cL) (V : ImgOk a0 a1 a2 l) (h1 : a2 = 1) (hmax : ∀ v ∈ l, v < (L.length : Int)) :
  PixAt 58 #[.pointer (some ⟨B1, 0, none⟩), .pointer (some ⟨B2, 0, none⟩)] (fun x y => colPix L l a0 a2 x y) a0 a1 w := fun W x y hb hx hx' hy hy' => by
 obtain ⟨⟨v0, v0'⟩, ⟨v1, v1'⟩, ⟨v2, v2'⟩, hlen, hby⟩ := V
 have hfit := pix_fits (a0 := a0) (a1 := a1) (a2 := a2) (x := x) (y := y) (by omega) (by omega) (by omega) (by omega) (by omega)
 rw [← hlen] at hfit
 have m1 : 0 ≤ y * a0 := Int.mul_nonneg hy (by omega)
 have m2 : 0 ≤ (y * a0 + x) * a2 := Int.mul_nonneg (by omega) (by omega)
 have hpl := pixOf_length (l := l) (n := a0) (p := a2) (x := x) (y := y) m2 (by omega) hfit
 have hpm : ∀ v ∈ pixOf l a0 a2 x y, (0 ≤ v ∧ v ≤ 255) ∧ v < (L.length : Int) := fun v hv => ⟨hby v (pixOf_mem hv), hmax v (pixOf_mem hv)⟩
 have HR0 := aM (Kd.C_below hr hb)
 have HRL := aM (Kd.C_below hrL hb)
 have HCL := aM hcL
 have KB1 := aM (blk_below hB1 hb)
 have KB2 := aM (blk_below hB2 hb)
 have HC := aM (fun (W' : World) (hb' : Below W.heap.size W W') => impl_at.calls2 a0 a1 a2 A c l x y W' (Kd.C_below HR0.out hb') hc (by omega) v0' (by omega) (by omega) (by omega) (by omega) (by omega) (by omega) hfit)
 clear hfit hlen hr hc hB1 hB2 m1 m2 hby hmax hcL
 dsimp only
 unfold colPix
 generalize pixOf l a0 a2 x y = px at HC hpl hpm ⊢
 rw [h1] at hpl
 clear h1
 have r0 : (0 ≤ rd px 0 ∧ rd px 0 ≤ 255) ∧ rd px 0 < (L.length : Int) := hpm _ (by
  unfold rd
  rw [List.getD_eq_getElem?_getD, List.getElem?_eq_getElem (by omega)]
  exact List.getElem_mem _)
 have HL := aM hpl
 clear hpm hpl
 obtain ⟨n0, hn0⟩ : ∃ z : Int, rd px 0 = z := ⟨_, rfl⟩
 rw [hn0] at r0 ⊢
 have HN0 := aM hn0
 clear hn0
 obtain ⟨n, hn⟩ : ∃ z : Nat, n0 = z := ⟨n0.toNat, by omega⟩
 subst hn
 obtain ⟨⟨r1, r2⟩, r3⟩ := r0
 obtain ⟨adL, A1, c1, e1, hcell, hl1, hi1⟩ := at_L1 hrL (n : Int) r1 r3
 subst e1
 simp only [Int.toNat_natCast] at hcell
 generalize rd_L1 L (n : Int) = row at hcell hl1 hi1 ⊢
 have HCL2 := aM (fun (W' : World) (h : Below W.heap.size W W') => pw_cell_below (hb.trans (h.mono hb.size)) hcell)
 have HI1 := aM (fun (W' : World) (h : Below W.heap.size W W') => Kd.C_below hi1 (hb.trans (h.mono hb.size)))
 have HL1 := aM hl1
 clear hcell hl1 hi1 hb hrL HRL
 have r4 : n < L.length := by omega
 show Calls Try.prog 58 _ W fun e w' => ∃ (A : Option Addr) (c : Nat), e = .returned (.slice A row.length c) ∧ Kd.C (Kd.int .i64) w' A row.length row ∧ row.length ≤ c ∧ Below W.heap.size W w'
 go_enter Try.func58, Try.ntmps58
 go_wp2
 refine start_ (n := 10) (S := fun w' => Below W.heap.size W w') (ds := []) (bA 10 0) (by kernel_rfl) rfl rfl (below_drew (Below.refl _ _)) (fun hHeld => ?_)
 have HB := aM hHeld
 clear hHeld
 generalize W.drew = w2 at HB ⊢
 refine pure_ (i := 2) (N := some 9) (v := ?_) (a' := ?_) (bA 10 4) rfl rfl (by kernel_rfl) (fun _ _ _ h => h) (Or.inl ⟨by rfl, ?_⟩) ?_ ?_
 rotate_left
 ·intro w'
  go_simp
  with_reducible rfl
 rotate_left
 ·refine pZ ?_
  rfl
 refine pure_ (i := 3) (N := some 10) (v := ?_) (a' := ?_) (bA 10 12) rfl rfl (by kernel_rfl) (fun _ _ _ h => h) (Or.inl ⟨by rfl, ?_⟩) ?_ ?_
 rotate_left
 ·intro w'
  go_simp
  with_reducible rfl
 rotate_left
 ·refine pZ ?_
  rfl
 refine take_ (i := 0) (N := some 7) (v := ?_) (a' := ?_) (bA 10 13) rfl rfl (by kernel_rfl) (fun _ _ _ h => h) (Or.inl ⟨by rfl, ?_⟩) HB.out ?_ ?_
 rotate_left
 ·intro w' s0
  have z : w'.cell? ⟨B1, 0, none⟩ = some (.slice (some adL) L.length cL) := (blk_cell (blk_below KB1.out s0) 0).trans rfl
  go_simp
  with_reducible rfl
 rotate_left
 ·refine pZ ?_
  rfl
 refine take_ (i := 1) (N := some 8) (v := ?_) (a' := ?_) (bA 10 15) rfl rfl (by kernel_rfl) (fun _ _ _ h => h) (Or.inl ⟨by rfl, ?_⟩) HB.out ?_ ?_
 rotate_left
 ·intro w' s0
  have z0 : w'.cell? ⟨B2, 0, none⟩ = some (.int .i64 a0) := (blk_cell (blk_below KB2.out s0) 0).trans rfl
  have z1 : w'.cell? ⟨B2, 1, none⟩ = some (.int .i64 a1) := (blk_cell (blk_below KB2.out s0) 1).trans rfl
  have z2 : w'.cell? ⟨B2, 2, none⟩ = some (.int .i64 a2) := (blk_cell (blk_below KB2.out s0) 2).trans rfl
  have z3 : w'.cell? ⟨B2, 3, none⟩ = some (.slice A l.length c) := (blk_cell (blk_below KB2.out s0) 3).trans rfl
  go_simp
  with_reducible rfl
 rotate_left
 ·refine pZ ?_
  rfl
 refine one_ (i := 4) (N := some 11) (bA 10 31) rfl rfl (by kernel_rfl) (by decide) (fun K hK => ?_)
 refine goes_ Try.func44 (by kernel_rfl) rfl #[.agg #[.int .i64 a0, .int .i64 a1, .int .i64 a2, .slice A l.length c], .int .i64 x, .int .i64 y] (by rfl) rfl rfl (by (try simp only [List.map_toArray, List.map_cons, List.map_nil]); first | done | rfl) ?_
 refine (HC.out _ HB.out).mono ?_
 rintro e w3 ⟨A', c', rfl, hr', hl', hb', hall⟩
 refine ⟨_, rfl, ?_⟩
 have HB3 := aM (below_step HB.out hb')
 have HALL := aM hall
 have HLC := aM hl'
 clear HB hr' hall hb' hl'
 have HB := HB3
 clear HB3
 refine hK.out _ _ HB.out (fun hHeld => ?_)
 clear hK K hHeld
 refine norm_ (a' := ?_) ?_ ?_
 rotate_left
 ·show Act.put _ (some 11) _ = _
  refine pZ ?_
  rfl
 have l0 : (0 : Int) < (px.length : Int) := by have := HL.out; omega
 have l1 : 0 < px.length := by omega
 obtain ⟨ad, ea, _⟩ := Kd.at_int (HALL.out w3 (Kd.C_below HR0.out HB.out)) 0 (by omega) l0
 cases ea
 refine pure_ (i := 5) (N := some 12) (v := ?_) (a' := ?_) (bA 10 63) rfl rfl (by kernel_rfl) (fun _ _ _ h => h) (Or.inl ⟨by rfl, ?_⟩) ?_ ?_
 rotate_left
 ·intro w'
  go_simp
  with_reducible rfl
 rotate_left
 ·refine pZ ?_
  rfl
 refine take_ (i := 6) (N := some 13) (v := ?_) (a' := ?_) (bA 10 127) rfl rfl (by kernel_rfl) (fun _ _ _ h => h) (Or.inl ⟨by rfl, ?_⟩) HB.out ?_ ?_
 rotate_left
 ·intro w' s0
  obtain ⟨ad', ea', z⟩ := Kd.at_int (HALL.out w' (Kd.C_below HR0.out s0)) 0 (by omega) l0
  cases ea'
  rw [show (0 : Int).toNat = 0 from rfl, Addr.add_zero', HN0.out] at z
  go_simp
  with_reducible rfl
 rotate_left
 ·refine pZ ?_
  rfl
 refine pure_ (i := 7) (N := some 14) (v := ?_) (a' := ?_) (bA 10 255) rfl rfl (by kernel_rfl) (fun _ _ _ h => h) (Or.inl ⟨by rfl, ?_⟩) ?_ ?_
 rotate_left
 ·intro w'
  go_simp
  with_reducible rfl
 rotate_left
 ·refine pZ ?_
  rfl
 refine take_ (i := 8) (N := some 15) (v := ?_) (a' := ?_) (bA 10 511) rfl rfl (by kernel_rfl) (fun _ _ _ h => h) (Or.inl ⟨by rfl, ?_⟩) HB.out ?_ ?_
 rotate_left
 ·intro w' s0
  have z := HCL2.out w' s0
  go_simp
  with_reducible rfl
 rotate_left
 ·refine pZ ?_
  rfl
 refine pure_ (i := 9) (N := some 6) (v := ?_) (a' := ?_) (bA 10 1023) rfl rfl (by kernel_rfl) (fun _ _ _ h => h) (Or.inl ⟨by rfl, ?_⟩) ?_ ?_
 rotate_left
 ·intro w'
  go_simp
  with_reducible rfl
 rotate_left
 ·refine pZ ?_
  rfl
 refine done_ (by kernel_rfl) ?_
 try go_wp2
 go_ret
 exact ⟨_, _, rfl, HI1.out _ HB.out, HL1.out, HB.out⟩
end Go.Proofs.Ytohbpilokmppbaa.P
