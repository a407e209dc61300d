/- Contracts and row, written by a program of this place out of the translation: the call answers true and its argument reads as before, for every input; no condition. -/
import Derived.Test.YtchahbdmdcllaaaK0
import Derived.Test.YtchahbdmdcllaaaK1
import Derived.Test.YtchahbdmdcllaaaK2
namespace Go.Proofs.Ytchahbdmdcllaaa.P
open Go.RowKit Go.Proofs.YtchahbdmdcllaaaW.PrintWords Go.Proofs.YtchahbdmdcllaaaW.PrintLast Go.Proofs.YtchahbdmdcllaaaW.PrintMore
attribute [local go_sem] max2_int min2_int max_two min_two max_three min_three max_four min_four   -- for this text's walks alone
set_option linter.unusedVariables false
set_option linter.unusedSimpArgs false
def spec_WriteImage.f (k : Nat) (a0_0 : Int) (a0_1 : Int) (a0_2 : Int) (l0_3 : List Int) : Option (List Int × Bool) := (spec_validImage.f k a0_0 a0_1 a0_2 l0_3).bind fun t582 => (if t582 = true then ((spec_filterImage.f k a0_0 a0_1 a0_2 l0_3).bind fun t583 => (if (t583.length : Int) > 1200 then (some (([] : List Int), false)) else ((spec_writeImage.f k a0_0 a0_1 a0_2 l0_3).bind fun t586 => (if (t586.length : Int) > 1200 then (some (([] : List Int), false)) else ((spec_writeImage.f k a0_0 a0_1 a0_2 l0_3).bind fun t589 => (some (t589, true))))))) else (some (([] : List Int), false)))
theorem spec_WriteImage.mono : ∀ a0 a1 a2 a3 k, LeO (spec_WriteImage.f k a0 a1 a2 a3) (spec_WriteImage.f (k + 1) a0 a1 a2 a3) := by
 intro a0 a1 a2 a3 k
 unfold spec_WriteImage.f
 repeat' first | (with_reducible first | exact spec_filterImage.mono _ _ _ _ _ | exact spec_validImage.mono _ _ _ _ _ | exact spec_writeImage.mono _ _ _ _ _ | exact lR | exact lN | refine lI ?_ ?_ | refine lB ?_ fun _ => ?_) | exact spec_filterImage.mono _ _ _ _ _ | exact spec_validImage.mono _ _ _ _ _ | exact spec_writeImage.mono _ _ _ _ _ | exact lN | refine lI ?_ ?_ | refine lB ?_ fun _ => ?_
set_option maxHeartbeats 8000000 in
set_option maxRecDepth 100000 in
theorem spec_WriteImage.calls (k : Nat) (a0_0 : Int) (a0_1 : Int) (a0_2 : Int) (A0_3 : Option Addr) (c0_3 : Nat) (l0_3 : List Int) (r1 : List Int) (r2 : Bool) (w : World) (hr0_3 : Kd.C (Kd.int .i64) w A0_3 l0_3.length l0_3) (hc0_3 : l0_3.length ≤ c0_3) (h : spec_WriteImage.f k a0_0 a0_1 a0_2 l0_3 = some (r1, r2)) :
  Calls Try.prog 34 #[.agg #[.int .i64 a0_0, .int .i64 a0_1, .int .i64 a0_2, .slice A0_3 l0_3.length c0_3]] w fun e w' => ∃ v0_ : Value, e = .returned (.tuple #[v0_, .bool r2]) ∧ Kd.R (Kd.int .i64) 3 w' w.heap.size (fun _ => True) v0_ r1 ∧ Below w.heap.size w w' := by
 have hu24 := Try.underlying24
 have HR0_3 := aM hr0_3
 have HC0_3 := aM hc0_3
 clear hr0_3 hc0_3
 have HB := aM (Below.refl w.heap.size w)
 unfold spec_WriteImage.f at h
 have H := h
 clear h
 replace H := Option.bind_eq_some_iff.mp H
 obtain ⟨t582, A20, H⟩ := H
 replace H : (if t582 = true then ((spec_filterImage.f k a0_0 a0_1 a0_2 l0_3).bind fun t583 => (if (t583.length : Int) > 1200 then (some (([] : List Int), false)) else ((spec_writeImage.f k a0_0 a0_1 a0_2 l0_3).bind fun t586 => (if (t586.length : Int) > 1200 then (some (([] : List Int), false)) else ((spec_writeImage.f k a0_0 a0_1 a0_2 l0_3).bind fun t589 => (some (t589, true))))))) else (some (([] : List Int), false))) = some (r1, r2) := H
 have A2 := aM A20
 clear A20
 by_cases c3 : t582 = true
 rotate_left
 ·replace c3 := Bool.eq_false_iff.mpr c3
  subst c3
  have H1 : (some (([] : List Int), false)) = some (r1, r2) := by rw [if_neg (show ¬ (false = true) by decide)] at H; exact H
  clear H
  have H := H1
  clear H1
  simp only [Option.some.injEq, Prod.mk.injEq] at H
  obtain ⟨rfl, rfl⟩ := H
  go_enter Try.func34, Try.ntmps34
  go_wp2_with (first | ((with_reducible refine gate_dst (N := 1) rfl ?_); (try (refine gate_guard (by rfl) ?_; dsimp only)); refine bxE (N := 1) (cs := #[.int .i64 a0_0, .int .i64 a0_1, .int .i64 a0_2, .slice A0_3 l0_3.length c0_3]) (t := 24) ?_; intro gb581 hg w35 hbox hb; have BK581 := aM (hbox); have GW581 := gW hg HB; have GE581 := gW hg HB; replace HB := bS HB hb; clear hb hbox hg; obtain ⟨⟨hcz36_0, hcz36_1, hcz36_2, hcz36_3⟩, hfz36_0, hfz36_1, hfz36_2, hfz36_3⟩ := cf4 BK581) | ((with_reducible refine gate_callee (f := 54) rfl ?_); refine gL (some 5) Try.func54 #[.agg #[.int .i64 a0_0, .int .i64 a0_1, .int .i64 a0_2, .slice A0_3 l0_3.length c0_3]] ?_; (with_reducible refine (spec_validImage.calls k a0_0 a0_1 a0_2 _ _ l0_3 false _ ?side1 ?side2 A2.out).mono ?_); (case side1 => exact qC (Kd.C_below HR0_3.out HB.out)); (case side2 => exact HC0_3.out); rintro e w37 ⟨rfl, hb⟩; refine ⟨_, rfl, ?_⟩; replace BK581 := bB BK581 hb; replace HB := bS HB hb; clear hb))
  go_ret2
  exact ⟨_, qX, qN, by exact qW HB.out⟩
 subst c3
 have H1 : ((spec_filterImage.f k a0_0 a0_1 a0_2 l0_3).bind fun t583 => (if (t583.length : Int) > 1200 then (some (([] : List Int), false)) else ((spec_writeImage.f k a0_0 a0_1 a0_2 l0_3).bind fun t586 => (if (t586.length : Int) > 1200 then (some (([] : List Int), false)) else ((spec_writeImage.f k a0_0 a0_1 a0_2 l0_3).bind fun t589 => (some (t589, true))))))) = some (r1, r2) := by rw [if_pos rfl] at H; exact H
 clear H
 have H := H1
 clear H1
 replace H := Option.bind_eq_some_iff.mp H
 obtain ⟨t583, A40, H⟩ := H
 replace H : (if (t583.length : Int) > 1200 then (some (([] : List Int), false)) else ((spec_writeImage.f k a0_0 a0_1 a0_2 l0_3).bind fun t586 => (if (t586.length : Int) > 1200 then (some (([] : List Int), false)) else ((spec_writeImage.f k a0_0 a0_1 a0_2 l0_3).bind fun t589 => (some (t589, true)))))) = some (r1, r2) := H
 have A4 := aM A40
 clear A40
 by_cases c5 : (t583.length : Int) > 1200
 ·rw [if_pos c5] at H
  have c5b0 : decide (1200 < (t583.length : Int)) = true := decide_eq_true c5
  have c5b1 : decide (1200 < t583.length) = true := decide_eq_true (by omega)
  clear c5
  simp only [Option.some.injEq, Prod.mk.injEq] at H
  obtain ⟨rfl, rfl⟩ := H
  go_enter Try.func34, Try.ntmps34
  go_wp2_with (first | ((with_reducible refine gate_dst (N := 1) rfl ?_); (try (refine gate_guard (by rfl) ?_; dsimp only)); refine bxE (N := 1) (cs := #[.int .i64 a0_0, .int .i64 a0_1, .int .i64 a0_2, .slice A0_3 l0_3.length c0_3]) (t := 24) ?_; intro gb581 hg w6 hbox hb; have BK581 := aM (hbox); have GW581 := gW hg HB; have GE581 := gW hg HB; replace HB := bS HB hb; clear hb hbox hg; obtain ⟨⟨hcz7_0, hcz7_1, hcz7_2, hcz7_3⟩, hfz7_0, hfz7_1, hfz7_2, hfz7_3⟩ := cf4 BK581) | ((with_reducible refine gate_callee (f := 54) rfl ?_); refine gL (some 5) Try.func54 #[.agg #[.int .i64 a0_0, .int .i64 a0_1, .int .i64 a0_2, .slice A0_3 l0_3.length c0_3]] ?_; (with_reducible refine (spec_validImage.calls k a0_0 a0_1 a0_2 _ _ l0_3 true _ ?side1 ?side2 A2.out).mono ?_); (case side1 => exact qC (Kd.C_below HR0_3.out HB.out)); (case side2 => exact HC0_3.out); rintro e w8 ⟨rfl, hb⟩; refine ⟨_, rfl, ?_⟩; replace BK581 := bB BK581 hb; replace HB := bS HB hb; clear hb; obtain ⟨⟨hcz9_0, hcz9_1, hcz9_2, hcz9_3⟩, hfz9_0, hfz9_1, hfz9_2, hfz9_3⟩ := cf4 BK581) | ((with_reducible refine gate_callee (f := 55) rfl ?_); refine gL (some 8) Try.func55 #[.agg #[.int .i64 a0_0, .int .i64 a0_1, .int .i64 a0_2, .slice A0_3 l0_3.length c0_3]] ?_; (with_reducible refine (spec_filterImage.calls k a0_0 a0_1 a0_2 _ _ l0_3 t583 _ ?side1 ?side2 A4.out).mono ?_); (case side1 => exact qC (Kd.C_below HR0_3.out HB.out)); (case side2 => exact HC0_3.out); rintro e w10 ⟨v584, rfl, ho0, hb⟩; refine ⟨_, rfl, ?_⟩; have HO585 := oR ho0 HB; replace BK581 := bB BK581 hb; replace HB := bS HB hb; clear hb ho0; obtain ⟨Ao11, co11, rfl⟩ := sL HO585))
  go_ret2
  exact ⟨_, qX, qN, by exact qW HB.out⟩
 rw [if_neg c5] at H
 have c5b0 : decide (1200 < (t583.length : Int)) = false := decide_eq_false c5
 have c5b1 : decide (1200 < t583.length) = false := decide_eq_false (by omega)
 clear c5
 replace H := Option.bind_eq_some_iff.mp H
 obtain ⟨t586, A120, H⟩ := H
 replace H : (if (t586.length : Int) > 1200 then (some (([] : List Int), false)) else ((spec_writeImage.f k a0_0 a0_1 a0_2 l0_3).bind fun t589 => (some (t589, true)))) = some (r1, r2) := H
 have A12 := aM A120
 clear A120
 by_cases c13 : (t586.length : Int) > 1200
 ·rw [if_pos c13] at H
  have c13b0 : decide (1200 < (t586.length : Int)) = true := decide_eq_true c13
  have c13b1 : decide (1200 < t586.length) = true := decide_eq_true (by omega)
  clear c13
  simp only [Option.some.injEq, Prod.mk.injEq] at H
  obtain ⟨rfl, rfl⟩ := H
  go_enter Try.func34, Try.ntmps34
  go_wp2_with (first | ((with_reducible refine gate_dst (N := 1) rfl ?_); (try (refine gate_guard (by rfl) ?_; dsimp only)); refine bxE (N := 1) (cs := #[.int .i64 a0_0, .int .i64 a0_1, .int .i64 a0_2, .slice A0_3 l0_3.length c0_3]) (t := 24) ?_; intro gb581 hg w14 hbox hb; have BK581 := aM (hbox); have GW581 := gW hg HB; have GE581 := gW hg HB; replace HB := bS HB hb; clear hb hbox hg; obtain ⟨⟨hcz15_0, hcz15_1, hcz15_2, hcz15_3⟩, hfz15_0, hfz15_1, hfz15_2, hfz15_3⟩ := cf4 BK581) | ((with_reducible refine gate_callee (f := 54) rfl ?_); refine gL (some 5) Try.func54 #[.agg #[.int .i64 a0_0, .int .i64 a0_1, .int .i64 a0_2, .slice A0_3 l0_3.length c0_3]] ?_; (with_reducible refine (spec_validImage.calls k a0_0 a0_1 a0_2 _ _ l0_3 true _ ?side1 ?side2 A2.out).mono ?_); (case side1 => exact qC (Kd.C_below HR0_3.out HB.out)); (case side2 => exact HC0_3.out); rintro e w16 ⟨rfl, hb⟩; refine ⟨_, rfl, ?_⟩; replace BK581 := bB BK581 hb; replace HB := bS HB hb; clear hb; obtain ⟨⟨hcz17_0, hcz17_1, hcz17_2, hcz17_3⟩, hfz17_0, hfz17_1, hfz17_2, hfz17_3⟩ := cf4 BK581) | ((with_reducible refine gate_callee (f := 55) rfl ?_); refine gL (some 8) Try.func55 #[.agg #[.int .i64 a0_0, .int .i64 a0_1, .int .i64 a0_2, .slice A0_3 l0_3.length c0_3]] ?_; (with_reducible refine (spec_filterImage.calls k a0_0 a0_1 a0_2 _ _ l0_3 t583 _ ?side1 ?side2 A4.out).mono ?_); (case side1 => exact qC (Kd.C_below HR0_3.out HB.out)); (case side2 => exact HC0_3.out); rintro e w18 ⟨v584, rfl, ho0, hb⟩; refine ⟨_, rfl, ?_⟩; have HO585 := oR ho0 HB; replace BK581 := bB BK581 hb; replace HB := bS HB hb; clear hb ho0; obtain ⟨Ao19, co19, rfl⟩ := sL HO585; obtain ⟨⟨hcz20_0, hcz20_1, hcz20_2, hcz20_3⟩, hfz20_0, hfz20_1, hfz20_2, hfz20_3⟩ := cf4 BK581) | (go_at_call 42; (with_reducible refine (spec_writeImage.calls k a0_0 a0_1 a0_2 _ _ l0_3 t586 _ ?side1 ?side2 A12.out).mono ?_); (case side1 => exact qC (Kd.C_below HR0_3.out HB.out)); (case side2 => exact HC0_3.out); rintro e w21 ⟨v587, rfl, ho0, hb⟩; have HO588 := nR ho0 HO585 HB; replace HO585 := aM (Kd.R_elder' (qR HO585.out) (Kd.R_base ho0) hb); replace BK581 := bB BK581 hb; replace HB := bS HB hb; clear hb ho0; obtain ⟨Ao22, co22, rfl⟩ := sL HO588))
  go_ret2
  exact ⟨_, qX, qN, by exact qW HB.out⟩
 rw [if_neg c13] at H
 have c13b0 : decide (1200 < (t586.length : Int)) = false := decide_eq_false c13
 have c13b1 : decide (1200 < t586.length) = false := decide_eq_false (by omega)
 clear c13
 replace H := Option.bind_eq_some_iff.mp H
 obtain ⟨t589, A230, H⟩ := H
 replace H : (some (t589, true)) = some (r1, r2) := H
 have A23 := aM A230
 clear A230
 simp only [Option.some.injEq, Prod.mk.injEq] at H
 obtain ⟨rfl, rfl⟩ := H
 go_enter Try.func34, Try.ntmps34
 go_wp2_with (first | ((with_reducible refine gate_dst (N := 1) rfl ?_); (try (refine gate_guard (by rfl) ?_; dsimp only)); refine bxE (N := 1) (cs := #[.int .i64 a0_0, .int .i64 a0_1, .int .i64 a0_2, .slice A0_3 l0_3.length c0_3]) (t := 24) ?_; intro gb581 hg w24 hbox hb; have BK581 := aM (hbox); have GW581 := gW hg HB; have GE581 := gW hg HB; replace HB := bS HB hb; clear hb hbox hg; obtain ⟨⟨hcz25_0, hcz25_1, hcz25_2, hcz25_3⟩, hfz25_0, hfz25_1, hfz25_2, hfz25_3⟩ := cf4 BK581) | ((with_reducible refine gate_callee (f := 54) rfl ?_); refine gL (some 5) Try.func54 #[.agg #[.int .i64 a0_0, .int .i64 a0_1, .int .i64 a0_2, .slice A0_3 l0_3.length c0_3]] ?_; (with_reducible refine (spec_validImage.calls k a0_0 a0_1 a0_2 _ _ l0_3 true _ ?side1 ?side2 A2.out).mono ?_); (case side1 => exact qC (Kd.C_below HR0_3.out HB.out)); (case side2 => exact HC0_3.out); rintro e w26 ⟨rfl, hb⟩; refine ⟨_, rfl, ?_⟩; replace BK581 := bB BK581 hb; replace HB := bS HB hb; clear hb; obtain ⟨⟨hcz27_0, hcz27_1, hcz27_2, hcz27_3⟩, hfz27_0, hfz27_1, hfz27_2, hfz27_3⟩ := cf4 BK581) | ((with_reducible refine gate_callee (f := 55) rfl ?_); refine gL (some 8) Try.func55 #[.agg #[.int .i64 a0_0, .int .i64 a0_1, .int .i64 a0_2, .slice A0_3 l0_3.length c0_3]] ?_; (with_reducible refine (spec_filterImage.calls k a0_0 a0_1 a0_2 _ _ l0_3 t583 _ ?side1 ?side2 A4.out).mono ?_); (case side1 => exact qC (Kd.C_below HR0_3.out HB.out)); (case side2 => exact HC0_3.out); rintro e w28 ⟨v584, rfl, ho0, hb⟩; refine ⟨_, rfl, ?_⟩; have HO585 := oR ho0 HB; replace BK581 := bB BK581 hb; replace HB := bS HB hb; clear hb ho0; obtain ⟨Ao29, co29, rfl⟩ := sL HO585; obtain ⟨⟨hcz30_0, hcz30_1, hcz30_2, hcz30_3⟩, hfz30_0, hfz30_1, hfz30_2, hfz30_3⟩ := cf4 BK581) | (go_at_call 42; (with_reducible refine (spec_writeImage.calls k a0_0 a0_1 a0_2 _ _ l0_3 t586 _ ?side1 ?side2 A12.out).mono ?_); (case side1 => exact qC (Kd.C_below HR0_3.out HB.out)); (case side2 => exact HC0_3.out); rintro e w31 ⟨v587, rfl, ho0, hb⟩; have HO588 := nR ho0 HO585 HB; replace HO585 := aM (Kd.R_elder' (qR HO585.out) (Kd.R_base ho0) hb); replace BK581 := bB BK581 hb; replace HB := bS HB hb; clear hb ho0; obtain ⟨Ao32, co32, rfl⟩ := sL HO588; obtain ⟨⟨hcz33_0, hcz33_1, hcz33_2, hcz33_3⟩, hfz33_0, hfz33_1, hfz33_2, hfz33_3⟩ := cf4 BK581) | ((with_reducible refine gate_callee (f := 42) rfl ?_); refine gL (some 18) Try.func42 #[.agg #[.int .i64 a0_0, .int .i64 a0_1, .int .i64 a0_2, .slice A0_3 l0_3.length c0_3]] ?_; (with_reducible refine (spec_writeImage.calls k a0_0 a0_1 a0_2 _ _ l0_3 t589 _ ?side1 ?side2 A23.out).mono ?_); (case side1 => exact qC (Kd.C_below HR0_3.out HB.out)); (case side2 => exact HC0_3.out); rintro e w34 ⟨v590, rfl, ho0, hb⟩; refine ⟨_, rfl, ?_⟩; have HO591 := aM (Kd.R_lower (Kd.R_new' (Kd.R_new' ho0 (Kd.R_lt (qR HO585.out))) (Kd.R_lt (qR HO588.out))) (below_size (qW HB.out))); replace HO585 := aM (Kd.R_elder' (qR HO585.out) (Kd.R_base ho0) hb); replace HO588 := aM (Kd.R_elder' (qR HO588.out) (Kd.R_base ho0) hb); replace BK581 := bB BK581 hb; replace HB := bS HB hb; clear hb ho0))
 go_ret2
 exact ⟨_, qX, by refine qR ?_; exact Kd.R_mono HO591.out (fun _ hk => trivial), by exact qW HB.out⟩
def impl_WriteImage.f (k : Nat) (a0_0 : Int) (a0_1 : Int) (a0_2 : Int) (l0_3 : List Int) : Option (List Int × Bool) := (impl_isImage.f a0_0 a0_1 a0_2 l0_3).bind fun t726 => (if t726 = true then ((impl_writeImage.f k a0_0 a0_1 a0_2 l0_3).bind fun bt727 => (some (bt727.1, bt727.2))) else (some (([] : List Int), false)))
theorem impl_WriteImage.mono : ∀ a0 a1 a2 a3 k, LeO (impl_WriteImage.f k a0 a1 a2 a3) (impl_WriteImage.f (k + 1) a0 a1 a2 a3) := by
 intro a0 a1 a2 a3 k
 unfold impl_WriteImage.f
 repeat' first | (with_reducible first | exact impl_writeImage.mono _ _ _ _ _ | exact lR | exact lN | refine lI ?_ ?_ | refine lB ?_ fun _ => ?_) | exact impl_writeImage.mono _ _ _ _ _ | exact lN | refine lI ?_ ?_ | refine lB ?_ fun _ => ?_
set_option maxHeartbeats 8000000 in
set_option maxRecDepth 100000 in
theorem impl_WriteImage.calls (k : Nat) (a0_0 : Int) (a0_1 : Int) (a0_2 : Int) (A0_3 : Option Addr) (c0_3 : Nat) (l0_3 : List Int) (r1 : List Int) (r2 : Bool) (w : World) (hr0_3 : Kd.C (Kd.int .i64) w A0_3 l0_3.length l0_3) (hc0_3 : l0_3.length ≤ c0_3) (h : impl_WriteImage.f k a0_0 a0_1 a0_2 l0_3 = some (r1, r2)) :
  Calls Try.prog 22 #[.agg #[.int .i64 a0_0, .int .i64 a0_1, .int .i64 a0_2, .slice A0_3 l0_3.length c0_3]] w fun e w' => ∃ v0_ : Value, e = .returned (.tuple #[v0_, .bool r2]) ∧ Kd.R (Kd.int .i64) 3 w' w.heap.size (fun _ => True) v0_ r1 ∧ Below w.heap.size w w' := by
 have hu24 := Try.underlying24
 have HR0_3 := aM hr0_3
 have HC0_3 := aM hc0_3
 clear hr0_3 hc0_3
 have HB := aM (Below.refl w.heap.size w)
 unfold impl_WriteImage.f at h
 have H := h
 clear h
 replace H := Option.bind_eq_some_iff.mp H
 obtain ⟨t726, A20, H⟩ := H
 replace H : (if t726 = true then ((impl_writeImage.f k a0_0 a0_1 a0_2 l0_3).bind fun bt727 => (some (bt727.1, bt727.2))) else (some (([] : List Int), false))) = some (r1, r2) := H
 have A2 := aM A20
 clear A20
 by_cases c3 : t726 = true
 rotate_left
 ·replace c3 := Bool.eq_false_iff.mpr c3
  subst c3
  have H1 : (some (([] : List Int), false)) = some (r1, r2) := by rw [if_neg (show ¬ (false = true) by decide)] at H; exact H
  clear H
  have H := H1
  clear H1
  simp only [Option.some.injEq, Prod.mk.injEq] at H
  obtain ⟨rfl, rfl⟩ := H
  go_enter Try.func22, Try.ntmps22
  go_wp2_with (first | ((with_reducible refine gate_dst (N := 1) rfl ?_); refine bxE (N := 1) (cs := #[.int .i64 a0_0, .int .i64 a0_1, .int .i64 a0_2, .slice A0_3 l0_3.length c0_3]) (t := 24) ?_; intro gb725 hg w10 hbox hb; have BK725 := aM (hbox); have GW725 := gW hg HB; have GE725 := gW hg HB; replace HB := bS HB hb; clear hb hbox hg; obtain ⟨⟨hcz11_0, hcz11_1, hcz11_2, hcz11_3⟩, hfz11_0, hfz11_1, hfz11_2, hfz11_3⟩ := cf4 BK725) | ((with_reducible refine gate_callee (f := 52) rfl ?_); refine gL (some 5) Try.func52 #[.agg #[.int .i64 a0_0, .int .i64 a0_1, .int .i64 a0_2, .slice A0_3 l0_3.length c0_3]] ?_; (with_reducible refine (impl_isImage.calls a0_0 a0_1 a0_2 _ _ l0_3 false _ ?side1 ?side2 A2.out).mono ?_); (case side1 => exact qC (Kd.C_below HR0_3.out HB.out)); (case side2 => exact HC0_3.out); rintro e w12 ⟨rfl, hb⟩; refine ⟨_, rfl, ?_⟩; replace BK725 := bB BK725 hb; replace HB := bS HB hb; clear hb))
  go_ret2
  exact ⟨_, qX, qN, by exact qW HB.out⟩
 subst c3
 have H1 : ((impl_writeImage.f k a0_0 a0_1 a0_2 l0_3).bind fun bt727 => (some (bt727.1, bt727.2))) = some (r1, r2) := by rw [if_pos rfl] at H; exact H
 clear H
 have H := H1
 clear H1
 replace H := Option.bind_eq_some_iff.mp H
 obtain ⟨⟨t727, t730⟩, A40, H⟩ := H
 replace H : (some (t727, t730)) = some (r1, r2) := H
 have A4 := aM A40
 clear A40
 simp only [Option.some.injEq, Prod.mk.injEq] at H
 obtain ⟨rfl, rfl⟩ := H
 go_enter Try.func22, Try.ntmps22
 go_wp2_with (first | ((with_reducible refine gate_dst (N := 1) rfl ?_); refine bxE (N := 1) (cs := #[.int .i64 a0_0, .int .i64 a0_1, .int .i64 a0_2, .slice A0_3 l0_3.length c0_3]) (t := 24) ?_; intro gb725 hg w5 hbox hb; have BK725 := aM (hbox); have GW725 := gW hg HB; have GE725 := gW hg HB; replace HB := bS HB hb; clear hb hbox hg; obtain ⟨⟨hcz6_0, hcz6_1, hcz6_2, hcz6_3⟩, hfz6_0, hfz6_1, hfz6_2, hfz6_3⟩ := cf4 BK725) | ((with_reducible refine gate_callee (f := 52) rfl ?_); refine gL (some 5) Try.func52 #[.agg #[.int .i64 a0_0, .int .i64 a0_1, .int .i64 a0_2, .slice A0_3 l0_3.length c0_3]] ?_; (with_reducible refine (impl_isImage.calls a0_0 a0_1 a0_2 _ _ l0_3 true _ ?side1 ?side2 A2.out).mono ?_); (case side1 => exact qC (Kd.C_below HR0_3.out HB.out)); (case side2 => exact HC0_3.out); rintro e w7 ⟨rfl, hb⟩; refine ⟨_, rfl, ?_⟩; replace BK725 := bB BK725 hb; replace HB := bS HB hb; clear hb; obtain ⟨⟨hcz8_0, hcz8_1, hcz8_2, hcz8_3⟩, hfz8_0, hfz8_1, hfz8_2, hfz8_3⟩ := cf4 BK725) | ((with_reducible refine gate_callee (f := 46) rfl ?_); refine gL (some 8) Try.func46 #[.agg #[.int .i64 a0_0, .int .i64 a0_1, .int .i64 a0_2, .slice A0_3 l0_3.length c0_3]] ?_; (with_reducible refine (impl_writeImage.calls k a0_0 a0_1 a0_2 _ _ l0_3 t727 t730 _ ?side1 ?side2 A4.out).mono ?_); (case side1 => exact qC (Kd.C_below HR0_3.out HB.out)); (case side2 => exact HC0_3.out); rintro e w9 ⟨v728, rfl, ho0, hb⟩; refine ⟨_, rfl, ?_⟩; have HO729 := oR ho0 HB; replace BK725 := bB BK725 hb; replace HB := bS HB hb; clear hb ho0))
 go_ret2
 exact ⟨_, qX, by refine qR ?_; exact HO729.out, by exact qW HB.out⟩
def spec_validBytes.f (k : Nat) (l0 : List Int) : Option (Bool) := if (l0.length : Int) ≤ 1200 then ((spec_allIn.f k l0 0 255).bind fun t103 => (some t103)) else (some false)
theorem spec_validBytes.mono : ∀ a0 k, LeO (spec_validBytes.f k a0) (spec_validBytes.f (k + 1) a0) := by
 intro a0 k
 unfold spec_validBytes.f
 repeat' first | (with_reducible first | exact spec_allIn.mono _ _ _ _ | exact lR | exact lN | refine lI ?_ ?_ | refine lB ?_ fun _ => ?_) | exact spec_allIn.mono _ _ _ _ | exact lN | refine lI ?_ ?_ | refine lB ?_ fun _ => ?_
set_option maxHeartbeats 8000000 in
set_option maxRecDepth 100000 in
theorem spec_validBytes.calls (k : Nat) (A0 : Option Addr) (c0 : Nat) (l0 : List Int) (r : Bool) (w : World) (hr0 : Kd.C (Kd.int .i64) w A0 l0.length l0) (hc0 : l0.length ≤ c0) (h : spec_validBytes.f k l0 = some r) :
  Calls Try.prog 36 #[.slice A0 l0.length c0] w fun e w' => e = .returned (.bool r) ∧ Drawn0 w w' := by
 have HR0 := aM hr0
 have HC0 := aM hc0
 clear hr0 hc0
 unfold spec_validBytes.f at h
 have H := h
 clear h
 by_cases c2 : (l0.length : Int) ≤ 1200
 rotate_left
 ·rw [if_neg c2] at H
  have c2b0 : decide ((l0.length : Int) ≤ 1200) = false := decide_eq_false c2
  have c2b1 : decide (l0.length ≤ 1200) = false := decide_eq_false (by omega)
  clear c2
  obtain rfl := Option.some.inj H
  go_enter Try.func36, Try.ntmps36
  go_wp2
  go_ret
  exact ⟨qE, qD⟩
 rw [if_pos c2] at H
 have c2b0 : decide ((l0.length : Int) ≤ 1200) = true := decide_eq_true c2
 have c2b1 : decide (l0.length ≤ 1200) = true := decide_eq_true (by omega)
 clear c2
 replace H := Option.bind_eq_some_iff.mp H
 obtain ⟨t103, A30, H⟩ := H
 replace H : (some t103) = some r := H
 have A3 := aM A30
 clear A30
 obtain rfl := Option.some.inj H
 go_enter Try.func36, Try.ntmps36
 go_wp2_with (first | (go_at_call 57; (with_reducible refine (spec_allIn.calls k _ _ l0 0 255 t103 _ ?side1 ?side2 A3.out).mono ?_); (case side1 => exact qC HR0.out); (case side2 => exact HC0.out); rintro e w' ⟨rfl, ⟨nd, rfl⟩⟩))
 go_ret
 exact ⟨qE, qD⟩
def spec_unpackTokens.l0 : Nat → List Int → List (S54) → Int → Option ((List (S54)))
 | 0, _, _, _ => none
 | k + 1, x0, x3, x4 => if (wrap64 (x4 + 1)) < (x0.length : Int) then (if 0 ≤ x4 then (if x4 < (x0.length : Int) then (if (rd x0 x4) = 0 then (if 0 ≤ (wrap64 (x4 + 1)) then (if x3.length < 5864062014805 then (spec_unpackTokens.l0 k x0 (x3 ++ [(⟨rd x0 (wrap64 (x4 + 1)), 0, 0⟩ : S54)]) (wrap64 (x4 + 2))) else (none)) else (none)) else (if 0 ≤ (wrap64 (x4 + 1)) then (if x3.length < 5864062014805 then (spec_unpackTokens.l0 k x0 (x3 ++ [(⟨0, rd x0 x4, rd x0 (wrap64 (x4 + 1))⟩ : S54)]) (wrap64 (x4 + 2))) else (none)) else (none))) else (none)) else (none)) else (some x3)
def spec_unpackTokens.f (k : Nat) (l0 : List Int) : Option ((List (S54))) := spec_unpackTokens.l0 k l0 (([] : List (S54))) 0
theorem spec_unpackTokens.mono_l : ∀ k, (∀ y0 y1 y2, LeO (spec_unpackTokens.l0 k y0 y1 y2) (spec_unpackTokens.l0 (k + 1) y0 y1 y2))
 | 0 => fun _ _ _ r h => by simp [spec_unpackTokens.l0] at h
 | k + 1 => by
  have ih0 := spec_unpackTokens.mono_l k
  ·intro y0 y1 y2
   unfold spec_unpackTokens.l0
   repeat' first | (with_reducible first | exact ih0 _ _ _ | exact lR | exact lN | refine lI ?_ ?_ | refine lB ?_ fun _ => ?_) | exact ih0 _ _ _ | exact lN | refine lI ?_ ?_ | refine lB ?_ fun _ => ?_
theorem spec_unpackTokens.mono : ∀ a0 k, LeO (spec_unpackTokens.f k a0) (spec_unpackTokens.f (k + 1) a0) := by
 intro a0 k
 have ih0 := spec_unpackTokens.mono_l k
 unfold spec_unpackTokens.f
 repeat' first | (with_reducible first | exact ih0 _ _ _ | exact lR | exact lN | refine lI ?_ ?_ | refine lB ?_ fun _ => ?_) | exact ih0 _ _ _ | exact lN | refine lI ?_ ?_ | refine lB ?_ fun _ => ?_
def spec_unpackTokens.T7 : Bool × List (List Nat × List Nat) := (true, [([], []), ([], []), ([], []), ([1, 2], [1, 2]), ([3], [3]), ([], []), ([], []), ([6], [6]), ([5, 7], [5, 7]), ([8], [8]), ([4, 9], [4, 9]), ([10], [10]), ([0, 11], [0, 11]), ([12, 12, 0, 1, 2, 3, 4, 5, 6, 7, 8, 9, 10, 11, 12], [0, 12])])
def spec_unpackTokens.B7 : List Nat := [0, 0, 0, 6, 14, 0, 0, 64, 224, 480, 1022, 2046, 4095, 8191]
theorem spec_unpackTokens.tab7 : rtab .any (opsOf Try.f39 7) = spec_unpackTokens.T7 := by kernel_rfl
theorem spec_unpackTokens.bits7 : waitsOk spec_unpackTokens.T7.2 spec_unpackTokens.B7 = true := by kernel_rfl
set_option maxHeartbeats 8000000 in
set_option maxRecDepth 100000 in
theorem spec_unpackTokens.calls (k : Nat) (A0 : Option Addr) (c0 : Nat) (l0 : List Int) (r : List (S54)) (w : World) (hr0 : Kd.C (Kd.int .i64) w A0 l0.length l0) (hc0 : l0.length ≤ c0) (h : spec_unpackTokens.f k l0 = some r) :
  Calls Try.prog 39 #[.slice A0 l0.length c0] w fun e w' => ∃ v0_ : Value, e = .returned (v0_) ∧ Kd.R k54 54 w' w.heap.size (fun _ => True) v0_ r ∧ Below w.heap.size w w' := by
 have hu54 := Try.underlying54
 have HR0 := aM hr0
 have HC0 := aM hc0
 clear hr0 hc0
 have HB := aM (Below.refl w.heap.size w)
 unfold spec_unpackTokens.f at h
 have H := h
 clear h
 obtain ⟨y127, hy127⟩ : ∃ y_ : List (S54), y_ = (([] : List (S54))) := ⟨_, rfl⟩
 replace H : (spec_unpackTokens.l0 k l0 y127 0) = some r := rY hy127 H
 have Ny127 := aM hy127
 clear hy127
 have H' := aM H
 clear H
 go_enter Try.func39, Try.ntmps39
 go_wp2_with (first | ((with_reducible refine gate_dst (N := 5) rfl ?_); refine Kd.R_lit k54 _ 54 ?hg (N := 5) ?hd (xs := ([] : List (S54))) (inner := []) (ok := fun _ => True) (okp := fun _ => True) ?hr ?hp (fun _ hk => hk) trivial (Below.refl _ _) (Nat.le_refl _) (by simp) ?_; (case hd => rfl); (case hg => rfl); (case hr => first | (go_simp; done) | (go_simp; rfl)); (case hp => exact (Reps.none _ _)); intro v128 w2 ho3 hb hg_ hnew_; clear hg_ hnew_; (first | rw [← Ny127.out] at ho3 | (simp only [Int.reduceToNat] at ho3; rw [← Ny127.out] at ho3)); have HO129 := oR ho3 HB; replace HB := bS HB hb; clear hb ho3))
 go_loopg [3, 4] k (fun kq v3 v4 w' => ∃ (x3_1 : List (S54)) (x4_1 : Int), v4 = .int .i64 x4_1 ∧ Aside0 (spec_unpackTokens.l0 kq l0 x3_1 x4_1 = some r) ∧ Aside0 (kq ≤ k) ∧ Aside0 (Kd.R k54 54 w' w.heap.size (fun _ => True) v3 x3_1) ∧ Aside0 (Below w.heap.size w w'))
 case atStart => exact ⟨(y127), (0), qE, H', ⟨Nat.le_refl _⟩, ⟨by refine qR ?_; exact HO129.out⟩, ⟨by exact qW HB.out⟩⟩
 case round =>
  clear H'
  obtain ⟨x3_1, x4_1, rfl, HA, HK1, HO_3, HB⟩ := hrel
  cases gk with
  | zero => exact absurd HA.out (by simp [spec_unpackTokens.l0])
  | succ k1 =>
   have H := HA.out
   clear HA
   simp only [spec_unpackTokens.l0] at H
   by_cases c4 : (wrap64 (x4_1 + 1)) < (l0.length : Int)
   rotate_left
   ·rw [if_neg c4] at H
    have c4b0 : decide ((wrap64 (x4_1 + 1)) < (l0.length : Int)) = false := decide_eq_false c4
    clear c4
    obtain rfl := Option.some.inj H
    go_wp2
    go_ret
    exact ⟨_, qX, by refine qR ?_; exact HO_3.out, by exact qW HB.out⟩
   rw [if_pos c4] at H
   have c4b0 : decide ((wrap64 (x4_1 + 1)) < (l0.length : Int)) = true := decide_eq_true c4
   clear c4
   replace H := iD H
   obtain ⟨c5b0, H⟩ := H
   replace H := iD H
   obtain ⟨c6b0, H⟩ := H
   by_cases c7 : (rd l0 x4_1) = 0
   ·rw [if_pos c7] at H
    have c7b0 : ((rd l0 x4_1) == 0) = true := beq_iff_eq.mpr c7
    have c7b1 : ((rd l0 x4_1) != 0) = false := bne_eq_false_iff_eq.mpr c7
    clear c7
    obtain ⟨ji8, hji8⟩ : ∃ j_ : Int, (wrap64 (x4_1 + 1)) = j_ := ⟨_, rfl⟩
    replace H : (if 0 ≤ (ji8) then (if x3_1.length < 5864062014805 then (spec_unpackTokens.l0 k1 l0 (x3_1 ++ [(⟨rd l0 (ji8), 0, 0⟩ : S54)]) (wrap64 (x4_1 + 2))) else (none)) else (none)) = some r := by first | (rw [hji8] at H; exact H) | (simp only [hji8] at H ⊢; exact H)
    (try rw [hji8] at c4b0)
    have hji8w : (IntKind.i64.wrap (x4_1 + 1)) = ji8 := (i64_w _).trans hji8
    replace H := iD H
    obtain ⟨c9b0, H⟩ := H
    replace H := iS H
    obtain ⟨c10, H⟩ := H
    have LMc10 := aM c10
    clear c10
    obtain ⟨y132, hy132⟩ : ∃ y_ : List (S54), y_ = (x3_1 ++ [(⟨rd l0 (ji8), 0, 0⟩ : S54)]) := ⟨_, rfl⟩
    replace H : (spec_unpackTokens.l0 k1 l0 y132 (wrap64 (x4_1 + 2))) = some r := rY hy132 H
    have Ny132 := aM hy132
    clear hy132
    have H' := aM H
    clear H
    obtain ⟨ad130, e130, hx130_0⟩ := Kd.at_int HR0.out x4_1 oD oD
    cases e130
    replace hx130_0 := bD HB hx130_0
    have p130 := eq_true (oD : 0 ≤ (x4_1 : Int))
    have q130 := eq_true (oD : x4_1 < (l0.length : Int))
    obtain ⟨ad131, e131, hx131_0⟩ := Kd.at_int HR0.out (ji8) oD oD
    obtain rfl : ad130 = ad131 := (by injection e131)
    replace hx131_0 := bD HB hx131_0
    have p131 := eq_true (oD : 0 ≤ ((ji8) : Int))
    have q131 := eq_true (oD : (ji8) < (l0.length : Int))
    go_wp2_with (first | ((with_reducible refine gate_builtin (b := .append) (xs := #[.tmp 18, .tmp 25]) rfl ?_); at_builtin; refine Kd.R_append k54 (w0 := w) w.heap.size rfl (.tmp 18) (.tmp 25) 51 54 (.agg #[(.int .i64 0), (.int .i64 0), (.int .i64 0)]) 24 rfl Try.underlying51 info54 rfl (by decide) (by omega) u3 x3_1 (⟨rd l0 (ji8), 0, 0⟩ : S54) [.int .i64 (rd l0 (ji8)), .int .i64 0, .int .i64 0] (fun _ => True) (fun _ => False) rfl rfl ?aP (fun _ hk => hk.elim) ?aF ?aO ?aB ?aS ?aL ?_; (case aP => exact k54_mkM _ _ _ (⟨rd l0 (ji8), 0, 0⟩ : S54)); (case aB => exact (qW HB.out)); (case aF => exact (fun _ _ => trivial)); (case aO => exact (qR HO_3.out)); (case aS => exact (below_size (qW HB.out))); (case aL => have := LMc10.out; omega); intro v133 w11 ho hb hg hat; rw [← Ny132.out] at ho; replace HB := aM (hb); have HO134 := aM (ho); clear HO_3; clear ho hb hg hat))
    go_roundg k1
    case measure => have := HK1.out; omega
    case rel => exact ⟨(y132), (wrap64 (x4_1 + 2)), qE, H', ⟨by have := HK1.out; omega⟩, ⟨by refine qR ?_; exact HO134.out⟩, ⟨by exact qW HB.out⟩⟩
   rw [if_neg c7] at H
   have c7b0 : ((rd l0 x4_1) == 0) = false := beq_eq_false_iff_ne.mpr c7
   have c7b1 : ((rd l0 x4_1) != 0) = true := bne_iff_ne.mpr c7
   obtain ⟨ji12, hji12⟩ : ∃ j_ : Int, (wrap64 (x4_1 + 1)) = j_ := ⟨_, rfl⟩
   replace H : (if 0 ≤ (ji12) then (if x3_1.length < 5864062014805 then (spec_unpackTokens.l0 k1 l0 (x3_1 ++ [(⟨0, rd l0 x4_1, rd l0 (ji12)⟩ : S54)]) (wrap64 (x4_1 + 2))) else (none)) else (none)) = some r := by first | (rw [hji12] at H; exact H) | (simp only [hji12] at H ⊢; exact H)
   (try rw [hji12] at c4b0)
   have hji12w : (IntKind.i64.wrap (x4_1 + 1)) = ji12 := (i64_w _).trans hji12
   replace H := iD H
   obtain ⟨c13b0, H⟩ := H
   replace H := iS H
   obtain ⟨c14, H⟩ := H
   have LMc14 := aM c14
   clear c14
   obtain ⟨y137, hy137⟩ : ∃ y_ : List (S54), y_ = (x3_1 ++ [(⟨0, rd l0 x4_1, rd l0 (ji12)⟩ : S54)]) := ⟨_, rfl⟩
   replace H : (spec_unpackTokens.l0 k1 l0 y137 (wrap64 (x4_1 + 2))) = some r := rY hy137 H
   have Ny137 := aM hy137
   clear hy137
   have H' := aM H
   clear H
   obtain ⟨ad130, e130, hx130_0⟩ := Kd.at_int HR0.out x4_1 oD oD
   cases e130
   replace hx130_0 := bD HB hx130_0
   have p130 := eq_true (oD : 0 ≤ (x4_1 : Int))
   have q130 := eq_true (oD : x4_1 < (l0.length : Int))
   try go_wp2
   replace HO_3 := aM (Kd.R_drew HO_3.out)
   replace HB := aM (below_drew1 HB.out)
   obtain ⟨ad135, e135, hx135_0⟩ := Kd.at_int HR0.out x4_1 oD oD
   have hw135_0 := hx135_0
   obtain rfl : ad130 = ad135 := (by injection e135)
   replace hx135_0 := bD HB hx135_0
   have p135 := eq_true (oD : 0 ≤ (x4_1 : Int))
   have q135 := eq_true (oD : x4_1 < (l0.length : Int))
   obtain ⟨ad136, e136, hx136_0⟩ := Kd.at_int HR0.out (ji12) oD oD
   have hw136_0 := hx136_0
   obtain rfl : ad130 = ad136 := (by injection e136)
   replace hx136_0 := bD HB hx136_0
   have p136 := eq_true (oD : 0 ≤ ((ji12) : Int))
   have q136 := eq_true (oD : (ji12) < (l0.length : Int))
   refine start_ (n := 14) (S := fun w' => w'.cell? (ad130.add (x4_1).toNat) = some (.int .i64 (rd l0 x4_1)) ∧ w'.cell? (ad130.add ((ji12)).toNat) = some (.int .i64 (rd l0 (ji12)))) (ds := []) (bA 14 0) (by kernel_rfl) rfl rfl ⟨(bC HB hw135_0), (bC HB hw136_0)⟩ (fun hHeld => ?_); refine with_tabW spec_unpackTokens.tab7 spec_unpackTokens.bits7 (fun HT_ HW_ => ?_)
   generalize wr.drew = w15 at HO_3 HB hx135_0 hx136_0 hHeld ⊢
   refine pQ 0 27 HT_ (bA 14 1) ?_
   refine pQ 1 28 HT_ (bA 14 3) ?_
   refine pQ 2 29 HT_ (bA 14 7) ?_
   refine pQ 3 30 HT_ (bA 14 15) ?_
   refine pQ 5 32 HT_ (bA 14 47) ?_
   refine pQ 6 33 HT_ (bA 14 111) ?_
   refine pQ 7 34 HT_ (bA 14 239) ?_
   refine pQ 8 35 HT_ (bA 14 495) ?_
   refine take_ (i := 4) (N := some 31) (v := ?_) (a' := ?_) (bA 14 511) rfl rfl (take_ofW HT_.out HW_.out (by kernel_rfl)) (fun _ _ _ h => h) (Or.inl ⟨by rfl, ?_⟩) hHeld ?_ ?_
   rotate_left
   ·rintro w' ⟨s0, s1⟩
    go_simp
    with_reducible rfl
   rotate_left
   ·refine pZ ?_
    rfl
   refine take_ (i := 9) (N := some 36) (v := ?_) (a' := ?_) (bA 14 1023) rfl rfl (take_ofW HT_.out HW_.out (by kernel_rfl)) (fun _ _ _ h => h) (Or.inl ⟨by rfl, ?_⟩) hHeld ?_ ?_
   rotate_left
   ·rintro w' ⟨s0, s1⟩
    go_simp
    with_reducible rfl
   rotate_left
   ·refine pZ ?_
    rfl
   refine pQ 10 37 HT_ (bA 14 2047) ?_
   refine one_ (i := 11) (N := some 38) (bA 14 4095) rfl rfl (one_of HT_.out (by kernel_rfl)) (by decide) (fun K hK => ?_)
   refine value_ (w1 := ?_) (v := ?_) (by rfl) rfl ?_ ?_
   rotate_left 2
   ·go_simp
    constructor
    rotate_left
    ·rfl
    rfl
   refine hK.out _ _ ⟨(World.cell?_alloc_lt _ _ _ (World.block_lt_of_cell? _ _ ((bC HB hw135_0)))).trans ((bC HB hw135_0)), (World.cell?_alloc_lt _ _ _ (World.block_lt_of_cell? _ _ ((bC HB hw136_0)))).trans ((bC HB hw136_0))⟩ (fun hHeld => ?_)
   clear hK K
   refine norm_ (a' := ?_) ?_ ?_
   rotate_left
   ·show Act.put _ (some 38) _ = _
    refine pZ ?_
    rfl
   refine one_ (i := 12) (N := some 39) (bA 14 8191) rfl rfl (one_of HT_.out (by kernel_rfl)) (by decide) (fun K hK => ?_)
   refine Kd.R_append_step k54 (w0 := w) w.heap.size (by rfl) (.tmp 27) (.tmp 38) 51 54 (.agg #[(.int .i64 0), (.int .i64 0), (.int .i64 0)]) 24 rfl Try.underlying51 info54 rfl (by decide) (by omega) u3 x3_1 (⟨0, rd l0 x4_1, rd l0 (ji12)⟩ : S54) [.int .i64 0, .int .i64 (rd l0 x4_1), .int .i64 (rd l0 (ji12))] (fun _ => True) (fun _ => False) rfl rfl ?aP (fun _ hk => hk.elim) ?aF ?aO ?aB ?aS ?aL ?_
   (case aP => exact k54_mkM _ _ _ (⟨0, rd l0 x4_1, rd l0 (ji12)⟩ : S54))
   (case aB => exact (qW HB.out))
   (case aF => exact (fun _ _ => trivial))
   (case aO => exact (qR HO_3.out))
   (case aS => exact (below_size (qW HB.out)))
   (case aL => have := LMc14.out; omega)
   intro v138 w16 ho hb hg hat
   rw [← Ny137.out] at ho
   replace HB := aM (hb)
   have HO139 := aM (ho)
   clear HO_3
   clear ho hb hg hat
   refine hK.out _ _ ⟨(bC HB hw135_0), (bC HB hw136_0)⟩ (fun hHeld => ?_)
   clear hK K
   refine norm_ (a' := ?_) ?_ ?_
   rotate_left
   ·show Act.put _ (some 39) _ = _
    refine pZ ?_
    rfl
   refine pQ 13 3 HT_ (bA 14 16383) ?_
   refine done_ (done_of HT_.out (by kernel_rfl)) ?_
   try go_wp2
   go_roundg k1
   case measure => have := HK1.out; omega
   case rel => exact ⟨(y137), (wrap64 (x4_1 + 2)), qE, H', ⟨by have := HK1.out; omega⟩, ⟨by refine qR ?_; exact HO139.out⟩, ⟨by exact qW HB.out⟩⟩
def spec_equalInts.l0 : Nat → List Int → List Int → Int → Option (Bool)
 | 0, _, _, _ => none
 | k + 1, x0, x1, x5 => if x5 < (x0.length : Int) then (if 0 ≤ x5 then (if x5 < (x1.length : Int) then (if (rd x0 x5) = (rd x1 x5) then (spec_equalInts.l0 k x0 x1 (wrap64 (x5 + 1))) else (some false)) else (none)) else (none)) else (some true)
def spec_equalInts.f (k : Nat) (l0 : List Int) (l1 : List Int) : Option (Bool) := if (l0.length : Int) = (l1.length : Int) then (spec_equalInts.l0 k l0 l1 0) else (some false)
theorem spec_equalInts.mono_l : ∀ k, (∀ y0 y1 y2, LeO (spec_equalInts.l0 k y0 y1 y2) (spec_equalInts.l0 (k + 1) y0 y1 y2))
 | 0 => fun _ _ _ r h => by simp [spec_equalInts.l0] at h
 | k + 1 => by
  have ih0 := spec_equalInts.mono_l k
  ·intro y0 y1 y2
   unfold spec_equalInts.l0
   repeat' first | (with_reducible first | exact ih0 _ _ _ | exact lR | exact lN | refine lI ?_ ?_ | refine lB ?_ fun _ => ?_) | exact ih0 _ _ _ | exact lN | refine lI ?_ ?_ | refine lB ?_ fun _ => ?_
theorem spec_equalInts.mono : ∀ a0 a1 k, LeO (spec_equalInts.f k a0 a1) (spec_equalInts.f (k + 1) a0 a1) := by
 intro a0 a1 k
 have ih0 := spec_equalInts.mono_l k
 unfold spec_equalInts.f
 repeat' first | (with_reducible first | exact ih0 _ _ _ | exact lR | exact lN | refine lI ?_ ?_ | refine lB ?_ fun _ => ?_) | exact ih0 _ _ _ | exact lN | refine lI ?_ ?_ | refine lB ?_ fun _ => ?_
set_option maxHeartbeats 8000000 in
set_option maxRecDepth 100000 in
theorem spec_equalInts.calls (k : Nat) (A0 : Option Addr) (c0 : Nat) (l0 : List Int) (A1 : Option Addr) (c1 : Nat) (l1 : List Int) (r : Bool) (w : World) (hr0 : Kd.C (Kd.int .i64) w A0 l0.length l0) (hc0 : l0.length ≤ c0) (hr1 : Kd.C (Kd.int .i64) w A1 l1.length l1) (hc1 : l1.length ≤ c1) (h : spec_equalInts.f k l0 l1 = some r) :
  Calls Try.prog 41 #[.slice A0 l0.length c0, .slice A1 l1.length c1] w fun e w' => e = .returned (.bool r) ∧ Drawn0 w w' := by
 have HR0 := aM hr0
 have HC0 := aM hc0
 clear hr0 hc0
 have HR1 := aM hr1
 have HC1 := aM hc1
 clear hr1 hc1
 unfold spec_equalInts.f at h
 have H := h
 clear h
 by_cases c3 : (l0.length : Int) = (l1.length : Int)
 rotate_left
 ·rw [if_neg c3] at H
  have c3b0 : ((l0.length : Int) == (l1.length : Int)) = false := beq_eq_false_iff_ne.mpr c3
  have c3b1 : ((l0.length : Int) != (l1.length : Int)) = true := bne_iff_ne.mpr c3
  have c3b2 : (l0.length == l1.length) = false := by first | simpa using c3 | (simp at c3 ⊢; omega)
  obtain rfl := Option.some.inj H
  go_enter Try.func41, Try.ntmps41
  go_wp2
  repeat (go_quiet (fail); try go_wp2)
  go_ret
  exact ⟨qE, qD⟩
 rw [if_pos c3] at H
 have c3b0 : ((l0.length : Int) == (l1.length : Int)) = true := beq_iff_eq.mpr c3
 have c3b1 : ((l0.length : Int) != (l1.length : Int)) = false := bne_eq_false_iff_eq.mpr c3
 have c3b2 : (l0.length == l1.length) = true := by first | simpa using c3 | (simp at c3 ⊢; omega)
 clear c3
 have H' := aM H
 clear H
 go_enter Try.func41, Try.ntmps41
 go_wp2
 repeat (go_quiet (fail); try go_wp2)
 go_loopg [5] k (fun kq v5 w' => ∃ (x5_1 : Int), v5 = .int .i64 x5_1 ∧ Aside0 (spec_equalInts.l0 kq l0 l1 x5_1 = some r) ∧ Aside0 (kq ≤ k) ∧ Drawn0 w w')
 case atStart => exact ⟨(0), qE, H', ⟨Nat.le_refl _⟩, qD⟩
 case round =>
  clear H'
  try clear c1
  try clear c3
  try clear c3b0
  try clear c3b1
  try clear c3b2
  obtain ⟨x5_1, rfl, HA, HK1, ⟨m1, rfl⟩⟩ := hrel
  cases gk with
  | zero => exact absurd HA.out (by simp [spec_equalInts.l0])
  | succ k1 =>
   have H := HA.out
   clear HA
   simp only [spec_equalInts.l0] at H
   by_cases c4 : x5_1 < (l0.length : Int)
   rotate_left
   ·rw [if_neg c4] at H
    have c4b0 : decide (x5_1 < (l0.length : Int)) = false := decide_eq_false c4
    clear c4
    obtain rfl := Option.some.inj H
    go_wp2
    repeat (go_quiet (fail); try go_wp2)
    go_ret
    exact ⟨qE, qD⟩
   rw [if_pos c4] at H
   have c4b0 : decide (x5_1 < (l0.length : Int)) = true := decide_eq_true c4
   clear c4
   replace H := iD H
   obtain ⟨c5b0, H⟩ := H
   replace H := iD H
   obtain ⟨c6b0, H⟩ := H
   by_cases c7 : (rd l0 x5_1) = (rd l1 x5_1)
   rotate_left
   ·rw [if_neg c7] at H
    have c7b0 : ((rd l0 x5_1) == (rd l1 x5_1)) = false := beq_eq_false_iff_ne.mpr c7
    have c7b1 : ((rd l0 x5_1) != (rd l1 x5_1)) = true := bne_iff_ne.mpr c7
    obtain rfl := Option.some.inj H
    obtain ⟨ad179, e179, hx179_0⟩ := Kd.at_int HR0.out x5_1 oD oD
    cases e179
    have p179 := eq_true (oD : 0 ≤ (x5_1 : Int))
    have q179 := eq_true (oD : x5_1 < (l0.length : Int))
    obtain ⟨ad180, e180, hx180_0⟩ := Kd.at_int HR1.out x5_1 oD oD
    cases e180
    have p180 := eq_true (oD : 0 ≤ (x5_1 : Int))
    have q180 := eq_true (oD : x5_1 < (l1.length : Int))
    go_wp2
    repeat (go_quiet (fail); try go_wp2)
    go_ret
    exact ⟨qE, qD⟩
   rw [if_pos c7] at H
   have c7b0 : ((rd l0 x5_1) == (rd l1 x5_1)) = true := beq_iff_eq.mpr c7
   have c7b1 : ((rd l0 x5_1) != (rd l1 x5_1)) = false := bne_eq_false_iff_eq.mpr c7
   clear c7
   have H' := aM H
   clear H
   obtain ⟨ad179, e179, hx179_0⟩ := Kd.at_int HR0.out x5_1 oD oD
   cases e179
   have p179 := eq_true (oD : 0 ≤ (x5_1 : Int))
   have q179 := eq_true (oD : x5_1 < (l0.length : Int))
   obtain ⟨ad180, e180, hx180_0⟩ := Kd.at_int HR1.out x5_1 oD oD
   cases e180
   have p180 := eq_true (oD : 0 ≤ (x5_1 : Int))
   have q180 := eq_true (oD : x5_1 < (l1.length : Int))
   go_wp2
   repeat (go_quiet (fail); try go_wp2)
   go_roundg k1
   case measure => have := HK1.out; omega
   case rel => exact ⟨(wrap64 (x5_1 + 1)), qE, H', ⟨by have := HK1.out; omega⟩, qD⟩
mutual
def spec_ReadImage.j0 : Nat → List Int → Bool → Option (Int × Int × Int × List Int × Bool)
 | 0, _, _ => none
 | k + 1, x0, x28 => if x28 = true then (some (0, 0, 0, ([] : List Int), false)) else (if 5 ≤ (wrap64 ((x0.length : Int) - 2)) then (if (wrap64 ((x0.length : Int) - 2)) ≤ (x0.length : Int) then ((spec_unpackTokens.f k ((x0.take ((wrap64 ((x0.length : Int) - 2)) : Int).toNat).drop 5)).bind fun t314 => ((spec_ExpandTokens.f k t314).bind fun bt317 => (if bt317.2 = true then (if 3 < (x0.length : Int) then (if 2 < (x0.length : Int) then (if 4 < (x0.length : Int) then (spec_ReadImage.j1 k x0 bt317.1 ((bt317.1.length : Int) != (wrap64 ((rd x0 3) * (wrap64 ((wrap64 ((rd x0 2) * (rd x0 4))) + 1)))))) else (none)) else (none)) else (none)) else (spec_ReadImage.j1 k x0 bt317.1 true)))) else (none)) else (none))
def spec_ReadImage.j1 : Nat → List Int → List Int → Bool → Option (Int × Int × Int × List Int × Bool)
 | 0, _, _, _ => none
 | k + 1, x0, x4, x58 => if x58 = true then (some (0, 0, 0, ([] : List Int), false)) else (if 2 < (x0.length : Int) then (if 3 < (x0.length : Int) then (if 4 < (x0.length : Int) then ((spec_unfilterImage.f k (rd x0 2) (rd x0 3) (rd x0 4) x4).bind fun bt327 => (if bt327.2.2.2.2 = true then ((spec_writeImage.f k bt327.1 bt327.2.1 bt327.2.2.1 bt327.2.2.2.1).bind fun t335 => ((spec_equalInts.f k t335 x0).bind fun t338 => (if t338 = true then (some (bt327.1, bt327.2.1, bt327.2.2.1, bt327.2.2.2.1, true)) else (some (0, 0, 0, ([] : List Int), false))))) else (some (0, 0, 0, ([] : List Int), false)))) else (none)) else (none)) else (none))
end
def spec_ReadImage.f (k : Nat) (l0 : List Int) : Option (Int × Int × Int × List Int × Bool) := (spec_validBytes.f k l0).bind fun t308 => (if t308 = true then (if (l0.length : Int) < 7 then (spec_ReadImage.j0 k l0 true) else (if 2 < (l0.length : Int) then (if 3 < (l0.length : Int) then (if 4 < (l0.length : Int) then ((spec_validShape.f (rd l0 2) (rd l0 3) (rd l0 4)).bind fun t312 => (spec_ReadImage.j0 k l0 (!t312))) else (none)) else (none)) else (none))) else (spec_ReadImage.j0 k l0 true))
theorem spec_ReadImage.mono_l : ∀ k, (∀ y0 y1, LeO (spec_ReadImage.j0 k y0 y1) (spec_ReadImage.j0 (k + 1) y0 y1)) ∧ (∀ y0 y1 y2, LeO (spec_ReadImage.j1 k y0 y1 y2) (spec_ReadImage.j1 (k + 1) y0 y1 y2))
 | 0 => ⟨fun _ _ r h => by simp [spec_ReadImage.j0] at h, fun _ _ _ r h => by simp [spec_ReadImage.j1] at h⟩
 | k + 1 => by
  obtain ⟨ih0, ih1⟩ := spec_ReadImage.mono_l k
  refine ⟨?_, ?_⟩
  all_goals intros
  all_goals first | unfold spec_ReadImage.j0 | unfold spec_ReadImage.j1
  all_goals repeat' first | (with_reducible first | exact ih0 _ _ | exact ih1 _ _ _ | exact spec_ExpandTokens.mono _ _ | exact spec_equalInts.mono _ _ _ | exact spec_unfilterImage.mono _ _ _ _ _ | exact spec_unpackTokens.mono _ _ | exact spec_validBytes.mono _ _ | exact spec_writeImage.mono _ _ _ _ _ | exact lR | exact lN | refine lI ?_ ?_ | refine lB ?_ fun _ => ?_) | exact ih0 _ _ | exact ih1 _ _ _ | exact spec_ExpandTokens.mono _ _ | exact spec_equalInts.mono _ _ _ | exact spec_unfilterImage.mono _ _ _ _ _ | exact spec_unpackTokens.mono _ _ | exact spec_validBytes.mono _ _ | exact spec_writeImage.mono _ _ _ _ _ | exact lN | refine lI ?_ ?_ | refine lB ?_ fun _ => ?_
theorem spec_ReadImage.mono : ∀ a0 k, LeO (spec_ReadImage.f k a0) (spec_ReadImage.f (k + 1) a0) := by
 intro a0 k
 obtain ⟨ih0, ih1⟩ := spec_ReadImage.mono_l k
 unfold spec_ReadImage.f
 repeat' first | (with_reducible first | exact ih0 _ _ | exact ih1 _ _ _ | exact spec_ExpandTokens.mono _ _ | exact spec_equalInts.mono _ _ _ | exact spec_unfilterImage.mono _ _ _ _ _ | exact spec_unpackTokens.mono _ _ | exact spec_validBytes.mono _ _ | exact spec_writeImage.mono _ _ _ _ _ | exact lR | exact lN | refine lI ?_ ?_ | refine lB ?_ fun _ => ?_) | exact ih0 _ _ | exact ih1 _ _ _ | exact spec_ExpandTokens.mono _ _ | exact spec_equalInts.mono _ _ _ | exact spec_unfilterImage.mono _ _ _ _ _ | exact spec_unpackTokens.mono _ _ | exact spec_validBytes.mono _ _ | exact spec_writeImage.mono _ _ _ _ _ | exact lN | refine lI ?_ ?_ | refine lB ?_ fun _ => ?_
def spec_ReadImage.T1 : Bool × List (List Nat × List Nat) := (true, [([], []), ([0], [0]), ([1], [1]), ([2, 1], [2]), ([3], [3]), ([4, 3], [3, 4]), ([5, 3], [3, 5]), ([3, 6], [3, 6]), ([7, 3], [7]), ([8], [8]), ([9, 8], [8, 9]), ([10, 8], [8, 10]), ([8], [8]), ([12, 8], [8, 12]), ([13, 8], [8, 13]), ([8], [8]), ([15, 8], [8, 15]), ([16, 8], [8, 16]), ([11, 14, 17, 8, 8], [8, 11, 14, 17]), ([18, 8], [8, 18]), ([8, 19], [8, 19])])
def spec_ReadImage.B1 : List Nat := [0, 1, 3, 7, 15, 31, 63, 127, 255, 511, 1023, 2047, 511, 4607, 12799, 511, 33279, 98815, 262143, 524287, 1048575]
theorem spec_ReadImage.tab1 : rtab .any (opsOf Try.f12 1) = spec_ReadImage.T1 := by kernel_rfl
theorem spec_ReadImage.bits1 : waitsOk spec_ReadImage.T1.2 spec_ReadImage.B1 = true := by kernel_rfl
def spec_ReadImage.T4 : Bool × List (List Nat × List Nat) := (true, [([], []), ([0], [0]), ([1], [1]), ([2], [2]), ([3, 2], [2, 3]), ([2], [2]), ([5, 2], [2, 5]), ([6, 2], [2, 6]), ([2], [2]), ([8, 2], [2, 8]), ([9, 2], [2, 9]), ([2], [2]), ([11, 2], [2, 11]), ([12, 2], [2, 12]), ([10, 13, 2], [2, 10, 13]), ([14, 2], [2, 14]), ([7, 15, 2], [2, 7, 15]), ([4, 16, 2], [2, 4, 16]), ([2, 17], [2, 17])])
def spec_ReadImage.B4 : List Nat := [0, 1, 3, 7, 15, 7, 39, 103, 7, 263, 775, 7, 2055, 6151, 16135, 32519, 65511, 131071, 262143]
theorem spec_ReadImage.tab4 : rtab .any (opsOf Try.f12 4) = spec_ReadImage.T4 := by kernel_rfl
theorem spec_ReadImage.bits4 : waitsOk spec_ReadImage.T4.2 spec_ReadImage.B4 = true := by kernel_rfl
def spec_ReadImage.T6 : Bool × List (List Nat × List Nat) := (true, [([], []), ([0], [0]), ([1], [1]), ([], []), ([3], [3]), ([4], [4]), ([], []), ([6], [6]), ([7], [7]), ([], []), ([2, 5, 8, 9], [2, 5, 8, 9]), ([10], [10]), ([11], [11]), ([11], [11]), ([], []), ([14, 12, 10, 0, 1, 2, 3, 4, 5, 6, 7, 8, 9, 10, 11, 12, 14], [12, 14]), ([13, 15, 0, 1, 2, 3, 4, 5, 6, 7, 8, 9, 10, 11, 12, 13, 14, 15], [13])])
def spec_ReadImage.B6 : List Nat := [0, 1, 3, 0, 8, 24, 0, 64, 192, 0, 1023, 2047, 4095, 4095, 0, 24575, 65535]
theorem spec_ReadImage.tab6 : rtab .any (opsOf Try.f12 6) = spec_ReadImage.T6 := by kernel_rfl
theorem spec_ReadImage.bits6 : waitsOk spec_ReadImage.T6.2 spec_ReadImage.B6 = true := by kernel_rfl
set_option maxHeartbeats 8000000 in
set_option maxRecDepth 100000 in
theorem spec_ReadImage.calls (k : Nat) (A0 : Option Addr) (c0 : Nat) (l0 : List Int) (r1 : Int) (r2 : Int) (r3 : Int) (r4 : List Int) (r5 : Bool) (w : World) (hr0 : Kd.C (Kd.int .i64) w A0 l0.length l0) (hc0 : l0.length ≤ c0) (h : spec_ReadImage.f k l0 = some (r1, r2, r3, r4, r5)) :
  Calls Try.prog 12 #[.slice A0 l0.length c0] w fun e w' => ∃ v3_ : Value, e = .returned (.tuple #[.agg #[.int .i64 r1, .int .i64 r2, .int .i64 r3, v3_], .bool r5]) ∧ Kd.R (Kd.int .i64) 3 w' w.heap.size (fun _ => True) v3_ r4 ∧ Below w.heap.size w w' := by
 have hu24 := Try.underlying24
 have HR0 := aM hr0
 have HC0 := aM hc0
 clear hr0 hc0
 have HB := aM (Below.refl w.heap.size w)
 unfold spec_ReadImage.f at h
 have H := h
 clear h
 have HC2 := aM H
 clear H
 go_enter Try.func12, Try.ntmps12
 go_upto_region 1 with (first | ((with_reducible refine gate_dst (N := 2) rfl ?_); (try (refine gate_guard (by rfl) ?_; dsimp only)); refine bxE (N := 2) (cs := #[.int .i64 0, .int .i64 0, .int .i64 0, .slice none 0 0]) (t := 24) ?_; intro gb307 hg w3 hbox hb; have BK307 := aM (hbox); have GW307 := gW hg HB; have GE307 := gW hg HB; replace HB := bS HB hb; clear hb hbox hg))
 (try simp only [Act.put, List.setIfInBounds_toArray, List.set_cons_zero, List.set_cons_succ])
 go_cut [28] (fun v28 wc => ∃ (kq : Nat) (x28_1 : Bool), v28 = .bool x28_1 ∧ Aside0 (spec_ReadImage.j0 kq l0 x28_1 = some (r1, r2, r3, r4, r5)) ∧ Aside0 (kq ≤ k) ∧ Aside0 (wc.heap[gb307]? = some (.cells #[.int .i64 0, .int .i64 0, .int .i64 0, (.slice none 0 0)] 24 (0, 0))) ∧ Aside0 (Below w.heap.size w wc))
 case first =>
  have H := HC2.out
  clear HC2
  replace H := Option.bind_eq_some_iff.mp H
  obtain ⟨t308, A40, H⟩ := H
  replace H : (if t308 = true then (if (l0.length : Int) < 7 then (spec_ReadImage.j0 k l0 true) else (if 2 < (l0.length : Int) then (if 3 < (l0.length : Int) then (if 4 < (l0.length : Int) then ((spec_validShape.f (rd l0 2) (rd l0 3) (rd l0 4)).bind fun t312 => (spec_ReadImage.j0 k l0 (!t312))) else (none)) else (none)) else (none))) else (spec_ReadImage.j0 k l0 true)) = some (r1, r2, r3, r4, r5) := H
  have A4 := aM A40
  clear A40
  by_cases c5 : t308 = true
  rotate_left
  ·replace c5 := Bool.eq_false_iff.mpr c5
   subst c5
   have H1 : (spec_ReadImage.j0 k l0 true) = some (r1, r2, r3, r4, r5) := by rw [if_neg (show ¬ (false = true) by decide)] at H; exact H
   clear H
   have H := H1
   clear H1
   have H' := aM H
   clear H
   try go_wp2
   replace BK307 := aM (blk_drew BK307.out)
   replace HB := aM (below_drew1 HB.out)
   refine start_ (n := 21) (S := fun w' => True) (ds := []) (bA 21 0) (by kernel_rfl) rfl rfl trivial (fun hHeld => ?_); refine with_tabW spec_ReadImage.tab1 spec_ReadImage.bits1 (fun HT_ HW_ => ?_)
   generalize w3.drew = w13 at BK307 HB hHeld ⊢
   refine pQ 0 8 HT_ (bA 21 1) ?_
   refine one_ (i := 1) (N := some 9) (bA 21 3) rfl rfl (one_of HT_.out (by kernel_rfl)) (by decide) (fun K hK => ?_)
   refine goes_ Try.func36 (by kernel_rfl) rfl #[.slice A0 l0.length c0] (by rfl) rfl rfl qM ?_
   with_reducible refine (spec_validBytes.calls k _ _ l0 false _ ?side1 ?side2 A4.out).mono ?_
   (case side1 => exact qC (Kd.C_below HR0.out HB.out))
   (case side2 => exact HC0.out)
   rintro e w' ⟨rfl, ⟨nd, rfl⟩⟩
   refine ⟨_, rfl, ?_⟩
   refine hK.out _ _ trivial (fun hHeld => ?_)
   clear hK K
   refine norm_ (a' := ?_) ?_ ?_
   rotate_left
   ·show Act.put _ (some 9) _ = _
    refine pZ ?_
    rfl
   refine pQ 2 10 HT_ (bA 21 7) ?_
   refine pQ 3 11 HT_ (bA 21 15) ?_
   refine pure_ (i := 4) (N := some 12) (v := undef) (a' := ?_) (bA 21 31) rfl rfl (any_of HT_.out (by kernel_rfl)) (fun _ _ _ h => h) (Or.inr ⟨by rfl, rfl⟩) ?_ ?_
   rotate_left
   ·refine pZ ?_
    rfl
   refine pure_ (i := 5) (N := some 13) (v := undef) (a' := ?_) (bA 21 63) rfl rfl (any_of HT_.out (by kernel_rfl)) (fun _ _ _ h => h) (Or.inr ⟨by rfl, rfl⟩) ?_ ?_
   rotate_left
   ·refine pZ ?_
    rfl
   refine pure_ (i := 6) (N := some 14) (v := undef) (a' := ?_) (bA 21 127) rfl rfl (any_of HT_.out (by kernel_rfl)) (fun _ _ _ h => h) (Or.inr ⟨by rfl, rfl⟩) ?_ ?_
   rotate_left
   ·refine pZ ?_
    rfl
   refine pQ 7 15 HT_ (bA 21 255) ?_
   refine pQ 8 16 HT_ (bA 21 511) ?_
   refine pure_ (i := 9) (N := some 17) (v := undef) (a' := ?_) (bA 21 1023) rfl rfl (any_of HT_.out (by kernel_rfl)) (fun _ _ _ h => h) (Or.inr ⟨by rfl, rfl⟩) ?_ ?_
   rotate_left
   ·refine pZ ?_
    rfl
   refine pure_ (i := 10) (N := some 18) (v := undef) (a' := ?_) (bA 21 2047) rfl rfl (any_of HT_.out (by kernel_rfl)) (fun _ _ _ h => h) (Or.inr ⟨by rfl, rfl⟩) ?_ ?_
   rotate_left
   ·refine pZ ?_
    rfl
   refine pure_ (i := 11) (N := some 19) (v := undef) (a' := ?_) (bA 21 4095) rfl rfl (any_of HT_.out (by kernel_rfl)) (fun _ _ _ h => h) (Or.inr ⟨by rfl, rfl⟩) ?_ ?_
   rotate_left
   ·refine pZ ?_
    rfl
   refine pure_ (i := 12) (N := some 20) (v := undef) (a' := ?_) (bA 21 8191) rfl rfl (any_of HT_.out (by kernel_rfl)) (fun _ _ _ h => h) (Or.inr ⟨by rfl, rfl⟩) ?_ ?_
   rotate_left
   ·refine pZ ?_
    rfl
   refine pure_ (i := 13) (N := some 21) (v := undef) (a' := ?_) (bA 21 16383) rfl rfl (any_of HT_.out (by kernel_rfl)) (fun _ _ _ h => h) (Or.inr ⟨by rfl, rfl⟩) ?_ ?_
   rotate_left
   ·refine pZ ?_
    rfl
   refine pure_ (i := 14) (N := some 22) (v := undef) (a' := ?_) (bA 21 32767) rfl rfl (any_of HT_.out (by kernel_rfl)) (fun _ _ _ h => h) (Or.inr ⟨by rfl, rfl⟩) ?_ ?_
   rotate_left
   ·refine pZ ?_
    rfl
   refine pure_ (i := 15) (N := some 23) (v := undef) (a' := ?_) (bA 21 65535) rfl rfl (any_of HT_.out (by kernel_rfl)) (fun _ _ _ h => h) (Or.inr ⟨by rfl, rfl⟩) ?_ ?_
   rotate_left
   ·refine pZ ?_
    rfl
   refine pure_ (i := 16) (N := some 24) (v := undef) (a' := ?_) (bA 21 131071) rfl rfl (any_of HT_.out (by kernel_rfl)) (fun _ _ _ h => h) (Or.inr ⟨by rfl, rfl⟩) ?_ ?_
   rotate_left
   ·refine pZ ?_
    rfl
   refine pure_ (i := 17) (N := some 25) (v := undef) (a' := ?_) (bA 21 262143) rfl rfl (any_of HT_.out (by kernel_rfl)) (fun _ _ _ h => h) (Or.inr ⟨by rfl, rfl⟩) ?_ ?_
   rotate_left
   ·refine pZ ?_
    rfl
   refine pure_ (i := 18) (N := some 26) (v := undef) (a' := ?_) (bA 21 524287) rfl rfl (any_of HT_.out (by kernel_rfl)) (fun _ _ _ h => h) (Or.inr ⟨by rfl, rfl⟩) ?_ ?_
   rotate_left
   ·refine pZ ?_
    rfl
   refine pure_ (i := 19) (N := some 27) (v := undef) (a' := ?_) (bA 21 1048575) rfl rfl (any_of HT_.out (by kernel_rfl)) (fun _ _ _ h => h) (Or.inr ⟨by rfl, rfl⟩) ?_ ?_
   rotate_left
   ·refine pZ ?_
    rfl
   refine pQ 20 28 HT_ (bA 21 2097151) ?_
   refine done_ (done_of HT_.out (by kernel_rfl)) ?_
   try go_wp2
   go_meet
   case rel => exact ⟨_, (true), qE, H', ⟨by first | omega | exact Nat.le_refl _⟩, ⟨by refine qB ?_; exact BK307.out⟩, ⟨by exact qW HB.out⟩⟩
  subst c5
  have H1 : (if (l0.length : Int) < 7 then (spec_ReadImage.j0 k l0 true) else (if 2 < (l0.length : Int) then (if 3 < (l0.length : Int) then (if 4 < (l0.length : Int) then ((spec_validShape.f (rd l0 2) (rd l0 3) (rd l0 4)).bind fun t312 => (spec_ReadImage.j0 k l0 (!t312))) else (none)) else (none)) else (none))) = some (r1, r2, r3, r4, r5) := by rw [if_pos rfl] at H; exact H
  clear H
  have H := H1
  clear H1
  by_cases c6 : (l0.length : Int) < 7
  ·rw [if_pos c6] at H
   have c6b0 : decide ((l0.length : Int) < 7) = true := decide_eq_true c6
   have c6b1 : decide (l0.length < 7) = true := decide_eq_true (by omega)
   clear c6
   (first | rw [c6b0] | (simp only [i64_w, i32_w]; rw [c6b0]) | skip)
   have H' := aM H
   clear H
   try go_wp2
   replace BK307 := aM (blk_drew BK307.out)
   replace HB := aM (below_drew1 HB.out)
   refine start_ (n := 21) (S := fun w' => True) (ds := []) (bA 21 0) (by kernel_rfl) rfl rfl trivial (fun hHeld => ?_); refine with_tabW spec_ReadImage.tab1 spec_ReadImage.bits1 (fun HT_ HW_ => ?_)
   generalize w3.drew = w7 at BK307 HB hHeld ⊢
   refine pQ 0 8 HT_ (bA 21 1) ?_
   refine one_ (i := 1) (N := some 9) (bA 21 3) rfl rfl (one_of HT_.out (by kernel_rfl)) (by decide) (fun K hK => ?_)
   refine goes_ Try.func36 (by kernel_rfl) rfl #[.slice A0 l0.length c0] (by rfl) rfl rfl qM ?_
   with_reducible refine (spec_validBytes.calls k _ _ l0 true _ ?side1 ?side2 A4.out).mono ?_
   (case side1 => exact qC (Kd.C_below HR0.out HB.out))
   (case side2 => exact HC0.out)
   rintro e w' ⟨rfl, ⟨nd, rfl⟩⟩
   refine ⟨_, rfl, ?_⟩
   refine hK.out _ _ trivial (fun hHeld => ?_)
   clear hK K
   refine norm_ (a' := ?_) ?_ ?_
   rotate_left
   ·show Act.put _ (some 9) _ = _
    refine pZ ?_
    rfl
   refine pQ 2 10 HT_ (bA 21 7) ?_
   refine pQ 3 11 HT_ (bA 21 15) ?_
   refine pQ 4 12 HT_ (bA 21 31) ?_
   refine pQ 5 13 HT_ (bA 21 63) ?_
   refine pQ 6 14 HT_ (bA 21 127) ?_
   refine pQ 7 15 HT_ (bA 21 255) ?_
   refine pQ 8 16 HT_ (bA 21 511) ?_
   refine pure_ (i := 9) (N := some 17) (v := undef) (a' := ?_) (bA 21 1023) rfl rfl (any_of HT_.out (by kernel_rfl)) (fun _ _ _ h => h) (Or.inr ⟨by rfl, rfl⟩) ?_ ?_
   rotate_left
   ·refine pZ ?_
    rfl
   refine pure_ (i := 10) (N := some 18) (v := undef) (a' := ?_) (bA 21 2047) rfl rfl (any_of HT_.out (by kernel_rfl)) (fun _ _ _ h => h) (Or.inr ⟨by rfl, rfl⟩) ?_ ?_
   rotate_left
   ·refine pZ ?_
    rfl
   refine pure_ (i := 11) (N := some 19) (v := undef) (a' := ?_) (bA 21 4095) rfl rfl (any_of HT_.out (by kernel_rfl)) (fun _ _ _ h => h) (Or.inr ⟨by rfl, rfl⟩) ?_ ?_
   rotate_left
   ·refine pZ ?_
    rfl
   refine pure_ (i := 12) (N := some 20) (v := undef) (a' := ?_) (bA 21 8191) rfl rfl (any_of HT_.out (by kernel_rfl)) (fun _ _ _ h => h) (Or.inr ⟨by rfl, rfl⟩) ?_ ?_
   rotate_left
   ·refine pZ ?_
    rfl
   refine pure_ (i := 13) (N := some 21) (v := undef) (a' := ?_) (bA 21 16383) rfl rfl (any_of HT_.out (by kernel_rfl)) (fun _ _ _ h => h) (Or.inr ⟨by rfl, rfl⟩) ?_ ?_
   rotate_left
   ·refine pZ ?_
    rfl
   refine pure_ (i := 14) (N := some 22) (v := undef) (a' := ?_) (bA 21 32767) rfl rfl (any_of HT_.out (by kernel_rfl)) (fun _ _ _ h => h) (Or.inr ⟨by rfl, rfl⟩) ?_ ?_
   rotate_left
   ·refine pZ ?_
    rfl
   refine pure_ (i := 15) (N := some 23) (v := undef) (a' := ?_) (bA 21 65535) rfl rfl (any_of HT_.out (by kernel_rfl)) (fun _ _ _ h => h) (Or.inr ⟨by rfl, rfl⟩) ?_ ?_
   rotate_left
   ·refine pZ ?_
    rfl
   refine pure_ (i := 16) (N := some 24) (v := undef) (a' := ?_) (bA 21 131071) rfl rfl (any_of HT_.out (by kernel_rfl)) (fun _ _ _ h => h) (Or.inr ⟨by rfl, rfl⟩) ?_ ?_
   rotate_left
   ·refine pZ ?_
    rfl
   refine pure_ (i := 17) (N := some 25) (v := undef) (a' := ?_) (bA 21 262143) rfl rfl (any_of HT_.out (by kernel_rfl)) (fun _ _ _ h => h) (Or.inr ⟨by rfl, rfl⟩) ?_ ?_
   rotate_left
   ·refine pZ ?_
    rfl
   refine pure_ (i := 18) (N := some 26) (v := undef) (a' := ?_) (bA 21 524287) rfl rfl (any_of HT_.out (by kernel_rfl)) (fun _ _ _ h => h) (Or.inr ⟨by rfl, rfl⟩) ?_ ?_
   rotate_left
   ·refine pZ ?_
    rfl
   refine pure_ (i := 19) (N := some 27) (v := undef) (a' := ?_) (bA 21 1048575) rfl rfl (any_of HT_.out (by kernel_rfl)) (fun _ _ _ h => h) (Or.inr ⟨by rfl, rfl⟩) ?_ ?_
   rotate_left
   ·refine pZ ?_
    rfl
   refine pQ 20 28 HT_ (bA 21 2097151) ?_
   refine done_ (done_of HT_.out (by kernel_rfl)) ?_
   try go_wp2
   go_meet
   case rel => exact ⟨_, (true), qE, H', ⟨by first | omega | exact Nat.le_refl _⟩, ⟨by refine qB ?_; exact BK307.out⟩, ⟨by exact qW HB.out⟩⟩
  rw [if_neg c6] at H
  have c6b0 : decide ((l0.length : Int) < 7) = false := decide_eq_false c6
  have c6b1 : decide (l0.length < 7) = false := decide_eq_false (by omega)
  clear c6
  (first | rw [c6b0] | (simp only [i64_w, i32_w]; rw [c6b0]) | skip)
  replace H := iS H
  obtain ⟨c8, H⟩ := H
  have c8b0 : decide (2 < (l0.length : Int)) = true := decide_eq_true c8
  have c8b1 : decide (2 < l0.length) = true := decide_eq_true (by omega)
  clear c8
  replace H := iS H
  obtain ⟨c9, H⟩ := H
  have c9b0 : decide (3 < (l0.length : Int)) = true := decide_eq_true c9
  have c9b1 : decide (3 < l0.length) = true := decide_eq_true (by omega)
  clear c9
  replace H := iS H
  obtain ⟨c10, H⟩ := H
  have c10b0 : decide (4 < (l0.length : Int)) = true := decide_eq_true c10
  have c10b1 : decide (4 < l0.length) = true := decide_eq_true (by omega)
  clear c10
  replace H := Option.bind_eq_some_iff.mp H
  obtain ⟨t312, A110, H⟩ := H
  replace H : (spec_ReadImage.j0 k l0 (!t312)) = some (r1, r2, r3, r4, r5) := H
  have A11 := aM A110
  clear A110
  have H' := aM H
  clear H
  try go_wp2
  replace BK307 := aM (blk_drew BK307.out)
  replace HB := aM (below_drew1 HB.out)
  have p309 : 0 ≤ (2 : Int) := (by omega)
  have q309 : 2 < (l0.length : Int) := oD
  obtain ⟨ad309, e309, hx309_0⟩ := Kd.at_int HR0.out 2 p309 q309
  have hw309_0 := hx309_0
  (try rw [show ((2 : Int)).toNat = 2 from rfl] at hw309_0)
  (try rw [show 2 * 1 = 2 from rfl] at hw309_0)
  (try simp only [Nat.reduceMul, Nat.reduceEqDiff, Go.Addr.add, ↓reduceIte] at hw309_0)
  cases e309
  (try simp only [show (2 : Int).toNat = 2 from rfl, Nat.reduceMul, Nat.reduceEqDiff, Go.Addr.add, ↓reduceIte] at hx309_0)
  have qi309 : (2 < l0.length) = True := eq_true (by omega)
  (try rw [show ((2 : Int)).toNat = 2 from rfl] at hx309_0)
  replace hx309_0 := bD HB hx309_0
  replace p309 := eq_true p309
  replace q309 := eq_true q309
  have p310 : 0 ≤ (3 : Int) := (by omega)
  have q310 : 3 < (l0.length : Int) := oD
  obtain ⟨ad310, e310, hx310_0⟩ := Kd.at_int HR0.out 3 p310 q310
  have hw310_0 := hx310_0
  (try rw [show ((3 : Int)).toNat = 3 from rfl] at hw310_0)
  (try rw [show 3 * 1 = 3 from rfl] at hw310_0)
  (try simp only [Nat.reduceMul, Nat.reduceEqDiff, Go.Addr.add, ↓reduceIte] at hw310_0)
  obtain rfl : ad309 = ad310 := (by injection e310)
  (try simp only [show (3 : Int).toNat = 3 from rfl, Nat.reduceMul, Nat.reduceEqDiff, Go.Addr.add, ↓reduceIte] at hx310_0)
  have qi310 : (3 < l0.length) = True := eq_true (by omega)
  (try rw [show ((3 : Int)).toNat = 3 from rfl] at hx310_0)
  replace hx310_0 := bD HB hx310_0
  replace p310 := eq_true p310
  replace q310 := eq_true q310
  have p311 : 0 ≤ (4 : Int) := (by omega)
  have q311 : 4 < (l0.length : Int) := oD
  obtain ⟨ad311, e311, hx311_0⟩ := Kd.at_int HR0.out 4 p311 q311
  have hw311_0 := hx311_0
  (try rw [show ((4 : Int)).toNat = 4 from rfl] at hw311_0)
  (try rw [show 4 * 1 = 4 from rfl] at hw311_0)
  (try simp only [Nat.reduceMul, Nat.reduceEqDiff, Go.Addr.add, ↓reduceIte] at hw311_0)
  obtain rfl : ad309 = ad311 := (by injection e311)
  (try simp only [show (4 : Int).toNat = 4 from rfl, Nat.reduceMul, Nat.reduceEqDiff, Go.Addr.add, ↓reduceIte] at hx311_0)
  have qi311 : (4 < l0.length) = True := eq_true (by omega)
  (try rw [show ((4 : Int)).toNat = 4 from rfl] at hx311_0)
  replace hx311_0 := bD HB hx311_0
  replace p311 := eq_true p311
  replace q311 := eq_true q311
  refine start_ (n := 21) (S := fun w' => w'.cell? ⟨ad309.block, ad309.off + 2, none⟩ = some (.int .i64 (rd l0 2)) ∧ w'.cell? ⟨ad309.block, ad309.off + 3, none⟩ = some (.int .i64 (rd l0 3)) ∧ w'.cell? ⟨ad309.block, ad309.off + 4, none⟩ = some (.int .i64 (rd l0 4))) (ds := []) (bA 21 0) (by kernel_rfl) rfl rfl ⟨(bC HB hw309_0), (bC HB hw310_0), (bC HB hw311_0)⟩ (fun hHeld => ?_); refine with_tabW spec_ReadImage.tab1 spec_ReadImage.bits1 (fun HT_ HW_ => ?_)
  generalize w3.drew = w12 at BK307 HB hx309_0 hx310_0 hx311_0 hHeld ⊢
  refine pQ 0 8 HT_ (bA 21 1) ?_
  refine one_ (i := 1) (N := some 9) (bA 21 3) rfl rfl (one_of HT_.out (by kernel_rfl)) (by decide) (fun K hK => ?_)
  refine goes_ Try.func36 (by kernel_rfl) rfl #[.slice (some ad309) l0.length c0] (by rfl) rfl rfl qM ?_
  with_reducible refine (spec_validBytes.calls k _ _ l0 true _ ?side1 ?side2 A4.out).mono ?_
  (case side1 => exact qC (Kd.C_below HR0.out HB.out))
  (case side2 => exact HC0.out)
  rintro e w' ⟨rfl, ⟨nd, rfl⟩⟩
  refine ⟨_, rfl, ?_⟩
  refine hK.out _ _ ⟨(bC HB hw309_0), (bC HB hw310_0), (bC HB hw311_0)⟩ (fun hHeld => ?_)
  clear hK K
  refine norm_ (a' := ?_) ?_ ?_
  rotate_left
  ·show Act.put _ (some 9) _ = _
   refine pZ ?_
   rfl
  refine pQ 2 10 HT_ (bA 21 7) ?_
  refine pQ 3 11 HT_ (bA 21 15) ?_
  refine pQ 4 12 HT_ (bA 21 31) ?_
  refine pQ 5 13 HT_ (bA 21 63) ?_
  refine pQ 6 14 HT_ (bA 21 127) ?_
  refine pQ 7 15 HT_ (bA 21 255) ?_
  refine pQ 8 16 HT_ (bA 21 511) ?_
  refine pQ 9 17 HT_ (bA 21 1023) ?_
  refine pQ 10 18 HT_ (bA 21 2047) ?_
  refine pQ 12 20 HT_ (bA 21 6143) ?_
  refine pQ 13 21 HT_ (bA 21 14335) ?_
  refine pQ 15 23 HT_ (bA 21 47103) ?_
  refine pQ 16 24 HT_ (bA 21 112639) ?_
  refine take_ (i := 11) (N := some 19) (v := ?_) (a' := ?_) (bA 21 114687) rfl rfl (take_ofW HT_.out HW_.out (by kernel_rfl)) (fun _ _ _ h => h) (Or.inl ⟨by rfl, ?_⟩) hHeld ?_ ?_
  rotate_left
  ·rintro w' ⟨s0, s1, s2⟩
   go_simp
   with_reducible rfl
  rotate_left
  ·refine pZ ?_
   rfl
  refine take_ (i := 14) (N := some 22) (v := ?_) (a' := ?_) (bA 21 131071) rfl rfl (take_ofW HT_.out HW_.out (by kernel_rfl)) (fun _ _ _ h => h) (Or.inl ⟨by rfl, ?_⟩) hHeld ?_ ?_
  rotate_left
  ·rintro w' ⟨s0, s1, s2⟩
   go_simp
   with_reducible rfl
  rotate_left
  ·refine pZ ?_
   rfl
  refine take_ (i := 17) (N := some 25) (v := ?_) (a' := ?_) (bA 21 262143) rfl rfl (take_ofW HT_.out HW_.out (by kernel_rfl)) (fun _ _ _ h => h) (Or.inl ⟨by rfl, ?_⟩) hHeld ?_ ?_
  rotate_left
  ·rintro w' ⟨s0, s1, s2⟩
   go_simp
   with_reducible rfl
  rotate_left
  ·refine pZ ?_
   rfl
  refine one_ (i := 18) (N := some 26) (bA 21 524287) rfl rfl (one_of HT_.out (by kernel_rfl)) (by decide) (fun K hK => ?_)
  refine goes_ Try.func37 (by kernel_rfl) rfl #[.int .i64 (rd l0 2), .int .i64 (rd l0 3), .int .i64 (rd l0 4)] (by rfl) rfl rfl qM ?_
  with_reducible refine (spec_validShape.calls (rd l0 2) (rd l0 3) (rd l0 4) t312 _ A11.out).mono ?_
  rintro e w' ⟨rfl, ⟨nd, rfl⟩⟩
  refine ⟨_, rfl, ?_⟩
  refine hK.out _ _ ⟨(bC HB hw309_0), (bC HB hw310_0), (bC HB hw311_0)⟩ (fun hHeld => ?_)
  clear hK K
  refine norm_ (a' := ?_) ?_ ?_
  rotate_left
  ·show Act.put _ (some 26) _ = _
   refine pZ ?_
   rfl
  refine pQ 19 27 HT_ (bA 21 1048575) ?_
  refine pQ 20 28 HT_ (bA 21 2097151) ?_
  refine done_ (done_of HT_.out (by kernel_rfl)) ?_
  try go_wp2
  go_meet
  case rel => exact ⟨_, (!t312), qE, H', ⟨by first | omega | exact Nat.le_refl _⟩, ⟨by refine qB ?_; exact BK307.out⟩, ⟨by exact qW HB.out⟩⟩
 case rest =>
  clear HC2
  try clear c5
  try clear c6
  try clear c6b0
  try clear c6b1
  try clear c8
  try clear c8b0
  try clear c8b1
  try clear c9
  try clear c9b0
  try clear c9b1
  try clear c10
  try clear c10b0
  try clear c10b1
  try clear hx309_0
  try clear hx310_0
  try clear hx311_0
  try clear p309
  try clear p310
  try clear p311
  try clear q309
  try clear q310
  try clear q311
  obtain ⟨kq, x28_1, rfl, HA, HJ1, BK307, HB⟩ := hcut
  cases kq with
  | zero => exact absurd HA.out (by simp [spec_ReadImage.j0])
  | succ kj1 =>
   have H := HA.out
   clear HA
   simp only [spec_ReadImage.j0] at H
   by_cases c14 : x28_1 = true
   ·subst c14
    have H1 : (some (0, 0, 0, ([] : List Int), false)) = some (r1, r2, r3, r4, r5) := by rw [if_pos rfl] at H; exact H
    clear H
    have H := H1
    clear H1
    simp only [Option.some.injEq, Prod.mk.injEq] at H
    obtain ⟨rfl, rfl, rfl, rfl, rfl⟩ := H
    obtain ⟨⟨hcz15_0, hcz15_1, hcz15_2, hcz15_3⟩, hfz15_0, hfz15_1, hfz15_2, hfz15_3⟩ := cf4 BK307
    go_wp2
    refine bodyPost_ret (results_ct rfl _ _ gb307 24 #[.int .i64 0, .int .i64 0, .int .i64 0, .slice none 0 0] (0, 0) _ rfl (by exact bP BK307.out) Try.underlying24 rfl (by kernel_rfl)) rfl ?_
    exact ⟨_, qX, qN, by exact qW HB.out⟩
   replace c14 := Bool.eq_false_iff.mpr c14
   subst c14
   have H1 : (if 5 ≤ (wrap64 ((l0.length : Int) - 2)) then (if (wrap64 ((l0.length : Int) - 2)) ≤ (l0.length : Int) then ((spec_unpackTokens.f kj1 ((l0.take ((wrap64 ((l0.length : Int) - 2)) : Int).toNat).drop 5)).bind fun t314 => ((spec_ExpandTokens.f kj1 t314).bind fun bt317 => (if bt317.2 = true then (if 3 < (l0.length : Int) then (if 2 < (l0.length : Int) then (if 4 < (l0.length : Int) then (spec_ReadImage.j1 kj1 l0 bt317.1 ((bt317.1.length : Int) != (wrap64 ((rd l0 3) * (wrap64 ((wrap64 ((rd l0 2) * (rd l0 4))) + 1)))))) else (none)) else (none)) else (none)) else (spec_ReadImage.j1 kj1 l0 bt317.1 true)))) else (none)) else (none)) = some (r1, r2, r3, r4, r5) := by rw [if_neg (show ¬ (false = true) by decide)] at H; exact H
   clear H
   have H := H1
   clear H1
   replace H := iS H
   obtain ⟨c16, H⟩ := H
   have c16b0 := eq_true c16
   have c16b1 : decide (5 ≤ (wrap64 ((l0.length : Int) - 2))) = true := decide_eq_true c16
   clear c16
   replace H := iS H
   obtain ⟨c17, H⟩ := H
   have c17b0 := eq_true c17
   have c17b1 : decide ((wrap64 ((l0.length : Int) - 2)) ≤ (l0.length : Int)) = true := decide_eq_true c17
   clear c17
   replace H := Option.bind_eq_some_iff.mp H
   obtain ⟨t314, A180, H⟩ := H
   replace H : ((spec_ExpandTokens.f kj1 t314).bind fun bt317 => (if bt317.2 = true then (if 3 < (l0.length : Int) then (if 2 < (l0.length : Int) then (if 4 < (l0.length : Int) then (spec_ReadImage.j1 kj1 l0 bt317.1 ((bt317.1.length : Int) != (wrap64 ((rd l0 3) * (wrap64 ((wrap64 ((rd l0 2) * (rd l0 4))) + 1)))))) else (none)) else (none)) else (none)) else (spec_ReadImage.j1 kj1 l0 bt317.1 true))) = some (r1, r2, r3, r4, r5) := H
   have A18 := aM A180
   clear A180
   replace H := Option.bind_eq_some_iff.mp H
   obtain ⟨⟨t317, t318⟩, A190, H⟩ := H
   replace H : (if t318 = true then (if 3 < (l0.length : Int) then (if 2 < (l0.length : Int) then (if 4 < (l0.length : Int) then (spec_ReadImage.j1 kj1 l0 t317 ((t317.length : Int) != (wrap64 ((rd l0 3) * (wrap64 ((wrap64 ((rd l0 2) * (rd l0 4))) + 1)))))) else (none)) else (none)) else (none)) else (spec_ReadImage.j1 kj1 l0 t317 true)) = some (r1, r2, r3, r4, r5) := H
   have A19 := aM A190
   clear A190
   have HC20 := aM H
   clear H
   obtain ⟨i021, hi021, _, hsz21, _⟩ := info_parts info3
   obtain ⟨A21, hcut21, hA21, hC21⟩ := print_mid_of (P := Try.prog) (Value.int .i64) 0 22 3 .i64 .i64 Try.underlying22 hi021 hsz21 A0 c0 l0 5 (wrap64 ((l0.length : Int) - 2)) (by omega) (by first | omega | exact oD) oD HC0.out
   have HR313 := aM (Kd.C_of_reads (h1 := fun _ => rfl) (hA21 _ (Kd.reads_of_C HR0.out)))
   have HC313 := aM hC21
   clear hA21 hC21 hi021 hsz21
   go_upto_region 4 with (first | ((with_reducible refine gate_callee (f := 39) rfl ?_); refine goesL_ (some 36) rfl rfl Try.func39 (by kernel_rfl) rfl #[.slice A21 ((l0.take ((wrap64 ((l0.length : Int) - 2)) : Int).toNat).drop 5).length (c0 - 5)] rfl (by (try simp only [List.map_toArray, List.map_cons, List.map_nil]); first | done | (rw [show ((l0.take ((wrap64 ((l0.length : Int) - 2)) : Int).toNat).drop 5).length = ((wrap64 ((l0.length : Int) - 2)).toNat - 5) from (by rw [List.length_drop, List.length_take]; have h_ : ((wrap64 ((l0.length : Int) - 2)) : Int) ≤ (l0.length : Int) := oD; omega)] <;> rfl) | rfl | (simp only [List.length_drop, List.length_take]; rfl)) ?_; (with_reducible refine (spec_unpackTokens.calls kj1 _ _ ((l0.take ((wrap64 ((l0.length : Int) - 2)) : Int).toNat).drop 5) t314 _ ?side1 ?side2 A18.out).mono ?_); (case side1 => exact qC (Kd.C_below HR313.out HB.out)); (case side2 => exact HC313.out); rintro e w22 ⟨v315, rfl, ho0, hb⟩; refine ⟨_, rfl, ?_⟩; have HO316 := oR ho0 HB; replace BK307 := bB BK307 hb; replace HB := bS HB hb; clear hb ho0; obtain ⟨Ao23, co23, rfl⟩ := sL HO316) | ((with_reducible refine gate_callee (f := 38) rfl ?_); refine gL (some 37) Try.func38 #[.slice Ao23 t314.length co23] ?_; (with_reducible refine (spec_ExpandTokens.calls kj1 _ _ t314 t317 t318 _ ?side1 ?side2 A19.out).mono ?_); (case side1 => exact qC (Kd.R_reads' HO316.out).2.2); (case side2 => exact (Kd.R_reads' HO316.out).2.1); rintro e w24 ⟨v319, rfl, ho0, hb⟩; refine ⟨_, rfl, ?_⟩; replace HO316 := aM (Kd.R_below (qR HO316.out) hb); have HO320 := oR ho0 HB; replace BK307 := bB BK307 hb; replace HB := bS HB hb; clear hb ho0))
   (try simp only [Act.put, List.setIfInBounds_toArray, List.set_cons_zero, List.set_cons_succ])
   go_cut [58] (fun v58 wc => ∃ (kq : Nat) (x58_19 : Bool), v58 = .bool x58_19 ∧ Aside0 (spec_ReadImage.j1 kq l0 t317 x58_19 = some (r1, r2, r3, r4, r5)) ∧ Aside0 (kq ≤ kj1) ∧ Aside0 (Kd.R (Kd.int .i64) 3 wc w.heap.size (fun _ => True) v319 t317) ∧ Aside0 (wc.heap[gb307]? = some (.cells #[.int .i64 0, .int .i64 0, .int .i64 0, (.slice none 0 0)] 24 (0, 0))) ∧ Aside0 (Below w.heap.size w wc))
   case first =>
    have H := HC20.out
    clear HC20
    by_cases c25 : t318 = true
    rotate_left
    ·replace c25 := Bool.eq_false_iff.mpr c25
     subst c25
     have H1 : (spec_ReadImage.j1 kj1 l0 t317 true) = some (r1, r2, r3, r4, r5) := by rw [if_neg (show ¬ (false = true) by decide)] at H; exact H
     clear H
     have H := H1
     clear H1
     have H' := aM H
     clear H
     try go_wp2
     replace HO316 := aM (Kd.R_drew HO316.out)
     replace HO320 := aM (Kd.R_drew HO320.out)
     replace BK307 := aM (blk_drew BK307.out)
     replace HB := aM (below_drew1 HB.out)
     refine start_ (n := 19) (S := fun w' => True) (ds := []) (bA 19 0) (by kernel_rfl) rfl rfl trivial (fun hHeld => ?_); refine with_tabW spec_ReadImage.tab4 spec_ReadImage.bits4 (fun HT_ HW_ => ?_)
     generalize w24.drew = w31 at HO316 HO320 BK307 HB hHeld ⊢
     refine pQ 0 40 HT_ (bA 19 1) ?_
     refine pQ 1 41 HT_ (bA 19 3) ?_
     refine pQ 2 42 HT_ (bA 19 7) ?_
     refine pure_ (i := 3) (N := some 43) (v := undef) (a' := ?_) (bA 19 15) rfl rfl (any_of HT_.out (by kernel_rfl)) (fun _ _ _ h => h) (Or.inr ⟨by rfl, rfl⟩) ?_ ?_
     rotate_left
     ·refine pZ ?_
      rfl
     refine pure_ (i := 4) (N := some 44) (v := undef) (a' := ?_) (bA 19 31) rfl rfl (any_of HT_.out (by kernel_rfl)) (fun _ _ _ h => h) (Or.inr ⟨by rfl, rfl⟩) ?_ ?_
     rotate_left
     ·refine pZ ?_
      rfl
     refine pure_ (i := 5) (N := some 45) (v := undef) (a' := ?_) (bA 19 63) rfl rfl (any_of HT_.out (by kernel_rfl)) (fun _ _ _ h => h) (Or.inr ⟨by rfl, rfl⟩) ?_ ?_
     rotate_left
     ·refine pZ ?_
      rfl
     refine pure_ (i := 6) (N := some 46) (v := undef) (a' := ?_) (bA 19 127) rfl rfl (any_of HT_.out (by kernel_rfl)) (fun _ _ _ h => h) (Or.inr ⟨by rfl, rfl⟩) ?_ ?_
     rotate_left
     ·refine pZ ?_
      rfl
     refine pure_ (i := 7) (N := some 47) (v := undef) (a' := ?_) (bA 19 255) rfl rfl (any_of HT_.out (by kernel_rfl)) (fun _ _ _ h => h) (Or.inr ⟨by rfl, rfl⟩) ?_ ?_
     rotate_left
     ·refine pZ ?_
      rfl
     refine pure_ (i := 8) (N := some 48) (v := undef) (a' := ?_) (bA 19 511) rfl rfl (any_of HT_.out (by kernel_rfl)) (fun _ _ _ h => h) (Or.inr ⟨by rfl, rfl⟩) ?_ ?_
     rotate_left
     ·refine pZ ?_
      rfl
     refine pure_ (i := 9) (N := some 49) (v := undef) (a' := ?_) (bA 19 1023) rfl rfl (any_of HT_.out (by kernel_rfl)) (fun _ _ _ h => h) (Or.inr ⟨by rfl, rfl⟩) ?_ ?_
     rotate_left
     ·refine pZ ?_
      rfl
     refine pure_ (i := 10) (N := some 50) (v := undef) (a' := ?_) (bA 19 2047) rfl rfl (any_of HT_.out (by kernel_rfl)) (fun _ _ _ h => h) (Or.inr ⟨by rfl, rfl⟩) ?_ ?_
     rotate_left
     ·refine pZ ?_
      rfl
     refine pure_ (i := 11) (N := some 51) (v := undef) (a' := ?_) (bA 19 4095) rfl rfl (any_of HT_.out (by kernel_rfl)) (fun _ _ _ h => h) (Or.inr ⟨by rfl, rfl⟩) ?_ ?_
     rotate_left
     ·refine pZ ?_
      rfl
     refine pure_ (i := 12) (N := some 52) (v := undef) (a' := ?_) (bA 19 8191) rfl rfl (any_of HT_.out (by kernel_rfl)) (fun _ _ _ h => h) (Or.inr ⟨by rfl, rfl⟩) ?_ ?_
     rotate_left
     ·refine pZ ?_
      rfl
     refine pure_ (i := 13) (N := some 53) (v := undef) (a' := ?_) (bA 19 16383) rfl rfl (any_of HT_.out (by kernel_rfl)) (fun _ _ _ h => h) (Or.inr ⟨by rfl, rfl⟩) ?_ ?_
     rotate_left
     ·refine pZ ?_
      rfl
     refine pure_ (i := 14) (N := some 54) (v := undef) (a' := ?_) (bA 19 32767) rfl rfl (any_of HT_.out (by kernel_rfl)) (fun _ _ _ h => h) (Or.inr ⟨by rfl, rfl⟩) ?_ ?_
     rotate_left
     ·refine pZ ?_
      rfl
     refine pure_ (i := 15) (N := some 55) (v := undef) (a' := ?_) (bA 19 65535) rfl rfl (any_of HT_.out (by kernel_rfl)) (fun _ _ _ h => h) (Or.inr ⟨by rfl, rfl⟩) ?_ ?_
     rotate_left
     ·refine pZ ?_
      rfl
     refine pure_ (i := 16) (N := some 56) (v := undef) (a' := ?_) (bA 19 131071) rfl rfl (any_of HT_.out (by kernel_rfl)) (fun _ _ _ h => h) (Or.inr ⟨by rfl, rfl⟩) ?_ ?_
     rotate_left
     ·refine pZ ?_
      rfl
     refine pure_ (i := 17) (N := some 57) (v := undef) (a' := ?_) (bA 19 262143) rfl rfl (any_of HT_.out (by kernel_rfl)) (fun _ _ _ h => h) (Or.inr ⟨by rfl, rfl⟩) ?_ ?_
     rotate_left
     ·refine pZ ?_
      rfl
     refine pQ 18 58 HT_ (bA 19 524287) ?_
     refine done_ (done_of HT_.out (by kernel_rfl)) ?_
     try go_wp2
     go_meet
     case rel => exact ⟨_, (true), qE, H', ⟨by have := HJ1.out; first | omega | exact Nat.le_refl _⟩, ⟨by refine qR ?_; exact HO320.out⟩, ⟨by refine qB ?_; exact BK307.out⟩, ⟨by exact qW HB.out⟩⟩
    subst c25
    have H1 : (if 3 < (l0.length : Int) then (if 2 < (l0.length : Int) then (if 4 < (l0.length : Int) then (spec_ReadImage.j1 kj1 l0 t317 ((t317.length : Int) != (wrap64 ((rd l0 3) * (wrap64 ((wrap64 ((rd l0 2) * (rd l0 4))) + 1)))))) else (none)) else (none)) else (none)) = some (r1, r2, r3, r4, r5) := by rw [if_pos rfl] at H; exact H
    clear H
    have H := H1
    clear H1
    replace H := iS H
    obtain ⟨c26, H⟩ := H
    have c26b0 : decide (3 < (l0.length : Int)) = true := decide_eq_true c26
    have c26b1 : decide (3 < l0.length) = true := decide_eq_true (by omega)
    clear c26
    (first | rw [c26b0] | (simp only [i64_w, i32_w]; rw [c26b0]) | skip)
    replace H := iS H
    obtain ⟨c27, H⟩ := H
    have c27b0 : decide (2 < (l0.length : Int)) = true := decide_eq_true c27
    have c27b1 : decide (2 < l0.length) = true := decide_eq_true (by omega)
    clear c27
    replace H := iS H
    obtain ⟨c28, H⟩ := H
    have c28b0 : decide (4 < (l0.length : Int)) = true := decide_eq_true c28
    have c28b1 : decide (4 < l0.length) = true := decide_eq_true (by omega)
    clear c28
    have H' := aM H
    clear H
    try go_wp2
    replace HO316 := aM (Kd.R_drew HO316.out)
    replace HO320 := aM (Kd.R_drew HO320.out)
    replace BK307 := aM (blk_drew BK307.out)
    replace HB := aM (below_drew1 HB.out)
    obtain ⟨Ao30, co30, eo30⟩ := Kd.R_slice HO320.out
    (first | subst eo30 | (injection eo30 with f1_ f2_ f3_; have f4_ := f1_.symm; have f5_ := f3_.symm; clear f1_ f2_ f3_; subst f4_; subst f5_))
    have p321 : 0 ≤ (3 : Int) := (by omega)
    have q321 : 3 < (l0.length : Int) := oD
    obtain ⟨ad321, e321, hx321_0⟩ := Kd.at_int HR0.out 3 p321 q321
    have hw321_0 := hx321_0
    (try rw [show ((3 : Int)).toNat = 3 from rfl] at hw321_0)
    (try rw [show 3 * 1 = 3 from rfl] at hw321_0)
    (try simp only [Nat.reduceMul, Nat.reduceEqDiff, Go.Addr.add, ↓reduceIte] at hw321_0)
    cases e321
    (try simp only [show (3 : Int).toNat = 3 from rfl, Nat.reduceMul, Nat.reduceEqDiff, Go.Addr.add, ↓reduceIte] at hx321_0)
    have qi321 : (3 < l0.length) = True := eq_true (by omega)
    (try rw [show ((3 : Int)).toNat = 3 from rfl] at hx321_0)
    replace hx321_0 := bD HB hx321_0
    replace p321 := eq_true p321
    replace q321 := eq_true q321
    have p322 : 0 ≤ (2 : Int) := (by omega)
    have q322 : 2 < (l0.length : Int) := oD
    obtain ⟨ad322, e322, hx322_0⟩ := Kd.at_int HR0.out 2 p322 q322
    have hw322_0 := hx322_0
    (try rw [show ((2 : Int)).toNat = 2 from rfl] at hw322_0)
    (try rw [show 2 * 1 = 2 from rfl] at hw322_0)
    (try simp only [Nat.reduceMul, Nat.reduceEqDiff, Go.Addr.add, ↓reduceIte] at hw322_0)
    obtain rfl : ad321 = ad322 := (by injection e322)
    (try simp only [show (2 : Int).toNat = 2 from rfl, Nat.reduceMul, Nat.reduceEqDiff, Go.Addr.add, ↓reduceIte] at hx322_0)
    have qi322 : (2 < l0.length) = True := eq_true (by omega)
    (try rw [show ((2 : Int)).toNat = 2 from rfl] at hx322_0)
    replace hx322_0 := bD HB hx322_0
    replace p322 := eq_true p322
    replace q322 := eq_true q322
    have p323 : 0 ≤ (4 : Int) := (by omega)
    have q323 : 4 < (l0.length : Int) := oD
    obtain ⟨ad323, e323, hx323_0⟩ := Kd.at_int HR0.out 4 p323 q323
    have hw323_0 := hx323_0
    (try rw [show ((4 : Int)).toNat = 4 from rfl] at hw323_0)
    (try rw [show 4 * 1 = 4 from rfl] at hw323_0)
    (try simp only [Nat.reduceMul, Nat.reduceEqDiff, Go.Addr.add, ↓reduceIte] at hw323_0)
    obtain rfl : ad321 = ad323 := (by injection e323)
    (try simp only [show (4 : Int).toNat = 4 from rfl, Nat.reduceMul, Nat.reduceEqDiff, Go.Addr.add, ↓reduceIte] at hx323_0)
    have qi323 : (4 < l0.length) = True := eq_true (by omega)
    (try rw [show ((4 : Int)).toNat = 4 from rfl] at hx323_0)
    replace hx323_0 := bD HB hx323_0
    replace p323 := eq_true p323
    replace q323 := eq_true q323
    refine start_ (n := 19) (S := fun w' => w'.cell? ⟨ad321.block, ad321.off + 3, none⟩ = some (.int .i64 (rd l0 3)) ∧ w'.cell? ⟨ad321.block, ad321.off + 2, none⟩ = some (.int .i64 (rd l0 2)) ∧ w'.cell? ⟨ad321.block, ad321.off + 4, none⟩ = some (.int .i64 (rd l0 4))) (ds := []) (bA 19 0) (by kernel_rfl) rfl rfl ⟨(bC HB hw321_0), (bC HB hw322_0), (bC HB hw323_0)⟩ (fun hHeld => ?_); refine with_tabW spec_ReadImage.tab4 spec_ReadImage.bits4 (fun HT_ HW_ => ?_)
    generalize w24.drew = w29 at HO316 HO320 BK307 HB hx321_0 hx322_0 hx323_0 hHeld ⊢
    refine pQ 0 40 HT_ (bA 19 1) ?_
    refine pQ 1 41 HT_ (bA 19 3) ?_
    refine pQ 2 42 HT_ (bA 19 7) ?_
    refine pQ 3 43 HT_ (bA 19 15) ?_
    refine pQ 4 44 HT_ (bA 19 31) ?_
    refine pQ 5 45 HT_ (bA 19 63) ?_
    refine pQ 6 46 HT_ (bA 19 127) ?_
    refine pQ 8 48 HT_ (bA 19 383) ?_
    refine pQ 9 49 HT_ (bA 19 895) ?_
    refine pQ 11 51 HT_ (bA 19 2943) ?_
    refine pQ 12 52 HT_ (bA 19 7039) ?_
    refine take_ (i := 7) (N := some 47) (v := ?_) (a' := ?_) (bA 19 7167) rfl rfl (take_ofW HT_.out HW_.out (by kernel_rfl)) (fun _ _ _ h => h) (Or.inl ⟨by rfl, ?_⟩) hHeld ?_ ?_
    rotate_left
    ·rintro w' ⟨s0, s1, s2⟩
     go_simp
     with_reducible rfl
    rotate_left
    ·refine pZ ?_
     rfl
    refine take_ (i := 10) (N := some 50) (v := ?_) (a' := ?_) (bA 19 8191) rfl rfl (take_ofW HT_.out HW_.out (by kernel_rfl)) (fun _ _ _ h => h) (Or.inl ⟨by rfl, ?_⟩) hHeld ?_ ?_
    rotate_left
    ·rintro w' ⟨s0, s1, s2⟩
     go_simp
     with_reducible rfl
    rotate_left
    ·refine pZ ?_
     rfl
    refine take_ (i := 13) (N := some 53) (v := ?_) (a' := ?_) (bA 19 16383) rfl rfl (take_ofW HT_.out HW_.out (by kernel_rfl)) (fun _ _ _ h => h) (Or.inl ⟨by rfl, ?_⟩) hHeld ?_ ?_
    rotate_left
    ·rintro w' ⟨s0, s1, s2⟩
     go_simp
     with_reducible rfl
    rotate_left
    ·refine pZ ?_
     rfl
    refine pQ 14 54 HT_ (bA 19 32767) ?_
    refine pQ 15 55 HT_ (bA 19 65535) ?_
    refine pQ 16 56 HT_ (bA 19 131071) ?_
    refine pQ 17 57 HT_ (bA 19 262143) ?_
    refine pQ 18 58 HT_ (bA 19 524287) ?_
    refine done_ (done_of HT_.out (by kernel_rfl)) ?_
    try go_wp2
    go_meet
    case rel => exact ⟨_, (((t317.length : Int) != (wrap64 ((rd l0 3) * (wrap64 ((wrap64 ((rd l0 2) * (rd l0 4))) + 1)))))), qE, H', ⟨by have := HJ1.out; first | omega | exact Nat.le_refl _⟩, ⟨by refine qR ?_; exact HO320.out⟩, ⟨by refine qB ?_; exact BK307.out⟩, ⟨by exact qW HB.out⟩⟩
   case rest =>
    clear HC20
    try clear c5
    try clear c6
    try clear c6b0
    try clear c6b1
    try clear c8
    try clear c8b0
    try clear c8b1
    try clear c9
    try clear c9b0
    try clear c9b1
    try clear c10
    try clear c10b0
    try clear c10b1
    try clear c14
    try clear c16
    try clear c16b0
    try clear c16b1
    try clear c17
    try clear c17b0
    try clear c17b1
    try clear c25
    try clear c26
    try clear c26b0
    try clear c26b1
    try clear c27
    try clear c27b0
    try clear c27b1
    try clear c28
    try clear c28b0
    try clear c28b1
    try clear hcz15_0 hcz15_1 hcz15_2 hcz15_3 hfz15_0 hfz15_1 hfz15_2 hfz15_3
    try clear hx309_0
    try clear hx310_0
    try clear hx311_0
    try clear hx321_0
    try clear hx322_0
    try clear hx323_0
    try clear p309
    try clear p310
    try clear p311
    try clear p321
    try clear p322
    try clear p323
    try clear q309
    try clear q310
    try clear q311
    try clear q321
    try clear q322
    try clear q323
    obtain ⟨kq, x58_19, rfl, HA, HJ19, HO_4, BK307, HB⟩ := hcut
    cases kq with
    | zero => exact absurd HA.out (by simp [spec_ReadImage.j1])
    | succ kj19 =>
     have H := HA.out
     clear HA
     simp only [spec_ReadImage.j1] at H
     by_cases c32 : x58_19 = true
     ·subst c32
      have H1 : (some (0, 0, 0, ([] : List Int), false)) = some (r1, r2, r3, r4, r5) := by rw [if_pos rfl] at H; exact H
      clear H
      have H := H1
      clear H1
      simp only [Option.some.injEq, Prod.mk.injEq] at H
      obtain ⟨rfl, rfl, rfl, rfl, rfl⟩ := H
      obtain ⟨⟨hcz33_0, hcz33_1, hcz33_2, hcz33_3⟩, hfz33_0, hfz33_1, hfz33_2, hfz33_3⟩ := cf4 BK307
      go_wp2
      refine bodyPost_ret (results_ct rfl _ _ gb307 24 #[.int .i64 0, .int .i64 0, .int .i64 0, .slice none 0 0] (0, 0) _ rfl (by exact bP BK307.out) Try.underlying24 rfl (by kernel_rfl)) rfl ?_
      exact ⟨_, qX, qN, by exact qW HB.out⟩
     replace c32 := Bool.eq_false_iff.mpr c32
     subst c32
     have H1 : (if 2 < (l0.length : Int) then (if 3 < (l0.length : Int) then (if 4 < (l0.length : Int) then ((spec_unfilterImage.f kj19 (rd l0 2) (rd l0 3) (rd l0 4) t317).bind fun bt327 => (if bt327.2.2.2.2 = true then ((spec_writeImage.f kj19 bt327.1 bt327.2.1 bt327.2.2.1 bt327.2.2.2.1).bind fun t335 => ((spec_equalInts.f kj19 t335 l0).bind fun t338 => (if t338 = true then (some (bt327.1, bt327.2.1, bt327.2.2.1, bt327.2.2.2.1, true)) else (some (0, 0, 0, ([] : List Int), false))))) else (some (0, 0, 0, ([] : List Int), false)))) else (none)) else (none)) else (none)) = some (r1, r2, r3, r4, r5) := by rw [if_neg (show ¬ (false = true) by decide)] at H; exact H
     clear H
     have H := H1
     clear H1
     replace H := iS H
     obtain ⟨c34, H⟩ := H
     have c34b0 : decide (2 < (l0.length : Int)) = true := decide_eq_true c34
     have c34b1 : decide (2 < l0.length) = true := decide_eq_true (by omega)
     clear c34
     replace H := iS H
     obtain ⟨c35, H⟩ := H
     have c35b0 : decide (3 < (l0.length : Int)) = true := decide_eq_true c35
     have c35b1 : decide (3 < l0.length) = true := decide_eq_true (by omega)
     clear c35
     replace H := iS H
     obtain ⟨c36, H⟩ := H
     have c36b0 : decide (4 < (l0.length : Int)) = true := decide_eq_true c36
     have c36b1 : decide (4 < l0.length) = true := decide_eq_true (by omega)
     clear c36
     replace H := Option.bind_eq_some_iff.mp H
     obtain ⟨⟨t327, t328, t329, t330, t333⟩, A370, H⟩ := H
     replace H : (if t333 = true then ((spec_writeImage.f kj19 t327 t328 t329 t330).bind fun t335 => ((spec_equalInts.f kj19 t335 l0).bind fun t338 => (if t338 = true then (some (t327, t328, t329, t330, true)) else (some (0, 0, 0, ([] : List Int), false))))) else (some (0, 0, 0, ([] : List Int), false))) = some (r1, r2, r3, r4, r5) := H
     have A37 := aM A370
     clear A370
     by_cases c38 : t333 = true
     rotate_left
     ·replace c38 := Bool.eq_false_iff.mpr c38
      subst c38
      have H1 : (some (0, 0, 0, ([] : List Int), false)) = some (r1, r2, r3, r4, r5) := by rw [if_neg (show ¬ (false = true) by decide)] at H; exact H
      clear H
      have H := H1
      clear H1
      simp only [Option.some.injEq, Prod.mk.injEq] at H
      obtain ⟨rfl, rfl, rfl, rfl, rfl⟩ := H
      obtain ⟨Ao73, co73, rfl⟩ := sL HO_4
      try go_wp2
      replace HO_4 := aM (Kd.R_drew HO_4.out)
      replace BK307 := aM (blk_drew BK307.out)
      replace HB := aM (below_drew1 HB.out)
      have p324 : 0 ≤ (2 : Int) := (by omega)
      have q324 : 2 < (l0.length : Int) := oD
      obtain ⟨ad324, e324, hx324_0⟩ := Kd.at_int HR0.out 2 p324 q324
      have hw324_0 := hx324_0
      (try rw [show ((2 : Int)).toNat = 2 from rfl] at hw324_0)
      (try rw [show 2 * 1 = 2 from rfl] at hw324_0)
      (try simp only [Nat.reduceMul, Nat.reduceEqDiff, Go.Addr.add, ↓reduceIte] at hw324_0)
      cases e324
      (try simp only [show (2 : Int).toNat = 2 from rfl, Nat.reduceMul, Nat.reduceEqDiff, Go.Addr.add, ↓reduceIte] at hx324_0)
      have qi324 : (2 < l0.length) = True := eq_true (by omega)
      (try rw [show ((2 : Int)).toNat = 2 from rfl] at hx324_0)
      replace hx324_0 := bD HB hx324_0
      replace p324 := eq_true p324
      replace q324 := eq_true q324
      have p325 : 0 ≤ (3 : Int) := (by omega)
      have q325 : 3 < (l0.length : Int) := oD
      obtain ⟨ad325, e325, hx325_0⟩ := Kd.at_int HR0.out 3 p325 q325
      have hw325_0 := hx325_0
      (try rw [show ((3 : Int)).toNat = 3 from rfl] at hw325_0)
      (try rw [show 3 * 1 = 3 from rfl] at hw325_0)
      (try simp only [Nat.reduceMul, Nat.reduceEqDiff, Go.Addr.add, ↓reduceIte] at hw325_0)
      obtain rfl : ad324 = ad325 := (by injection e325)
      (try simp only [show (3 : Int).toNat = 3 from rfl, Nat.reduceMul, Nat.reduceEqDiff, Go.Addr.add, ↓reduceIte] at hx325_0)
      have qi325 : (3 < l0.length) = True := eq_true (by omega)
      (try rw [show ((3 : Int)).toNat = 3 from rfl] at hx325_0)
      replace hx325_0 := bD HB hx325_0
      replace p325 := eq_true p325
      replace q325 := eq_true q325
      have p326 : 0 ≤ (4 : Int) := (by omega)
      have q326 : 4 < (l0.length : Int) := oD
      obtain ⟨ad326, e326, hx326_0⟩ := Kd.at_int HR0.out 4 p326 q326
      have hw326_0 := hx326_0
      (try rw [show ((4 : Int)).toNat = 4 from rfl] at hw326_0)
      (try rw [show 4 * 1 = 4 from rfl] at hw326_0)
      (try simp only [Nat.reduceMul, Nat.reduceEqDiff, Go.Addr.add, ↓reduceIte] at hw326_0)
      obtain rfl : ad324 = ad326 := (by injection e326)
      (try simp only [show (4 : Int).toNat = 4 from rfl, Nat.reduceMul, Nat.reduceEqDiff, Go.Addr.add, ↓reduceIte] at hx326_0)
      have qi326 : (4 < l0.length) = True := eq_true (by omega)
      (try rw [show ((4 : Int)).toNat = 4 from rfl] at hx326_0)
      replace hx326_0 := bD HB hx326_0
      replace p326 := eq_true p326
      replace q326 := eq_true q326
      refine start_ (n := 17) (S := fun w' => w'.cell? ⟨ad324.block, ad324.off + 2, none⟩ = some (.int .i64 (rd l0 2)) ∧ w'.cell? ⟨ad324.block, ad324.off + 3, none⟩ = some (.int .i64 (rd l0 3)) ∧ w'.cell? ⟨ad324.block, ad324.off + 4, none⟩ = some (.int .i64 (rd l0 4))) (ds := []) (bA 17 0) (by kernel_rfl) rfl rfl ⟨(bC HB hw324_0), (bC HB hw325_0), (bC HB hw326_0)⟩ (fun hHeld => ?_); refine with_tabW spec_ReadImage.tab6 spec_ReadImage.bits6 (fun HT_ HW_ => ?_)
      generalize wc.drew = w74 at HO_4 BK307 HB hx324_0 hx325_0 hx326_0 hHeld ⊢
      refine pQ 0 61 HT_ (bA 17 1) ?_
      refine pQ 1 62 HT_ (bA 17 3) ?_
      refine pQ 3 64 HT_ (bA 17 11) ?_
      refine pQ 4 65 HT_ (bA 17 27) ?_
      refine pQ 6 67 HT_ (bA 17 91) ?_
      refine pQ 7 68 HT_ (bA 17 219) ?_
      refine pQ 9 70 HT_ (bA 17 731) ?_
      refine take_ (i := 2) (N := some 63) (v := ?_) (a' := ?_) (bA 17 735) rfl rfl (take_ofW HT_.out HW_.out (by kernel_rfl)) (fun _ _ _ h => h) (Or.inl ⟨by rfl, ?_⟩) hHeld ?_ ?_
      rotate_left
      ·rintro w' ⟨s0, s1, s2⟩
       go_simp
       with_reducible rfl
      rotate_left
      ·refine pZ ?_
       rfl
      refine take_ (i := 5) (N := some 66) (v := ?_) (a' := ?_) (bA 17 767) rfl rfl (take_ofW HT_.out HW_.out (by kernel_rfl)) (fun _ _ _ h => h) (Or.inl ⟨by rfl, ?_⟩) hHeld ?_ ?_
      rotate_left
      ·rintro w' ⟨s0, s1, s2⟩
       go_simp
       with_reducible rfl
      rotate_left
      ·refine pZ ?_
       rfl
      refine take_ (i := 8) (N := some 69) (v := ?_) (a' := ?_) (bA 17 1023) rfl rfl (take_ofW HT_.out HW_.out (by kernel_rfl)) (fun _ _ _ h => h) (Or.inl ⟨by rfl, ?_⟩) hHeld ?_ ?_
      rotate_left
      ·rintro w' ⟨s0, s1, s2⟩
       go_simp
       with_reducible rfl
      rotate_left
      ·refine pZ ?_
       rfl
      refine join_ (σ := Value × Nat) 2 (bA 17 32767) (fun s_ => [(71, .tuple #[.agg #[.int .i64 t327, .int .i64 t328, .int .i64 t329, s_.1], .bool false]), (6, .pointer (some ⟨s_.2, 0, none⟩)), (60, .tuple #[.agg #[.int .i64 t327, .int .i64 t328, .int .i64 t329, s_.1], .bool false]), (72, .agg #[.int .i64 t327, .int .i64 t328, .int .i64 t329, s_.1]), (73, .bool false)]) (fun s_ w' => (w'.cell? ⟨ad324.block, ad324.off + 2, none⟩ = some (.int .i64 (rd l0 2)) ∧ w'.cell? ⟨ad324.block, ad324.off + 3, none⟩ = some (.int .i64 (rd l0 3)) ∧ w'.cell? ⟨ad324.block, ad324.off + 4, none⟩ = some (.int .i64 (rd l0 4))) ∧ (Kd.R (Kd.int .i64) 3 w' w.heap.size (fun k_ => some k_ ≠ (.slice Ao73 t317.length co73 : Value).ownBlock) s_.1 t330) ∧ (Kd.R (Kd.int .i64) 3 w' w.heap.size (fun k_ => some k_ ≠ (s_.1 : Value).ownBlock) (.slice Ao73 t317.length co73) t317) ∧ (w'.heap[gb307]? = some (.cells #[.int .i64 0, .int .i64 0, .int .i64 0, .slice none 0 0] 24 (0, 0))) ∧ (w'.heap[s_.2]? = some (.cells #[.int .i64 0, .int .i64 0, .int .i64 0, .slice none 0 0] 24 (0, 0))) ∧ (w.heap.size ≤ s_.2) ∧ (w.heap.size ≤ s_.2) ∧ (gb307 ≠ s_.2) ∧ (s_.2 ≠ gb307) ∧ (Below w.heap.size w w')) ?_ ?_
      rotate_left
      ·intro hCont
       refine two_ (i := 10) (j := 14) (Ni := some 71) (Nj := some 6) (bA 17 2047) (bA 17 17407) rfl rfl rfl rfl (two_of HT_.out (by kernel_rfl)) (by decide) (by decide) (fun K hK => ?_) (fun K hK => ?_)
       ·skip
        refine goes_ Try.func40 (by kernel_rfl) rfl #[.int .i64 (rd l0 2), .int .i64 (rd l0 3), .int .i64 (rd l0 4), .slice Ao73 t317.length co73] (by rfl) rfl rfl qM ?_
        with_reducible refine (spec_unfilterImage.calls kj19 (rd l0 2) (rd l0 3) (rd l0 4) _ _ t317 t327 t328 t329 t330 false _ ?side1 ?side2 A37.out).mono ?_
        (case side1 => exact qC (Kd.R_reads' HO_4.out).2.2)
        (case side2 => exact (Kd.R_reads' HO_4.out).2.1)
        rintro e w75 ⟨v331, rfl, ho0, hb⟩
        refine ⟨_, rfl, ?_⟩
        have HO332 := nR ho0 HO_4 HB
        replace HO_4 := aM (Kd.R_elder' (qR HO_4.out) (Kd.R_base ho0) hb)
        replace BK307 := bB BK307 hb
        replace HB := bS HB hb
        (try clear hb)
        (try clear hb2)
        (try clear hk)
        (try clear hi)
        (try clear ho0)
        refine hK.out _ _ ⟨(bC HB hw324_0), (bC HB hw325_0), (bC HB hw326_0)⟩ (fun hHeld => ?_)
        clear hK K
        refine norm_ (a' := ?_) ?_ ?_
        rotate_left
        ·show Act.put _ (some 71) _ = _
         refine pZ ?_
         rfl
        refine pQ 11 60 HT_ (bA 17 4095) ?_
        refine pQ 12 72 HT_ (bA 17 8191) ?_
        refine pQ 13 73 HT_ (bA 17 16383) ?_
        refine one_ (i := 14) (N := some 6) (bA 17 32767) rfl rfl (one_of HT_.out (by kernel_rfl)) (by decide) (fun K hK => ?_)
        refine box_step ?hg (N := 6) ?hd (cs := #[.int .i64 0, .int .i64 0, .int .i64 0, .slice none 0 0]) (t := 24) ?hr ?_; (case hd => rfl); (case hg => rfl); (case hr => first | (go_simp; done) | (go_simp; rfl))
        intro gb334 hg w76 hbox hb
        replace HO_4 := aM (Kd.R_below (qR HO_4.out) hb)
        replace HO332 := aM (Kd.R_below (qR HO332.out) hb)
        have BK334 := aM (hbox)
        have GW334 := gW hg HB
        have GE334 := gW hg HB
        replace HB := bS HB hb
        have NB307_334 := nL hg BK307
        have NB334_307 := nG hg BK307
        replace BK307 := bB BK307 hb
        clear hb hbox hg
        refine hK.out _ _ ⟨(bC HB hw324_0), (bC HB hw325_0), (bC HB hw326_0)⟩ (fun hHeld => ?_)
        clear hK K
        refine norm_ (a' := ?_) ?_ ?_
        rotate_left
        ·show Act.put _ (some 6) _ = _
         refine pZ ?_
         rfl
        exact norm_ (by simp only [putAll, Act.put, List.setIfInBounds_toArray, List.set_cons_zero, List.set_cons_succ]) (hCont (v331, gb334) _ ⟨hHeld, (by refine qR ?_; exact Kd.R_mono HO332.out (fun _ hk => hk.2)), (by refine qR ?_; exact Kd.R_mono HO_4.out (fun _ hk => hk.2)), (qB BK307.out), (qB BK334.out), GW334.out, GE334.out, NB307_334.out, NB334_307.out, (qW HB.out)⟩)
       skip
       refine box_step ?hg (N := 6) ?hd (cs := #[.int .i64 0, .int .i64 0, .int .i64 0, .slice none 0 0]) (t := 24) ?hr ?_; (case hd => rfl); (case hg => rfl); (case hr => first | (go_simp; done) | (go_simp; rfl))
       intro gb334 hg w75 hbox hb
       replace HO_4 := aM (Kd.R_below (qR HO_4.out) hb)
       have BK334 := aM (hbox)
       have GW334 := gW hg HB
       have GE334 := gW hg HB
       replace HB := bS HB hb
       have NB307_334 := nL hg BK307
       have NB334_307 := nG hg BK307
       replace BK307 := bB BK307 hb
       clear hb hbox hg
       refine hK.out _ _ ⟨(bC HB hw324_0), (bC HB hw325_0), (bC HB hw326_0)⟩ (fun hHeld => ?_)
       clear hK K
       refine norm_ (a' := ?_) ?_ ?_
       rotate_left
       ·show Act.put _ (some 6) _ = _
        refine pZ ?_
        rfl
       refine one_ (i := 10) (N := some 71) (bA 17 18431) rfl rfl (one_of HT_.out (by kernel_rfl)) (by decide) (fun K hK => ?_)
       refine goes_ Try.func40 (by kernel_rfl) rfl #[.int .i64 (rd l0 2), .int .i64 (rd l0 3), .int .i64 (rd l0 4), .slice Ao73 t317.length co73] (by rfl) rfl rfl qM ?_
       with_reducible refine (spec_unfilterImage.calls kj19 (rd l0 2) (rd l0 3) (rd l0 4) _ _ t317 t327 t328 t329 t330 false _ ?side1 ?side2 A37.out).mono ?_
       (case side1 => exact qC (Kd.R_reads' HO_4.out).2.2)
       (case side2 => exact (Kd.R_reads' HO_4.out).2.1)
       rintro e w76 ⟨v331, rfl, ho0, hb⟩
       refine ⟨_, rfl, ?_⟩
       have HO332 := nR ho0 HO_4 HB
       replace HO_4 := aM (Kd.R_elder' (qR HO_4.out) (Kd.R_base ho0) hb)
       replace BK307 := bB BK307 hb
       replace BK334 := bB BK334 hb
       replace HB := bS HB hb
       (try clear hb)
       (try clear hb2)
       (try clear hk)
       (try clear hi)
       (try clear ho0)
       refine hK.out _ _ ⟨(bC HB hw324_0), (bC HB hw325_0), (bC HB hw326_0)⟩ (fun hHeld => ?_)
       clear hK K
       refine norm_ (a' := ?_) ?_ ?_
       rotate_left
       ·show Act.put _ (some 71) _ = _
        refine pZ ?_
        rfl
       refine pQ 11 60 HT_ (bA 17 20479) ?_
       refine pQ 12 72 HT_ (bA 17 24575) ?_
       refine pQ 13 73 HT_ (bA 17 32767) ?_
       exact norm_ (by simp only [putAll, Act.put, List.setIfInBounds_toArray, List.set_cons_zero, List.set_cons_succ]) (hCont (v331, gb334) _ ⟨hHeld, (by refine qR ?_; exact Kd.R_mono HO332.out (fun _ hk => hk.2)), (by refine qR ?_; exact Kd.R_mono HO_4.out (fun _ hk => hk.2)), (qB BK307.out), (qB BK334.out), GW334.out, GE334.out, NB307_334.out, NB334_307.out, (qW HB.out)⟩)
      rintro ⟨v331, gb334⟩ w77 ⟨hS_, h0_, h1_, h2_, h3_, h4_, h5_, h6_, h7_, h8_⟩
      have HO332 : Aside0 (Kd.R (Kd.int .i64) 3 w77 w.heap.size (fun k_ => some k_ ≠ (.slice Ao73 t317.length co73 : Value).ownBlock) v331 t330) := ⟨h0_⟩
      replace HO_4 : Aside0 (Kd.R (Kd.int .i64) 3 w77 w.heap.size (fun k_ => some k_ ≠ (v331 : Value).ownBlock) (.slice Ao73 t317.length co73) t317) := ⟨h1_⟩
      replace BK307 : Aside0 (w77.heap[gb307]? = some (.cells #[.int .i64 0, .int .i64 0, .int .i64 0, .slice none 0 0] 24 (0, 0))) := ⟨h2_⟩
      have BK334 : Aside0 (w77.heap[gb334]? = some (.cells #[.int .i64 0, .int .i64 0, .int .i64 0, .slice none 0 0] 24 (0, 0))) := ⟨h3_⟩
      have GW334 : Aside0 (w.heap.size ≤ gb334) := ⟨h4_⟩
      have GE334 : Aside0 (w.heap.size ≤ gb334) := ⟨h5_⟩
      have NB307_334 : Aside0 (gb307 ≠ gb334) := ⟨h6_⟩
      have NB334_307 : Aside0 (gb334 ≠ gb307) := ⟨h7_⟩
      replace HB : Aside0 (Below w.heap.size w w77) := ⟨h8_⟩
      clear h0_ h1_ h2_ h3_ h4_ h5_ h6_ h7_ h8_
      have hHeld : w77.cell? ⟨ad324.block, ad324.off + 2, none⟩ = some (.int .i64 (rd l0 2)) ∧ w77.cell? ⟨ad324.block, ad324.off + 3, none⟩ = some (.int .i64 (rd l0 3)) ∧ w77.cell? ⟨ad324.block, ad324.off + 4, none⟩ = some (.int .i64 (rd l0 4)) := hS_
      obtain ⟨Ao81, co81, eo81⟩ := Kd.R_slice HO332.out
      (first | subst eo81 | (injection eo81 with f1_ f2_ f3_; have f4_ := f1_.symm; have f5_ := f3_.symm; clear f1_ f2_ f3_; subst f4_; subst f5_))
      refine norm_ (a' := ?_) ?_ ?_
      rotate_left
      ·simp only [putAll, Act.put, List.setIfInBounds_toArray, List.set_cons_zero, List.set_cons_succ]
       rfl
      refine one_ (i := 15) (N := none) (bA 17 65535) rfl rfl (one_of HT_.out (by kernel_rfl)) (by decide) (fun K hK => ?_)
      have hs78 : w77.cell? ⟨gb334, 0, none⟩ = some (.int .i64 0) := (blk_cell BK334.out 0).trans rfl
      have hfs78 := blk_frozen BK334.out 0
      have hns78_0 := NB307_334.out
      have hms78_0 := NB334_307.out
      have hs79 : w77.cell? ⟨gb334, 1, none⟩ = some (.int .i64 0) := (blk_cell BK334.out 1).trans rfl
      have hfs79 := blk_frozen BK334.out 1
      have hns79_0 := NB307_334.out
      have hms79_0 := NB334_307.out
      have hs80 : w77.cell? ⟨gb334, 2, none⟩ = some (.int .i64 0) := (blk_cell BK334.out 2).trans rfl
      have hfs80 := blk_frozen BK334.out 2
      have hns80_0 := NB307_334.out
      have hms80_0 := NB334_307.out
      have hs82 : w77.cell? ⟨gb334, 3, none⟩ = some (.slice none 0 0) := (blk_cell BK334.out 3).trans rfl
      have hfs82 := blk_frozen BK334.out 3
      have hns82_0 := NB307_334.out
      have hms82_0 := NB334_307.out
      refine skip_ (w1 := ?_) (by rfl) rfl ?_ ?_
      rotate_left
      ·go_simp
       rfl
      refine hK.out _ _ ⟨((cF hw324_0 GW334).trans (((cF hw324_0 GW334).trans (((cF hw324_0 GW334).trans (((cF hw324_0 GW334).trans (hHeld.1)))))))), ((cF hw325_0 GW334).trans (((cF hw325_0 GW334).trans (((cF hw325_0 GW334).trans (((cF hw325_0 GW334).trans (hHeld.2.1)))))))), ((cF hw326_0 GW334).trans (((cF hw326_0 GW334).trans (((cF hw326_0 GW334).trans (((cF hw326_0 GW334).trans (hHeld.2.2))))))))⟩ (fun hHeld => ?_)
      clear hK K
      refine pQ 16 7 HT_ (bA 17 131071) ?_
      refine done_ (done_of HT_.out (by kernel_rfl)) ?_
      have hnb83 := NB307_334.out
      have hnc83 := NB334_307.out
      obtain ⟨⟨hcz84_0, hcz84_1, hcz84_2, hcz84_3⟩, hfz84_0, hfz84_1, hfz84_2, hfz84_3⟩ := cf4 BK307
      try go_wp2
      refine bodyPost_ret (results_ct rfl _ _ gb307 24 #[.int .i64 0, .int .i64 0, .int .i64 0, .slice none 0 0] (0, 0) _ rfl (by refine qB ?_; refine blk_put (cs := #[.int .i64 0, .int .i64 0, .int .i64 0, .slice none 0 0]) ?_ 3 _ rfl; refine qB ?_; refine blk_put (cs := #[.int .i64 0, .int .i64 0, .int .i64 0, .slice none 0 0]) ?_ 2 _ rfl; refine qB ?_; refine blk_put (cs := #[.int .i64 0, .int .i64 0, .int .i64 0, .slice none 0 0]) ?_ 1 _ rfl; refine qB ?_; refine blk_put (cs := #[.int .i64 0, .int .i64 0, .int .i64 0, .slice none 0 0]) ?_ 0 _ rfl; refine qB ?_; refine blk_far ?_ NB307_334.out _; refine qB ?_; refine blk_far ?_ NB307_334.out _; refine qB ?_; refine blk_far ?_ NB307_334.out _; refine qB ?_; refine blk_far ?_ NB307_334.out _; refine qB ?_; exact BK307.out) Try.underlying24 rfl (by kernel_rfl)) rfl ?_
      exact ⟨_, qX, qN, by exact qW HB.out⟩
     subst c38
     have H1 : ((spec_writeImage.f kj19 t327 t328 t329 t330).bind fun t335 => ((spec_equalInts.f kj19 t335 l0).bind fun t338 => (if t338 = true then (some (t327, t328, t329, t330, true)) else (some (0, 0, 0, ([] : List Int), false))))) = some (r1, r2, r3, r4, r5) := by rw [if_pos rfl] at H; exact H
     clear H
     have H := H1
     clear H1
     replace H := Option.bind_eq_some_iff.mp H
     obtain ⟨t335, A390, H⟩ := H
     replace H : ((spec_equalInts.f kj19 t335 l0).bind fun t338 => (if t338 = true then (some (t327, t328, t329, t330, true)) else (some (0, 0, 0, ([] : List Int), false)))) = some (r1, r2, r3, r4, r5) := H
     have A39 := aM A390
     clear A390
     replace H := Option.bind_eq_some_iff.mp H
     obtain ⟨t338, A400, H⟩ := H
     replace H : (if t338 = true then (some (t327, t328, t329, t330, true)) else (some (0, 0, 0, ([] : List Int), false))) = some (r1, r2, r3, r4, r5) := H
     have A40 := aM A400
     clear A400
     by_cases c41 : t338 = true
     rotate_left
     ·replace c41 := Bool.eq_false_iff.mpr c41
      subst c41
      have H1 : (some (0, 0, 0, ([] : List Int), false)) = some (r1, r2, r3, r4, r5) := by rw [if_neg (show ¬ (false = true) by decide)] at H; exact H
      clear H
      have H := H1
      clear H1
      simp only [Option.some.injEq, Prod.mk.injEq] at H
      obtain ⟨rfl, rfl, rfl, rfl, rfl⟩ := H
      obtain ⟨Ao58, co58, rfl⟩ := sL HO_4
      try go_wp2
      replace HO_4 := aM (Kd.R_drew HO_4.out)
      replace BK307 := aM (blk_drew BK307.out)
      replace HB := aM (below_drew1 HB.out)
      have p324 : 0 ≤ (2 : Int) := (by omega)
      have q324 : 2 < (l0.length : Int) := oD
      obtain ⟨ad324, e324, hx324_0⟩ := Kd.at_int HR0.out 2 p324 q324
      have hw324_0 := hx324_0
      (try rw [show ((2 : Int)).toNat = 2 from rfl] at hw324_0)
      (try rw [show 2 * 1 = 2 from rfl] at hw324_0)
      (try simp only [Nat.reduceMul, Nat.reduceEqDiff, Go.Addr.add, ↓reduceIte] at hw324_0)
      cases e324
      (try simp only [show (2 : Int).toNat = 2 from rfl, Nat.reduceMul, Nat.reduceEqDiff, Go.Addr.add, ↓reduceIte] at hx324_0)
      have qi324 : (2 < l0.length) = True := eq_true (by omega)
      (try rw [show ((2 : Int)).toNat = 2 from rfl] at hx324_0)
      replace hx324_0 := bD HB hx324_0
      replace p324 := eq_true p324
      replace q324 := eq_true q324
      have p325 : 0 ≤ (3 : Int) := (by omega)
      have q325 : 3 < (l0.length : Int) := oD
      obtain ⟨ad325, e325, hx325_0⟩ := Kd.at_int HR0.out 3 p325 q325
      have hw325_0 := hx325_0
      (try rw [show ((3 : Int)).toNat = 3 from rfl] at hw325_0)
      (try rw [show 3 * 1 = 3 from rfl] at hw325_0)
      (try simp only [Nat.reduceMul, Nat.reduceEqDiff, Go.Addr.add, ↓reduceIte] at hw325_0)
      obtain rfl : ad324 = ad325 := (by injection e325)
      (try simp only [show (3 : Int).toNat = 3 from rfl, Nat.reduceMul, Nat.reduceEqDiff, Go.Addr.add, ↓reduceIte] at hx325_0)
      have qi325 : (3 < l0.length) = True := eq_true (by omega)
      (try rw [show ((3 : Int)).toNat = 3 from rfl] at hx325_0)
      replace hx325_0 := bD HB hx325_0
      replace p325 := eq_true p325
      replace q325 := eq_true q325
      have p326 : 0 ≤ (4 : Int) := (by omega)
      have q326 : 4 < (l0.length : Int) := oD
      obtain ⟨ad326, e326, hx326_0⟩ := Kd.at_int HR0.out 4 p326 q326
      have hw326_0 := hx326_0
      (try rw [show ((4 : Int)).toNat = 4 from rfl] at hw326_0)
      (try rw [show 4 * 1 = 4 from rfl] at hw326_0)
      (try simp only [Nat.reduceMul, Nat.reduceEqDiff, Go.Addr.add, ↓reduceIte] at hw326_0)
      obtain rfl : ad324 = ad326 := (by injection e326)
      (try simp only [show (4 : Int).toNat = 4 from rfl, Nat.reduceMul, Nat.reduceEqDiff, Go.Addr.add, ↓reduceIte] at hx326_0)
      have qi326 : (4 < l0.length) = True := eq_true (by omega)
      (try rw [show ((4 : Int)).toNat = 4 from rfl] at hx326_0)
      replace hx326_0 := bD HB hx326_0
      replace p326 := eq_true p326
      replace q326 := eq_true q326
      refine start_ (n := 17) (S := fun w' => w'.cell? ⟨ad324.block, ad324.off + 2, none⟩ = some (.int .i64 (rd l0 2)) ∧ w'.cell? ⟨ad324.block, ad324.off + 3, none⟩ = some (.int .i64 (rd l0 3)) ∧ w'.cell? ⟨ad324.block, ad324.off + 4, none⟩ = some (.int .i64 (rd l0 4))) (ds := []) (bA 17 0) (by kernel_rfl) rfl rfl ⟨(bC HB hw324_0), (bC HB hw325_0), (bC HB hw326_0)⟩ (fun hHeld => ?_); refine with_tabW spec_ReadImage.tab6 spec_ReadImage.bits6 (fun HT_ HW_ => ?_)
      generalize wc.drew = w59 at HO_4 BK307 HB hx324_0 hx325_0 hx326_0 hHeld ⊢
      refine pQ 0 61 HT_ (bA 17 1) ?_
      refine pQ 1 62 HT_ (bA 17 3) ?_
      refine pQ 3 64 HT_ (bA 17 11) ?_
      refine pQ 4 65 HT_ (bA 17 27) ?_
      refine pQ 6 67 HT_ (bA 17 91) ?_
      refine pQ 7 68 HT_ (bA 17 219) ?_
      refine pQ 9 70 HT_ (bA 17 731) ?_
      refine take_ (i := 2) (N := some 63) (v := ?_) (a' := ?_) (bA 17 735) rfl rfl (take_ofW HT_.out HW_.out (by kernel_rfl)) (fun _ _ _ h => h) (Or.inl ⟨by rfl, ?_⟩) hHeld ?_ ?_
      rotate_left
      ·rintro w' ⟨s0, s1, s2⟩
       go_simp
       with_reducible rfl
      rotate_left
      ·refine pZ ?_
       rfl
      refine take_ (i := 5) (N := some 66) (v := ?_) (a' := ?_) (bA 17 767) rfl rfl (take_ofW HT_.out HW_.out (by kernel_rfl)) (fun _ _ _ h => h) (Or.inl ⟨by rfl, ?_⟩) hHeld ?_ ?_
      rotate_left
      ·rintro w' ⟨s0, s1, s2⟩
       go_simp
       with_reducible rfl
      rotate_left
      ·refine pZ ?_
       rfl
      refine take_ (i := 8) (N := some 69) (v := ?_) (a' := ?_) (bA 17 1023) rfl rfl (take_ofW HT_.out HW_.out (by kernel_rfl)) (fun _ _ _ h => h) (Or.inl ⟨by rfl, ?_⟩) hHeld ?_ ?_
      rotate_left
      ·rintro w' ⟨s0, s1, s2⟩
       go_simp
       with_reducible rfl
      rotate_left
      ·refine pZ ?_
       rfl
      refine join_ (σ := Value × Nat) 2 (bA 17 32767) (fun s_ => [(71, .tuple #[.agg #[.int .i64 t327, .int .i64 t328, .int .i64 t329, s_.1], .bool true]), (6, .pointer (some ⟨s_.2, 0, none⟩)), (60, .tuple #[.agg #[.int .i64 t327, .int .i64 t328, .int .i64 t329, s_.1], .bool true]), (72, .agg #[.int .i64 t327, .int .i64 t328, .int .i64 t329, s_.1]), (73, .bool true)]) (fun s_ w' => (w'.cell? ⟨ad324.block, ad324.off + 2, none⟩ = some (.int .i64 (rd l0 2)) ∧ w'.cell? ⟨ad324.block, ad324.off + 3, none⟩ = some (.int .i64 (rd l0 3)) ∧ w'.cell? ⟨ad324.block, ad324.off + 4, none⟩ = some (.int .i64 (rd l0 4))) ∧ (Kd.R (Kd.int .i64) 3 w' w.heap.size (fun k_ => some k_ ≠ (.slice Ao58 t317.length co58 : Value).ownBlock) s_.1 t330) ∧ (Kd.R (Kd.int .i64) 3 w' w.heap.size (fun k_ => some k_ ≠ (s_.1 : Value).ownBlock) (.slice Ao58 t317.length co58) t317) ∧ (w'.heap[gb307]? = some (.cells #[.int .i64 0, .int .i64 0, .int .i64 0, .slice none 0 0] 24 (0, 0))) ∧ (w'.heap[s_.2]? = some (.cells #[.int .i64 0, .int .i64 0, .int .i64 0, .slice none 0 0] 24 (0, 0))) ∧ (w.heap.size ≤ s_.2) ∧ (w.heap.size ≤ s_.2) ∧ (gb307 ≠ s_.2) ∧ (s_.2 ≠ gb307) ∧ (Below w.heap.size w w')) ?_ ?_
      rotate_left
      ·intro hCont
       refine two_ (i := 10) (j := 14) (Ni := some 71) (Nj := some 6) (bA 17 2047) (bA 17 17407) rfl rfl rfl rfl (two_of HT_.out (by kernel_rfl)) (by decide) (by decide) (fun K hK => ?_) (fun K hK => ?_)
       ·skip
        refine goes_ Try.func40 (by kernel_rfl) rfl #[.int .i64 (rd l0 2), .int .i64 (rd l0 3), .int .i64 (rd l0 4), .slice Ao58 t317.length co58] (by rfl) rfl rfl qM ?_
        with_reducible refine (spec_unfilterImage.calls kj19 (rd l0 2) (rd l0 3) (rd l0 4) _ _ t317 t327 t328 t329 t330 true _ ?side1 ?side2 A37.out).mono ?_
        (case side1 => exact qC (Kd.R_reads' HO_4.out).2.2)
        (case side2 => exact (Kd.R_reads' HO_4.out).2.1)
        rintro e w60 ⟨v331, rfl, ho0, hb⟩
        refine ⟨_, rfl, ?_⟩
        have HO332 := nR ho0 HO_4 HB
        replace HO_4 := aM (Kd.R_elder' (qR HO_4.out) (Kd.R_base ho0) hb)
        replace BK307 := bB BK307 hb
        replace HB := bS HB hb
        (try clear hb)
        (try clear hb2)
        (try clear hk)
        (try clear hi)
        (try clear ho0)
        refine hK.out _ _ ⟨(bC HB hw324_0), (bC HB hw325_0), (bC HB hw326_0)⟩ (fun hHeld => ?_)
        clear hK K
        refine norm_ (a' := ?_) ?_ ?_
        rotate_left
        ·show Act.put _ (some 71) _ = _
         refine pZ ?_
         rfl
        refine pQ 11 60 HT_ (bA 17 4095) ?_
        refine pQ 12 72 HT_ (bA 17 8191) ?_
        refine pQ 13 73 HT_ (bA 17 16383) ?_
        refine one_ (i := 14) (N := some 6) (bA 17 32767) rfl rfl (one_of HT_.out (by kernel_rfl)) (by decide) (fun K hK => ?_)
        refine box_step ?hg (N := 6) ?hd (cs := #[.int .i64 0, .int .i64 0, .int .i64 0, .slice none 0 0]) (t := 24) ?hr ?_; (case hd => rfl); (case hg => rfl); (case hr => first | (go_simp; done) | (go_simp; rfl))
        intro gb334 hg w61 hbox hb
        replace HO_4 := aM (Kd.R_below (qR HO_4.out) hb)
        replace HO332 := aM (Kd.R_below (qR HO332.out) hb)
        have BK334 := aM (hbox)
        have GW334 := gW hg HB
        have GE334 := gW hg HB
        replace HB := bS HB hb
        have NB307_334 := nL hg BK307
        have NB334_307 := nG hg BK307
        replace BK307 := bB BK307 hb
        clear hb hbox hg
        refine hK.out _ _ ⟨(bC HB hw324_0), (bC HB hw325_0), (bC HB hw326_0)⟩ (fun hHeld => ?_)
        clear hK K
        refine norm_ (a' := ?_) ?_ ?_
        rotate_left
        ·show Act.put _ (some 6) _ = _
         refine pZ ?_
         rfl
        exact norm_ (by simp only [putAll, Act.put, List.setIfInBounds_toArray, List.set_cons_zero, List.set_cons_succ]) (hCont (v331, gb334) _ ⟨hHeld, (by refine qR ?_; exact Kd.R_mono HO332.out (fun _ hk => hk.2)), (by refine qR ?_; exact Kd.R_mono HO_4.out (fun _ hk => hk.2)), (qB BK307.out), (qB BK334.out), GW334.out, GE334.out, NB307_334.out, NB334_307.out, (qW HB.out)⟩)
       skip
       refine box_step ?hg (N := 6) ?hd (cs := #[.int .i64 0, .int .i64 0, .int .i64 0, .slice none 0 0]) (t := 24) ?hr ?_; (case hd => rfl); (case hg => rfl); (case hr => first | (go_simp; done) | (go_simp; rfl))
       intro gb334 hg w60 hbox hb
       replace HO_4 := aM (Kd.R_below (qR HO_4.out) hb)
       have BK334 := aM (hbox)
       have GW334 := gW hg HB
       have GE334 := gW hg HB
       replace HB := bS HB hb
       have NB307_334 := nL hg BK307
       have NB334_307 := nG hg BK307
       replace BK307 := bB BK307 hb
       clear hb hbox hg
       refine hK.out _ _ ⟨(bC HB hw324_0), (bC HB hw325_0), (bC HB hw326_0)⟩ (fun hHeld => ?_)
       clear hK K
       refine norm_ (a' := ?_) ?_ ?_
       rotate_left
       ·show Act.put _ (some 6) _ = _
        refine pZ ?_
        rfl
       refine one_ (i := 10) (N := some 71) (bA 17 18431) rfl rfl (one_of HT_.out (by kernel_rfl)) (by decide) (fun K hK => ?_)
       refine goes_ Try.func40 (by kernel_rfl) rfl #[.int .i64 (rd l0 2), .int .i64 (rd l0 3), .int .i64 (rd l0 4), .slice Ao58 t317.length co58] (by rfl) rfl rfl qM ?_
       with_reducible refine (spec_unfilterImage.calls kj19 (rd l0 2) (rd l0 3) (rd l0 4) _ _ t317 t327 t328 t329 t330 true _ ?side1 ?side2 A37.out).mono ?_
       (case side1 => exact qC (Kd.R_reads' HO_4.out).2.2)
       (case side2 => exact (Kd.R_reads' HO_4.out).2.1)
       rintro e w61 ⟨v331, rfl, ho0, hb⟩
       refine ⟨_, rfl, ?_⟩
       have HO332 := nR ho0 HO_4 HB
       replace HO_4 := aM (Kd.R_elder' (qR HO_4.out) (Kd.R_base ho0) hb)
       replace BK307 := bB BK307 hb
       replace BK334 := bB BK334 hb
       replace HB := bS HB hb
       (try clear hb)
       (try clear hb2)
       (try clear hk)
       (try clear hi)
       (try clear ho0)
       refine hK.out _ _ ⟨(bC HB hw324_0), (bC HB hw325_0), (bC HB hw326_0)⟩ (fun hHeld => ?_)
       clear hK K
       refine norm_ (a' := ?_) ?_ ?_
       rotate_left
       ·show Act.put _ (some 71) _ = _
        refine pZ ?_
        rfl
       refine pQ 11 60 HT_ (bA 17 20479) ?_
       refine pQ 12 72 HT_ (bA 17 24575) ?_
       refine pQ 13 73 HT_ (bA 17 32767) ?_
       exact norm_ (by simp only [putAll, Act.put, List.setIfInBounds_toArray, List.set_cons_zero, List.set_cons_succ]) (hCont (v331, gb334) _ ⟨hHeld, (by refine qR ?_; exact Kd.R_mono HO332.out (fun _ hk => hk.2)), (by refine qR ?_; exact Kd.R_mono HO_4.out (fun _ hk => hk.2)), (qB BK307.out), (qB BK334.out), GW334.out, GE334.out, NB307_334.out, NB334_307.out, (qW HB.out)⟩)
      rintro ⟨v331, gb334⟩ w62 ⟨hS_, h0_, h1_, h2_, h3_, h4_, h5_, h6_, h7_, h8_⟩
      have HO332 : Aside0 (Kd.R (Kd.int .i64) 3 w62 w.heap.size (fun k_ => some k_ ≠ (.slice Ao58 t317.length co58 : Value).ownBlock) v331 t330) := ⟨h0_⟩
      replace HO_4 : Aside0 (Kd.R (Kd.int .i64) 3 w62 w.heap.size (fun k_ => some k_ ≠ (v331 : Value).ownBlock) (.slice Ao58 t317.length co58) t317) := ⟨h1_⟩
      replace BK307 : Aside0 (w62.heap[gb307]? = some (.cells #[.int .i64 0, .int .i64 0, .int .i64 0, .slice none 0 0] 24 (0, 0))) := ⟨h2_⟩
      have BK334 : Aside0 (w62.heap[gb334]? = some (.cells #[.int .i64 0, .int .i64 0, .int .i64 0, .slice none 0 0] 24 (0, 0))) := ⟨h3_⟩
      have GW334 : Aside0 (w.heap.size ≤ gb334) := ⟨h4_⟩
      have GE334 : Aside0 (w.heap.size ≤ gb334) := ⟨h5_⟩
      have NB307_334 : Aside0 (gb307 ≠ gb334) := ⟨h6_⟩
      have NB334_307 : Aside0 (gb334 ≠ gb307) := ⟨h7_⟩
      replace HB : Aside0 (Below w.heap.size w w62) := ⟨h8_⟩
      clear h0_ h1_ h2_ h3_ h4_ h5_ h6_ h7_ h8_
      have hHeld : w62.cell? ⟨ad324.block, ad324.off + 2, none⟩ = some (.int .i64 (rd l0 2)) ∧ w62.cell? ⟨ad324.block, ad324.off + 3, none⟩ = some (.int .i64 (rd l0 3)) ∧ w62.cell? ⟨ad324.block, ad324.off + 4, none⟩ = some (.int .i64 (rd l0 4)) := hS_
      obtain ⟨Ao66, co66, eo66⟩ := Kd.R_slice HO332.out
      (first | subst eo66 | (injection eo66 with f1_ f2_ f3_; have f4_ := f1_.symm; have f5_ := f3_.symm; clear f1_ f2_ f3_; subst f4_; subst f5_))
      refine norm_ (a' := ?_) ?_ ?_
      rotate_left
      ·simp only [putAll, Act.put, List.setIfInBounds_toArray, List.set_cons_zero, List.set_cons_succ]
       rfl
      refine one_ (i := 15) (N := none) (bA 17 65535) rfl rfl (one_of HT_.out (by kernel_rfl)) (by decide) (fun K hK => ?_)
      have hs63 : w62.cell? ⟨gb334, 0, none⟩ = some (.int .i64 0) := (blk_cell BK334.out 0).trans rfl
      have hfs63 := blk_frozen BK334.out 0
      have hns63_0 := NB307_334.out
      have hms63_0 := NB334_307.out
      have hs64 : w62.cell? ⟨gb334, 1, none⟩ = some (.int .i64 0) := (blk_cell BK334.out 1).trans rfl
      have hfs64 := blk_frozen BK334.out 1
      have hns64_0 := NB307_334.out
      have hms64_0 := NB334_307.out
      have hs65 : w62.cell? ⟨gb334, 2, none⟩ = some (.int .i64 0) := (blk_cell BK334.out 2).trans rfl
      have hfs65 := blk_frozen BK334.out 2
      have hns65_0 := NB307_334.out
      have hms65_0 := NB334_307.out
      have hs67 : w62.cell? ⟨gb334, 3, none⟩ = some (.slice none 0 0) := (blk_cell BK334.out 3).trans rfl
      have hfs67 := blk_frozen BK334.out 3
      have hns67_0 := NB307_334.out
      have hms67_0 := NB334_307.out
      refine skip_ (w1 := ?_) (by rfl) rfl ?_ ?_
      rotate_left
      ·go_simp
       rfl
      refine hK.out _ _ ⟨((cF hw324_0 GW334).trans (((cF hw324_0 GW334).trans (((cF hw324_0 GW334).trans (((cF hw324_0 GW334).trans (hHeld.1)))))))), ((cF hw325_0 GW334).trans (((cF hw325_0 GW334).trans (((cF hw325_0 GW334).trans (((cF hw325_0 GW334).trans (hHeld.2.1)))))))), ((cF hw326_0 GW334).trans (((cF hw326_0 GW334).trans (((cF hw326_0 GW334).trans (((cF hw326_0 GW334).trans (hHeld.2.2))))))))⟩ (fun hHeld => ?_)
      clear hK K
      refine pQ 16 7 HT_ (bA 17 131071) ?_
      refine done_ (done_of HT_.out (by kernel_rfl)) ?_
      have hnb68 := NB334_307.out
      have hnc68 := NB307_334.out
      obtain ⟨⟨hcz69_0, hcz69_1, hcz69_2, hcz69_3⟩, hfz69_0, hfz69_1, hfz69_2, hfz69_3⟩ := cf4 BK334
      try go_wp2_with (first | (go_at_call 42; (with_reducible refine (spec_writeImage.calls kj19 t327 t328 t329 _ _ t330 t335 _ ?side1 ?side2 A39.out).mono ?_); (case side1 => refine (Kd.R_reads' (e := 3) (base := w.heap.size) (ok := fun k_ => some k_ ≠ (.slice Ao58 t317.length co58 : Value).ownBlock) (n := t330.length) (c := co66) ?_).2.2; exact (by refine qR ?_; exact (fr4 HO332 BK334))); (case side2 => exact (Kd.R_reads' HO332.out).2.1); rintro e w70 ⟨v336, rfl, ho0, hb⟩; have HO337 := aM (Kd.R_lower (Kd.R_new' (Kd.R_new' ho0 (Kd.R_lt (by refine qR ?_; exact (fr4 HO_4 BK334)))) (Kd.R_lt (by refine qR ?_; exact (fr4 HO332 BK334)))) (below_size (qW HB.out))); replace HO_4 := aM (Kd.R_elder' (by refine qR ?_; exact (fr4 HO_4 BK334)) (Kd.R_base ho0) hb); replace HO332 := aM (Kd.R_elder' (by refine qR ?_; exact (fr4 HO332 BK334)) (Kd.R_base ho0) hb); replace BK307 := aM (blk_below (g := gb307) (o := .cells #[.int .i64 0, .int .i64 0, .int .i64 0, .slice none 0 0] 24 (0, 0)) (by refine qB ?_; refine blk_far ?_ NB307_334.out _; refine qB ?_; refine blk_far ?_ NB307_334.out _; refine qB ?_; refine blk_far ?_ NB307_334.out _; refine qB ?_; refine blk_far ?_ NB307_334.out _; refine qB ?_; exact BK307.out) hb); replace BK334 := aM (blk_below (g := gb334) (o := .cells #[.int .i64 t327, .int .i64 t328, .int .i64 t329, .slice Ao66 t330.length co66] 24 (0, 0)) (by exact bP BK334.out) hb); replace HB := bS HB hb; clear hb ho0; obtain ⟨Ao71, co71, rfl⟩ := sL HO337) | (go_at_call 41; (with_reducible refine (spec_equalInts.calls kj19 _ _ t335 _ _ l0 false _ ?side1 ?side2 ?side3 ?side4 A40.out).mono ?_); (case side1 => exact qC (Kd.R_reads' HO337.out).2.2); (case side2 => exact (Kd.R_reads' HO337.out).2.1); (case side3 => exact qC (Kd.C_below HR0.out HB.out)); (case side4 => exact HC0.out); rintro e w' ⟨rfl, ⟨nd, rfl⟩⟩; (try (rw [drewN_self w70]; generalize hq_ : World.drewN w70 _ = w70; replace HO332 : Aside0 (Kd.R (Kd.int .i64) 3 w70 w.heap.size (fun k_ => some k_ ≠ (.slice Ao71 t335.length co71 : Value).ownBlock ∧ some k_ ≠ (.slice Ao58 t317.length co58 : Value).ownBlock) (.slice Ao66 t330.length co66) t330) := ⟨by rw [← hq_]; exact (by refine qR ?_; exact Kd.R_mono HO332.out (fun _ hk => ⟨hk.2, hk.1⟩))⟩; replace HO337 : Aside0 (Kd.R (Kd.int .i64) 3 w70 w.heap.size (fun k_ => some k_ ≠ (.slice Ao66 t330.length co66 : Value).ownBlock ∧ some k_ ≠ (.slice Ao58 t317.length co58 : Value).ownBlock) (.slice Ao71 t335.length co71) t335) := ⟨by rw [← hq_]; exact (by refine qR ?_; exact Kd.R_mono HO337.out (fun _ hk => ⟨hk.2, hk.1.2⟩))⟩; replace HO_4 : Aside0 (Kd.R (Kd.int .i64) 3 w70 w.heap.size (fun k_ => some k_ ≠ (.slice Ao66 t330.length co66 : Value).ownBlock ∧ some k_ ≠ (.slice Ao71 t335.length co71 : Value).ownBlock) (.slice Ao58 t317.length co58) t317) := ⟨by rw [← hq_]; exact (qR HO_4.out)⟩; replace BK307 : Aside0 (w70.heap[gb307]? = some (.cells #[.int .i64 0, .int .i64 0, .int .i64 0, .slice none 0 0] 24 (0, 0))) := ⟨by rw [← hq_]; exact (qB BK307.out)⟩; replace BK334 : Aside0 (w70.heap[gb334]? = some (.cells #[.int .i64 t327, .int .i64 t328, .int .i64 t329, .slice Ao66 t330.length co66] 24 (0, 0))) := ⟨by rw [← hq_]; exact (qB BK334.out)⟩; replace HB : Aside0 (Below w.heap.size w w70) := ⟨by rw [← hq_]; exact (qW HB.out)⟩; clear hq_)); obtain ⟨⟨hcz72_0, hcz72_1, hcz72_2, hcz72_3⟩, hfz72_0, hfz72_1, hfz72_2, hfz72_3⟩ := cf4 BK307))
      refine bodyPost_ret (results_ct rfl _ _ gb307 24 #[.int .i64 0, .int .i64 0, .int .i64 0, .slice none 0 0] (0, 0) _ rfl (by exact bP BK307.out) Try.underlying24 rfl (by kernel_rfl)) rfl ?_
      exact ⟨_, qX, qN, by exact qW HB.out⟩
     subst c41
     have H1 : (some (t327, t328, t329, t330, true)) = some (r1, r2, r3, r4, r5) := by rw [if_pos rfl] at H; exact H
     clear H
     have H := H1
     clear H1
     simp only [Option.some.injEq, Prod.mk.injEq] at H
     obtain ⟨rfl, rfl, rfl, rfl, rfl⟩ := H
     obtain ⟨Ao42, co42, rfl⟩ := sL HO_4
     try go_wp2
     replace HO_4 := aM (Kd.R_drew HO_4.out)
     replace BK307 := aM (blk_drew BK307.out)
     replace HB := aM (below_drew1 HB.out)
     have p324 : 0 ≤ (2 : Int) := (by omega)
     have q324 : 2 < (l0.length : Int) := oD
     obtain ⟨ad324, e324, hx324_0⟩ := Kd.at_int HR0.out 2 p324 q324
     have hw324_0 := hx324_0
     (try rw [show ((2 : Int)).toNat = 2 from rfl] at hw324_0)
     (try rw [show 2 * 1 = 2 from rfl] at hw324_0)
     (try simp only [Nat.reduceMul, Nat.reduceEqDiff, Go.Addr.add, ↓reduceIte] at hw324_0)
     cases e324
     (try simp only [show (2 : Int).toNat = 2 from rfl, Nat.reduceMul, Nat.reduceEqDiff, Go.Addr.add, ↓reduceIte] at hx324_0)
     have qi324 : (2 < l0.length) = True := eq_true (by omega)
     (try rw [show ((2 : Int)).toNat = 2 from rfl] at hx324_0)
     replace hx324_0 := bD HB hx324_0
     replace p324 := eq_true p324
     replace q324 := eq_true q324
     have p325 : 0 ≤ (3 : Int) := (by omega)
     have q325 : 3 < (l0.length : Int) := oD
     obtain ⟨ad325, e325, hx325_0⟩ := Kd.at_int HR0.out 3 p325 q325
     have hw325_0 := hx325_0
     (try rw [show ((3 : Int)).toNat = 3 from rfl] at hw325_0)
     (try rw [show 3 * 1 = 3 from rfl] at hw325_0)
     (try simp only [Nat.reduceMul, Nat.reduceEqDiff, Go.Addr.add, ↓reduceIte] at hw325_0)
     obtain rfl : ad324 = ad325 := (by injection e325)
     (try simp only [show (3 : Int).toNat = 3 from rfl, Nat.reduceMul, Nat.reduceEqDiff, Go.Addr.add, ↓reduceIte] at hx325_0)
     have qi325 : (3 < l0.length) = True := eq_true (by omega)
     (try rw [show ((3 : Int)).toNat = 3 from rfl] at hx325_0)
     replace hx325_0 := bD HB hx325_0
     replace p325 := eq_true p325
     replace q325 := eq_true q325
     have p326 : 0 ≤ (4 : Int) := (by omega)
     have q326 : 4 < (l0.length : Int) := oD
     obtain ⟨ad326, e326, hx326_0⟩ := Kd.at_int HR0.out 4 p326 q326
     have hw326_0 := hx326_0
     (try rw [show ((4 : Int)).toNat = 4 from rfl] at hw326_0)
     (try rw [show 4 * 1 = 4 from rfl] at hw326_0)
     (try simp only [Nat.reduceMul, Nat.reduceEqDiff, Go.Addr.add, ↓reduceIte] at hw326_0)
     obtain rfl : ad324 = ad326 := (by injection e326)
     (try simp only [show (4 : Int).toNat = 4 from rfl, Nat.reduceMul, Nat.reduceEqDiff, Go.Addr.add, ↓reduceIte] at hx326_0)
     have qi326 : (4 < l0.length) = True := eq_true (by omega)
     (try rw [show ((4 : Int)).toNat = 4 from rfl] at hx326_0)
     replace hx326_0 := bD HB hx326_0
     replace p326 := eq_true p326
     replace q326 := eq_true q326
     refine start_ (n := 17) (S := fun w' => w'.cell? ⟨ad324.block, ad324.off + 2, none⟩ = some (.int .i64 (rd l0 2)) ∧ w'.cell? ⟨ad324.block, ad324.off + 3, none⟩ = some (.int .i64 (rd l0 3)) ∧ w'.cell? ⟨ad324.block, ad324.off + 4, none⟩ = some (.int .i64 (rd l0 4))) (ds := []) (bA 17 0) (by kernel_rfl) rfl rfl ⟨(bC HB hw324_0), (bC HB hw325_0), (bC HB hw326_0)⟩ (fun hHeld => ?_); refine with_tabW spec_ReadImage.tab6 spec_ReadImage.bits6 (fun HT_ HW_ => ?_)
     generalize wc.drew = w43 at HO_4 BK307 HB hx324_0 hx325_0 hx326_0 hHeld ⊢
     refine pQ 0 61 HT_ (bA 17 1) ?_
     refine pQ 1 62 HT_ (bA 17 3) ?_
     refine pQ 3 64 HT_ (bA 17 11) ?_
     refine pQ 4 65 HT_ (bA 17 27) ?_
     refine pQ 6 67 HT_ (bA 17 91) ?_
     refine pQ 7 68 HT_ (bA 17 219) ?_
     refine pQ 9 70 HT_ (bA 17 731) ?_
     refine take_ (i := 2) (N := some 63) (v := ?_) (a' := ?_) (bA 17 735) rfl rfl (take_ofW HT_.out HW_.out (by kernel_rfl)) (fun _ _ _ h => h) (Or.inl ⟨by rfl, ?_⟩) hHeld ?_ ?_
     rotate_left
     ·rintro w' ⟨s0, s1, s2⟩
      go_simp
      with_reducible rfl
     rotate_left
     ·refine pZ ?_
      rfl
     refine take_ (i := 5) (N := some 66) (v := ?_) (a' := ?_) (bA 17 767) rfl rfl (take_ofW HT_.out HW_.out (by kernel_rfl)) (fun _ _ _ h => h) (Or.inl ⟨by rfl, ?_⟩) hHeld ?_ ?_
     rotate_left
     ·rintro w' ⟨s0, s1, s2⟩
      go_simp
      with_reducible rfl
     rotate_left
     ·refine pZ ?_
      rfl
     refine take_ (i := 8) (N := some 69) (v := ?_) (a' := ?_) (bA 17 1023) rfl rfl (take_ofW HT_.out HW_.out (by kernel_rfl)) (fun _ _ _ h => h) (Or.inl ⟨by rfl, ?_⟩) hHeld ?_ ?_
     rotate_left
     ·rintro w' ⟨s0, s1, s2⟩
      go_simp
      with_reducible rfl
     rotate_left
     ·refine pZ ?_
      rfl
     refine join_ (σ := Value × Nat) 2 (bA 17 32767) (fun s_ => [(71, .tuple #[.agg #[.int .i64 t327, .int .i64 t328, .int .i64 t329, s_.1], .bool true]), (6, .pointer (some ⟨s_.2, 0, none⟩)), (60, .tuple #[.agg #[.int .i64 t327, .int .i64 t328, .int .i64 t329, s_.1], .bool true]), (72, .agg #[.int .i64 t327, .int .i64 t328, .int .i64 t329, s_.1]), (73, .bool true)]) (fun s_ w' => (w'.cell? ⟨ad324.block, ad324.off + 2, none⟩ = some (.int .i64 (rd l0 2)) ∧ w'.cell? ⟨ad324.block, ad324.off + 3, none⟩ = some (.int .i64 (rd l0 3)) ∧ w'.cell? ⟨ad324.block, ad324.off + 4, none⟩ = some (.int .i64 (rd l0 4))) ∧ (Kd.R (Kd.int .i64) 3 w' w.heap.size (fun k_ => some k_ ≠ (.slice Ao42 t317.length co42 : Value).ownBlock) s_.1 t330) ∧ (Kd.R (Kd.int .i64) 3 w' w.heap.size (fun k_ => some k_ ≠ (s_.1 : Value).ownBlock) (.slice Ao42 t317.length co42) t317) ∧ (w'.heap[gb307]? = some (.cells #[.int .i64 0, .int .i64 0, .int .i64 0, .slice none 0 0] 24 (0, 0))) ∧ (w'.heap[s_.2]? = some (.cells #[.int .i64 0, .int .i64 0, .int .i64 0, .slice none 0 0] 24 (0, 0))) ∧ (w.heap.size ≤ s_.2) ∧ (w.heap.size ≤ s_.2) ∧ (gb307 ≠ s_.2) ∧ (s_.2 ≠ gb307) ∧ (Below w.heap.size w w')) ?_ ?_
     rotate_left
     ·intro hCont
      refine two_ (i := 10) (j := 14) (Ni := some 71) (Nj := some 6) (bA 17 2047) (bA 17 17407) rfl rfl rfl rfl (two_of HT_.out (by kernel_rfl)) (by decide) (by decide) (fun K hK => ?_) (fun K hK => ?_)
      ·skip
       refine goes_ Try.func40 (by kernel_rfl) rfl #[.int .i64 (rd l0 2), .int .i64 (rd l0 3), .int .i64 (rd l0 4), .slice Ao42 t317.length co42] (by rfl) rfl rfl qM ?_
       with_reducible refine (spec_unfilterImage.calls kj19 (rd l0 2) (rd l0 3) (rd l0 4) _ _ t317 t327 t328 t329 t330 true _ ?side1 ?side2 A37.out).mono ?_
       (case side1 => exact qC (Kd.R_reads' HO_4.out).2.2)
       (case side2 => exact (Kd.R_reads' HO_4.out).2.1)
       rintro e w44 ⟨v331, rfl, ho0, hb⟩
       refine ⟨_, rfl, ?_⟩
       have HO332 := nR ho0 HO_4 HB
       replace HO_4 := aM (Kd.R_elder' (qR HO_4.out) (Kd.R_base ho0) hb)
       replace BK307 := bB BK307 hb
       replace HB := bS HB hb
       (try clear hb)
       (try clear hb2)
       (try clear hk)
       (try clear hi)
       (try clear ho0)
       refine hK.out _ _ ⟨(bC HB hw324_0), (bC HB hw325_0), (bC HB hw326_0)⟩ (fun hHeld => ?_)
       clear hK K
       refine norm_ (a' := ?_) ?_ ?_
       rotate_left
       ·show Act.put _ (some 71) _ = _
        refine pZ ?_
        rfl
       refine pQ 11 60 HT_ (bA 17 4095) ?_
       refine pQ 12 72 HT_ (bA 17 8191) ?_
       refine pQ 13 73 HT_ (bA 17 16383) ?_
       refine one_ (i := 14) (N := some 6) (bA 17 32767) rfl rfl (one_of HT_.out (by kernel_rfl)) (by decide) (fun K hK => ?_)
       refine box_step ?hg (N := 6) ?hd (cs := #[.int .i64 0, .int .i64 0, .int .i64 0, .slice none 0 0]) (t := 24) ?hr ?_; (case hd => rfl); (case hg => rfl); (case hr => first | (go_simp; done) | (go_simp; rfl))
       intro gb334 hg w45 hbox hb
       replace HO_4 := aM (Kd.R_below (qR HO_4.out) hb)
       replace HO332 := aM (Kd.R_below (qR HO332.out) hb)
       have BK334 := aM (hbox)
       have GW334 := gW hg HB
       have GE334 := gW hg HB
       replace HB := bS HB hb
       have NB307_334 := nL hg BK307
       have NB334_307 := nG hg BK307
       replace BK307 := bB BK307 hb
       clear hb hbox hg
       refine hK.out _ _ ⟨(bC HB hw324_0), (bC HB hw325_0), (bC HB hw326_0)⟩ (fun hHeld => ?_)
       clear hK K
       refine norm_ (a' := ?_) ?_ ?_
       rotate_left
       ·show Act.put _ (some 6) _ = _
        refine pZ ?_
        rfl
       exact norm_ (by simp only [putAll, Act.put, List.setIfInBounds_toArray, List.set_cons_zero, List.set_cons_succ]) (hCont (v331, gb334) _ ⟨hHeld, (by refine qR ?_; exact Kd.R_mono HO332.out (fun _ hk => hk.2)), (by refine qR ?_; exact Kd.R_mono HO_4.out (fun _ hk => hk.2)), (qB BK307.out), (qB BK334.out), GW334.out, GE334.out, NB307_334.out, NB334_307.out, (qW HB.out)⟩)
      skip
      refine box_step ?hg (N := 6) ?hd (cs := #[.int .i64 0, .int .i64 0, .int .i64 0, .slice none 0 0]) (t := 24) ?hr ?_; (case hd => rfl); (case hg => rfl); (case hr => first | (go_simp; done) | (go_simp; rfl))
      intro gb334 hg w44 hbox hb
      replace HO_4 := aM (Kd.R_below (qR HO_4.out) hb)
      have BK334 := aM (hbox)
      have GW334 := gW hg HB
      have GE334 := gW hg HB
      replace HB := bS HB hb
      have NB307_334 := nL hg BK307
      have NB334_307 := nG hg BK307
      replace BK307 := bB BK307 hb
      clear hb hbox hg
      refine hK.out _ _ ⟨(bC HB hw324_0), (bC HB hw325_0), (bC HB hw326_0)⟩ (fun hHeld => ?_)
      clear hK K
      refine norm_ (a' := ?_) ?_ ?_
      rotate_left
      ·show Act.put _ (some 6) _ = _
       refine pZ ?_
       rfl
      refine one_ (i := 10) (N := some 71) (bA 17 18431) rfl rfl (one_of HT_.out (by kernel_rfl)) (by decide) (fun K hK => ?_)
      refine goes_ Try.func40 (by kernel_rfl) rfl #[.int .i64 (rd l0 2), .int .i64 (rd l0 3), .int .i64 (rd l0 4), .slice Ao42 t317.length co42] (by rfl) rfl rfl qM ?_
      with_reducible refine (spec_unfilterImage.calls kj19 (rd l0 2) (rd l0 3) (rd l0 4) _ _ t317 t327 t328 t329 t330 true _ ?side1 ?side2 A37.out).mono ?_
      (case side1 => exact qC (Kd.R_reads' HO_4.out).2.2)
      (case side2 => exact (Kd.R_reads' HO_4.out).2.1)
      rintro e w45 ⟨v331, rfl, ho0, hb⟩
      refine ⟨_, rfl, ?_⟩
      have HO332 := nR ho0 HO_4 HB
      replace HO_4 := aM (Kd.R_elder' (qR HO_4.out) (Kd.R_base ho0) hb)
      replace BK307 := bB BK307 hb
      replace BK334 := bB BK334 hb
      replace HB := bS HB hb
      (try clear hb)
      (try clear hb2)
      (try clear hk)
      (try clear hi)
      (try clear ho0)
      refine hK.out _ _ ⟨(bC HB hw324_0), (bC HB hw325_0), (bC HB hw326_0)⟩ (fun hHeld => ?_)
      clear hK K
      refine norm_ (a' := ?_) ?_ ?_
      rotate_left
      ·show Act.put _ (some 71) _ = _
       refine pZ ?_
       rfl
      refine pQ 11 60 HT_ (bA 17 20479) ?_
      refine pQ 12 72 HT_ (bA 17 24575) ?_
      refine pQ 13 73 HT_ (bA 17 32767) ?_
      exact norm_ (by simp only [putAll, Act.put, List.setIfInBounds_toArray, List.set_cons_zero, List.set_cons_succ]) (hCont (v331, gb334) _ ⟨hHeld, (by refine qR ?_; exact Kd.R_mono HO332.out (fun _ hk => hk.2)), (by refine qR ?_; exact Kd.R_mono HO_4.out (fun _ hk => hk.2)), (qB BK307.out), (qB BK334.out), GW334.out, GE334.out, NB307_334.out, NB334_307.out, (qW HB.out)⟩)
     rintro ⟨v331, gb334⟩ w46 ⟨hS_, h0_, h1_, h2_, h3_, h4_, h5_, h6_, h7_, h8_⟩
     have HO332 : Aside0 (Kd.R (Kd.int .i64) 3 w46 w.heap.size (fun k_ => some k_ ≠ (.slice Ao42 t317.length co42 : Value).ownBlock) v331 t330) := ⟨h0_⟩
     replace HO_4 : Aside0 (Kd.R (Kd.int .i64) 3 w46 w.heap.size (fun k_ => some k_ ≠ (v331 : Value).ownBlock) (.slice Ao42 t317.length co42) t317) := ⟨h1_⟩
     replace BK307 : Aside0 (w46.heap[gb307]? = some (.cells #[.int .i64 0, .int .i64 0, .int .i64 0, .slice none 0 0] 24 (0, 0))) := ⟨h2_⟩
     have BK334 : Aside0 (w46.heap[gb334]? = some (.cells #[.int .i64 0, .int .i64 0, .int .i64 0, .slice none 0 0] 24 (0, 0))) := ⟨h3_⟩
     have GW334 : Aside0 (w.heap.size ≤ gb334) := ⟨h4_⟩
     have GE334 : Aside0 (w.heap.size ≤ gb334) := ⟨h5_⟩
     have NB307_334 : Aside0 (gb307 ≠ gb334) := ⟨h6_⟩
     have NB334_307 : Aside0 (gb334 ≠ gb307) := ⟨h7_⟩
     replace HB : Aside0 (Below w.heap.size w w46) := ⟨h8_⟩
     clear h0_ h1_ h2_ h3_ h4_ h5_ h6_ h7_ h8_
     have hHeld : w46.cell? ⟨ad324.block, ad324.off + 2, none⟩ = some (.int .i64 (rd l0 2)) ∧ w46.cell? ⟨ad324.block, ad324.off + 3, none⟩ = some (.int .i64 (rd l0 3)) ∧ w46.cell? ⟨ad324.block, ad324.off + 4, none⟩ = some (.int .i64 (rd l0 4)) := hS_
     obtain ⟨Ao50, co50, eo50⟩ := Kd.R_slice HO332.out
     (first | subst eo50 | (injection eo50 with f1_ f2_ f3_; have f4_ := f1_.symm; have f5_ := f3_.symm; clear f1_ f2_ f3_; subst f4_; subst f5_))
     refine norm_ (a' := ?_) ?_ ?_
     rotate_left
     ·simp only [putAll, Act.put, List.setIfInBounds_toArray, List.set_cons_zero, List.set_cons_succ]
      rfl
     refine one_ (i := 15) (N := none) (bA 17 65535) rfl rfl (one_of HT_.out (by kernel_rfl)) (by decide) (fun K hK => ?_)
     have hs47 : w46.cell? ⟨gb334, 0, none⟩ = some (.int .i64 0) := (blk_cell BK334.out 0).trans rfl
     have hfs47 := blk_frozen BK334.out 0
     have hns47_0 := NB307_334.out
     have hms47_0 := NB334_307.out
     have hs48 : w46.cell? ⟨gb334, 1, none⟩ = some (.int .i64 0) := (blk_cell BK334.out 1).trans rfl
     have hfs48 := blk_frozen BK334.out 1
     have hns48_0 := NB307_334.out
     have hms48_0 := NB334_307.out
     have hs49 : w46.cell? ⟨gb334, 2, none⟩ = some (.int .i64 0) := (blk_cell BK334.out 2).trans rfl
     have hfs49 := blk_frozen BK334.out 2
     have hns49_0 := NB307_334.out
     have hms49_0 := NB334_307.out
     have hs51 : w46.cell? ⟨gb334, 3, none⟩ = some (.slice none 0 0) := (blk_cell BK334.out 3).trans rfl
     have hfs51 := blk_frozen BK334.out 3
     have hns51_0 := NB307_334.out
     have hms51_0 := NB334_307.out
     refine skip_ (w1 := ?_) (by rfl) rfl ?_ ?_
     rotate_left
     ·go_simp
      rfl
     refine hK.out _ _ ⟨((cF hw324_0 GW334).trans (((cF hw324_0 GW334).trans (((cF hw324_0 GW334).trans (((cF hw324_0 GW334).trans (hHeld.1)))))))), ((cF hw325_0 GW334).trans (((cF hw325_0 GW334).trans (((cF hw325_0 GW334).trans (((cF hw325_0 GW334).trans (hHeld.2.1)))))))), ((cF hw326_0 GW334).trans (((cF hw326_0 GW334).trans (((cF hw326_0 GW334).trans (((cF hw326_0 GW334).trans (hHeld.2.2))))))))⟩ (fun hHeld => ?_)
     clear hK K
     refine pQ 16 7 HT_ (bA 17 131071) ?_
     refine done_ (done_of HT_.out (by kernel_rfl)) ?_
     have hnb52 := NB334_307.out
     have hnc52 := NB307_334.out
     obtain ⟨⟨hcz53_0, hcz53_1, hcz53_2, hcz53_3⟩, hfz53_0, hfz53_1, hfz53_2, hfz53_3⟩ := cf4 BK334
     try go_wp2_with (first | (go_at_call 42; (with_reducible refine (spec_writeImage.calls kj19 t327 t328 t329 _ _ t330 t335 _ ?side1 ?side2 A39.out).mono ?_); (case side1 => refine (Kd.R_reads' (e := 3) (base := w.heap.size) (ok := fun k_ => some k_ ≠ (.slice Ao42 t317.length co42 : Value).ownBlock) (n := t330.length) (c := co50) ?_).2.2; exact (by refine qR ?_; exact (fr4 HO332 BK334))); (case side2 => exact (Kd.R_reads' HO332.out).2.1); rintro e w54 ⟨v336, rfl, ho0, hb⟩; have HO337 := aM (Kd.R_lower (Kd.R_new' (Kd.R_new' ho0 (Kd.R_lt (by refine qR ?_; exact (fr4 HO_4 BK334)))) (Kd.R_lt (by refine qR ?_; exact (fr4 HO332 BK334)))) (below_size (qW HB.out))); replace HO_4 := aM (Kd.R_elder' (by refine qR ?_; exact (fr4 HO_4 BK334)) (Kd.R_base ho0) hb); replace HO332 := aM (Kd.R_elder' (by refine qR ?_; exact (fr4 HO332 BK334)) (Kd.R_base ho0) hb); replace BK307 := aM (blk_below (g := gb307) (o := .cells #[.int .i64 0, .int .i64 0, .int .i64 0, .slice none 0 0] 24 (0, 0)) (by refine qB ?_; refine blk_far ?_ NB307_334.out _; refine qB ?_; refine blk_far ?_ NB307_334.out _; refine qB ?_; refine blk_far ?_ NB307_334.out _; refine qB ?_; refine blk_far ?_ NB307_334.out _; refine qB ?_; exact BK307.out) hb); replace BK334 := aM (blk_below (g := gb334) (o := .cells #[.int .i64 t327, .int .i64 t328, .int .i64 t329, .slice Ao50 t330.length co50] 24 (0, 0)) (by exact bP BK334.out) hb); replace HB := bS HB hb; clear hb ho0; obtain ⟨Ao55, co55, rfl⟩ := sL HO337) | (go_at_call 41; (with_reducible refine (spec_equalInts.calls kj19 _ _ t335 _ _ l0 true _ ?side1 ?side2 ?side3 ?side4 A40.out).mono ?_); (case side1 => exact qC (Kd.R_reads' HO337.out).2.2); (case side2 => exact (Kd.R_reads' HO337.out).2.1); (case side3 => exact qC (Kd.C_below HR0.out HB.out)); (case side4 => exact HC0.out); rintro e w' ⟨rfl, ⟨nd, rfl⟩⟩; (try (rw [drewN_self w54]; generalize hq_ : World.drewN w54 _ = w54; replace HO332 : Aside0 (Kd.R (Kd.int .i64) 3 w54 w.heap.size (fun k_ => some k_ ≠ (.slice Ao55 t335.length co55 : Value).ownBlock ∧ some k_ ≠ (.slice Ao42 t317.length co42 : Value).ownBlock) (.slice Ao50 t330.length co50) t330) := ⟨by rw [← hq_]; exact (by refine qR ?_; exact Kd.R_mono HO332.out (fun _ hk => ⟨hk.2, hk.1⟩))⟩; replace HO337 : Aside0 (Kd.R (Kd.int .i64) 3 w54 w.heap.size (fun k_ => some k_ ≠ (.slice Ao50 t330.length co50 : Value).ownBlock ∧ some k_ ≠ (.slice Ao42 t317.length co42 : Value).ownBlock) (.slice Ao55 t335.length co55) t335) := ⟨by rw [← hq_]; exact (by refine qR ?_; exact Kd.R_mono HO337.out (fun _ hk => ⟨hk.2, hk.1.2⟩))⟩; replace HO_4 : Aside0 (Kd.R (Kd.int .i64) 3 w54 w.heap.size (fun k_ => some k_ ≠ (.slice Ao50 t330.length co50 : Value).ownBlock ∧ some k_ ≠ (.slice Ao55 t335.length co55 : Value).ownBlock) (.slice Ao42 t317.length co42) t317) := ⟨by rw [← hq_]; exact (qR HO_4.out)⟩; replace BK307 : Aside0 (w54.heap[gb307]? = some (.cells #[.int .i64 0, .int .i64 0, .int .i64 0, .slice none 0 0] 24 (0, 0))) := ⟨by rw [← hq_]; exact (qB BK307.out)⟩; replace BK334 : Aside0 (w54.heap[gb334]? = some (.cells #[.int .i64 t327, .int .i64 t328, .int .i64 t329, .slice Ao50 t330.length co50] 24 (0, 0))) := ⟨by rw [← hq_]; exact (qB BK334.out)⟩; replace HB : Aside0 (Below w.heap.size w w54) := ⟨by rw [← hq_]; exact (qW HB.out)⟩; clear hq_)); obtain ⟨⟨hcz56_0, hcz56_1, hcz56_2, hcz56_3⟩, hfz56_0, hfz56_1, hfz56_2, hfz56_3⟩ := cf4 BK334; obtain ⟨⟨hcz57_0, hcz57_1, hcz57_2, hcz57_3⟩, hfz57_0, hfz57_1, hfz57_2, hfz57_3⟩ := cf4 BK307))
     refine bodyPost_ret (results_ct rfl _ _ gb307 24 #[.int .i64 t327, .int .i64 t328, .int .i64 t329, .slice Ao50 t330.length co50] (0, 0) _ rfl (by exact bP BK307.out) Try.underlying24 rfl (by kernel_rfl)) rfl ?_
     exact ⟨_, qX, by refine qR ?_; exact Kd.R_mono (rT HO332 BK307) (fun _ hk => trivial), by exact qW HB.out⟩
def impl_isByteList.f (l0 : List Int) : Option (Bool) := if (l0.length : Int) ≤ 1200 then ((impl_areBytes.f l0).bind fun t344 => (some t344)) else (some false)
set_option maxHeartbeats 8000000 in
set_option maxRecDepth 100000 in
theorem impl_isByteList.calls (A0 : Option Addr) (c0 : Nat) (l0 : List Int) (r : Bool) (w : World) (hr0 : Kd.C (Kd.int .i64) w A0 l0.length l0) (hc0 : l0.length ≤ c0) (h : impl_isByteList.f l0 = some r) :
  Calls Try.prog 43 #[.slice A0 l0.length c0] w fun e w' => e = .returned (.bool r) ∧ Drawn0 w w' := by
 have HR0 := aM hr0
 have HC0 := aM hc0
 clear hr0 hc0
 unfold impl_isByteList.f at h
 have H := h
 clear h
 by_cases c2 : (l0.length : Int) ≤ 1200
 rotate_left
 ·rw [if_neg c2] at H
  have c2b0 : decide ((l0.length : Int) ≤ 1200) = false := decide_eq_false c2
  have c2b1 : decide (l0.length ≤ 1200) = false := decide_eq_false (by omega)
  clear c2
  obtain rfl := Option.some.inj H
  go_enter Try.func43, Try.ntmps43
  go_wp2
  go_ret
  exact ⟨qE, qD⟩
 rw [if_pos c2] at H
 have c2b0 : decide ((l0.length : Int) ≤ 1200) = true := decide_eq_true c2
 have c2b1 : decide (l0.length ≤ 1200) = true := decide_eq_true (by omega)
 clear c2
 replace H := Option.bind_eq_some_iff.mp H
 obtain ⟨t344, A30, H⟩ := H
 replace H : (some t344) = some r := H
 have A3 := aM A30
 clear A30
 obtain rfl := Option.some.inj H
 go_enter Try.func43, Try.ntmps43
 go_wp2_with (first | (go_at_call 66; (with_reducible refine (impl_areBytes.calls _ _ l0 t344 _ ?side1 ?side2 A3.out).mono ?_); (case side1 => exact qC HR0.out); (case side2 => exact HC0.out); rintro e w' ⟨rfl, ⟨nd, rfl⟩⟩))
 go_ret
 exact ⟨qE, qD⟩
def slices_Equal_int_int.l0 : Nat → List Int → List Int → Int → Int → Option (Bool)
 | 0, _, _, _, _ => none
 | k + 1, x0, x1, x12, x13 => if x13 < x12 then (if 0 ≤ x13 then (if x13 < (x0.length : Int) then (if x13 < (x1.length : Int) then (if (rd x0 x13) = (rd x1 x13) then (slices_Equal_int_int.l0 k x0 x1 x12 (wrap64 (x13 + 1))) else (some false)) else (none)) else (none)) else (none)) else (some true)
def slices_Equal_int_int.f (k : Nat) (l0 : List Int) (l1 : List Int) : Option (Bool) := if (l0.length : Int) = (l1.length : Int) then (slices_Equal_int_int.l0 k l0 l1 (l0.length : Int) 0) else (some false)
theorem slices_Equal_int_int.mono_l : ∀ k, (∀ y0 y1 y2 y3, LeO (slices_Equal_int_int.l0 k y0 y1 y2 y3) (slices_Equal_int_int.l0 (k + 1) y0 y1 y2 y3))
 | 0 => fun _ _ _ _ r h => by simp [slices_Equal_int_int.l0] at h
 | k + 1 => by
  have ih0 := slices_Equal_int_int.mono_l k
  ·intro y0 y1 y2 y3
   unfold slices_Equal_int_int.l0
   repeat' first | (with_reducible first | exact ih0 _ _ _ _ | exact lR | exact lN | refine lI ?_ ?_ | refine lB ?_ fun _ => ?_) | exact ih0 _ _ _ _ | exact lN | refine lI ?_ ?_ | refine lB ?_ fun _ => ?_
theorem slices_Equal_int_int.mono : ∀ a0 a1 k, LeO (slices_Equal_int_int.f k a0 a1) (slices_Equal_int_int.f (k + 1) a0 a1) := by
 intro a0 a1 k
 have ih0 := slices_Equal_int_int.mono_l k
 unfold slices_Equal_int_int.f
 repeat' first | (with_reducible first | exact ih0 _ _ _ _ | exact lR | exact lN | refine lI ?_ ?_ | refine lB ?_ fun _ => ?_) | exact ih0 _ _ _ _ | exact lN | refine lI ?_ ?_ | refine lB ?_ fun _ => ?_
set_option maxHeartbeats 8000000 in
set_option maxRecDepth 100000 in
theorem slices_Equal_int_int.calls (k : Nat) (A0 : Option Addr) (c0 : Nat) (l0 : List Int) (A1 : Option Addr) (c1 : Nat) (l1 : List Int) (r : Bool) (w : World) (hr0 : Kd.C (Kd.int .i64) w A0 l0.length l0) (hc0 : l0.length ≤ c0) (hr1 : Kd.C (Kd.int .i64) w A1 l1.length l1) (hc1 : l1.length ≤ c1) (h : slices_Equal_int_int.f k l0 l1 = some r) :
  Calls Try.prog 47 #[.slice A0 l0.length c0, .slice A1 l1.length c1] w fun e w' => e = .returned (.bool r) ∧ Drawn0 w w' := by
 have HR0 := aM hr0
 have HC0 := aM hc0
 clear hr0 hc0
 have HR1 := aM hr1
 have HC1 := aM hc1
 clear hr1 hc1
 unfold slices_Equal_int_int.f at h
 have H := h
 clear h
 by_cases c3 : (l0.length : Int) = (l1.length : Int)
 rotate_left
 ·rw [if_neg c3] at H
  have c3b0 : ((l0.length : Int) == (l1.length : Int)) = false := beq_eq_false_iff_ne.mpr c3
  have c3b1 : ((l0.length : Int) != (l1.length : Int)) = true := bne_iff_ne.mpr c3
  have c3b2 : (l0.length == l1.length) = false := by first | simpa using c3 | (simp at c3 ⊢; omega)
  obtain rfl := Option.some.inj H
  go_enter Try.func47, Try.ntmps47
  go_wp2
  repeat (go_quiet (fail); try go_wp2)
  go_ret
  exact ⟨qE, qD⟩
 rw [if_pos c3] at H
 have c3b0 : ((l0.length : Int) == (l1.length : Int)) = true := beq_iff_eq.mpr c3
 have c3b1 : ((l0.length : Int) != (l1.length : Int)) = false := bne_eq_false_iff_eq.mpr c3
 have c3b2 : (l0.length == l1.length) = true := by first | simpa using c3 | (simp at c3 ⊢; omega)
 clear c3
 have H' := aM H
 clear H
 go_enter Try.func47, Try.ntmps47
 go_wp2
 repeat (go_quiet (fail); try go_wp2)
 go_loopg [13] k (fun kq v13 w' => ∃ (x13_1 : Int), v13 = .int .i64 x13_1 ∧ Aside0 (slices_Equal_int_int.l0 kq l0 l1 (l0.length : Int) x13_1 = some r) ∧ Aside0 (kq ≤ k) ∧ Drawn0 w w')
 case atStart => exact ⟨(0), qE, H', ⟨Nat.le_refl _⟩, qD⟩
 case round =>
  clear H'
  try clear c1
  try clear c3
  try clear c3b0
  try clear c3b1
  try clear c3b2
  obtain ⟨x13_1, rfl, HA, HK1, ⟨m1, rfl⟩⟩ := hrel
  cases gk with
  | zero => exact absurd HA.out (by simp [slices_Equal_int_int.l0])
  | succ k1 =>
   have H := HA.out
   clear HA
   simp only [slices_Equal_int_int.l0] at H
   by_cases c4 : x13_1 < (l0.length : Int)
   rotate_left
   ·rw [if_neg c4] at H
    have c4b0 : decide (x13_1 < (l0.length : Int)) = false := decide_eq_false c4
    clear c4
    obtain rfl := Option.some.inj H
    go_wp2
    repeat (go_quiet (fail); try go_wp2)
    go_ret
    exact ⟨qE, qD⟩
   rw [if_pos c4] at H
   have c4b0 : decide (x13_1 < (l0.length : Int)) = true := decide_eq_true c4
   clear c4
   replace H := iD H
   obtain ⟨c5b0, H⟩ := H
   replace H := iD H
   obtain ⟨c6b0, H⟩ := H
   replace H := iD H
   obtain ⟨c7b0, H⟩ := H
   by_cases c8 : (rd l0 x13_1) = (rd l1 x13_1)
   rotate_left
   ·rw [if_neg c8] at H
    have c8b0 : ((rd l0 x13_1) == (rd l1 x13_1)) = false := beq_eq_false_iff_ne.mpr c8
    have c8b1 : ((rd l0 x13_1) != (rd l1 x13_1)) = true := bne_iff_ne.mpr c8
    obtain rfl := Option.some.inj H
    obtain ⟨ad483, e483, hx483_0⟩ := Kd.at_int HR0.out x13_1 oD oD
    cases e483
    have p483 := eq_true (oD : 0 ≤ (x13_1 : Int))
    have q483 := eq_true (oD : x13_1 < (l0.length : Int))
    obtain ⟨ad484, e484, hx484_0⟩ := Kd.at_int HR1.out x13_1 oD oD
    cases e484
    have p484 := eq_true (oD : 0 ≤ (x13_1 : Int))
    have q484 := eq_true (oD : x13_1 < (l1.length : Int))
    go_wp2
    repeat (go_quiet (fail); try go_wp2)
    go_ret
    exact ⟨qE, qD⟩
   rw [if_pos c8] at H
   have c8b0 : ((rd l0 x13_1) == (rd l1 x13_1)) = true := beq_iff_eq.mpr c8
   have c8b1 : ((rd l0 x13_1) != (rd l1 x13_1)) = false := bne_eq_false_iff_eq.mpr c8
   clear c8
   have H' := aM H
   clear H
   obtain ⟨ad483, e483, hx483_0⟩ := Kd.at_int HR0.out x13_1 oD oD
   cases e483
   have p483 := eq_true (oD : 0 ≤ (x13_1 : Int))
   have q483 := eq_true (oD : x13_1 < (l0.length : Int))
   obtain ⟨ad484, e484, hx484_0⟩ := Kd.at_int HR1.out x13_1 oD oD
   cases e484
   have p484 := eq_true (oD : 0 ≤ (x13_1 : Int))
   have q484 := eq_true (oD : x13_1 < (l1.length : Int))
   go_wp2
   repeat (go_quiet (fail); try go_wp2)
   go_roundg k1
   case measure => have := HK1.out; omega
   case rel => exact ⟨(wrap64 (x13_1 + 1)), qE, H', ⟨by have := HK1.out; omega⟩, qD⟩
mutual
def impl_ReadImage.j0 : Nat → List Int → Int → Bool → Option (Int × Int × Int × List Int × Bool)
 | 0, _, _, _ => none
 | k + 1, x0, x4, x25 => if x25 = true then (some (0, 0, 0, ([] : List Int), false)) else (impl_ReadImage.l0 k x0 x4 (([] : List (S54))) 5)
def impl_ReadImage.l0 : Nat → List Int → Int → List (S54) → Int → Option (Int × Int × Int × List Int × Bool)
 | 0, _, _, _, _ => none
 | k + 1, x0, x4, x5, x6 => if x6 < (wrap64 (x4 - 2)) then (if 0 ≤ x6 then (if x6 < (x0.length : Int) then (if (rd x0 x6) = 0 then (if 0 ≤ (wrap64 (x6 + 1)) then (if (wrap64 (x6 + 1)) < (x0.length : Int) then (if x5.length < 5864062014805 then (impl_ReadImage.l0 k x0 x4 (x5 ++ [(⟨rd x0 (wrap64 (x6 + 1)), 0, 0⟩ : S54)]) (wrap64 (x6 + 2))) else (none)) else (none)) else (none)) else (if 0 ≤ (wrap64 (x6 + 1)) then (if (wrap64 (x6 + 1)) < (x0.length : Int) then (if x5.length < 5864062014805 then (impl_ReadImage.l0 k x0 x4 (x5 ++ [(⟨0, rd x0 x6, rd x0 (wrap64 (x6 + 1))⟩ : S54)]) (wrap64 (x6 + 2))) else (none)) else (none)) else (none))) else (none)) else (none)) else ((impl_expandTokens.f k x5).bind fun bt500 => (if bt500.2 = true then (if 2 < (x0.length : Int) then (if 3 < (x0.length : Int) then (if 4 < (x0.length : Int) then ((impl_unfilterImage.f k (rd x0 2) (rd x0 3) (rd x0 4) bt500.1).bind fun bt507 => (if bt507.2.2.2.2 = true then ((impl_writeImage.f k bt507.1 bt507.2.1 bt507.2.2.1 bt507.2.2.2.1).bind fun bt515 => (if bt515.2 = true then ((slices_Equal_int_int.f k bt515.1 x0).bind fun t519 => (if t519 = true then (some (bt507.1, bt507.2.1, bt507.2.2.1, bt507.2.2.2.1, true)) else (some (0, 0, 0, ([] : List Int), false)))) else (some (0, 0, 0, ([] : List Int), false)))) else (some (0, 0, 0, ([] : List Int), false)))) else (none)) else (none)) else (none)) else (some (0, 0, 0, ([] : List Int), false))))
end
def impl_ReadImage.f (k : Nat) (l0 : List Int) : Option (Int × Int × Int × List Int × Bool) := (impl_isByteList.f l0).bind fun t486 => (if t486 = true then (if (l0.length : Int) < 7 then (impl_ReadImage.j0 k l0 (l0.length : Int) true) else (impl_ReadImage.j0 k l0 (l0.length : Int) (((l0.length : Int) % 2) == 0))) else (impl_ReadImage.j0 k l0 (l0.length : Int) true))
theorem impl_ReadImage.mono_l : ∀ k, (∀ y0 y1 y2, LeO (impl_ReadImage.j0 k y0 y1 y2) (impl_ReadImage.j0 (k + 1) y0 y1 y2)) ∧ (∀ y0 y1 y2 y3, LeO (impl_ReadImage.l0 k y0 y1 y2 y3) (impl_ReadImage.l0 (k + 1) y0 y1 y2 y3))
 | 0 => ⟨fun _ _ _ r h => by simp [impl_ReadImage.j0] at h, fun _ _ _ _ r h => by simp [impl_ReadImage.l0] at h⟩
 | k + 1 => by
  obtain ⟨ih0, ih1⟩ := impl_ReadImage.mono_l k
  refine ⟨?_, ?_⟩
  all_goals intros
  all_goals first | unfold impl_ReadImage.j0 | unfold impl_ReadImage.l0
  all_goals repeat' first | (with_reducible first | exact ih0 _ _ _ | exact ih1 _ _ _ _ | exact impl_expandTokens.mono _ _ | exact impl_unfilterImage.mono _ _ _ _ _ | exact impl_writeImage.mono _ _ _ _ _ | exact slices_Equal_int_int.mono _ _ _ | exact lR | exact lN | refine lI ?_ ?_ | refine lB ?_ fun _ => ?_) | exact ih0 _ _ _ | exact ih1 _ _ _ _ | exact impl_expandTokens.mono _ _ | exact impl_unfilterImage.mono _ _ _ _ _ | exact impl_writeImage.mono _ _ _ _ _ | exact slices_Equal_int_int.mono _ _ _ | exact lN | refine lI ?_ ?_ | refine lB ?_ fun _ => ?_
theorem impl_ReadImage.mono : ∀ a0 k, LeO (impl_ReadImage.f k a0) (impl_ReadImage.f (k + 1) a0) := by
 intro a0 k
 obtain ⟨ih0, ih1⟩ := impl_ReadImage.mono_l k
 unfold impl_ReadImage.f
 repeat' first | (with_reducible first | exact ih0 _ _ _ | exact ih1 _ _ _ _ | exact impl_expandTokens.mono _ _ | exact impl_unfilterImage.mono _ _ _ _ _ | exact impl_writeImage.mono _ _ _ _ _ | exact slices_Equal_int_int.mono _ _ _ | exact lR | exact lN | refine lI ?_ ?_ | refine lB ?_ fun _ => ?_) | exact ih0 _ _ _ | exact ih1 _ _ _ _ | exact impl_expandTokens.mono _ _ | exact impl_unfilterImage.mono _ _ _ _ _ | exact impl_writeImage.mono _ _ _ _ _ | exact slices_Equal_int_int.mono _ _ _ | exact lN | refine lI ?_ ?_ | refine lB ?_ fun _ => ?_
def impl_ReadImage.T10 : Bool × List (List Nat × List Nat) := (true, [([], []), ([], []), ([], []), ([1, 2], [1, 2]), ([3], [3]), ([], []), ([], []), ([6], [6]), ([5, 7], [5, 7]), ([8], [8]), ([4, 9], [4, 9]), ([10], [10]), ([0, 11], [0, 11]), ([12, 12, 0, 1, 2, 3, 4, 5, 6, 7, 8, 9, 10, 11, 12], [0, 12])])
def impl_ReadImage.B10 : List Nat := [0, 0, 0, 6, 14, 0, 0, 64, 224, 480, 1022, 2046, 4095, 8191]
theorem impl_ReadImage.tab10 : rtab .any (opsOf Try.f14 10) = impl_ReadImage.T10 := by kernel_rfl
theorem impl_ReadImage.bits10 : waitsOk impl_ReadImage.T10.2 impl_ReadImage.B10 = true := by kernel_rfl
def impl_ReadImage.T14 : Bool × List (List Nat × List Nat) := (true, [([], []), ([0], [0]), ([1], [1]), ([], []), ([3], [3]), ([4], [4]), ([], []), ([6], [6]), ([7], [7]), ([], []), ([2, 5, 8, 9], [2, 5, 8, 9]), ([10], [10]), ([11], [11]), ([11], [11]), ([], []), ([14, 12, 10, 0, 1, 2, 3, 4, 5, 6, 7, 8, 9, 10, 11, 12, 14], [12, 14]), ([13, 15, 0, 1, 2, 3, 4, 5, 6, 7, 8, 9, 10, 11, 12, 13, 14, 15], [13])])
def impl_ReadImage.B14 : List Nat := [0, 1, 3, 0, 8, 24, 0, 64, 192, 0, 1023, 2047, 4095, 4095, 0, 24575, 65535]
theorem impl_ReadImage.tab14 : rtab .any (opsOf Try.f14 14) = impl_ReadImage.T14 := by kernel_rfl
theorem impl_ReadImage.bits14 : waitsOk impl_ReadImage.T14.2 impl_ReadImage.B14 = true := by kernel_rfl
set_option maxHeartbeats 8000000 in
set_option maxRecDepth 100000 in
theorem impl_ReadImage.calls (k : Nat) (A0 : Option Addr) (c0 : Nat) (l0 : List Int) (r1 : Int) (r2 : Int) (r3 : Int) (r4 : List Int) (r5 : Bool) (w : World) (hr0 : Kd.C (Kd.int .i64) w A0 l0.length l0) (hc0 : l0.length ≤ c0) (h : impl_ReadImage.f k l0 = some (r1, r2, r3, r4, r5)) :
  Calls Try.prog 14 #[.slice A0 l0.length c0] w fun e w' => ∃ v3_ : Value, e = .returned (.tuple #[.agg #[.int .i64 r1, .int .i64 r2, .int .i64 r3, v3_], .bool r5]) ∧ Kd.R (Kd.int .i64) 3 w' w.heap.size (fun _ => True) v3_ r4 ∧ Below w.heap.size w w' := by
 have hu24 := Try.underlying24
 have hu54 := Try.underlying54
 have HR0 := aM hr0
 have HC0 := aM hc0
 clear hr0 hc0
 have HB := aM (Below.refl w.heap.size w)
 unfold impl_ReadImage.f at h
 have H := h
 clear h
 have HC2 := aM H
 clear H
 go_enter Try.func14, Try.ntmps14
 go_upto_region 2 with (first | ((with_reducible refine gate_dst (N := 2) rfl ?_); refine bxE (N := 2) (cs := #[.int .i64 0, .int .i64 0, .int .i64 0, .slice none 0 0]) (t := 24) ?_; intro gb485 hg w3 hbox hb; have BK485 := aM (hbox); have GW485 := gW hg HB; have GE485 := gW hg HB; replace HB := bS HB hb; clear hb hbox hg))
 (try simp only [Act.put, List.setIfInBounds_toArray, List.set_cons_zero, List.set_cons_succ])
 go_cut [25] (fun v25 wc => ∃ (kq : Nat) (x25_1 : Bool), v25 = .bool x25_1 ∧ Aside0 (impl_ReadImage.j0 kq l0 (l0.length : Int) x25_1 = some (r1, r2, r3, r4, r5)) ∧ Aside0 (kq ≤ k) ∧ Aside0 (wc.heap[gb485]? = some (.cells #[.int .i64 0, .int .i64 0, .int .i64 0, (.slice none 0 0)] 24 (0, 0))) ∧ Aside0 (Below w.heap.size w wc))
 case first =>
  have H := HC2.out
  clear HC2
  replace H := Option.bind_eq_some_iff.mp H
  obtain ⟨t486, A40, H⟩ := H
  replace H : (if t486 = true then (if (l0.length : Int) < 7 then (impl_ReadImage.j0 k l0 (l0.length : Int) true) else (impl_ReadImage.j0 k l0 (l0.length : Int) (((l0.length : Int) % 2) == 0))) else (impl_ReadImage.j0 k l0 (l0.length : Int) true)) = some (r1, r2, r3, r4, r5) := H
  have A4 := aM A40
  clear A40
  by_cases c5 : t486 = true
  rotate_left
  ·replace c5 := Bool.eq_false_iff.mpr c5
   subst c5
   have H1 : (impl_ReadImage.j0 k l0 (l0.length : Int) true) = some (r1, r2, r3, r4, r5) := by rw [if_neg (show ¬ (false = true) by decide)] at H; exact H
   clear H
   have H := H1
   clear H1
   have H' := aM H
   clear H
   go_wp2_with (first | ((with_reducible refine gate_callee (f := 43) rfl ?_); refine gL (some 15) Try.func43 #[.slice A0 l0.length c0] ?_; (with_reducible refine (impl_isByteList.calls _ _ l0 false _ ?side1 ?side2 A4.out).mono ?_); (case side1 => exact qC (Kd.C_below HR0.out HB.out)); (case side2 => exact HC0.out); rintro e w' ⟨rfl, ⟨nd, rfl⟩⟩; refine ⟨_, rfl, ?_⟩))
   go_meet
   case rel => exact ⟨_, (true), qE, H', ⟨by first | omega | exact Nat.le_refl _⟩, ⟨by refine qB ?_; exact BK485.out⟩, ⟨by exact qW HB.out⟩⟩
  subst c5
  have H1 : (if (l0.length : Int) < 7 then (impl_ReadImage.j0 k l0 (l0.length : Int) true) else (impl_ReadImage.j0 k l0 (l0.length : Int) (((l0.length : Int) % 2) == 0))) = some (r1, r2, r3, r4, r5) := by rw [if_pos rfl] at H; exact H
  clear H
  have H := H1
  clear H1
  by_cases c6 : (l0.length : Int) < 7
  ·rw [if_pos c6] at H
   have c6b0 : decide ((l0.length : Int) < 7) = true := decide_eq_true c6
   have c6b1 : decide (l0.length < 7) = true := decide_eq_true (by omega)
   clear c6
   (first | rw [c6b0] | (simp only [i64_w, i32_w]; rw [c6b0]) | skip)
   have H' := aM H
   clear H
   go_wp2_with (first | ((with_reducible refine gate_callee (f := 43) rfl ?_); refine gL (some 15) Try.func43 #[.slice A0 l0.length c0] ?_; (with_reducible refine (impl_isByteList.calls _ _ l0 true _ ?side1 ?side2 A4.out).mono ?_); (case side1 => exact qC (Kd.C_below HR0.out HB.out)); (case side2 => exact HC0.out); rintro e w' ⟨rfl, ⟨nd, rfl⟩⟩; refine ⟨_, rfl, ?_⟩))
   go_meet
   case rel => exact ⟨_, (true), qE, H', ⟨by first | omega | exact Nat.le_refl _⟩, ⟨by refine qB ?_; exact BK485.out⟩, ⟨by exact qW HB.out⟩⟩
  rw [if_neg c6] at H
  have c6b0 : decide ((l0.length : Int) < 7) = false := decide_eq_false c6
  have c6b1 : decide (l0.length < 7) = false := decide_eq_false (by omega)
  clear c6
  (first | rw [c6b0] | (simp only [i64_w, i32_w]; rw [c6b0]) | skip)
  have H' := aM H
  clear H
  go_wp2_with (first | ((with_reducible refine gate_callee (f := 43) rfl ?_); refine gL (some 15) Try.func43 #[.slice A0 l0.length c0] ?_; (with_reducible refine (impl_isByteList.calls _ _ l0 true _ ?side1 ?side2 A4.out).mono ?_); (case side1 => exact qC (Kd.C_below HR0.out HB.out)); (case side2 => exact HC0.out); rintro e w' ⟨rfl, ⟨nd, rfl⟩⟩; refine ⟨_, rfl, ?_⟩))
  go_meet
  case rel => exact ⟨_, ((((l0.length : Int) % 2) == 0)), qE, H', ⟨by first | omega | exact Nat.le_refl _⟩, ⟨by refine qB ?_; exact BK485.out⟩, ⟨by exact qW HB.out⟩⟩
 case rest =>
  clear HC2
  try clear c5
  try clear c6
  try clear c6b0
  try clear c6b1
  obtain ⟨kq, x25_1, rfl, HA, HJ1, BK485, HB⟩ := hcut
  cases kq with
  | zero => exact absurd HA.out (by simp [impl_ReadImage.j0])
  | succ kj1 =>
   have H := HA.out
   clear HA
   simp only [impl_ReadImage.j0] at H
   by_cases c7 : x25_1 = true
   ·subst c7
    have H1 : (some (0, 0, 0, ([] : List Int), false)) = some (r1, r2, r3, r4, r5) := by rw [if_pos rfl] at H; exact H
    clear H
    have H := H1
    clear H1
    simp only [Option.some.injEq, Prod.mk.injEq] at H
    obtain ⟨rfl, rfl, rfl, rfl, rfl⟩ := H
    obtain ⟨⟨hcz8_0, hcz8_1, hcz8_2, hcz8_3⟩, hfz8_0, hfz8_1, hfz8_2, hfz8_3⟩ := cf4 BK485
    go_wp2
    refine bodyPost_ret (results_ct rfl _ _ gb485 24 #[.int .i64 0, .int .i64 0, .int .i64 0, .slice none 0 0] (0, 0) _ rfl (by exact bP BK485.out) Try.underlying24 rfl (by kernel_rfl)) rfl ?_
    exact ⟨_, qX, qN, by exact qW HB.out⟩
   replace c7 := Bool.eq_false_iff.mpr c7
   subst c7
   have H1 : (impl_ReadImage.l0 kj1 l0 (l0.length : Int) (([] : List (S54))) 5) = some (r1, r2, r3, r4, r5) := by rw [if_neg (show ¬ (false = true) by decide)] at H; exact H
   clear H
   have H := H1
   clear H1
   obtain ⟨y487, hy487⟩ : ∃ y_ : List (S54), y_ = (([] : List (S54))) := ⟨_, rfl⟩
   replace H : (impl_ReadImage.l0 kj1 l0 (l0.length : Int) y487 5) = some (r1, r2, r3, r4, r5) := rY hy487 H
   have Ny487 := aM hy487
   clear hy487
   have H' := aM H
   clear H
   go_wp2_with (first | ((with_reducible refine gate_dst (N := 27) rfl ?_); refine Kd.R_lit k54 _ 54 ?hg (N := 27) ?hd (xs := ([] : List (S54))) (inner := []) (ok := fun _ => True) (okp := fun _ => True) ?hr ?hp (fun _ hk => hk) trivial (Below.refl _ _) (Nat.le_refl _) (by simp) ?_; (case hd => rfl); (case hg => rfl); (case hr => first | (go_simp; done) | (go_simp; rfl)); (case hp => exact (Reps.none _ _)); intro v488 w9 ho10 hb hg_ hnew_; clear hg_ hnew_; (first | rw [← Ny487.out] at ho10 | (simp only [Int.reduceToNat] at ho10; rw [← Ny487.out] at ho10)); have HO489 := oR ho10 HB; replace BK485 := bB BK485 hb; replace HB := bS HB hb; clear hb ho10))
   go_loopg [5, 6] kj1 (fun kq v5 v6 w' => ∃ (x5_2 : List (S54)) (x6_2 : Int), v6 = .int .i64 x6_2 ∧ Aside0 (impl_ReadImage.l0 kq l0 (l0.length : Int) x5_2 x6_2 = some (r1, r2, r3, r4, r5)) ∧ Aside0 (kq ≤ kj1) ∧ Aside0 (Kd.R k54 54 w' w.heap.size (fun _ => True) v5 x5_2) ∧ Aside0 (w'.heap[gb485]? = some (.cells #[.int .i64 0, .int .i64 0, .int .i64 0, (.slice none 0 0)] 24 (0, 0))) ∧ Aside0 (Below w.heap.size w w'))
   case atStart => exact ⟨(y487), (5), qE, H', ⟨Nat.le_refl _⟩, ⟨by refine qR ?_; exact HO489.out⟩, ⟨by refine qB ?_; exact BK485.out⟩, ⟨by exact qW HB.out⟩⟩
   case round =>
    clear H'
    try clear c5
    try clear c6
    try clear c6b0
    try clear c6b1
    try clear c7
    try clear hcz8_0 hcz8_1 hcz8_2 hcz8_3 hfz8_0 hfz8_1 hfz8_2 hfz8_3
    obtain ⟨x5_2, x6_2, rfl, HA, HK2, HO_5, BK485, HB⟩ := hrel
    cases gk with
    | zero => exact absurd HA.out (by simp [impl_ReadImage.l0])
    | succ k2 =>
     have H := HA.out
     clear HA
     simp only [impl_ReadImage.l0] at H
     by_cases c11 : x6_2 < (wrap64 ((l0.length : Int) - 2))
     ·rw [if_pos c11] at H
      have c11b0 : decide (x6_2 < (wrap64 ((l0.length : Int) - 2))) = true := decide_eq_true c11
      clear c11
      replace H := iD H
      obtain ⟨c12b0, H⟩ := H
      replace H := iD H
      obtain ⟨c13b0, H⟩ := H
      by_cases c14 : (rd l0 x6_2) = 0
      ·rw [if_pos c14] at H
       have c14b0 : ((rd l0 x6_2) == 0) = true := beq_iff_eq.mpr c14
       have c14b1 : ((rd l0 x6_2) != 0) = false := bne_eq_false_iff_eq.mpr c14
       clear c14
       obtain ⟨ji15, hji15⟩ : ∃ j_ : Int, (wrap64 (x6_2 + 1)) = j_ := ⟨_, rfl⟩
       replace H : (if 0 ≤ (ji15) then (if (ji15) < (l0.length : Int) then (if x5_2.length < 5864062014805 then (impl_ReadImage.l0 k2 l0 (l0.length : Int) (x5_2 ++ [(⟨rd l0 (ji15), 0, 0⟩ : S54)]) (wrap64 (x6_2 + 2))) else (none)) else (none)) else (none)) = some (r1, r2, r3, r4, r5) := by first | (rw [hji15] at H; exact H) | (simp only [hji15] at H ⊢; exact H)
       have hji15w : (IntKind.i64.wrap (x6_2 + 1)) = ji15 := (i64_w _).trans hji15
       replace H := iD H
       obtain ⟨c16b0, H⟩ := H
       replace H := iD H
       obtain ⟨c17b0, H⟩ := H
       replace H := iS H
       obtain ⟨c18, H⟩ := H
       have LMc18 := aM c18
       clear c18
       obtain ⟨y492, hy492⟩ : ∃ y_ : List (S54), y_ = (x5_2 ++ [(⟨rd l0 (ji15), 0, 0⟩ : S54)]) := ⟨_, rfl⟩
       replace H : (impl_ReadImage.l0 k2 l0 (l0.length : Int) y492 (wrap64 (x6_2 + 2))) = some (r1, r2, r3, r4, r5) := rY hy492 H
       have Ny492 := aM hy492
       clear hy492
       have H' := aM H
       clear H
       obtain ⟨ad490, e490, hx490_0⟩ := Kd.at_int HR0.out x6_2 oD oD
       cases e490
       replace hx490_0 := bD HB hx490_0
       have p490 := eq_true (oD : 0 ≤ (x6_2 : Int))
       have q490 := eq_true (oD : x6_2 < (l0.length : Int))
       obtain ⟨ad491, e491, hx491_0⟩ := Kd.at_int HR0.out (ji15) oD oD
       obtain rfl : ad490 = ad491 := (by injection e491)
       replace hx491_0 := bD HB hx491_0
       have p491 := eq_true (oD : 0 ≤ ((ji15) : Int))
       have q491 := eq_true (oD : (ji15) < (l0.length : Int))
       go_wp2_with (first | ((with_reducible refine gate_builtin (b := .append) (xs := #[.tmp 39, .tmp 46]) rfl ?_); at_builtin; refine Kd.R_append k54 (w0 := w) w.heap.size rfl (.tmp 39) (.tmp 46) 51 54 (.agg #[(.int .i64 0), (.int .i64 0), (.int .i64 0)]) 24 rfl Try.underlying51 info54 rfl (by decide) (by omega) u5 x5_2 (⟨rd l0 (ji15), 0, 0⟩ : S54) [.int .i64 (rd l0 (ji15)), .int .i64 0, .int .i64 0] (fun _ => True) (fun _ => False) rfl rfl ?aP (fun _ hk => hk.elim) ?aF ?aO ?aB ?aS ?aL ?_; (case aP => exact k54_mkM _ _ _ (⟨rd l0 (ji15), 0, 0⟩ : S54)); (case aB => exact (qW HB.out)); (case aF => exact (fun _ _ => trivial)); (case aO => exact (qR HO_5.out)); (case aS => exact (below_size (qW HB.out))); (case aL => have := LMc18.out; omega); intro v493 w19 ho hb hg hat; rw [← Ny492.out] at ho; replace BK485 := gB BK485 hg (Kd.R_ne HO_5.out BK485.out (by decide)); replace HB := aM (hb); have HO494 := aM (ho); clear HO_5; clear ho hb hg hat))
       go_roundg k2
       case measure => have := HJ1.out; have := HK2.out; omega
       case rel => exact ⟨(y492), (wrap64 (x6_2 + 2)), qE, H', ⟨by have := HJ1.out; have := HK2.out; omega⟩, ⟨by refine qR ?_; exact HO494.out⟩, ⟨by refine qB ?_; exact BK485.out⟩, ⟨by exact qW HB.out⟩⟩
      rw [if_neg c14] at H
      have c14b0 : ((rd l0 x6_2) == 0) = false := beq_eq_false_iff_ne.mpr c14
      have c14b1 : ((rd l0 x6_2) != 0) = true := bne_iff_ne.mpr c14
      obtain ⟨ji20, hji20⟩ : ∃ j_ : Int, (wrap64 (x6_2 + 1)) = j_ := ⟨_, rfl⟩
      replace H : (if 0 ≤ (ji20) then (if (ji20) < (l0.length : Int) then (if x5_2.length < 5864062014805 then (impl_ReadImage.l0 k2 l0 (l0.length : Int) (x5_2 ++ [(⟨0, rd l0 x6_2, rd l0 (ji20)⟩ : S54)]) (wrap64 (x6_2 + 2))) else (none)) else (none)) else (none)) = some (r1, r2, r3, r4, r5) := by first | (rw [hji20] at H; exact H) | (simp only [hji20] at H ⊢; exact H)
      have hji20w : (IntKind.i64.wrap (x6_2 + 1)) = ji20 := (i64_w _).trans hji20
      replace H := iD H
      obtain ⟨c21b0, H⟩ := H
      replace H := iD H
      obtain ⟨c22b0, H⟩ := H
      replace H := iS H
      obtain ⟨c23, H⟩ := H
      have LMc23 := aM c23
      clear c23
      obtain ⟨y497, hy497⟩ : ∃ y_ : List (S54), y_ = (x5_2 ++ [(⟨0, rd l0 x6_2, rd l0 (ji20)⟩ : S54)]) := ⟨_, rfl⟩
      replace H : (impl_ReadImage.l0 k2 l0 (l0.length : Int) y497 (wrap64 (x6_2 + 2))) = some (r1, r2, r3, r4, r5) := rY hy497 H
      have Ny497 := aM hy497
      clear hy497
      have H' := aM H
      clear H
      obtain ⟨ad490, e490, hx490_0⟩ := Kd.at_int HR0.out x6_2 oD oD
      cases e490
      replace hx490_0 := bD HB hx490_0
      have p490 := eq_true (oD : 0 ≤ (x6_2 : Int))
      have q490 := eq_true (oD : x6_2 < (l0.length : Int))
      try go_wp2
      replace HO_5 := aM (Kd.R_drew HO_5.out)
      replace BK485 := aM (blk_drew BK485.out)
      replace HB := aM (below_drew1 HB.out)
      obtain ⟨ad495, e495, hx495_0⟩ := Kd.at_int HR0.out x6_2 oD oD
      have hw495_0 := hx495_0
      obtain rfl : ad490 = ad495 := (by injection e495)
      replace hx495_0 := bD HB hx495_0
      have p495 := eq_true (oD : 0 ≤ (x6_2 : Int))
      have q495 := eq_true (oD : x6_2 < (l0.length : Int))
      obtain ⟨ad496, e496, hx496_0⟩ := Kd.at_int HR0.out (ji20) oD oD
      have hw496_0 := hx496_0
      obtain rfl : ad490 = ad496 := (by injection e496)
      replace hx496_0 := bD HB hx496_0
      have p496 := eq_true (oD : 0 ≤ ((ji20) : Int))
      have q496 := eq_true (oD : (ji20) < (l0.length : Int))
      refine start_ (n := 14) (S := fun w' => w'.cell? (ad490.add (x6_2).toNat) = some (.int .i64 (rd l0 x6_2)) ∧ w'.cell? (ad490.add ((ji20)).toNat) = some (.int .i64 (rd l0 (ji20)))) (ds := []) (bA 14 0) (by kernel_rfl) rfl rfl ⟨(bC HB hw495_0), (bC HB hw496_0)⟩ (fun hHeld => ?_); refine with_tabW impl_ReadImage.tab10 impl_ReadImage.bits10 (fun HT_ HW_ => ?_)
      generalize wr.drew = w24 at HO_5 BK485 HB hx495_0 hx496_0 hHeld ⊢
      refine pQ 0 48 HT_ (bA 14 1) ?_
      refine pQ 1 49 HT_ (bA 14 3) ?_
      refine pQ 2 50 HT_ (bA 14 7) ?_
      refine pQ 3 51 HT_ (bA 14 15) ?_
      refine pQ 5 53 HT_ (bA 14 47) ?_
      refine pQ 6 54 HT_ (bA 14 111) ?_
      refine pQ 7 55 HT_ (bA 14 239) ?_
      refine pQ 8 56 HT_ (bA 14 495) ?_
      refine take_ (i := 4) (N := some 52) (v := ?_) (a' := ?_) (bA 14 511) rfl rfl (take_ofW HT_.out HW_.out (by kernel_rfl)) (fun _ _ _ h => h) (Or.inl ⟨by rfl, ?_⟩) hHeld ?_ ?_
      rotate_left
      ·rintro w' ⟨s0, s1⟩
       go_simp
       with_reducible rfl
      rotate_left
      ·refine pZ ?_
       rfl
      refine take_ (i := 9) (N := some 57) (v := ?_) (a' := ?_) (bA 14 1023) rfl rfl (take_ofW HT_.out HW_.out (by kernel_rfl)) (fun _ _ _ h => h) (Or.inl ⟨by rfl, ?_⟩) hHeld ?_ ?_
      rotate_left
      ·rintro w' ⟨s0, s1⟩
       go_simp
       with_reducible rfl
      rotate_left
      ·refine pZ ?_
       rfl
      refine pQ 10 58 HT_ (bA 14 2047) ?_
      refine one_ (i := 11) (N := some 59) (bA 14 4095) rfl rfl (one_of HT_.out (by kernel_rfl)) (by decide) (fun K hK => ?_)
      refine value_ (w1 := ?_) (v := ?_) (by rfl) rfl ?_ ?_
      rotate_left 2
      ·go_simp
       constructor
       rotate_left
       ·rfl
       rfl
      refine hK.out _ _ ⟨(World.cell?_alloc_lt _ _ _ (World.block_lt_of_cell? _ _ ((bC HB hw495_0)))).trans ((bC HB hw495_0)), (World.cell?_alloc_lt _ _ _ (World.block_lt_of_cell? _ _ ((bC HB hw496_0)))).trans ((bC HB hw496_0))⟩ (fun hHeld => ?_)
      clear hK K
      refine norm_ (a' := ?_) ?_ ?_
      rotate_left
      ·show Act.put _ (some 59) _ = _
       refine pZ ?_
       rfl
      refine one_ (i := 12) (N := some 60) (bA 14 8191) rfl rfl (one_of HT_.out (by kernel_rfl)) (by decide) (fun K hK => ?_)
      refine Kd.R_append_step k54 (w0 := w) w.heap.size (by rfl) (.tmp 48) (.tmp 59) 51 54 (.agg #[(.int .i64 0), (.int .i64 0), (.int .i64 0)]) 24 rfl Try.underlying51 info54 rfl (by decide) (by omega) u5 x5_2 (⟨0, rd l0 x6_2, rd l0 (ji20)⟩ : S54) [.int .i64 0, .int .i64 (rd l0 x6_2), .int .i64 (rd l0 (ji20))] (fun _ => True) (fun _ => False) rfl rfl ?aP (fun _ hk => hk.elim) ?aF ?aO ?aB ?aS ?aL ?_
      (case aP => exact k54_mkM _ _ _ (⟨0, rd l0 x6_2, rd l0 (ji20)⟩ : S54))
      (case aB => exact (qW HB.out))
      (case aF => exact (fun _ _ => trivial))
      (case aO => exact (qR HO_5.out))
      (case aS => exact (below_size (qW HB.out)))
      (case aL => have := LMc23.out; omega)
      intro v498 w25 ho hb hg hat
      rw [← Ny497.out] at ho
      replace BK485 := gB BK485 hg (Kd.R_ne HO_5.out BK485.out (by decide))
      replace HB := aM (hb)
      have HO499 := aM (ho)
      clear HO_5
      clear ho hb hg hat
      refine hK.out _ _ ⟨(bC HB hw495_0), (bC HB hw496_0)⟩ (fun hHeld => ?_)
      clear hK K
      refine norm_ (a' := ?_) ?_ ?_
      rotate_left
      ·show Act.put _ (some 60) _ = _
       refine pZ ?_
       rfl
      refine pQ 13 5 HT_ (bA 14 16383) ?_
      refine done_ (done_of HT_.out (by kernel_rfl)) ?_
      try go_wp2
      go_roundg k2
      case measure => have := HJ1.out; have := HK2.out; omega
      case rel => exact ⟨(y497), (wrap64 (x6_2 + 2)), qE, H', ⟨by have := HJ1.out; have := HK2.out; omega⟩, ⟨by refine qR ?_; exact HO499.out⟩, ⟨by refine qB ?_; exact BK485.out⟩, ⟨by exact qW HB.out⟩⟩
     rw [if_neg c11] at H
     have c11b0 : decide (x6_2 < (wrap64 ((l0.length : Int) - 2))) = false := decide_eq_false c11
     clear c11
     replace H := Option.bind_eq_some_iff.mp H
     obtain ⟨⟨t500, t501⟩, A260, H⟩ := H
     replace H : (if t501 = true then (if 2 < (l0.length : Int) then (if 3 < (l0.length : Int) then (if 4 < (l0.length : Int) then ((impl_unfilterImage.f k2 (rd l0 2) (rd l0 3) (rd l0 4) t500).bind fun bt507 => (if bt507.2.2.2.2 = true then ((impl_writeImage.f k2 bt507.1 bt507.2.1 bt507.2.2.1 bt507.2.2.2.1).bind fun bt515 => (if bt515.2 = true then ((slices_Equal_int_int.f k2 bt515.1 l0).bind fun t519 => (if t519 = true then (some (bt507.1, bt507.2.1, bt507.2.2.1, bt507.2.2.2.1, true)) else (some (0, 0, 0, ([] : List Int), false)))) else (some (0, 0, 0, ([] : List Int), false)))) else (some (0, 0, 0, ([] : List Int), false)))) else (none)) else (none)) else (none)) else (some (0, 0, 0, ([] : List Int), false))) = some (r1, r2, r3, r4, r5) := H
     have A26 := aM A260
     clear A260
     by_cases c27 : t501 = true
     rotate_left
     ·replace c27 := Bool.eq_false_iff.mpr c27
      subst c27
      have H1 : (some (0, 0, 0, ([] : List Int), false)) = some (r1, r2, r3, r4, r5) := by rw [if_neg (show ¬ (false = true) by decide)] at H; exact H
      clear H
      have H := H1
      clear H1
      simp only [Option.some.injEq, Prod.mk.injEq] at H
      obtain ⟨rfl, rfl, rfl, rfl, rfl⟩ := H
      obtain ⟨Ao102, co102, rfl⟩ := sL HO_5
      go_wp2_with (first | ((with_reducible refine gate_callee (f := 44) rfl ?_); refine gL (some 63) Try.func44 #[.slice Ao102 x5_2.length co102] ?_; (with_reducible refine (impl_expandTokens.calls k2 _ _ x5_2 t500 false _ ?side1 ?side2 A26.out).mono ?_); (case side1 => exact qC (Kd.R_reads' HO_5.out).2.2); (case side2 => exact (Kd.R_reads' HO_5.out).2.1); rintro e w103 ⟨v502, rfl, ho0, hb⟩; refine ⟨_, rfl, ?_⟩; replace HO_5 := aM (Kd.R_below (qR HO_5.out) hb); have HO503 := oR ho0 HB; replace BK485 := bB BK485 hb; replace HB := bS HB hb; clear hb ho0; obtain ⟨⟨hcz104_0, hcz104_1, hcz104_2, hcz104_3⟩, hfz104_0, hfz104_1, hfz104_2, hfz104_3⟩ := cf4 BK485))
      refine bodyPost_ret (results_ct rfl _ _ gb485 24 #[.int .i64 0, .int .i64 0, .int .i64 0, .slice none 0 0] (0, 0) _ rfl (by exact bP BK485.out) Try.underlying24 rfl (by kernel_rfl)) rfl ?_
      exact ⟨_, qX, qN, by exact qW HB.out⟩
     subst c27
     have H1 : (if 2 < (l0.length : Int) then (if 3 < (l0.length : Int) then (if 4 < (l0.length : Int) then ((impl_unfilterImage.f k2 (rd l0 2) (rd l0 3) (rd l0 4) t500).bind fun bt507 => (if bt507.2.2.2.2 = true then ((impl_writeImage.f k2 bt507.1 bt507.2.1 bt507.2.2.1 bt507.2.2.2.1).bind fun bt515 => (if bt515.2 = true then ((slices_Equal_int_int.f k2 bt515.1 l0).bind fun t519 => (if t519 = true then (some (bt507.1, bt507.2.1, bt507.2.2.1, bt507.2.2.2.1, true)) else (some (0, 0, 0, ([] : List Int), false)))) else (some (0, 0, 0, ([] : List Int), false)))) else (some (0, 0, 0, ([] : List Int), false)))) else (none)) else (none)) else (none)) = some (r1, r2, r3, r4, r5) := by rw [if_pos rfl] at H; exact H
     clear H
     have H := H1
     clear H1
     replace H := iS H
     obtain ⟨c28, H⟩ := H
     have c28b0 : decide (2 < (l0.length : Int)) = true := decide_eq_true c28
     have c28b1 : decide (2 < l0.length) = true := decide_eq_true (by omega)
     clear c28
     replace H := iS H
     obtain ⟨c29, H⟩ := H
     have c29b0 : decide (3 < (l0.length : Int)) = true := decide_eq_true c29
     have c29b1 : decide (3 < l0.length) = true := decide_eq_true (by omega)
     clear c29
     replace H := iS H
     obtain ⟨c30, H⟩ := H
     have c30b0 : decide (4 < (l0.length : Int)) = true := decide_eq_true c30
     have c30b1 : decide (4 < l0.length) = true := decide_eq_true (by omega)
     clear c30
     replace H := Option.bind_eq_some_iff.mp H
     obtain ⟨⟨t507, t508, t509, t510, t513⟩, A310, H⟩ := H
     replace H : (if t513 = true then ((impl_writeImage.f k2 t507 t508 t509 t510).bind fun bt515 => (if bt515.2 = true then ((slices_Equal_int_int.f k2 bt515.1 l0).bind fun t519 => (if t519 = true then (some (t507, t508, t509, t510, true)) else (some (0, 0, 0, ([] : List Int), false)))) else (some (0, 0, 0, ([] : List Int), false)))) else (some (0, 0, 0, ([] : List Int), false))) = some (r1, r2, r3, r4, r5) := H
     have A31 := aM A310
     clear A310
     by_cases c32 : t513 = true
     rotate_left
     ·replace c32 := Bool.eq_false_iff.mpr c32
      subst c32
      have H1 : (some (0, 0, 0, ([] : List Int), false)) = some (r1, r2, r3, r4, r5) := by rw [if_neg (show ¬ (false = true) by decide)] at H; exact H
      clear H
      have H := H1
      clear H1
      simp only [Option.some.injEq, Prod.mk.injEq] at H
      obtain ⟨rfl, rfl, rfl, rfl, rfl⟩ := H
      obtain ⟨Ao88, co88, rfl⟩ := sL HO_5
      try go_wp2_with (first | ((with_reducible refine gate_callee (f := 44) rfl ?_); refine gL (some 63) Try.func44 #[.slice Ao88 x5_2.length co88] ?_; (with_reducible refine (impl_expandTokens.calls k2 _ _ x5_2 t500 true _ ?side1 ?side2 A26.out).mono ?_); (case side1 => exact qC (Kd.R_reads' HO_5.out).2.2); (case side2 => exact (Kd.R_reads' HO_5.out).2.1); rintro e w89 ⟨v502, rfl, ho0, hb⟩; refine ⟨_, rfl, ?_⟩; replace HO_5 := aM (Kd.R_below (qR HO_5.out) hb); have HO503 := oR ho0 HB; replace BK485 := bB BK485 hb; replace HB := bS HB hb; clear hb ho0; obtain ⟨Ao90, co90, rfl⟩ := sL HO503))
      replace HO_5 := aM (Kd.R_drew HO_5.out)
      replace HO503 := aM (Kd.R_drew HO503.out)
      replace BK485 := aM (blk_drew BK485.out)
      replace HB := aM (below_drew1 HB.out)
      have p504 : 0 ≤ (2 : Int) := (by omega)
      have q504 : 2 < (l0.length : Int) := oD
      obtain ⟨ad504, e504, hx504_0⟩ := Kd.at_int HR0.out 2 p504 q504
      have hw504_0 := hx504_0
      (try rw [show ((2 : Int)).toNat = 2 from rfl] at hw504_0)
      (try rw [show 2 * 1 = 2 from rfl] at hw504_0)
      (try simp only [Nat.reduceMul, Nat.reduceEqDiff, Go.Addr.add, ↓reduceIte] at hw504_0)
      cases e504
      (try simp only [show (2 : Int).toNat = 2 from rfl, Nat.reduceMul, Nat.reduceEqDiff, Go.Addr.add, ↓reduceIte] at hx504_0)
      have qi504 : (2 < l0.length) = True := eq_true (by omega)
      (try rw [show ((2 : Int)).toNat = 2 from rfl] at hx504_0)
      replace hx504_0 := bD HB hx504_0
      replace p504 := eq_true p504
      replace q504 := eq_true q504
      have p505 : 0 ≤ (3 : Int) := (by omega)
      have q505 : 3 < (l0.length : Int) := oD
      obtain ⟨ad505, e505, hx505_0⟩ := Kd.at_int HR0.out 3 p505 q505
      have hw505_0 := hx505_0
      (try rw [show ((3 : Int)).toNat = 3 from rfl] at hw505_0)
      (try rw [show 3 * 1 = 3 from rfl] at hw505_0)
      (try simp only [Nat.reduceMul, Nat.reduceEqDiff, Go.Addr.add, ↓reduceIte] at hw505_0)
      obtain rfl : ad504 = ad505 := (by injection e505)
      (try simp only [show (3 : Int).toNat = 3 from rfl, Nat.reduceMul, Nat.reduceEqDiff, Go.Addr.add, ↓reduceIte] at hx505_0)
      have qi505 : (3 < l0.length) = True := eq_true (by omega)
      (try rw [show ((3 : Int)).toNat = 3 from rfl] at hx505_0)
      replace hx505_0 := bD HB hx505_0
      replace p505 := eq_true p505
      replace q505 := eq_true q505
      have p506 : 0 ≤ (4 : Int) := (by omega)
      have q506 : 4 < (l0.length : Int) := oD
      obtain ⟨ad506, e506, hx506_0⟩ := Kd.at_int HR0.out 4 p506 q506
      have hw506_0 := hx506_0
      (try rw [show ((4 : Int)).toNat = 4 from rfl] at hw506_0)
      (try rw [show 4 * 1 = 4 from rfl] at hw506_0)
      (try simp only [Nat.reduceMul, Nat.reduceEqDiff, Go.Addr.add, ↓reduceIte] at hw506_0)
      obtain rfl : ad504 = ad506 := (by injection e506)
      (try simp only [show (4 : Int).toNat = 4 from rfl, Nat.reduceMul, Nat.reduceEqDiff, Go.Addr.add, ↓reduceIte] at hx506_0)
      have qi506 : (4 < l0.length) = True := eq_true (by omega)
      (try rw [show ((4 : Int)).toNat = 4 from rfl] at hx506_0)
      replace hx506_0 := bD HB hx506_0
      replace p506 := eq_true p506
      replace q506 := eq_true q506
      refine start_ (n := 17) (S := fun w' => w'.cell? ⟨ad504.block, ad504.off + 2, none⟩ = some (.int .i64 (rd l0 2)) ∧ w'.cell? ⟨ad504.block, ad504.off + 3, none⟩ = some (.int .i64 (rd l0 3)) ∧ w'.cell? ⟨ad504.block, ad504.off + 4, none⟩ = some (.int .i64 (rd l0 4))) (ds := []) (bA 17 0) (by kernel_rfl) rfl rfl ⟨(bC HB hw504_0), (bC HB hw505_0), (bC HB hw506_0)⟩ (fun hHeld => ?_); refine with_tabW impl_ReadImage.tab14 impl_ReadImage.bits14 (fun HT_ HW_ => ?_)
      generalize w89.drew = w91 at HO_5 HO503 BK485 HB hx504_0 hx505_0 hx506_0 hHeld ⊢
      refine pQ 0 70 HT_ (bA 17 1) ?_
      refine pQ 1 71 HT_ (bA 17 3) ?_
      refine pQ 3 73 HT_ (bA 17 11) ?_
      refine pQ 4 74 HT_ (bA 17 27) ?_
      refine pQ 6 76 HT_ (bA 17 91) ?_
      refine pQ 7 77 HT_ (bA 17 219) ?_
      refine pQ 9 79 HT_ (bA 17 731) ?_
      refine take_ (i := 2) (N := some 72) (v := ?_) (a' := ?_) (bA 17 735) rfl rfl (take_ofW HT_.out HW_.out (by kernel_rfl)) (fun _ _ _ h => h) (Or.inl ⟨by rfl, ?_⟩) hHeld ?_ ?_
      rotate_left
      ·rintro w' ⟨s0, s1, s2⟩
       go_simp
       with_reducible rfl
      rotate_left
      ·refine pZ ?_
       rfl
      refine take_ (i := 5) (N := some 75) (v := ?_) (a' := ?_) (bA 17 767) rfl rfl (take_ofW HT_.out HW_.out (by kernel_rfl)) (fun _ _ _ h => h) (Or.inl ⟨by rfl, ?_⟩) hHeld ?_ ?_
      rotate_left
      ·rintro w' ⟨s0, s1, s2⟩
       go_simp
       with_reducible rfl
      rotate_left
      ·refine pZ ?_
       rfl
      refine take_ (i := 8) (N := some 78) (v := ?_) (a' := ?_) (bA 17 1023) rfl rfl (take_ofW HT_.out HW_.out (by kernel_rfl)) (fun _ _ _ h => h) (Or.inl ⟨by rfl, ?_⟩) hHeld ?_ ?_
      rotate_left
      ·rintro w' ⟨s0, s1, s2⟩
       go_simp
       with_reducible rfl
      rotate_left
      ·refine pZ ?_
       rfl
      refine join_ (σ := Value × Nat) 2 (bA 17 32767) (fun s_ => [(80, .tuple #[.agg #[.int .i64 t507, .int .i64 t508, .int .i64 t509, s_.1], .bool false]), (9, .pointer (some ⟨s_.2, 0, none⟩)), (69, .tuple #[.agg #[.int .i64 t507, .int .i64 t508, .int .i64 t509, s_.1], .bool false]), (81, .agg #[.int .i64 t507, .int .i64 t508, .int .i64 t509, s_.1]), (82, .bool false)]) (fun s_ w' => (w'.cell? ⟨ad504.block, ad504.off + 2, none⟩ = some (.int .i64 (rd l0 2)) ∧ w'.cell? ⟨ad504.block, ad504.off + 3, none⟩ = some (.int .i64 (rd l0 3)) ∧ w'.cell? ⟨ad504.block, ad504.off + 4, none⟩ = some (.int .i64 (rd l0 4))) ∧ (Kd.R (Kd.int .i64) 3 w' w.heap.size (fun k_ => some k_ ≠ (s_.1 : Value).ownBlock) (.slice Ao90 t500.length co90) t500) ∧ (Kd.R (Kd.int .i64) 3 w' w.heap.size (fun k_ => some k_ ≠ (.slice Ao90 t500.length co90 : Value).ownBlock) s_.1 t510) ∧ (Kd.R k54 54 w' w.heap.size (fun _ => True) (.slice Ao88 x5_2.length co88) x5_2) ∧ (w'.heap[gb485]? = some (.cells #[.int .i64 0, .int .i64 0, .int .i64 0, .slice none 0 0] 24 (0, 0))) ∧ (w'.heap[s_.2]? = some (.cells #[.int .i64 0, .int .i64 0, .int .i64 0, .slice none 0 0] 24 (0, 0))) ∧ (w.heap.size ≤ s_.2) ∧ (w.heap.size ≤ s_.2) ∧ (gb485 ≠ s_.2) ∧ (s_.2 ≠ gb485) ∧ (Below w.heap.size w w')) ?_ ?_
      rotate_left
      ·intro hCont
       refine two_ (i := 10) (j := 14) (Ni := some 80) (Nj := some 9) (bA 17 2047) (bA 17 17407) rfl rfl rfl rfl (two_of HT_.out (by kernel_rfl)) (by decide) (by decide) (fun K hK => ?_) (fun K hK => ?_)
       ·skip
        refine goes_ Try.func45 (by kernel_rfl) rfl #[.int .i64 (rd l0 2), .int .i64 (rd l0 3), .int .i64 (rd l0 4), .slice Ao90 t500.length co90] (by rfl) rfl rfl qM ?_
        with_reducible refine (impl_unfilterImage.calls k2 (rd l0 2) (rd l0 3) (rd l0 4) _ _ t500 t507 t508 t509 t510 false _ ?side1 ?side2 A31.out).mono ?_
        (case side1 => exact qC (Kd.R_reads' HO503.out).2.2)
        (case side2 => exact (Kd.R_reads' HO503.out).2.1)
        rintro e w92 ⟨v511, rfl, ho0, hb⟩
        refine ⟨_, rfl, ?_⟩
        replace HO_5 := aM (Kd.R_below (qR HO_5.out) hb)
        have HO512 := nR ho0 HO503 HB
        replace HO503 := aM (Kd.R_elder' (qR HO503.out) (Kd.R_base ho0) hb)
        replace BK485 := bB BK485 hb
        replace HB := bS HB hb
        (try clear hb)
        (try clear hb2)
        (try clear hk)
        (try clear hi)
        (try clear ho0)
        refine hK.out _ _ ⟨(bC HB hw504_0), (bC HB hw505_0), (bC HB hw506_0)⟩ (fun hHeld => ?_)
        clear hK K
        refine norm_ (a' := ?_) ?_ ?_
        rotate_left
        ·show Act.put _ (some 80) _ = _
         refine pZ ?_
         rfl
        refine pQ 11 69 HT_ (bA 17 4095) ?_
        refine pQ 12 81 HT_ (bA 17 8191) ?_
        refine pQ 13 82 HT_ (bA 17 16383) ?_
        refine one_ (i := 14) (N := some 9) (bA 17 32767) rfl rfl (one_of HT_.out (by kernel_rfl)) (by decide) (fun K hK => ?_)
        refine box_step ?hg (N := 9) ?hd (cs := #[.int .i64 0, .int .i64 0, .int .i64 0, .slice none 0 0]) (t := 24) ?hr ?_; (case hd => rfl); (case hg => rfl); (case hr => first | (go_simp; done) | (go_simp; rfl))
        intro gb514 hg w93 hbox hb
        replace HO_5 := aM (Kd.R_below (qR HO_5.out) hb)
        replace HO503 := aM (Kd.R_below (qR HO503.out) hb)
        replace HO512 := aM (Kd.R_below (qR HO512.out) hb)
        have BK514 := aM (hbox)
        have GW514 := gW hg HB
        have GE514 := gW hg HB
        replace HB := bS HB hb
        have NB485_514 := nL hg BK485
        have NB514_485 := nG hg BK485
        replace BK485 := bB BK485 hb
        clear hb hbox hg
        refine hK.out _ _ ⟨(bC HB hw504_0), (bC HB hw505_0), (bC HB hw506_0)⟩ (fun hHeld => ?_)
        clear hK K
        refine norm_ (a' := ?_) ?_ ?_
        rotate_left
        ·show Act.put _ (some 9) _ = _
         refine pZ ?_
         rfl
        exact norm_ (by simp only [putAll, Act.put, List.setIfInBounds_toArray, List.set_cons_zero, List.set_cons_succ]) (hCont (v511, gb514) _ ⟨hHeld, (by refine qR ?_; exact Kd.R_mono HO503.out (fun _ hk => hk.2)), (by refine qR ?_; exact Kd.R_mono HO512.out (fun _ hk => hk.2)), (qR HO_5.out), (qB BK485.out), (qB BK514.out), GW514.out, GE514.out, NB485_514.out, NB514_485.out, (qW HB.out)⟩)
       skip
       refine box_step ?hg (N := 9) ?hd (cs := #[.int .i64 0, .int .i64 0, .int .i64 0, .slice none 0 0]) (t := 24) ?hr ?_; (case hd => rfl); (case hg => rfl); (case hr => first | (go_simp; done) | (go_simp; rfl))
       intro gb514 hg w92 hbox hb
       replace HO_5 := aM (Kd.R_below (qR HO_5.out) hb)
       replace HO503 := aM (Kd.R_below (qR HO503.out) hb)
       have BK514 := aM (hbox)
       have GW514 := gW hg HB
       have GE514 := gW hg HB
       replace HB := bS HB hb
       have NB485_514 := nL hg BK485
       have NB514_485 := nG hg BK485
       replace BK485 := bB BK485 hb
       clear hb hbox hg
       refine hK.out _ _ ⟨(bC HB hw504_0), (bC HB hw505_0), (bC HB hw506_0)⟩ (fun hHeld => ?_)
       clear hK K
       refine norm_ (a' := ?_) ?_ ?_
       rotate_left
       ·show Act.put _ (some 9) _ = _
        refine pZ ?_
        rfl
       refine one_ (i := 10) (N := some 80) (bA 17 18431) rfl rfl (one_of HT_.out (by kernel_rfl)) (by decide) (fun K hK => ?_)
       refine goes_ Try.func45 (by kernel_rfl) rfl #[.int .i64 (rd l0 2), .int .i64 (rd l0 3), .int .i64 (rd l0 4), .slice Ao90 t500.length co90] (by rfl) rfl rfl qM ?_
       with_reducible refine (impl_unfilterImage.calls k2 (rd l0 2) (rd l0 3) (rd l0 4) _ _ t500 t507 t508 t509 t510 false _ ?side1 ?side2 A31.out).mono ?_
       (case side1 => exact qC (Kd.R_reads' HO503.out).2.2)
       (case side2 => exact (Kd.R_reads' HO503.out).2.1)
       rintro e w93 ⟨v511, rfl, ho0, hb⟩
       refine ⟨_, rfl, ?_⟩
       replace HO_5 := aM (Kd.R_below (qR HO_5.out) hb)
       have HO512 := nR ho0 HO503 HB
       replace HO503 := aM (Kd.R_elder' (qR HO503.out) (Kd.R_base ho0) hb)
       replace BK485 := bB BK485 hb
       replace BK514 := bB BK514 hb
       replace HB := bS HB hb
       (try clear hb)
       (try clear hb2)
       (try clear hk)
       (try clear hi)
       (try clear ho0)
       refine hK.out _ _ ⟨(bC HB hw504_0), (bC HB hw505_0), (bC HB hw506_0)⟩ (fun hHeld => ?_)
       clear hK K
       refine norm_ (a' := ?_) ?_ ?_
       rotate_left
       ·show Act.put _ (some 80) _ = _
        refine pZ ?_
        rfl
       refine pQ 11 69 HT_ (bA 17 20479) ?_
       refine pQ 12 81 HT_ (bA 17 24575) ?_
       refine pQ 13 82 HT_ (bA 17 32767) ?_
       exact norm_ (by simp only [putAll, Act.put, List.setIfInBounds_toArray, List.set_cons_zero, List.set_cons_succ]) (hCont (v511, gb514) _ ⟨hHeld, (by refine qR ?_; exact Kd.R_mono HO503.out (fun _ hk => hk.2)), (by refine qR ?_; exact Kd.R_mono HO512.out (fun _ hk => hk.2)), (qR HO_5.out), (qB BK485.out), (qB BK514.out), GW514.out, GE514.out, NB485_514.out, NB514_485.out, (qW HB.out)⟩)
      rintro ⟨v511, gb514⟩ w94 ⟨hS_, h0_, h1_, h2_, h3_, h4_, h5_, h6_, h7_, h8_, h9_⟩
      replace HO503 : Aside0 (Kd.R (Kd.int .i64) 3 w94 w.heap.size (fun k_ => some k_ ≠ (v511 : Value).ownBlock) (.slice Ao90 t500.length co90) t500) := ⟨h0_⟩
      have HO512 : Aside0 (Kd.R (Kd.int .i64) 3 w94 w.heap.size (fun k_ => some k_ ≠ (.slice Ao90 t500.length co90 : Value).ownBlock) v511 t510) := ⟨h1_⟩
      replace HO_5 : Aside0 (Kd.R k54 54 w94 w.heap.size (fun _ => True) (.slice Ao88 x5_2.length co88) x5_2) := ⟨h2_⟩
      replace BK485 : Aside0 (w94.heap[gb485]? = some (.cells #[.int .i64 0, .int .i64 0, .int .i64 0, .slice none 0 0] 24 (0, 0))) := ⟨h3_⟩
      have BK514 : Aside0 (w94.heap[gb514]? = some (.cells #[.int .i64 0, .int .i64 0, .int .i64 0, .slice none 0 0] 24 (0, 0))) := ⟨h4_⟩
      have GW514 : Aside0 (w.heap.size ≤ gb514) := ⟨h5_⟩
      have GE514 : Aside0 (w.heap.size ≤ gb514) := ⟨h6_⟩
      have NB485_514 : Aside0 (gb485 ≠ gb514) := ⟨h7_⟩
      have NB514_485 : Aside0 (gb514 ≠ gb485) := ⟨h8_⟩
      replace HB : Aside0 (Below w.heap.size w w94) := ⟨h9_⟩
      clear h0_ h1_ h2_ h3_ h4_ h5_ h6_ h7_ h8_ h9_
      have hHeld : w94.cell? ⟨ad504.block, ad504.off + 2, none⟩ = some (.int .i64 (rd l0 2)) ∧ w94.cell? ⟨ad504.block, ad504.off + 3, none⟩ = some (.int .i64 (rd l0 3)) ∧ w94.cell? ⟨ad504.block, ad504.off + 4, none⟩ = some (.int .i64 (rd l0 4)) := hS_
      obtain ⟨Ao98, co98, eo98⟩ := Kd.R_slice HO512.out
      (first | subst eo98 | (injection eo98 with f1_ f2_ f3_; have f4_ := f1_.symm; have f5_ := f3_.symm; clear f1_ f2_ f3_; subst f4_; subst f5_))
      refine norm_ (a' := ?_) ?_ ?_
      rotate_left
      ·simp only [putAll, Act.put, List.setIfInBounds_toArray, List.set_cons_zero, List.set_cons_succ]
       rfl
      refine one_ (i := 15) (N := none) (bA 17 65535) rfl rfl (one_of HT_.out (by kernel_rfl)) (by decide) (fun K hK => ?_)
      have hs95 : w94.cell? ⟨gb514, 0, none⟩ = some (.int .i64 0) := (blk_cell BK514.out 0).trans rfl
      have hfs95 := blk_frozen BK514.out 0
      have hns95_0 := NB485_514.out
      have hms95_0 := NB514_485.out
      have hs96 : w94.cell? ⟨gb514, 1, none⟩ = some (.int .i64 0) := (blk_cell BK514.out 1).trans rfl
      have hfs96 := blk_frozen BK514.out 1
      have hns96_0 := NB485_514.out
      have hms96_0 := NB514_485.out
      have hs97 : w94.cell? ⟨gb514, 2, none⟩ = some (.int .i64 0) := (blk_cell BK514.out 2).trans rfl
      have hfs97 := blk_frozen BK514.out 2
      have hns97_0 := NB485_514.out
      have hms97_0 := NB514_485.out
      have hs99 : w94.cell? ⟨gb514, 3, none⟩ = some (.slice none 0 0) := (blk_cell BK514.out 3).trans rfl
      have hfs99 := blk_frozen BK514.out 3
      have hns99_0 := NB485_514.out
      have hms99_0 := NB514_485.out
      refine skip_ (w1 := ?_) (by rfl) rfl ?_ ?_
      rotate_left
      ·go_simp
       rfl
      refine hK.out _ _ ⟨((cF hw504_0 GW514).trans (((cF hw504_0 GW514).trans (((cF hw504_0 GW514).trans (((cF hw504_0 GW514).trans (hHeld.1)))))))), ((cF hw505_0 GW514).trans (((cF hw505_0 GW514).trans (((cF hw505_0 GW514).trans (((cF hw505_0 GW514).trans (hHeld.2.1)))))))), ((cF hw506_0 GW514).trans (((cF hw506_0 GW514).trans (((cF hw506_0 GW514).trans (((cF hw506_0 GW514).trans (hHeld.2.2))))))))⟩ (fun hHeld => ?_)
      clear hK K
      refine pQ 16 8 HT_ (bA 17 131071) ?_
      refine done_ (done_of HT_.out (by kernel_rfl)) ?_
      have hnb100 := NB485_514.out
      have hnc100 := NB514_485.out
      obtain ⟨⟨hcz101_0, hcz101_1, hcz101_2, hcz101_3⟩, hfz101_0, hfz101_1, hfz101_2, hfz101_3⟩ := cf4 BK485
      try go_wp2
      refine bodyPost_ret (results_ct rfl _ _ gb485 24 #[.int .i64 0, .int .i64 0, .int .i64 0, .slice none 0 0] (0, 0) _ rfl (by refine qB ?_; refine blk_put (cs := #[.int .i64 0, .int .i64 0, .int .i64 0, .slice none 0 0]) ?_ 3 _ rfl; refine qB ?_; refine blk_put (cs := #[.int .i64 0, .int .i64 0, .int .i64 0, .slice none 0 0]) ?_ 2 _ rfl; refine qB ?_; refine blk_put (cs := #[.int .i64 0, .int .i64 0, .int .i64 0, .slice none 0 0]) ?_ 1 _ rfl; refine qB ?_; refine blk_put (cs := #[.int .i64 0, .int .i64 0, .int .i64 0, .slice none 0 0]) ?_ 0 _ rfl; refine qB ?_; refine blk_far ?_ NB485_514.out _; refine qB ?_; refine blk_far ?_ NB485_514.out _; refine qB ?_; refine blk_far ?_ NB485_514.out _; refine qB ?_; refine blk_far ?_ NB485_514.out _; refine qB ?_; exact BK485.out) Try.underlying24 rfl (by kernel_rfl)) rfl ?_
      exact ⟨_, qX, qN, by exact qW HB.out⟩
     subst c32
     have H1 : ((impl_writeImage.f k2 t507 t508 t509 t510).bind fun bt515 => (if bt515.2 = true then ((slices_Equal_int_int.f k2 bt515.1 l0).bind fun t519 => (if t519 = true then (some (t507, t508, t509, t510, true)) else (some (0, 0, 0, ([] : List Int), false)))) else (some (0, 0, 0, ([] : List Int), false)))) = some (r1, r2, r3, r4, r5) := by rw [if_pos rfl] at H; exact H
     clear H
     have H := H1
     clear H1
     replace H := Option.bind_eq_some_iff.mp H
     obtain ⟨⟨t515, t518⟩, A330, H⟩ := H
     replace H : (if t518 = true then ((slices_Equal_int_int.f k2 t515 l0).bind fun t519 => (if t519 = true then (some (t507, t508, t509, t510, true)) else (some (0, 0, 0, ([] : List Int), false)))) else (some (0, 0, 0, ([] : List Int), false))) = some (r1, r2, r3, r4, r5) := H
     have A33 := aM A330
     clear A330
     by_cases c34 : t518 = true
     rotate_left
     ·replace c34 := Bool.eq_false_iff.mpr c34
      subst c34
      have H1 : (some (0, 0, 0, ([] : List Int), false)) = some (r1, r2, r3, r4, r5) := by rw [if_neg (show ¬ (false = true) by decide)] at H; exact H
      clear H
      have H := H1
      clear H1
      simp only [Option.some.injEq, Prod.mk.injEq] at H
      obtain ⟨rfl, rfl, rfl, rfl, rfl⟩ := H
      obtain ⟨Ao72, co72, rfl⟩ := sL HO_5
      try go_wp2_with (first | ((with_reducible refine gate_callee (f := 44) rfl ?_); refine gL (some 63) Try.func44 #[.slice Ao72 x5_2.length co72] ?_; (with_reducible refine (impl_expandTokens.calls k2 _ _ x5_2 t500 true _ ?side1 ?side2 A26.out).mono ?_); (case side1 => exact qC (Kd.R_reads' HO_5.out).2.2); (case side2 => exact (Kd.R_reads' HO_5.out).2.1); rintro e w73 ⟨v502, rfl, ho0, hb⟩; refine ⟨_, rfl, ?_⟩; replace HO_5 := aM (Kd.R_below (qR HO_5.out) hb); have HO503 := oR ho0 HB; replace BK485 := bB BK485 hb; replace HB := bS HB hb; clear hb ho0; obtain ⟨Ao74, co74, rfl⟩ := sL HO503))
      replace HO_5 := aM (Kd.R_drew HO_5.out)
      replace HO503 := aM (Kd.R_drew HO503.out)
      replace BK485 := aM (blk_drew BK485.out)
      replace HB := aM (below_drew1 HB.out)
      have p504 : 0 ≤ (2 : Int) := (by omega)
      have q504 : 2 < (l0.length : Int) := oD
      obtain ⟨ad504, e504, hx504_0⟩ := Kd.at_int HR0.out 2 p504 q504
      have hw504_0 := hx504_0
      (try rw [show ((2 : Int)).toNat = 2 from rfl] at hw504_0)
      (try rw [show 2 * 1 = 2 from rfl] at hw504_0)
      (try simp only [Nat.reduceMul, Nat.reduceEqDiff, Go.Addr.add, ↓reduceIte] at hw504_0)
      cases e504
      (try simp only [show (2 : Int).toNat = 2 from rfl, Nat.reduceMul, Nat.reduceEqDiff, Go.Addr.add, ↓reduceIte] at hx504_0)
      have qi504 : (2 < l0.length) = True := eq_true (by omega)
      (try rw [show ((2 : Int)).toNat = 2 from rfl] at hx504_0)
      replace hx504_0 := bD HB hx504_0
      replace p504 := eq_true p504
      replace q504 := eq_true q504
      have p505 : 0 ≤ (3 : Int) := (by omega)
      have q505 : 3 < (l0.length : Int) := oD
      obtain ⟨ad505, e505, hx505_0⟩ := Kd.at_int HR0.out 3 p505 q505
      have hw505_0 := hx505_0
      (try rw [show ((3 : Int)).toNat = 3 from rfl] at hw505_0)
      (try rw [show 3 * 1 = 3 from rfl] at hw505_0)
      (try simp only [Nat.reduceMul, Nat.reduceEqDiff, Go.Addr.add, ↓reduceIte] at hw505_0)
      obtain rfl : ad504 = ad505 := (by injection e505)
      (try simp only [show (3 : Int).toNat = 3 from rfl, Nat.reduceMul, Nat.reduceEqDiff, Go.Addr.add, ↓reduceIte] at hx505_0)
      have qi505 : (3 < l0.length) = True := eq_true (by omega)
      (try rw [show ((3 : Int)).toNat = 3 from rfl] at hx505_0)
      replace hx505_0 := bD HB hx505_0
      replace p505 := eq_true p505
      replace q505 := eq_true q505
      have p506 : 0 ≤ (4 : Int) := (by omega)
      have q506 : 4 < (l0.length : Int) := oD
      obtain ⟨ad506, e506, hx506_0⟩ := Kd.at_int HR0.out 4 p506 q506
      have hw506_0 := hx506_0
      (try rw [show ((4 : Int)).toNat = 4 from rfl] at hw506_0)
      (try rw [show 4 * 1 = 4 from rfl] at hw506_0)
      (try simp only [Nat.reduceMul, Nat.reduceEqDiff, Go.Addr.add, ↓reduceIte] at hw506_0)
      obtain rfl : ad504 = ad506 := (by injection e506)
      (try simp only [show (4 : Int).toNat = 4 from rfl, Nat.reduceMul, Nat.reduceEqDiff, Go.Addr.add, ↓reduceIte] at hx506_0)
      have qi506 : (4 < l0.length) = True := eq_true (by omega)
      (try rw [show ((4 : Int)).toNat = 4 from rfl] at hx506_0)
      replace hx506_0 := bD HB hx506_0
      replace p506 := eq_true p506
      replace q506 := eq_true q506
      refine start_ (n := 17) (S := fun w' => w'.cell? ⟨ad504.block, ad504.off + 2, none⟩ = some (.int .i64 (rd l0 2)) ∧ w'.cell? ⟨ad504.block, ad504.off + 3, none⟩ = some (.int .i64 (rd l0 3)) ∧ w'.cell? ⟨ad504.block, ad504.off + 4, none⟩ = some (.int .i64 (rd l0 4))) (ds := []) (bA 17 0) (by kernel_rfl) rfl rfl ⟨(bC HB hw504_0), (bC HB hw505_0), (bC HB hw506_0)⟩ (fun hHeld => ?_); refine with_tabW impl_ReadImage.tab14 impl_ReadImage.bits14 (fun HT_ HW_ => ?_)
      generalize w73.drew = w75 at HO_5 HO503 BK485 HB hx504_0 hx505_0 hx506_0 hHeld ⊢
      refine pQ 0 70 HT_ (bA 17 1) ?_
      refine pQ 1 71 HT_ (bA 17 3) ?_
      refine pQ 3 73 HT_ (bA 17 11) ?_
      refine pQ 4 74 HT_ (bA 17 27) ?_
      refine pQ 6 76 HT_ (bA 17 91) ?_
      refine pQ 7 77 HT_ (bA 17 219) ?_
      refine pQ 9 79 HT_ (bA 17 731) ?_
      refine take_ (i := 2) (N := some 72) (v := ?_) (a' := ?_) (bA 17 735) rfl rfl (take_ofW HT_.out HW_.out (by kernel_rfl)) (fun _ _ _ h => h) (Or.inl ⟨by rfl, ?_⟩) hHeld ?_ ?_
      rotate_left
      ·rintro w' ⟨s0, s1, s2⟩
       go_simp
       with_reducible rfl
      rotate_left
      ·refine pZ ?_
       rfl
      refine take_ (i := 5) (N := some 75) (v := ?_) (a' := ?_) (bA 17 767) rfl rfl (take_ofW HT_.out HW_.out (by kernel_rfl)) (fun _ _ _ h => h) (Or.inl ⟨by rfl, ?_⟩) hHeld ?_ ?_
      rotate_left
      ·rintro w' ⟨s0, s1, s2⟩
       go_simp
       with_reducible rfl
      rotate_left
      ·refine pZ ?_
       rfl
      refine take_ (i := 8) (N := some 78) (v := ?_) (a' := ?_) (bA 17 1023) rfl rfl (take_ofW HT_.out HW_.out (by kernel_rfl)) (fun _ _ _ h => h) (Or.inl ⟨by rfl, ?_⟩) hHeld ?_ ?_
      rotate_left
      ·rintro w' ⟨s0, s1, s2⟩
       go_simp
       with_reducible rfl
      rotate_left
      ·refine pZ ?_
       rfl
      refine join_ (σ := Value × Nat) 2 (bA 17 32767) (fun s_ => [(80, .tuple #[.agg #[.int .i64 t507, .int .i64 t508, .int .i64 t509, s_.1], .bool true]), (9, .pointer (some ⟨s_.2, 0, none⟩)), (69, .tuple #[.agg #[.int .i64 t507, .int .i64 t508, .int .i64 t509, s_.1], .bool true]), (81, .agg #[.int .i64 t507, .int .i64 t508, .int .i64 t509, s_.1]), (82, .bool true)]) (fun s_ w' => (w'.cell? ⟨ad504.block, ad504.off + 2, none⟩ = some (.int .i64 (rd l0 2)) ∧ w'.cell? ⟨ad504.block, ad504.off + 3, none⟩ = some (.int .i64 (rd l0 3)) ∧ w'.cell? ⟨ad504.block, ad504.off + 4, none⟩ = some (.int .i64 (rd l0 4))) ∧ (Kd.R (Kd.int .i64) 3 w' w.heap.size (fun k_ => some k_ ≠ (s_.1 : Value).ownBlock) (.slice Ao74 t500.length co74) t500) ∧ (Kd.R (Kd.int .i64) 3 w' w.heap.size (fun k_ => some k_ ≠ (.slice Ao74 t500.length co74 : Value).ownBlock) s_.1 t510) ∧ (Kd.R k54 54 w' w.heap.size (fun _ => True) (.slice Ao72 x5_2.length co72) x5_2) ∧ (w'.heap[gb485]? = some (.cells #[.int .i64 0, .int .i64 0, .int .i64 0, .slice none 0 0] 24 (0, 0))) ∧ (w'.heap[s_.2]? = some (.cells #[.int .i64 0, .int .i64 0, .int .i64 0, .slice none 0 0] 24 (0, 0))) ∧ (w.heap.size ≤ s_.2) ∧ (w.heap.size ≤ s_.2) ∧ (gb485 ≠ s_.2) ∧ (s_.2 ≠ gb485) ∧ (Below w.heap.size w w')) ?_ ?_
      rotate_left
      ·intro hCont
       refine two_ (i := 10) (j := 14) (Ni := some 80) (Nj := some 9) (bA 17 2047) (bA 17 17407) rfl rfl rfl rfl (two_of HT_.out (by kernel_rfl)) (by decide) (by decide) (fun K hK => ?_) (fun K hK => ?_)
       ·skip
        refine goes_ Try.func45 (by kernel_rfl) rfl #[.int .i64 (rd l0 2), .int .i64 (rd l0 3), .int .i64 (rd l0 4), .slice Ao74 t500.length co74] (by rfl) rfl rfl qM ?_
        with_reducible refine (impl_unfilterImage.calls k2 (rd l0 2) (rd l0 3) (rd l0 4) _ _ t500 t507 t508 t509 t510 true _ ?side1 ?side2 A31.out).mono ?_
        (case side1 => exact qC (Kd.R_reads' HO503.out).2.2)
        (case side2 => exact (Kd.R_reads' HO503.out).2.1)
        rintro e w76 ⟨v511, rfl, ho0, hb⟩
        refine ⟨_, rfl, ?_⟩
        replace HO_5 := aM (Kd.R_below (qR HO_5.out) hb)
        have HO512 := nR ho0 HO503 HB
        replace HO503 := aM (Kd.R_elder' (qR HO503.out) (Kd.R_base ho0) hb)
        replace BK485 := bB BK485 hb
        replace HB := bS HB hb
        (try clear hb)
        (try clear hb2)
        (try clear hk)
        (try clear hi)
        (try clear ho0)
        refine hK.out _ _ ⟨(bC HB hw504_0), (bC HB hw505_0), (bC HB hw506_0)⟩ (fun hHeld => ?_)
        clear hK K
        refine norm_ (a' := ?_) ?_ ?_
        rotate_left
        ·show Act.put _ (some 80) _ = _
         refine pZ ?_
         rfl
        refine pQ 11 69 HT_ (bA 17 4095) ?_
        refine pQ 12 81 HT_ (bA 17 8191) ?_
        refine pQ 13 82 HT_ (bA 17 16383) ?_
        refine one_ (i := 14) (N := some 9) (bA 17 32767) rfl rfl (one_of HT_.out (by kernel_rfl)) (by decide) (fun K hK => ?_)
        refine box_step ?hg (N := 9) ?hd (cs := #[.int .i64 0, .int .i64 0, .int .i64 0, .slice none 0 0]) (t := 24) ?hr ?_; (case hd => rfl); (case hg => rfl); (case hr => first | (go_simp; done) | (go_simp; rfl))
        intro gb514 hg w77 hbox hb
        replace HO_5 := aM (Kd.R_below (qR HO_5.out) hb)
        replace HO503 := aM (Kd.R_below (qR HO503.out) hb)
        replace HO512 := aM (Kd.R_below (qR HO512.out) hb)
        have BK514 := aM (hbox)
        have GW514 := gW hg HB
        have GE514 := gW hg HB
        replace HB := bS HB hb
        have NB485_514 := nL hg BK485
        have NB514_485 := nG hg BK485
        replace BK485 := bB BK485 hb
        clear hb hbox hg
        refine hK.out _ _ ⟨(bC HB hw504_0), (bC HB hw505_0), (bC HB hw506_0)⟩ (fun hHeld => ?_)
        clear hK K
        refine norm_ (a' := ?_) ?_ ?_
        rotate_left
        ·show Act.put _ (some 9) _ = _
         refine pZ ?_
         rfl
        exact norm_ (by simp only [putAll, Act.put, List.setIfInBounds_toArray, List.set_cons_zero, List.set_cons_succ]) (hCont (v511, gb514) _ ⟨hHeld, (by refine qR ?_; exact Kd.R_mono HO503.out (fun _ hk => hk.2)), (by refine qR ?_; exact Kd.R_mono HO512.out (fun _ hk => hk.2)), (qR HO_5.out), (qB BK485.out), (qB BK514.out), GW514.out, GE514.out, NB485_514.out, NB514_485.out, (qW HB.out)⟩)
       skip
       refine box_step ?hg (N := 9) ?hd (cs := #[.int .i64 0, .int .i64 0, .int .i64 0, .slice none 0 0]) (t := 24) ?hr ?_; (case hd => rfl); (case hg => rfl); (case hr => first | (go_simp; done) | (go_simp; rfl))
       intro gb514 hg w76 hbox hb
       replace HO_5 := aM (Kd.R_below (qR HO_5.out) hb)
       replace HO503 := aM (Kd.R_below (qR HO503.out) hb)
       have BK514 := aM (hbox)
       have GW514 := gW hg HB
       have GE514 := gW hg HB
       replace HB := bS HB hb
       have NB485_514 := nL hg BK485
       have NB514_485 := nG hg BK485
       replace BK485 := bB BK485 hb
       clear hb hbox hg
       refine hK.out _ _ ⟨(bC HB hw504_0), (bC HB hw505_0), (bC HB hw506_0)⟩ (fun hHeld => ?_)
       clear hK K
       refine norm_ (a' := ?_) ?_ ?_
       rotate_left
       ·show Act.put _ (some 9) _ = _
        refine pZ ?_
        rfl
       refine one_ (i := 10) (N := some 80) (bA 17 18431) rfl rfl (one_of HT_.out (by kernel_rfl)) (by decide) (fun K hK => ?_)
       refine goes_ Try.func45 (by kernel_rfl) rfl #[.int .i64 (rd l0 2), .int .i64 (rd l0 3), .int .i64 (rd l0 4), .slice Ao74 t500.length co74] (by rfl) rfl rfl qM ?_
       with_reducible refine (impl_unfilterImage.calls k2 (rd l0 2) (rd l0 3) (rd l0 4) _ _ t500 t507 t508 t509 t510 true _ ?side1 ?side2 A31.out).mono ?_
       (case side1 => exact qC (Kd.R_reads' HO503.out).2.2)
       (case side2 => exact (Kd.R_reads' HO503.out).2.1)
       rintro e w77 ⟨v511, rfl, ho0, hb⟩
       refine ⟨_, rfl, ?_⟩
       replace HO_5 := aM (Kd.R_below (qR HO_5.out) hb)
       have HO512 := nR ho0 HO503 HB
       replace HO503 := aM (Kd.R_elder' (qR HO503.out) (Kd.R_base ho0) hb)
       replace BK485 := bB BK485 hb
       replace BK514 := bB BK514 hb
       replace HB := bS HB hb
       (try clear hb)
       (try clear hb2)
       (try clear hk)
       (try clear hi)
       (try clear ho0)
       refine hK.out _ _ ⟨(bC HB hw504_0), (bC HB hw505_0), (bC HB hw506_0)⟩ (fun hHeld => ?_)
       clear hK K
       refine norm_ (a' := ?_) ?_ ?_
       rotate_left
       ·show Act.put _ (some 80) _ = _
        refine pZ ?_
        rfl
       refine pQ 11 69 HT_ (bA 17 20479) ?_
       refine pQ 12 81 HT_ (bA 17 24575) ?_
       refine pQ 13 82 HT_ (bA 17 32767) ?_
       exact norm_ (by simp only [putAll, Act.put, List.setIfInBounds_toArray, List.set_cons_zero, List.set_cons_succ]) (hCont (v511, gb514) _ ⟨hHeld, (by refine qR ?_; exact Kd.R_mono HO503.out (fun _ hk => hk.2)), (by refine qR ?_; exact Kd.R_mono HO512.out (fun _ hk => hk.2)), (qR HO_5.out), (qB BK485.out), (qB BK514.out), GW514.out, GE514.out, NB485_514.out, NB514_485.out, (qW HB.out)⟩)
      rintro ⟨v511, gb514⟩ w78 ⟨hS_, h0_, h1_, h2_, h3_, h4_, h5_, h6_, h7_, h8_, h9_⟩
      replace HO503 : Aside0 (Kd.R (Kd.int .i64) 3 w78 w.heap.size (fun k_ => some k_ ≠ (v511 : Value).ownBlock) (.slice Ao74 t500.length co74) t500) := ⟨h0_⟩
      have HO512 : Aside0 (Kd.R (Kd.int .i64) 3 w78 w.heap.size (fun k_ => some k_ ≠ (.slice Ao74 t500.length co74 : Value).ownBlock) v511 t510) := ⟨h1_⟩
      replace HO_5 : Aside0 (Kd.R k54 54 w78 w.heap.size (fun _ => True) (.slice Ao72 x5_2.length co72) x5_2) := ⟨h2_⟩
      replace BK485 : Aside0 (w78.heap[gb485]? = some (.cells #[.int .i64 0, .int .i64 0, .int .i64 0, .slice none 0 0] 24 (0, 0))) := ⟨h3_⟩
      have BK514 : Aside0 (w78.heap[gb514]? = some (.cells #[.int .i64 0, .int .i64 0, .int .i64 0, .slice none 0 0] 24 (0, 0))) := ⟨h4_⟩
      have GW514 : Aside0 (w.heap.size ≤ gb514) := ⟨h5_⟩
      have GE514 : Aside0 (w.heap.size ≤ gb514) := ⟨h6_⟩
      have NB485_514 : Aside0 (gb485 ≠ gb514) := ⟨h7_⟩
      have NB514_485 : Aside0 (gb514 ≠ gb485) := ⟨h8_⟩
      replace HB : Aside0 (Below w.heap.size w w78) := ⟨h9_⟩
      clear h0_ h1_ h2_ h3_ h4_ h5_ h6_ h7_ h8_ h9_
      have hHeld : w78.cell? ⟨ad504.block, ad504.off + 2, none⟩ = some (.int .i64 (rd l0 2)) ∧ w78.cell? ⟨ad504.block, ad504.off + 3, none⟩ = some (.int .i64 (rd l0 3)) ∧ w78.cell? ⟨ad504.block, ad504.off + 4, none⟩ = some (.int .i64 (rd l0 4)) := hS_
      obtain ⟨Ao82, co82, eo82⟩ := Kd.R_slice HO512.out
      (first | subst eo82 | (injection eo82 with f1_ f2_ f3_; have f4_ := f1_.symm; have f5_ := f3_.symm; clear f1_ f2_ f3_; subst f4_; subst f5_))
      refine norm_ (a' := ?_) ?_ ?_
      rotate_left
      ·simp only [putAll, Act.put, List.setIfInBounds_toArray, List.set_cons_zero, List.set_cons_succ]
       rfl
      refine one_ (i := 15) (N := none) (bA 17 65535) rfl rfl (one_of HT_.out (by kernel_rfl)) (by decide) (fun K hK => ?_)
      have hs79 : w78.cell? ⟨gb514, 0, none⟩ = some (.int .i64 0) := (blk_cell BK514.out 0).trans rfl
      have hfs79 := blk_frozen BK514.out 0
      have hns79_0 := NB485_514.out
      have hms79_0 := NB514_485.out
      have hs80 : w78.cell? ⟨gb514, 1, none⟩ = some (.int .i64 0) := (blk_cell BK514.out 1).trans rfl
      have hfs80 := blk_frozen BK514.out 1
      have hns80_0 := NB485_514.out
      have hms80_0 := NB514_485.out
      have hs81 : w78.cell? ⟨gb514, 2, none⟩ = some (.int .i64 0) := (blk_cell BK514.out 2).trans rfl
      have hfs81 := blk_frozen BK514.out 2
      have hns81_0 := NB485_514.out
      have hms81_0 := NB514_485.out
      have hs83 : w78.cell? ⟨gb514, 3, none⟩ = some (.slice none 0 0) := (blk_cell BK514.out 3).trans rfl
      have hfs83 := blk_frozen BK514.out 3
      have hns83_0 := NB485_514.out
      have hms83_0 := NB514_485.out
      refine skip_ (w1 := ?_) (by rfl) rfl ?_ ?_
      rotate_left
      ·go_simp
       rfl
      refine hK.out _ _ ⟨((cF hw504_0 GW514).trans (((cF hw504_0 GW514).trans (((cF hw504_0 GW514).trans (((cF hw504_0 GW514).trans (hHeld.1)))))))), ((cF hw505_0 GW514).trans (((cF hw505_0 GW514).trans (((cF hw505_0 GW514).trans (((cF hw505_0 GW514).trans (hHeld.2.1)))))))), ((cF hw506_0 GW514).trans (((cF hw506_0 GW514).trans (((cF hw506_0 GW514).trans (((cF hw506_0 GW514).trans (hHeld.2.2))))))))⟩ (fun hHeld => ?_)
      clear hK K
      refine pQ 16 8 HT_ (bA 17 131071) ?_
      refine done_ (done_of HT_.out (by kernel_rfl)) ?_
      have hnb84 := NB514_485.out
      have hnc84 := NB485_514.out
      obtain ⟨⟨hcz85_0, hcz85_1, hcz85_2, hcz85_3⟩, hfz85_0, hfz85_1, hfz85_2, hfz85_3⟩ := cf4 BK514
      try go_wp2_with (first | ((with_reducible refine gate_callee (f := 46) rfl ?_); refine gL (some 88) Try.func46 #[.agg #[.int .i64 t507, .int .i64 t508, .int .i64 t509, .slice Ao82 t510.length co82]] ?_; (with_reducible refine (impl_writeImage.calls k2 t507 t508 t509 _ _ t510 t515 false _ ?side1 ?side2 A33.out).mono ?_); (case side1 => refine (Kd.R_reads' (e := 3) (base := w.heap.size) (ok := fun k_ => some k_ ≠ (.slice Ao74 t500.length co74 : Value).ownBlock) (n := t510.length) (c := co82) ?_).2.2; exact (by refine qR ?_; exact (fr4 HO512 BK514))); (case side2 => exact (Kd.R_reads' HO512.out).2.1); rintro e w86 ⟨v516, rfl, ho0, hb⟩; refine ⟨_, rfl, ?_⟩; replace HO_5 := aM (Kd.R_below (by refine qR ?_; exact (fr4 HO_5 BK514)) hb); have HO517 := aM (Kd.R_lower (Kd.R_new' (Kd.R_new' ho0 (Kd.R_lt (by refine qR ?_; exact (fr4 HO503 BK514)))) (Kd.R_lt (by refine qR ?_; exact (fr4 HO512 BK514)))) (below_size (qW HB.out))); replace HO503 := aM (Kd.R_elder' (by refine qR ?_; exact (fr4 HO503 BK514)) (Kd.R_base ho0) hb); replace HO512 := aM (Kd.R_elder' (by refine qR ?_; exact (fr4 HO512 BK514)) (Kd.R_base ho0) hb); replace BK485 := aM (blk_below (g := gb485) (o := .cells #[.int .i64 0, .int .i64 0, .int .i64 0, .slice none 0 0] 24 (0, 0)) (by refine qB ?_; refine blk_far ?_ NB485_514.out _; refine qB ?_; refine blk_far ?_ NB485_514.out _; refine qB ?_; refine blk_far ?_ NB485_514.out _; refine qB ?_; refine blk_far ?_ NB485_514.out _; refine qB ?_; exact BK485.out) hb); replace BK514 := aM (blk_below (g := gb514) (o := .cells #[.int .i64 t507, .int .i64 t508, .int .i64 t509, .slice Ao82 t510.length co82] 24 (0, 0)) (by exact bP BK514.out) hb); replace HB := bS HB hb; clear hb ho0; obtain ⟨⟨hcz87_0, hcz87_1, hcz87_2, hcz87_3⟩, hfz87_0, hfz87_1, hfz87_2, hfz87_3⟩ := cf4 BK485))
      refine bodyPost_ret (results_ct rfl _ _ gb485 24 #[.int .i64 0, .int .i64 0, .int .i64 0, .slice none 0 0] (0, 0) _ rfl (by exact bP BK485.out) Try.underlying24 rfl (by kernel_rfl)) rfl ?_
      exact ⟨_, qX, qN, by exact qW HB.out⟩
     subst c34
     have H1 : ((slices_Equal_int_int.f k2 t515 l0).bind fun t519 => (if t519 = true then (some (t507, t508, t509, t510, true)) else (some (0, 0, 0, ([] : List Int), false)))) = some (r1, r2, r3, r4, r5) := by rw [if_pos rfl] at H; exact H
     clear H
     have H := H1
     clear H1
     replace H := Option.bind_eq_some_iff.mp H
     obtain ⟨t519, A350, H⟩ := H
     replace H : (if t519 = true then (some (t507, t508, t509, t510, true)) else (some (0, 0, 0, ([] : List Int), false))) = some (r1, r2, r3, r4, r5) := H
     have A35 := aM A350
     clear A350
     by_cases c36 : t519 = true
     rotate_left
     ·replace c36 := Bool.eq_false_iff.mpr c36
      subst c36
      have H1 : (some (0, 0, 0, ([] : List Int), false)) = some (r1, r2, r3, r4, r5) := by rw [if_neg (show ¬ (false = true) by decide)] at H; exact H
      clear H
      have H := H1
      clear H1
      simp only [Option.some.injEq, Prod.mk.injEq] at H
      obtain ⟨rfl, rfl, rfl, rfl, rfl⟩ := H
      obtain ⟨Ao55, co55, rfl⟩ := sL HO_5
      try go_wp2_with (first | ((with_reducible refine gate_callee (f := 44) rfl ?_); refine gL (some 63) Try.func44 #[.slice Ao55 x5_2.length co55] ?_; (with_reducible refine (impl_expandTokens.calls k2 _ _ x5_2 t500 true _ ?side1 ?side2 A26.out).mono ?_); (case side1 => exact qC (Kd.R_reads' HO_5.out).2.2); (case side2 => exact (Kd.R_reads' HO_5.out).2.1); rintro e w56 ⟨v502, rfl, ho0, hb⟩; refine ⟨_, rfl, ?_⟩; replace HO_5 := aM (Kd.R_below (qR HO_5.out) hb); have HO503 := oR ho0 HB; replace BK485 := bB BK485 hb; replace HB := bS HB hb; clear hb ho0; obtain ⟨Ao57, co57, rfl⟩ := sL HO503))
      replace HO_5 := aM (Kd.R_drew HO_5.out)
      replace HO503 := aM (Kd.R_drew HO503.out)
      replace BK485 := aM (blk_drew BK485.out)
      replace HB := aM (below_drew1 HB.out)
      have p504 : 0 ≤ (2 : Int) := (by omega)
      have q504 : 2 < (l0.length : Int) := oD
      obtain ⟨ad504, e504, hx504_0⟩ := Kd.at_int HR0.out 2 p504 q504
      have hw504_0 := hx504_0
      (try rw [show ((2 : Int)).toNat = 2 from rfl] at hw504_0)
      (try rw [show 2 * 1 = 2 from rfl] at hw504_0)
      (try simp only [Nat.reduceMul, Nat.reduceEqDiff, Go.Addr.add, ↓reduceIte] at hw504_0)
      cases e504
      (try simp only [show (2 : Int).toNat = 2 from rfl, Nat.reduceMul, Nat.reduceEqDiff, Go.Addr.add, ↓reduceIte] at hx504_0)
      have qi504 : (2 < l0.length) = True := eq_true (by omega)
      (try rw [show ((2 : Int)).toNat = 2 from rfl] at hx504_0)
      replace hx504_0 := bD HB hx504_0
      replace p504 := eq_true p504
      replace q504 := eq_true q504
      have p505 : 0 ≤ (3 : Int) := (by omega)
      have q505 : 3 < (l0.length : Int) := oD
      obtain ⟨ad505, e505, hx505_0⟩ := Kd.at_int HR0.out 3 p505 q505
      have hw505_0 := hx505_0
      (try rw [show ((3 : Int)).toNat = 3 from rfl] at hw505_0)
      (try rw [show 3 * 1 = 3 from rfl] at hw505_0)
      (try simp only [Nat.reduceMul, Nat.reduceEqDiff, Go.Addr.add, ↓reduceIte] at hw505_0)
      obtain rfl : ad504 = ad505 := (by injection e505)
      (try simp only [show (3 : Int).toNat = 3 from rfl, Nat.reduceMul, Nat.reduceEqDiff, Go.Addr.add, ↓reduceIte] at hx505_0)
      have qi505 : (3 < l0.length) = True := eq_true (by omega)
      (try rw [show ((3 : Int)).toNat = 3 from rfl] at hx505_0)
      replace hx505_0 := bD HB hx505_0
      replace p505 := eq_true p505
      replace q505 := eq_true q505
      have p506 : 0 ≤ (4 : Int) := (by omega)
      have q506 : 4 < (l0.length : Int) := oD
      obtain ⟨ad506, e506, hx506_0⟩ := Kd.at_int HR0.out 4 p506 q506
      have hw506_0 := hx506_0
      (try rw [show ((4 : Int)).toNat = 4 from rfl] at hw506_0)
      (try rw [show 4 * 1 = 4 from rfl] at hw506_0)
      (try simp only [Nat.reduceMul, Nat.reduceEqDiff, Go.Addr.add, ↓reduceIte] at hw506_0)
      obtain rfl : ad504 = ad506 := (by injection e506)
      (try simp only [show (4 : Int).toNat = 4 from rfl, Nat.reduceMul, Nat.reduceEqDiff, Go.Addr.add, ↓reduceIte] at hx506_0)
      have qi506 : (4 < l0.length) = True := eq_true (by omega)
      (try rw [show ((4 : Int)).toNat = 4 from rfl] at hx506_0)
      replace hx506_0 := bD HB hx506_0
      replace p506 := eq_true p506
      replace q506 := eq_true q506
      refine start_ (n := 17) (S := fun w' => w'.cell? ⟨ad504.block, ad504.off + 2, none⟩ = some (.int .i64 (rd l0 2)) ∧ w'.cell? ⟨ad504.block, ad504.off + 3, none⟩ = some (.int .i64 (rd l0 3)) ∧ w'.cell? ⟨ad504.block, ad504.off + 4, none⟩ = some (.int .i64 (rd l0 4))) (ds := []) (bA 17 0) (by kernel_rfl) rfl rfl ⟨(bC HB hw504_0), (bC HB hw505_0), (bC HB hw506_0)⟩ (fun hHeld => ?_); refine with_tabW impl_ReadImage.tab14 impl_ReadImage.bits14 (fun HT_ HW_ => ?_)
      generalize w56.drew = w58 at HO_5 HO503 BK485 HB hx504_0 hx505_0 hx506_0 hHeld ⊢
      refine pQ 0 70 HT_ (bA 17 1) ?_
      refine pQ 1 71 HT_ (bA 17 3) ?_
      refine pQ 3 73 HT_ (bA 17 11) ?_
      refine pQ 4 74 HT_ (bA 17 27) ?_
      refine pQ 6 76 HT_ (bA 17 91) ?_
      refine pQ 7 77 HT_ (bA 17 219) ?_
      refine pQ 9 79 HT_ (bA 17 731) ?_
      refine take_ (i := 2) (N := some 72) (v := ?_) (a' := ?_) (bA 17 735) rfl rfl (take_ofW HT_.out HW_.out (by kernel_rfl)) (fun _ _ _ h => h) (Or.inl ⟨by rfl, ?_⟩) hHeld ?_ ?_
      rotate_left
      ·rintro w' ⟨s0, s1, s2⟩
       go_simp
       with_reducible rfl
      rotate_left
      ·refine pZ ?_
       rfl
      refine take_ (i := 5) (N := some 75) (v := ?_) (a' := ?_) (bA 17 767) rfl rfl (take_ofW HT_.out HW_.out (by kernel_rfl)) (fun _ _ _ h => h) (Or.inl ⟨by rfl, ?_⟩) hHeld ?_ ?_
      rotate_left
      ·rintro w' ⟨s0, s1, s2⟩
       go_simp
       with_reducible rfl
      rotate_left
      ·refine pZ ?_
       rfl
      refine take_ (i := 8) (N := some 78) (v := ?_) (a' := ?_) (bA 17 1023) rfl rfl (take_ofW HT_.out HW_.out (by kernel_rfl)) (fun _ _ _ h => h) (Or.inl ⟨by rfl, ?_⟩) hHeld ?_ ?_
      rotate_left
      ·rintro w' ⟨s0, s1, s2⟩
       go_simp
       with_reducible rfl
      rotate_left
      ·refine pZ ?_
       rfl
      refine join_ (σ := Value × Nat) 2 (bA 17 32767) (fun s_ => [(80, .tuple #[.agg #[.int .i64 t507, .int .i64 t508, .int .i64 t509, s_.1], .bool true]), (9, .pointer (some ⟨s_.2, 0, none⟩)), (69, .tuple #[.agg #[.int .i64 t507, .int .i64 t508, .int .i64 t509, s_.1], .bool true]), (81, .agg #[.int .i64 t507, .int .i64 t508, .int .i64 t509, s_.1]), (82, .bool true)]) (fun s_ w' => (w'.cell? ⟨ad504.block, ad504.off + 2, none⟩ = some (.int .i64 (rd l0 2)) ∧ w'.cell? ⟨ad504.block, ad504.off + 3, none⟩ = some (.int .i64 (rd l0 3)) ∧ w'.cell? ⟨ad504.block, ad504.off + 4, none⟩ = some (.int .i64 (rd l0 4))) ∧ (Kd.R (Kd.int .i64) 3 w' w.heap.size (fun k_ => some k_ ≠ (s_.1 : Value).ownBlock) (.slice Ao57 t500.length co57) t500) ∧ (Kd.R (Kd.int .i64) 3 w' w.heap.size (fun k_ => some k_ ≠ (.slice Ao57 t500.length co57 : Value).ownBlock) s_.1 t510) ∧ (Kd.R k54 54 w' w.heap.size (fun _ => True) (.slice Ao55 x5_2.length co55) x5_2) ∧ (w'.heap[gb485]? = some (.cells #[.int .i64 0, .int .i64 0, .int .i64 0, .slice none 0 0] 24 (0, 0))) ∧ (w'.heap[s_.2]? = some (.cells #[.int .i64 0, .int .i64 0, .int .i64 0, .slice none 0 0] 24 (0, 0))) ∧ (w.heap.size ≤ s_.2) ∧ (w.heap.size ≤ s_.2) ∧ (gb485 ≠ s_.2) ∧ (s_.2 ≠ gb485) ∧ (Below w.heap.size w w')) ?_ ?_
      rotate_left
      ·intro hCont
       refine two_ (i := 10) (j := 14) (Ni := some 80) (Nj := some 9) (bA 17 2047) (bA 17 17407) rfl rfl rfl rfl (two_of HT_.out (by kernel_rfl)) (by decide) (by decide) (fun K hK => ?_) (fun K hK => ?_)
       ·skip
        refine goes_ Try.func45 (by kernel_rfl) rfl #[.int .i64 (rd l0 2), .int .i64 (rd l0 3), .int .i64 (rd l0 4), .slice Ao57 t500.length co57] (by rfl) rfl rfl qM ?_
        with_reducible refine (impl_unfilterImage.calls k2 (rd l0 2) (rd l0 3) (rd l0 4) _ _ t500 t507 t508 t509 t510 true _ ?side1 ?side2 A31.out).mono ?_
        (case side1 => exact qC (Kd.R_reads' HO503.out).2.2)
        (case side2 => exact (Kd.R_reads' HO503.out).2.1)
        rintro e w59 ⟨v511, rfl, ho0, hb⟩
        refine ⟨_, rfl, ?_⟩
        replace HO_5 := aM (Kd.R_below (qR HO_5.out) hb)
        have HO512 := nR ho0 HO503 HB
        replace HO503 := aM (Kd.R_elder' (qR HO503.out) (Kd.R_base ho0) hb)
        replace BK485 := bB BK485 hb
        replace HB := bS HB hb
        (try clear hb)
        (try clear hb2)
        (try clear hk)
        (try clear hi)
        (try clear ho0)
        refine hK.out _ _ ⟨(bC HB hw504_0), (bC HB hw505_0), (bC HB hw506_0)⟩ (fun hHeld => ?_)
        clear hK K
        refine norm_ (a' := ?_) ?_ ?_
        rotate_left
        ·show Act.put _ (some 80) _ = _
         refine pZ ?_
         rfl
        refine pQ 11 69 HT_ (bA 17 4095) ?_
        refine pQ 12 81 HT_ (bA 17 8191) ?_
        refine pQ 13 82 HT_ (bA 17 16383) ?_
        refine one_ (i := 14) (N := some 9) (bA 17 32767) rfl rfl (one_of HT_.out (by kernel_rfl)) (by decide) (fun K hK => ?_)
        refine box_step ?hg (N := 9) ?hd (cs := #[.int .i64 0, .int .i64 0, .int .i64 0, .slice none 0 0]) (t := 24) ?hr ?_; (case hd => rfl); (case hg => rfl); (case hr => first | (go_simp; done) | (go_simp; rfl))
        intro gb514 hg w60 hbox hb
        replace HO_5 := aM (Kd.R_below (qR HO_5.out) hb)
        replace HO503 := aM (Kd.R_below (qR HO503.out) hb)
        replace HO512 := aM (Kd.R_below (qR HO512.out) hb)
        have BK514 := aM (hbox)
        have GW514 := gW hg HB
        have GE514 := gW hg HB
        replace HB := bS HB hb
        have NB485_514 := nL hg BK485
        have NB514_485 := nG hg BK485
        replace BK485 := bB BK485 hb
        clear hb hbox hg
        refine hK.out _ _ ⟨(bC HB hw504_0), (bC HB hw505_0), (bC HB hw506_0)⟩ (fun hHeld => ?_)
        clear hK K
        refine norm_ (a' := ?_) ?_ ?_
        rotate_left
        ·show Act.put _ (some 9) _ = _
         refine pZ ?_
         rfl
        exact norm_ (by simp only [putAll, Act.put, List.setIfInBounds_toArray, List.set_cons_zero, List.set_cons_succ]) (hCont (v511, gb514) _ ⟨hHeld, (by refine qR ?_; exact Kd.R_mono HO503.out (fun _ hk => hk.2)), (by refine qR ?_; exact Kd.R_mono HO512.out (fun _ hk => hk.2)), (qR HO_5.out), (qB BK485.out), (qB BK514.out), GW514.out, GE514.out, NB485_514.out, NB514_485.out, (qW HB.out)⟩)
       skip
       refine box_step ?hg (N := 9) ?hd (cs := #[.int .i64 0, .int .i64 0, .int .i64 0, .slice none 0 0]) (t := 24) ?hr ?_; (case hd => rfl); (case hg => rfl); (case hr => first | (go_simp; done) | (go_simp; rfl))
       intro gb514 hg w59 hbox hb
       replace HO_5 := aM (Kd.R_below (qR HO_5.out) hb)
       replace HO503 := aM (Kd.R_below (qR HO503.out) hb)
       have BK514 := aM (hbox)
       have GW514 := gW hg HB
       have GE514 := gW hg HB
       replace HB := bS HB hb
       have NB485_514 := nL hg BK485
       have NB514_485 := nG hg BK485
       replace BK485 := bB BK485 hb
       clear hb hbox hg
       refine hK.out _ _ ⟨(bC HB hw504_0), (bC HB hw505_0), (bC HB hw506_0)⟩ (fun hHeld => ?_)
       clear hK K
       refine norm_ (a' := ?_) ?_ ?_
       rotate_left
       ·show Act.put _ (some 9) _ = _
        refine pZ ?_
        rfl
       refine one_ (i := 10) (N := some 80) (bA 17 18431) rfl rfl (one_of HT_.out (by kernel_rfl)) (by decide) (fun K hK => ?_)
       refine goes_ Try.func45 (by kernel_rfl) rfl #[.int .i64 (rd l0 2), .int .i64 (rd l0 3), .int .i64 (rd l0 4), .slice Ao57 t500.length co57] (by rfl) rfl rfl qM ?_
       with_reducible refine (impl_unfilterImage.calls k2 (rd l0 2) (rd l0 3) (rd l0 4) _ _ t500 t507 t508 t509 t510 true _ ?side1 ?side2 A31.out).mono ?_
       (case side1 => exact qC (Kd.R_reads' HO503.out).2.2)
       (case side2 => exact (Kd.R_reads' HO503.out).2.1)
       rintro e w60 ⟨v511, rfl, ho0, hb⟩
       refine ⟨_, rfl, ?_⟩
       replace HO_5 := aM (Kd.R_below (qR HO_5.out) hb)
       have HO512 := nR ho0 HO503 HB
       replace HO503 := aM (Kd.R_elder' (qR HO503.out) (Kd.R_base ho0) hb)
       replace BK485 := bB BK485 hb
       replace BK514 := bB BK514 hb
       replace HB := bS HB hb
       (try clear hb)
       (try clear hb2)
       (try clear hk)
       (try clear hi)
       (try clear ho0)
       refine hK.out _ _ ⟨(bC HB hw504_0), (bC HB hw505_0), (bC HB hw506_0)⟩ (fun hHeld => ?_)
       clear hK K
       refine norm_ (a' := ?_) ?_ ?_
       rotate_left
       ·show Act.put _ (some 80) _ = _
        refine pZ ?_
        rfl
       refine pQ 11 69 HT_ (bA 17 20479) ?_
       refine pQ 12 81 HT_ (bA 17 24575) ?_
       refine pQ 13 82 HT_ (bA 17 32767) ?_
       exact norm_ (by simp only [putAll, Act.put, List.setIfInBounds_toArray, List.set_cons_zero, List.set_cons_succ]) (hCont (v511, gb514) _ ⟨hHeld, (by refine qR ?_; exact Kd.R_mono HO503.out (fun _ hk => hk.2)), (by refine qR ?_; exact Kd.R_mono HO512.out (fun _ hk => hk.2)), (qR HO_5.out), (qB BK485.out), (qB BK514.out), GW514.out, GE514.out, NB485_514.out, NB514_485.out, (qW HB.out)⟩)
      rintro ⟨v511, gb514⟩ w61 ⟨hS_, h0_, h1_, h2_, h3_, h4_, h5_, h6_, h7_, h8_, h9_⟩
      replace HO503 : Aside0 (Kd.R (Kd.int .i64) 3 w61 w.heap.size (fun k_ => some k_ ≠ (v511 : Value).ownBlock) (.slice Ao57 t500.length co57) t500) := ⟨h0_⟩
      have HO512 : Aside0 (Kd.R (Kd.int .i64) 3 w61 w.heap.size (fun k_ => some k_ ≠ (.slice Ao57 t500.length co57 : Value).ownBlock) v511 t510) := ⟨h1_⟩
      replace HO_5 : Aside0 (Kd.R k54 54 w61 w.heap.size (fun _ => True) (.slice Ao55 x5_2.length co55) x5_2) := ⟨h2_⟩
      replace BK485 : Aside0 (w61.heap[gb485]? = some (.cells #[.int .i64 0, .int .i64 0, .int .i64 0, .slice none 0 0] 24 (0, 0))) := ⟨h3_⟩
      have BK514 : Aside0 (w61.heap[gb514]? = some (.cells #[.int .i64 0, .int .i64 0, .int .i64 0, .slice none 0 0] 24 (0, 0))) := ⟨h4_⟩
      have GW514 : Aside0 (w.heap.size ≤ gb514) := ⟨h5_⟩
      have GE514 : Aside0 (w.heap.size ≤ gb514) := ⟨h6_⟩
      have NB485_514 : Aside0 (gb485 ≠ gb514) := ⟨h7_⟩
      have NB514_485 : Aside0 (gb514 ≠ gb485) := ⟨h8_⟩
      replace HB : Aside0 (Below w.heap.size w w61) := ⟨h9_⟩
      clear h0_ h1_ h2_ h3_ h4_ h5_ h6_ h7_ h8_ h9_
      have hHeld : w61.cell? ⟨ad504.block, ad504.off + 2, none⟩ = some (.int .i64 (rd l0 2)) ∧ w61.cell? ⟨ad504.block, ad504.off + 3, none⟩ = some (.int .i64 (rd l0 3)) ∧ w61.cell? ⟨ad504.block, ad504.off + 4, none⟩ = some (.int .i64 (rd l0 4)) := hS_
      obtain ⟨Ao65, co65, eo65⟩ := Kd.R_slice HO512.out
      (first | subst eo65 | (injection eo65 with f1_ f2_ f3_; have f4_ := f1_.symm; have f5_ := f3_.symm; clear f1_ f2_ f3_; subst f4_; subst f5_))
      refine norm_ (a' := ?_) ?_ ?_
      rotate_left
      ·simp only [putAll, Act.put, List.setIfInBounds_toArray, List.set_cons_zero, List.set_cons_succ]
       rfl
      refine one_ (i := 15) (N := none) (bA 17 65535) rfl rfl (one_of HT_.out (by kernel_rfl)) (by decide) (fun K hK => ?_)
      have hs62 : w61.cell? ⟨gb514, 0, none⟩ = some (.int .i64 0) := (blk_cell BK514.out 0).trans rfl
      have hfs62 := blk_frozen BK514.out 0
      have hns62_0 := NB485_514.out
      have hms62_0 := NB514_485.out
      have hs63 : w61.cell? ⟨gb514, 1, none⟩ = some (.int .i64 0) := (blk_cell BK514.out 1).trans rfl
      have hfs63 := blk_frozen BK514.out 1
      have hns63_0 := NB485_514.out
      have hms63_0 := NB514_485.out
      have hs64 : w61.cell? ⟨gb514, 2, none⟩ = some (.int .i64 0) := (blk_cell BK514.out 2).trans rfl
      have hfs64 := blk_frozen BK514.out 2
      have hns64_0 := NB485_514.out
      have hms64_0 := NB514_485.out
      have hs66 : w61.cell? ⟨gb514, 3, none⟩ = some (.slice none 0 0) := (blk_cell BK514.out 3).trans rfl
      have hfs66 := blk_frozen BK514.out 3
      have hns66_0 := NB485_514.out
      have hms66_0 := NB514_485.out
      refine skip_ (w1 := ?_) (by rfl) rfl ?_ ?_
      rotate_left
      ·go_simp
       rfl
      refine hK.out _ _ ⟨((cF hw504_0 GW514).trans (((cF hw504_0 GW514).trans (((cF hw504_0 GW514).trans (((cF hw504_0 GW514).trans (hHeld.1)))))))), ((cF hw505_0 GW514).trans (((cF hw505_0 GW514).trans (((cF hw505_0 GW514).trans (((cF hw505_0 GW514).trans (hHeld.2.1)))))))), ((cF hw506_0 GW514).trans (((cF hw506_0 GW514).trans (((cF hw506_0 GW514).trans (((cF hw506_0 GW514).trans (hHeld.2.2))))))))⟩ (fun hHeld => ?_)
      clear hK K
      refine pQ 16 8 HT_ (bA 17 131071) ?_
      refine done_ (done_of HT_.out (by kernel_rfl)) ?_
      have hnb67 := NB514_485.out
      have hnc67 := NB485_514.out
      obtain ⟨⟨hcz68_0, hcz68_1, hcz68_2, hcz68_3⟩, hfz68_0, hfz68_1, hfz68_2, hfz68_3⟩ := cf4 BK514
      try go_wp2_with (first | ((with_reducible refine gate_callee (f := 46) rfl ?_); refine gL (some 88) Try.func46 #[.agg #[.int .i64 t507, .int .i64 t508, .int .i64 t509, .slice Ao65 t510.length co65]] ?_; (with_reducible refine (impl_writeImage.calls k2 t507 t508 t509 _ _ t510 t515 true _ ?side1 ?side2 A33.out).mono ?_); (case side1 => refine (Kd.R_reads' (e := 3) (base := w.heap.size) (ok := fun k_ => some k_ ≠ (.slice Ao57 t500.length co57 : Value).ownBlock) (n := t510.length) (c := co65) ?_).2.2; exact (by refine qR ?_; exact (fr4 HO512 BK514))); (case side2 => exact (Kd.R_reads' HO512.out).2.1); rintro e w69 ⟨v516, rfl, ho0, hb⟩; refine ⟨_, rfl, ?_⟩; replace HO_5 := aM (Kd.R_below (by refine qR ?_; exact (fr4 HO_5 BK514)) hb); have HO517 := aM (Kd.R_lower (Kd.R_new' (Kd.R_new' ho0 (Kd.R_lt (by refine qR ?_; exact (fr4 HO503 BK514)))) (Kd.R_lt (by refine qR ?_; exact (fr4 HO512 BK514)))) (below_size (qW HB.out))); replace HO503 := aM (Kd.R_elder' (by refine qR ?_; exact (fr4 HO503 BK514)) (Kd.R_base ho0) hb); replace HO512 := aM (Kd.R_elder' (by refine qR ?_; exact (fr4 HO512 BK514)) (Kd.R_base ho0) hb); replace BK485 := aM (blk_below (g := gb485) (o := .cells #[.int .i64 0, .int .i64 0, .int .i64 0, .slice none 0 0] 24 (0, 0)) (by refine qB ?_; refine blk_far ?_ NB485_514.out _; refine qB ?_; refine blk_far ?_ NB485_514.out _; refine qB ?_; refine blk_far ?_ NB485_514.out _; refine qB ?_; refine blk_far ?_ NB485_514.out _; refine qB ?_; exact BK485.out) hb); replace BK514 := aM (blk_below (g := gb514) (o := .cells #[.int .i64 t507, .int .i64 t508, .int .i64 t509, .slice Ao65 t510.length co65] 24 (0, 0)) (by exact bP BK514.out) hb); replace HB := bS HB hb; clear hb ho0; obtain ⟨Ao70, co70, rfl⟩ := sL HO517) | (go_at_call 47; (with_reducible refine (slices_Equal_int_int.calls k2 _ _ t515 _ _ l0 false _ ?side1 ?side2 ?side3 ?side4 A35.out).mono ?_); (case side1 => exact qC (Kd.R_reads' HO517.out).2.2); (case side2 => exact (Kd.R_reads' HO517.out).2.1); (case side3 => exact qC (Kd.C_below HR0.out HB.out)); (case side4 => exact HC0.out); rintro e w' ⟨rfl, ⟨nd, rfl⟩⟩; (try (rw [drewN_self w69]; generalize hq_ : World.drewN w69 _ = w69; replace HO503 : Aside0 (Kd.R (Kd.int .i64) 3 w69 w.heap.size (fun k_ => some k_ ≠ (.slice Ao65 t510.length co65 : Value).ownBlock ∧ some k_ ≠ (.slice Ao70 t515.length co70 : Value).ownBlock) (.slice Ao57 t500.length co57) t500) := ⟨by rw [← hq_]; exact (qR HO503.out)⟩; replace HO512 : Aside0 (Kd.R (Kd.int .i64) 3 w69 w.heap.size (fun k_ => some k_ ≠ (.slice Ao57 t500.length co57 : Value).ownBlock ∧ some k_ ≠ (.slice Ao70 t515.length co70 : Value).ownBlock) (.slice Ao65 t510.length co65) t510) := ⟨by rw [← hq_]; exact (qR HO512.out)⟩; replace HO517 : Aside0 (Kd.R (Kd.int .i64) 3 w69 w.heap.size (fun k_ => some k_ ≠ (.slice Ao57 t500.length co57 : Value).ownBlock ∧ some k_ ≠ (.slice Ao65 t510.length co65 : Value).ownBlock) (.slice Ao70 t515.length co70) t515) := ⟨by rw [← hq_]; exact (by refine qR ?_; exact Kd.R_mono HO517.out (fun _ hk => ⟨hk.1.2, hk.2⟩))⟩; replace HO_5 : Aside0 (Kd.R k54 54 w69 w.heap.size (fun _ => True) (.slice Ao55 x5_2.length co55) x5_2) := ⟨by rw [← hq_]; exact (qR HO_5.out)⟩; replace BK485 : Aside0 (w69.heap[gb485]? = some (.cells #[.int .i64 0, .int .i64 0, .int .i64 0, .slice none 0 0] 24 (0, 0))) := ⟨by rw [← hq_]; exact (qB BK485.out)⟩; replace BK514 : Aside0 (w69.heap[gb514]? = some (.cells #[.int .i64 t507, .int .i64 t508, .int .i64 t509, .slice Ao65 t510.length co65] 24 (0, 0))) := ⟨by rw [← hq_]; exact (qB BK514.out)⟩; replace HB : Aside0 (Below w.heap.size w w69) := ⟨by rw [← hq_]; exact (qW HB.out)⟩; clear hq_)); obtain ⟨⟨hcz71_0, hcz71_1, hcz71_2, hcz71_3⟩, hfz71_0, hfz71_1, hfz71_2, hfz71_3⟩ := cf4 BK485))
      refine bodyPost_ret (results_ct rfl _ _ gb485 24 #[.int .i64 0, .int .i64 0, .int .i64 0, .slice none 0 0] (0, 0) _ rfl (by exact bP BK485.out) Try.underlying24 rfl (by kernel_rfl)) rfl ?_
      exact ⟨_, qX, qN, by exact qW HB.out⟩
     subst c36
     have H1 : (some (t507, t508, t509, t510, true)) = some (r1, r2, r3, r4, r5) := by rw [if_pos rfl] at H; exact H
     clear H
     have H := H1
     clear H1
     simp only [Option.some.injEq, Prod.mk.injEq] at H
     obtain ⟨rfl, rfl, rfl, rfl, rfl⟩ := H
     obtain ⟨Ao37, co37, rfl⟩ := sL HO_5
     try go_wp2_with (first | ((with_reducible refine gate_callee (f := 44) rfl ?_); refine gL (some 63) Try.func44 #[.slice Ao37 x5_2.length co37] ?_; (with_reducible refine (impl_expandTokens.calls k2 _ _ x5_2 t500 true _ ?side1 ?side2 A26.out).mono ?_); (case side1 => exact qC (Kd.R_reads' HO_5.out).2.2); (case side2 => exact (Kd.R_reads' HO_5.out).2.1); rintro e w38 ⟨v502, rfl, ho0, hb⟩; refine ⟨_, rfl, ?_⟩; replace HO_5 := aM (Kd.R_below (qR HO_5.out) hb); have HO503 := oR ho0 HB; replace BK485 := bB BK485 hb; replace HB := bS HB hb; clear hb ho0; obtain ⟨Ao39, co39, rfl⟩ := sL HO503))
     replace HO_5 := aM (Kd.R_drew HO_5.out)
     replace HO503 := aM (Kd.R_drew HO503.out)
     replace BK485 := aM (blk_drew BK485.out)
     replace HB := aM (below_drew1 HB.out)
     have p504 : 0 ≤ (2 : Int) := (by omega)
     have q504 : 2 < (l0.length : Int) := oD
     obtain ⟨ad504, e504, hx504_0⟩ := Kd.at_int HR0.out 2 p504 q504
     have hw504_0 := hx504_0
     (try rw [show ((2 : Int)).toNat = 2 from rfl] at hw504_0)
     (try rw [show 2 * 1 = 2 from rfl] at hw504_0)
     (try simp only [Nat.reduceMul, Nat.reduceEqDiff, Go.Addr.add, ↓reduceIte] at hw504_0)
     cases e504
     (try simp only [show (2 : Int).toNat = 2 from rfl, Nat.reduceMul, Nat.reduceEqDiff, Go.Addr.add, ↓reduceIte] at hx504_0)
     have qi504 : (2 < l0.length) = True := eq_true (by omega)
     (try rw [show ((2 : Int)).toNat = 2 from rfl] at hx504_0)
     replace hx504_0 := bD HB hx504_0
     replace p504 := eq_true p504
     replace q504 := eq_true q504
     have p505 : 0 ≤ (3 : Int) := (by omega)
     have q505 : 3 < (l0.length : Int) := oD
     obtain ⟨ad505, e505, hx505_0⟩ := Kd.at_int HR0.out 3 p505 q505
     have hw505_0 := hx505_0
     (try rw [show ((3 : Int)).toNat = 3 from rfl] at hw505_0)
     (try rw [show 3 * 1 = 3 from rfl] at hw505_0)
     (try simp only [Nat.reduceMul, Nat.reduceEqDiff, Go.Addr.add, ↓reduceIte] at hw505_0)
     obtain rfl : ad504 = ad505 := (by injection e505)
     (try simp only [show (3 : Int).toNat = 3 from rfl, Nat.reduceMul, Nat.reduceEqDiff, Go.Addr.add, ↓reduceIte] at hx505_0)
     have qi505 : (3 < l0.length) = True := eq_true (by omega)
     (try rw [show ((3 : Int)).toNat = 3 from rfl] at hx505_0)
     replace hx505_0 := bD HB hx505_0
     replace p505 := eq_true p505
     replace q505 := eq_true q505
     have p506 : 0 ≤ (4 : Int) := (by omega)
     have q506 : 4 < (l0.length : Int) := oD
     obtain ⟨ad506, e506, hx506_0⟩ := Kd.at_int HR0.out 4 p506 q506
     have hw506_0 := hx506_0
     (try rw [show ((4 : Int)).toNat = 4 from rfl] at hw506_0)
     (try rw [show 4 * 1 = 4 from rfl] at hw506_0)
     (try simp only [Nat.reduceMul, Nat.reduceEqDiff, Go.Addr.add, ↓reduceIte] at hw506_0)
     obtain rfl : ad504 = ad506 := (by injection e506)
     (try simp only [show (4 : Int).toNat = 4 from rfl, Nat.reduceMul, Nat.reduceEqDiff, Go.Addr.add, ↓reduceIte] at hx506_0)
     have qi506 : (4 < l0.length) = True := eq_true (by omega)
     (try rw [show ((4 : Int)).toNat = 4 from rfl] at hx506_0)
     replace hx506_0 := bD HB hx506_0
     replace p506 := eq_true p506
     replace q506 := eq_true q506
     refine start_ (n := 17) (S := fun w' => w'.cell? ⟨ad504.block, ad504.off + 2, none⟩ = some (.int .i64 (rd l0 2)) ∧ w'.cell? ⟨ad504.block, ad504.off + 3, none⟩ = some (.int .i64 (rd l0 3)) ∧ w'.cell? ⟨ad504.block, ad504.off + 4, none⟩ = some (.int .i64 (rd l0 4))) (ds := []) (bA 17 0) (by kernel_rfl) rfl rfl ⟨(bC HB hw504_0), (bC HB hw505_0), (bC HB hw506_0)⟩ (fun hHeld => ?_); refine with_tabW impl_ReadImage.tab14 impl_ReadImage.bits14 (fun HT_ HW_ => ?_)
     generalize w38.drew = w40 at HO_5 HO503 BK485 HB hx504_0 hx505_0 hx506_0 hHeld ⊢
     refine pQ 0 70 HT_ (bA 17 1) ?_
     refine pQ 1 71 HT_ (bA 17 3) ?_
     refine pQ 3 73 HT_ (bA 17 11) ?_
     refine pQ 4 74 HT_ (bA 17 27) ?_
     refine pQ 6 76 HT_ (bA 17 91) ?_
     refine pQ 7 77 HT_ (bA 17 219) ?_
     refine pQ 9 79 HT_ (bA 17 731) ?_
     refine take_ (i := 2) (N := some 72) (v := ?_) (a' := ?_) (bA 17 735) rfl rfl (take_ofW HT_.out HW_.out (by kernel_rfl)) (fun _ _ _ h => h) (Or.inl ⟨by rfl, ?_⟩) hHeld ?_ ?_
     rotate_left
     ·rintro w' ⟨s0, s1, s2⟩
      go_simp
      with_reducible rfl
     rotate_left
     ·refine pZ ?_
      rfl
     refine take_ (i := 5) (N := some 75) (v := ?_) (a' := ?_) (bA 17 767) rfl rfl (take_ofW HT_.out HW_.out (by kernel_rfl)) (fun _ _ _ h => h) (Or.inl ⟨by rfl, ?_⟩) hHeld ?_ ?_
     rotate_left
     ·rintro w' ⟨s0, s1, s2⟩
      go_simp
      with_reducible rfl
     rotate_left
     ·refine pZ ?_
      rfl
     refine take_ (i := 8) (N := some 78) (v := ?_) (a' := ?_) (bA 17 1023) rfl rfl (take_ofW HT_.out HW_.out (by kernel_rfl)) (fun _ _ _ h => h) (Or.inl ⟨by rfl, ?_⟩) hHeld ?_ ?_
     rotate_left
     ·rintro w' ⟨s0, s1, s2⟩
      go_simp
      with_reducible rfl
     rotate_left
     ·refine pZ ?_
      rfl
     refine join_ (σ := Value × Nat) 2 (bA 17 32767) (fun s_ => [(80, .tuple #[.agg #[.int .i64 t507, .int .i64 t508, .int .i64 t509, s_.1], .bool true]), (9, .pointer (some ⟨s_.2, 0, none⟩)), (69, .tuple #[.agg #[.int .i64 t507, .int .i64 t508, .int .i64 t509, s_.1], .bool true]), (81, .agg #[.int .i64 t507, .int .i64 t508, .int .i64 t509, s_.1]), (82, .bool true)]) (fun s_ w' => (w'.cell? ⟨ad504.block, ad504.off + 2, none⟩ = some (.int .i64 (rd l0 2)) ∧ w'.cell? ⟨ad504.block, ad504.off + 3, none⟩ = some (.int .i64 (rd l0 3)) ∧ w'.cell? ⟨ad504.block, ad504.off + 4, none⟩ = some (.int .i64 (rd l0 4))) ∧ (Kd.R (Kd.int .i64) 3 w' w.heap.size (fun k_ => some k_ ≠ (s_.1 : Value).ownBlock) (.slice Ao39 t500.length co39) t500) ∧ (Kd.R (Kd.int .i64) 3 w' w.heap.size (fun k_ => some k_ ≠ (.slice Ao39 t500.length co39 : Value).ownBlock) s_.1 t510) ∧ (Kd.R k54 54 w' w.heap.size (fun _ => True) (.slice Ao37 x5_2.length co37) x5_2) ∧ (w'.heap[gb485]? = some (.cells #[.int .i64 0, .int .i64 0, .int .i64 0, .slice none 0 0] 24 (0, 0))) ∧ (w'.heap[s_.2]? = some (.cells #[.int .i64 0, .int .i64 0, .int .i64 0, .slice none 0 0] 24 (0, 0))) ∧ (w.heap.size ≤ s_.2) ∧ (w.heap.size ≤ s_.2) ∧ (gb485 ≠ s_.2) ∧ (s_.2 ≠ gb485) ∧ (Below w.heap.size w w')) ?_ ?_
     rotate_left
     ·intro hCont
      refine two_ (i := 10) (j := 14) (Ni := some 80) (Nj := some 9) (bA 17 2047) (bA 17 17407) rfl rfl rfl rfl (two_of HT_.out (by kernel_rfl)) (by decide) (by decide) (fun K hK => ?_) (fun K hK => ?_)
      ·skip
       refine goes_ Try.func45 (by kernel_rfl) rfl #[.int .i64 (rd l0 2), .int .i64 (rd l0 3), .int .i64 (rd l0 4), .slice Ao39 t500.length co39] (by rfl) rfl rfl qM ?_
       with_reducible refine (impl_unfilterImage.calls k2 (rd l0 2) (rd l0 3) (rd l0 4) _ _ t500 t507 t508 t509 t510 true _ ?side1 ?side2 A31.out).mono ?_
       (case side1 => exact qC (Kd.R_reads' HO503.out).2.2)
       (case side2 => exact (Kd.R_reads' HO503.out).2.1)
       rintro e w41 ⟨v511, rfl, ho0, hb⟩
       refine ⟨_, rfl, ?_⟩
       replace HO_5 := aM (Kd.R_below (qR HO_5.out) hb)
       have HO512 := nR ho0 HO503 HB
       replace HO503 := aM (Kd.R_elder' (qR HO503.out) (Kd.R_base ho0) hb)
       replace BK485 := bB BK485 hb
       replace HB := bS HB hb
       (try clear hb)
       (try clear hb2)
       (try clear hk)
       (try clear hi)
       (try clear ho0)
       refine hK.out _ _ ⟨(bC HB hw504_0), (bC HB hw505_0), (bC HB hw506_0)⟩ (fun hHeld => ?_)
       clear hK K
       refine norm_ (a' := ?_) ?_ ?_
       rotate_left
       ·show Act.put _ (some 80) _ = _
        refine pZ ?_
        rfl
       refine pQ 11 69 HT_ (bA 17 4095) ?_
       refine pQ 12 81 HT_ (bA 17 8191) ?_
       refine pQ 13 82 HT_ (bA 17 16383) ?_
       refine one_ (i := 14) (N := some 9) (bA 17 32767) rfl rfl (one_of HT_.out (by kernel_rfl)) (by decide) (fun K hK => ?_)
       refine box_step ?hg (N := 9) ?hd (cs := #[.int .i64 0, .int .i64 0, .int .i64 0, .slice none 0 0]) (t := 24) ?hr ?_; (case hd => rfl); (case hg => rfl); (case hr => first | (go_simp; done) | (go_simp; rfl))
       intro gb514 hg w42 hbox hb
       replace HO_5 := aM (Kd.R_below (qR HO_5.out) hb)
       replace HO503 := aM (Kd.R_below (qR HO503.out) hb)
       replace HO512 := aM (Kd.R_below (qR HO512.out) hb)
       have BK514 := aM (hbox)
       have GW514 := gW hg HB
       have GE514 := gW hg HB
       replace HB := bS HB hb
       have NB485_514 := nL hg BK485
       have NB514_485 := nG hg BK485
       replace BK485 := bB BK485 hb
       clear hb hbox hg
       refine hK.out _ _ ⟨(bC HB hw504_0), (bC HB hw505_0), (bC HB hw506_0)⟩ (fun hHeld => ?_)
       clear hK K
       refine norm_ (a' := ?_) ?_ ?_
       rotate_left
       ·show Act.put _ (some 9) _ = _
        refine pZ ?_
        rfl
       exact norm_ (by simp only [putAll, Act.put, List.setIfInBounds_toArray, List.set_cons_zero, List.set_cons_succ]) (hCont (v511, gb514) _ ⟨hHeld, (by refine qR ?_; exact Kd.R_mono HO503.out (fun _ hk => hk.2)), (by refine qR ?_; exact Kd.R_mono HO512.out (fun _ hk => hk.2)), (qR HO_5.out), (qB BK485.out), (qB BK514.out), GW514.out, GE514.out, NB485_514.out, NB514_485.out, (qW HB.out)⟩)
      skip
      refine box_step ?hg (N := 9) ?hd (cs := #[.int .i64 0, .int .i64 0, .int .i64 0, .slice none 0 0]) (t := 24) ?hr ?_; (case hd => rfl); (case hg => rfl); (case hr => first | (go_simp; done) | (go_simp; rfl))
      intro gb514 hg w41 hbox hb
      replace HO_5 := aM (Kd.R_below (qR HO_5.out) hb)
      replace HO503 := aM (Kd.R_below (qR HO503.out) hb)
      have BK514 := aM (hbox)
      have GW514 := gW hg HB
      have GE514 := gW hg HB
      replace HB := bS HB hb
      have NB485_514 := nL hg BK485
      have NB514_485 := nG hg BK485
      replace BK485 := bB BK485 hb
      clear hb hbox hg
      refine hK.out _ _ ⟨(bC HB hw504_0), (bC HB hw505_0), (bC HB hw506_0)⟩ (fun hHeld => ?_)
      clear hK K
      refine norm_ (a' := ?_) ?_ ?_
      rotate_left
      ·show Act.put _ (some 9) _ = _
       refine pZ ?_
       rfl
      refine one_ (i := 10) (N := some 80) (bA 17 18431) rfl rfl (one_of HT_.out (by kernel_rfl)) (by decide) (fun K hK => ?_)
      refine goes_ Try.func45 (by kernel_rfl) rfl #[.int .i64 (rd l0 2), .int .i64 (rd l0 3), .int .i64 (rd l0 4), .slice Ao39 t500.length co39] (by rfl) rfl rfl qM ?_
      with_reducible refine (impl_unfilterImage.calls k2 (rd l0 2) (rd l0 3) (rd l0 4) _ _ t500 t507 t508 t509 t510 true _ ?side1 ?side2 A31.out).mono ?_
      (case side1 => exact qC (Kd.R_reads' HO503.out).2.2)
      (case side2 => exact (Kd.R_reads' HO503.out).2.1)
      rintro e w42 ⟨v511, rfl, ho0, hb⟩
      refine ⟨_, rfl, ?_⟩
      replace HO_5 := aM (Kd.R_below (qR HO_5.out) hb)
      have HO512 := nR ho0 HO503 HB
      replace HO503 := aM (Kd.R_elder' (qR HO503.out) (Kd.R_base ho0) hb)
      replace BK485 := bB BK485 hb
      replace BK514 := bB BK514 hb
      replace HB := bS HB hb
      (try clear hb)
      (try clear hb2)
      (try clear hk)
      (try clear hi)
      (try clear ho0)
      refine hK.out _ _ ⟨(bC HB hw504_0), (bC HB hw505_0), (bC HB hw506_0)⟩ (fun hHeld => ?_)
      clear hK K
      refine norm_ (a' := ?_) ?_ ?_
      rotate_left
      ·show Act.put _ (some 80) _ = _
       refine pZ ?_
       rfl
      refine pQ 11 69 HT_ (bA 17 20479) ?_
      refine pQ 12 81 HT_ (bA 17 24575) ?_
      refine pQ 13 82 HT_ (bA 17 32767) ?_
      exact norm_ (by simp only [putAll, Act.put, List.setIfInBounds_toArray, List.set_cons_zero, List.set_cons_succ]) (hCont (v511, gb514) _ ⟨hHeld, (by refine qR ?_; exact Kd.R_mono HO503.out (fun _ hk => hk.2)), (by refine qR ?_; exact Kd.R_mono HO512.out (fun _ hk => hk.2)), (qR HO_5.out), (qB BK485.out), (qB BK514.out), GW514.out, GE514.out, NB485_514.out, NB514_485.out, (qW HB.out)⟩)
     rintro ⟨v511, gb514⟩ w43 ⟨hS_, h0_, h1_, h2_, h3_, h4_, h5_, h6_, h7_, h8_, h9_⟩
     replace HO503 : Aside0 (Kd.R (Kd.int .i64) 3 w43 w.heap.size (fun k_ => some k_ ≠ (v511 : Value).ownBlock) (.slice Ao39 t500.length co39) t500) := ⟨h0_⟩
     have HO512 : Aside0 (Kd.R (Kd.int .i64) 3 w43 w.heap.size (fun k_ => some k_ ≠ (.slice Ao39 t500.length co39 : Value).ownBlock) v511 t510) := ⟨h1_⟩
     replace HO_5 : Aside0 (Kd.R k54 54 w43 w.heap.size (fun _ => True) (.slice Ao37 x5_2.length co37) x5_2) := ⟨h2_⟩
     replace BK485 : Aside0 (w43.heap[gb485]? = some (.cells #[.int .i64 0, .int .i64 0, .int .i64 0, .slice none 0 0] 24 (0, 0))) := ⟨h3_⟩
     have BK514 : Aside0 (w43.heap[gb514]? = some (.cells #[.int .i64 0, .int .i64 0, .int .i64 0, .slice none 0 0] 24 (0, 0))) := ⟨h4_⟩
     have GW514 : Aside0 (w.heap.size ≤ gb514) := ⟨h5_⟩
     have GE514 : Aside0 (w.heap.size ≤ gb514) := ⟨h6_⟩
     have NB485_514 : Aside0 (gb485 ≠ gb514) := ⟨h7_⟩
     have NB514_485 : Aside0 (gb514 ≠ gb485) := ⟨h8_⟩
     replace HB : Aside0 (Below w.heap.size w w43) := ⟨h9_⟩
     clear h0_ h1_ h2_ h3_ h4_ h5_ h6_ h7_ h8_ h9_
     have hHeld : w43.cell? ⟨ad504.block, ad504.off + 2, none⟩ = some (.int .i64 (rd l0 2)) ∧ w43.cell? ⟨ad504.block, ad504.off + 3, none⟩ = some (.int .i64 (rd l0 3)) ∧ w43.cell? ⟨ad504.block, ad504.off + 4, none⟩ = some (.int .i64 (rd l0 4)) := hS_
     obtain ⟨Ao47, co47, eo47⟩ := Kd.R_slice HO512.out
     (first | subst eo47 | (injection eo47 with f1_ f2_ f3_; have f4_ := f1_.symm; have f5_ := f3_.symm; clear f1_ f2_ f3_; subst f4_; subst f5_))
     refine norm_ (a' := ?_) ?_ ?_
     rotate_left
     ·simp only [putAll, Act.put, List.setIfInBounds_toArray, List.set_cons_zero, List.set_cons_succ]
      rfl
     refine one_ (i := 15) (N := none) (bA 17 65535) rfl rfl (one_of HT_.out (by kernel_rfl)) (by decide) (fun K hK => ?_)
     have hs44 : w43.cell? ⟨gb514, 0, none⟩ = some (.int .i64 0) := (blk_cell BK514.out 0).trans rfl
     have hfs44 := blk_frozen BK514.out 0
     have hns44_0 := NB485_514.out
     have hms44_0 := NB514_485.out
     have hs45 : w43.cell? ⟨gb514, 1, none⟩ = some (.int .i64 0) := (blk_cell BK514.out 1).trans rfl
     have hfs45 := blk_frozen BK514.out 1
     have hns45_0 := NB485_514.out
     have hms45_0 := NB514_485.out
     have hs46 : w43.cell? ⟨gb514, 2, none⟩ = some (.int .i64 0) := (blk_cell BK514.out 2).trans rfl
     have hfs46 := blk_frozen BK514.out 2
     have hns46_0 := NB485_514.out
     have hms46_0 := NB514_485.out
     have hs48 : w43.cell? ⟨gb514, 3, none⟩ = some (.slice none 0 0) := (blk_cell BK514.out 3).trans rfl
     have hfs48 := blk_frozen BK514.out 3
     have hns48_0 := NB485_514.out
     have hms48_0 := NB514_485.out
     refine skip_ (w1 := ?_) (by rfl) rfl ?_ ?_
     rotate_left
     ·go_simp
      rfl
     refine hK.out _ _ ⟨((cF hw504_0 GW514).trans (((cF hw504_0 GW514).trans (((cF hw504_0 GW514).trans (((cF hw504_0 GW514).trans (hHeld.1)))))))), ((cF hw505_0 GW514).trans (((cF hw505_0 GW514).trans (((cF hw505_0 GW514).trans (((cF hw505_0 GW514).trans (hHeld.2.1)))))))), ((cF hw506_0 GW514).trans (((cF hw506_0 GW514).trans (((cF hw506_0 GW514).trans (((cF hw506_0 GW514).trans (hHeld.2.2))))))))⟩ (fun hHeld => ?_)
     clear hK K
     refine pQ 16 8 HT_ (bA 17 131071) ?_
     refine done_ (done_of HT_.out (by kernel_rfl)) ?_
     have hnb49 := NB514_485.out
     have hnc49 := NB485_514.out
     obtain ⟨⟨hcz50_0, hcz50_1, hcz50_2, hcz50_3⟩, hfz50_0, hfz50_1, hfz50_2, hfz50_3⟩ := cf4 BK514
     try go_wp2_with (first | ((with_reducible refine gate_callee (f := 46) rfl ?_); refine gL (some 88) Try.func46 #[.agg #[.int .i64 t507, .int .i64 t508, .int .i64 t509, .slice Ao47 t510.length co47]] ?_; (with_reducible refine (impl_writeImage.calls k2 t507 t508 t509 _ _ t510 t515 true _ ?side1 ?side2 A33.out).mono ?_); (case side1 => refine (Kd.R_reads' (e := 3) (base := w.heap.size) (ok := fun k_ => some k_ ≠ (.slice Ao39 t500.length co39 : Value).ownBlock) (n := t510.length) (c := co47) ?_).2.2; exact (by refine qR ?_; exact (fr4 HO512 BK514))); (case side2 => exact (Kd.R_reads' HO512.out).2.1); rintro e w51 ⟨v516, rfl, ho0, hb⟩; refine ⟨_, rfl, ?_⟩; replace HO_5 := aM (Kd.R_below (by refine qR ?_; exact (fr4 HO_5 BK514)) hb); have HO517 := aM (Kd.R_lower (Kd.R_new' (Kd.R_new' ho0 (Kd.R_lt (by refine qR ?_; exact (fr4 HO503 BK514)))) (Kd.R_lt (by refine qR ?_; exact (fr4 HO512 BK514)))) (below_size (qW HB.out))); replace HO503 := aM (Kd.R_elder' (by refine qR ?_; exact (fr4 HO503 BK514)) (Kd.R_base ho0) hb); replace HO512 := aM (Kd.R_elder' (by refine qR ?_; exact (fr4 HO512 BK514)) (Kd.R_base ho0) hb); replace BK485 := aM (blk_below (g := gb485) (o := .cells #[.int .i64 0, .int .i64 0, .int .i64 0, .slice none 0 0] 24 (0, 0)) (by refine qB ?_; refine blk_far ?_ NB485_514.out _; refine qB ?_; refine blk_far ?_ NB485_514.out _; refine qB ?_; refine blk_far ?_ NB485_514.out _; refine qB ?_; refine blk_far ?_ NB485_514.out _; refine qB ?_; exact BK485.out) hb); replace BK514 := aM (blk_below (g := gb514) (o := .cells #[.int .i64 t507, .int .i64 t508, .int .i64 t509, .slice Ao47 t510.length co47] 24 (0, 0)) (by exact bP BK514.out) hb); replace HB := bS HB hb; clear hb ho0; obtain ⟨Ao52, co52, rfl⟩ := sL HO517) | (go_at_call 47; (with_reducible refine (slices_Equal_int_int.calls k2 _ _ t515 _ _ l0 true _ ?side1 ?side2 ?side3 ?side4 A35.out).mono ?_); (case side1 => exact qC (Kd.R_reads' HO517.out).2.2); (case side2 => exact (Kd.R_reads' HO517.out).2.1); (case side3 => exact qC (Kd.C_below HR0.out HB.out)); (case side4 => exact HC0.out); rintro e w' ⟨rfl, ⟨nd, rfl⟩⟩; (try (rw [drewN_self w51]; generalize hq_ : World.drewN w51 _ = w51; replace HO503 : Aside0 (Kd.R (Kd.int .i64) 3 w51 w.heap.size (fun k_ => some k_ ≠ (.slice Ao47 t510.length co47 : Value).ownBlock ∧ some k_ ≠ (.slice Ao52 t515.length co52 : Value).ownBlock) (.slice Ao39 t500.length co39) t500) := ⟨by rw [← hq_]; exact (qR HO503.out)⟩; replace HO512 : Aside0 (Kd.R (Kd.int .i64) 3 w51 w.heap.size (fun k_ => some k_ ≠ (.slice Ao39 t500.length co39 : Value).ownBlock ∧ some k_ ≠ (.slice Ao52 t515.length co52 : Value).ownBlock) (.slice Ao47 t510.length co47) t510) := ⟨by rw [← hq_]; exact (qR HO512.out)⟩; replace HO517 : Aside0 (Kd.R (Kd.int .i64) 3 w51 w.heap.size (fun k_ => some k_ ≠ (.slice Ao39 t500.length co39 : Value).ownBlock ∧ some k_ ≠ (.slice Ao47 t510.length co47 : Value).ownBlock) (.slice Ao52 t515.length co52) t515) := ⟨by rw [← hq_]; exact (by refine qR ?_; exact Kd.R_mono HO517.out (fun _ hk => ⟨hk.1.2, hk.2⟩))⟩; replace HO_5 : Aside0 (Kd.R k54 54 w51 w.heap.size (fun _ => True) (.slice Ao37 x5_2.length co37) x5_2) := ⟨by rw [← hq_]; exact (qR HO_5.out)⟩; replace BK485 : Aside0 (w51.heap[gb485]? = some (.cells #[.int .i64 0, .int .i64 0, .int .i64 0, .slice none 0 0] 24 (0, 0))) := ⟨by rw [← hq_]; exact (qB BK485.out)⟩; replace BK514 : Aside0 (w51.heap[gb514]? = some (.cells #[.int .i64 t507, .int .i64 t508, .int .i64 t509, .slice Ao47 t510.length co47] 24 (0, 0))) := ⟨by rw [← hq_]; exact (qB BK514.out)⟩; replace HB : Aside0 (Below w.heap.size w w51) := ⟨by rw [← hq_]; exact (qW HB.out)⟩; clear hq_)); obtain ⟨⟨hcz53_0, hcz53_1, hcz53_2, hcz53_3⟩, hfz53_0, hfz53_1, hfz53_2, hfz53_3⟩ := cf4 BK514; obtain ⟨⟨hcz54_0, hcz54_1, hcz54_2, hcz54_3⟩, hfz54_0, hfz54_1, hfz54_2, hfz54_3⟩ := cf4 BK485))
     refine bodyPost_ret (results_ct rfl _ _ gb485 24 #[.int .i64 t507, .int .i64 t508, .int .i64 t509, .slice Ao47 t510.length co47] (0, 0) _ rfl (by exact bP BK485.out) Try.underlying24 rfl (by kernel_rfl)) rfl ?_
     exact ⟨_, qX, by refine qR ?_; exact Kd.R_mono (rT HO512 BK485) (fun _ hk => trivial), by exact qW HB.out⟩
def IsS67 (w0 W : World) (g : Nat) (f0 : List Int) (f1 : Int) : Prop := ∃ A0 c0, W.heap[g]? = some (.cells #[.slice A0 f0.length c0, .int .i64 f1] 67 (0, 0)) ∧ w0.heap.size ≤ g ∧ Kd.C (Kd.int .u8) w0 A0 f0.length f0
theorem IsS67.grown {w0 W : World} {g : Nat} {f0 : List Int} {f1 : Int} {W1 : World} {row : Option Nat} (h : IsS67 w0 W g f0 f1) (hw : W.grownBy W1 row) (hne : some g ≠ row) : IsS67 w0 W1 g f0 f1 := by
 obtain ⟨A0, c0, hb, hg, hr0⟩ := h
 exact ⟨A0, c0, blk_grown hb hw hne, hg, hr0⟩
theorem IsS67.own_neN {w0 W : World} {g : Nat} {f0 : List Int} {f1 : Int} {α : Type} {d : Kd α} {e : Nat} {base : Nat} {ok : Nat → Prop} {v : Value} {xs : List α} (h : IsS67 w0 W g f0 f1) (ho : Kd.N d e W base ok v xs) (ht : e ≠ 67) : some g ≠ v.ownBlock := by
 obtain ⟨A0, c0, hb, hg, hr0⟩ := h
 exact Kd.N_ne ho hb ht
theorem IsS67.fresh {w0 W : World} {g : Nat} {f0 : List Int} {f1 : Int} (h : IsS67 w0 W g f0 f1) : ∀ k, W.heap.size ≤ k → k ≠ g := by
 obtain ⟨A0, c0, hb, hg, hr0⟩ := h
 exact Kd.freshB hb
theorem IsS67.kept {w0 W : World} {g : Nat} {f0 : List Int} {f1 : Int} {W1 : World} {S : Nat → Prop} (h : IsS67 w0 W g f0 f1) (hk : Kept W W1 S) (hne : ¬ S g) : IsS67 w0 W1 g f0 f1 := by
 obtain ⟨A0, c0, hb, hg, hr0⟩ := h
 exact ⟨A0, c0, blk_kept hb hk hne, hg, hr0⟩
theorem IsS67.below {w0 W : World} {g : Nat} {f0 : List Int} {f1 : Int} {W1 : World} (h : IsS67 w0 W g f0 f1) (hw : Below W.heap.size W W1) : IsS67 w0 W1 g f0 f1 := h.grown (grown_of_below hw none) (by simp)
theorem IsS67.alloc {w0 W : World} {g : Nat} {f0 : List Int} {f1 : Int} (h : IsS67 w0 W g f0 f1) (o : Obj) : IsS67 w0 (W.alloc o) g f0 f1 := h.below (below_alloc (Below.refl _ _) o)
theorem IsS67.drewN {w0 W : World} {g : Nat} {f0 : List Int} {f1 : Int} (h : IsS67 w0 W g f0 f1) (m : Nat) : IsS67 w0 (W.drewN m) g f0 f1 := h
theorem IsS67.drew {w0 W : World} {g : Nat} {f0 : List Int} {f1 : Int} (h : IsS67 w0 W g f0 f1) : IsS67 w0 W.drew g f0 f1 := h
theorem IsS67.at_ {w0 W : World} {g : Nat} {f0 : List Int} {f1 : Int} {w' : World} {m : Nat} (hq : W.drewN m = w') (h : IsS67 w0 W g f0 f1) : IsS67 w0 w' g f0 f1 := by subst hq; exact IsS67.drewN h m
theorem IsS67.apart {w0 W : World} {g : Nat} {f0 : List Int} {f1 : Int} {α : Type} {d : Kd α} {e : Nat} {base : Nat} {ok : Nat → Prop} {v : Value} {xs : List α} (h : IsS67 w0 W g f0 f1) (ho : d.R e W base ok v xs) (ht : ∀ q, q ∈ e :: d.E → q ≠ 67) : d.R e W base (fun k => ok k ∧ k ≠ g) v xs := by
 obtain ⟨A0, c0, hb, hg, hr0⟩ := h
 exact Kd.R_types ho hb ht
theorem IsS67.own_ne {w0 W : World} {g : Nat} {f0 : List Int} {f1 : Int} {α : Type} {d : Kd α} {e : Nat} {base : Nat} {ok : Nat → Prop} {v : Value} {xs : List α} (h : IsS67 w0 W g f0 f1) (ho : d.R e W base ok v xs) (ht : e ≠ 67) : some g ≠ v.ownBlock := by
 obtain ⟨A0, c0, hb, hg, hr0⟩ := h
 exact Kd.R_ne ho hb ht
theorem IsS67.apartQ {w0 W : World} {g : Nat} {f0 : List Int} {f1 : Int} {α : Type} {d : Kd α} {e : Nat} {base : Nat} {ok : Nat → Prop} {v : Value} {xs : List α} (h : IsS67 w0 W g f0 f1) (ho : d.Q e W base ok v xs) (ht : ∀ q, q ∈ e :: d.E → q ≠ 67) : d.Q e W base (fun k => ok k ∧ k ≠ g) v xs := by
 obtain ⟨A0, c0, hb, hg, hr0⟩ := h
 exact Kd.Q_types ho hb ht
theorem IsS67.own_neQ {w0 W : World} {g : Nat} {f0 : List Int} {f1 : Int} {α : Type} {d : Kd α} {e : Nat} {base : Nat} {ok : Nat → Prop} {v : Value} {xs : List α} (h : IsS67 w0 W g f0 f1) (ho : d.Q e W base ok v xs) (ht : e ≠ 67) : some g ≠ v.ownBlock := by
 obtain ⟨A0, c0, hb, hg, hr0⟩ := h
 exact Kd.Q_ne ho hb ht
theorem IsS67.apartS {w0 W : World} {g : Nat} {f0 : List Int} {f1 : Int} {α : Type} {d : Kd α} {e : Nat} {base : Nat} {ok : Nat → Prop} {v : Value} {xs : List α} (h : IsS67 w0 W g f0 f1) (ho : d.S e W base ok v xs) (ht : ∀ q, q ∈ e :: d.E → q ≠ 67) : d.S e W base (fun k => ok k ∧ k ≠ g) v xs := by
 obtain ⟨A0, c0, hb, hg, hr0⟩ := h
 exact Kd.S_types ho hb ht
theorem IsS67.own_neS {w0 W : World} {g : Nat} {f0 : List Int} {f1 : Int} {α : Type} {d : Kd α} {e : Nat} {base : Nat} {ok : Nat → Prop} {v : Value} {xs : List α} (h : IsS67 w0 W g f0 f1) (ho : d.S e W base ok v xs) (ht : e ≠ 67) : some g ≠ v.ownBlock := by
 obtain ⟨A0, c0, hb, hg, hr0⟩ := h
 exact Kd.S_ne ho hb ht
theorem IsS67.lt {w0 W : World} {g : Nat} {f0 : List Int} {f1 : Int} (h : IsS67 w0 W g f0 f1) : g < W.heap.size := by
 obtain ⟨A0, c0, hb, hg, hr0⟩ := h
 exact blk_lt hb
theorem IsS67.ge {w0 W : World} {g : Nat} {f0 : List Int} {f1 : Int} (h : IsS67 w0 W g f0 f1) : w0.heap.size ≤ g := by
 obtain ⟨A0, c0, hb, hg, hr0⟩ := h
 exact hg
theorem IsS67.ne_blk {w0 W : World} {g : Nat} {f0 : List Int} {f1 : Int} {a : Nat} {cs : Array Value} {t : TypeId} {fr : Nat × Nat} (h : IsS67 w0 W g f0 f1) (hb2 : W.heap[a]? = some (.cells cs t fr)) (ht : t ≠ 67) : g ≠ a := by
 obtain ⟨A0, c0, hb, hg, hr0⟩ := h
 rintro rfl
 rw [hb] at hb2
 injection hb2 with hb2
 injection hb2 with _ ht2
 exact ht ht2.symm
theorem IsS67.far {w0 W : World} {g : Nat} {f0 : List Int} {f1 : Int} {p : Addr} (h : IsS67 w0 W g f0 f1) (hne : g ≠ p.block) (u : Value) : IsS67 w0 (W.setCell p u) g f0 f1 := by
 obtain ⟨A0, c0, hb, hg, hr0⟩ := h
 exact ⟨A0, c0, blk_far hb hne u, hg, hr0⟩
theorem cellS67_0 {W : World} {g : Nat} {A0 : Option Addr} {c0 : Nat} {f0 : List Int} {f1 : Int} (h : W.heap[g]? = some (.cells #[.slice A0 f0.length c0, .int .i64 f1] 67 (0, 0))) : W.cell? ⟨g, 0, none⟩ = some (.slice A0 f0.length c0) := (blk_cell h 0).trans rfl
theorem cellS67_1 {W : World} {g : Nat} {A0 : Option Addr} {c0 : Nat} {f0 : List Int} {f1 : Int} (h : W.heap[g]? = some (.cells #[.slice A0 f0.length c0, .int .i64 f1] 67 (0, 0))) : W.cell? ⟨g, 1, none⟩ = some (.int .i64 f1) := (blk_cell h 1).trans rfl
theorem IsS67.set_1 {w0 W : World} {g : Nat} {f0 : List Int} {f1 : Int} (h : IsS67 w0 W g f0 f1) (x : Int) : IsS67 w0 (W.setCell ⟨g, 1, none⟩ (.int .i64 x)) g f0 x := by
 obtain ⟨A0, c0, hb, hg, hr0⟩ := h
 exact ⟨A0, c0, by simpa using blk_set hb 1 (.int .i64 x), hg, hr0⟩
theorem IsS67.new (w0 W : World) (A0 : Option Addr) (c0 : Nat) (f0 : List Int) (f1 : Int) (hB : Below w0.heap.size w0 W) (hr0 : Kd.C (Kd.int .u8) w0 A0 f0.length f0) : IsS67 w0 (W.alloc (.cells #[.slice A0 f0.length c0, .int .i64 f1] 67)) W.heap.size f0 f1 := ⟨A0, c0, by simpa using heap_alloc_new W _, hB.size, hr0⟩
theorem farA67 {w0 W : World} {g : Nat} {f0 : List Int} {f1 : Int} {g2 j : Nat} {u : Value} (h : IsS67 w0 W g f0 f1) (hn : Aside0 (g ≠ g2)) : IsS67 w0 (W.setCell ⟨g2, j, none⟩ u) g f0 f1 := IsS67.far h hn.out u
theorem iS67 {w0 W W2 : World} {g : Nat} {f0 : List Int} {f1 : Int} {f0' : List Int} {f1' : Int} (a : IsS67 w0 W g f0 f1) (f : IsS67 w0 W g f0 f1 → IsS67 w0 W2 g f0' f1' := by intro h_; repeat (first | (with_reducible first | exact h_ | apply IsS67.alloc | apply IsS67.drewN | apply IsS67.drew | apply IsS67.set_1 | (refine farA67 ?_ ?_; rotate_left; assumption)) | exact h_)) : IsS67 w0 W2 g f0' f1' := f a
theorem wS67 {n : Nat} {w w' W : World} (a : Below n w w') (f : Below n w w' → Below n w W := by intro h_; repeat (first | (with_reducible first | exact h_ | apply below_alloc | apply pw_below_drewN | apply below_drew1 | (refine below_set ?_ ?_; rotate_left; exact IsS67.ge (Aside0.out (by assumption))) | (refine below_setA ?_ ?_; rotate_left; assumption)) | exact h_)) : Below n w W := f a
def spec_newReader.f (l0 : List Int) : Option (List Int × Int) := if (l0.length : Int) > 2000 then (if 2000 ≤ (l0.length : Int) then (some (l0.take 2000, 0)) else (none)) else (some (l0, 0))
set_option maxHeartbeats 8000000 in
set_option maxRecDepth 100000 in
theorem spec_newReader.calls (A0 : Option Addr) (c0 : Nat) (l0 : List Int) (r1 : List Int) (r2 : Int) (w0 w : World) (hB : Below w0.heap.size w0 w) (hr0 : Kd.C (Kd.int .u8) w0 A0 l0.length l0) (hc0 : l0.length ≤ c0) (h : spec_newReader.f l0 = some (r1, r2)) :
  Calls Try.prog 48 #[.slice A0 l0.length c0] w fun e w' => ∃ g_ : Nat, e = .returned (.pointer (some ⟨g_, 0, none⟩)) ∧ IsS67 w0 w' g_ r1 r2 ∧ Below w0.heap.size w0 w' ∧ Below w.heap.size w w' := by
 have hu67 := Try.underlying67
 have HR0 := aM hr0
 have HC0 := aM hc0
 clear hr0 hc0
 have HBW := aM (Below.refl w.heap.size w)
 have HW0 := aM hB.size
 have HB := aM hB
 clear hB
 unfold spec_newReader.f at h
 have H := h
 clear h
 by_cases c2 : (l0.length : Int) > 2000
 rotate_left
 ·rw [if_neg c2] at H
  have c2b0 : decide (2000 < (l0.length : Int)) = false := decide_eq_false c2
  have c2b1 : decide (2000 < l0.length) = false := decide_eq_false (by omega)
  clear c2
  simp only [Option.some.injEq, Prod.mk.injEq] at H
  obtain ⟨rfl, rfl⟩ := H
  go_enter Try.func48, Try.ntmps48
  go_wp2_with (first | ((with_reducible refine gate_dst (N := 10) rfl ?_); refine bxE (N := 10) (cs := #[.slice A0 l0.length c0, .int .i64 0]) (t := 67) ?_; intro gb594 hg w6 hbox hb; replace HB := bS HB hb; have BK594 := aM (hbox); have GW594 := aM ((by rw [hg]; exact (below_size (qW HBW.out)) : w.heap.size ≤ gb594)); have GE594 := aM ((Nat.le_trans HW0.out (by rw [hg]; exact (below_size (qW HBW.out)) : w.heap.size ≤ gb594) : w0.heap.size ≤ gb594)); replace HBW := aM (below_step HBW.out hb); clear hb hbox hg))
  go_ret
  exact ⟨_, rfl, (show IsS67 w0 _ gb594 l0 0 from ⟨_, _, by refine qB ?_; exact BK594.out, GE594.out, HR0.out⟩), by exact qW HB.out, by exact qW HBW.out⟩
 rw [if_pos c2] at H
 have c2b0 : decide (2000 < (l0.length : Int)) = true := decide_eq_true c2
 have c2b1 : decide (2000 < l0.length) = true := decide_eq_true (by omega)
 clear c2
 replace H := iS H
 obtain ⟨c3, H⟩ := H
 have c3b0 := eq_true c3
 have c3b1 : decide (2000 ≤ (l0.length : Int)) = true := decide_eq_true c3
 clear c3
 simp only [Option.some.injEq, Prod.mk.injEq] at H
 obtain ⟨rfl, rfl⟩ := H
 obtain ⟨i04, hi04, _, hsz4, _⟩ := info_parts info5
 obtain ⟨hcut4, hA4, hC4⟩ := print_take_of (P := Try.prog) (Value.int .u8) 0 33 5 .i64 Try.underlying33 hi04 hsz4 A0 c0 l0 2000 (by omega) oD HC0.out
 have HR592 := aM (Kd.C_of_reads (h1 := fun _ => rfl) (hA4 _ (Kd.reads_of_C HR0.out)))
 have HC592 := aM hC4
 clear hA4 hC4 hi04 hsz4
 go_enter Try.func48, Try.ntmps48
 go_wp2_with (first | ((with_reducible refine gate_dst (N := 10) rfl ?_); refine bxE (N := 10) (cs := #[.slice A0 (l0.take 2000).length c0, .int .i64 0]) (t := 67) ?_; intro gb593 hg w5 hbox hb; replace HB := bS HB hb; have BK593 := aM (hbox); have GW593 := aM ((by rw [hg]; exact (below_size (qW HBW.out)) : w.heap.size ≤ gb593)); have GE593 := aM ((Nat.le_trans HW0.out (by rw [hg]; exact (below_size (qW HBW.out)) : w.heap.size ≤ gb593) : w0.heap.size ≤ gb593)); replace HBW := aM (below_step HBW.out hb); clear hb hbox hg))
 go_ret
 exact ⟨_, rfl, (show IsS67 w0 _ gb593 (l0.take 2000) 0 from ⟨_, _, by refine qB ?_; exact BK593.out, GE593.out, HR592.out⟩), by exact qW HB.out, by exact qW HBW.out⟩
def spec_reader_pick.j0 : Nat → Int → Bool → List Int → Int → Option (Int × Int)
 | 0, _, _, _, _ => none
 | k + 1, x1, x24, x1000, x1001 => if x24 = true then (some (0, x1001)) else (if (wrap64 (x1001 - 1)) < (x1000.length : Int) then (if 0 ≤ (wrap64 (x1001 - 1)) then (if x1 = 0 then (none) else (some (Int.tmod (wrap64 (rd x1000 (wrap64 (x1001 - 1)))) x1, x1001))) else (none)) else (if (x1000.length : Int) = 0 then (none) else (if 0 ≤ (Int.tmod (wrap64 (x1001 - 1)) (x1000.length : Int)) then (if (Int.tmod (wrap64 (x1001 - 1)) (x1000.length : Int)) < (x1000.length : Int) then (if 0 ≤ (Int.tmod (wrap64 ((wrap64 ((wrap64 (x1001 - 1)) * 7)) + 3)) (x1000.length : Int)) then (if (Int.tmod (wrap64 ((wrap64 ((wrap64 (x1001 - 1)) * 7)) + 3)) (x1000.length : Int)) < (x1000.length : Int) then (if x1 = 0 then (none) else (some (Int.tmod (Go.bits .xor .i64 (wrap64 ((wrap64 ((wrap64 ((wrap64 ((wrap64 (rd x1000 (Int.tmod (wrap64 (x1001 - 1)) (x1000.length : Int)))) * 131)) + (wrap64 ((wrap64 (rd x1000 (Int.tmod (wrap64 ((wrap64 ((wrap64 (x1001 - 1)) * 7)) + 3)) (x1000.length : Int)))) * 1117)))) + (wrap64 ((wrap64 (x1001 - 1)) * 29)))) + (wrap64 ((wrap64 (Int.tdiv (wrap64 (x1001 - 1)) (x1000.length : Int))) * 53)))) (wrap64 (Int.tdiv (wrap64 ((wrap64 ((wrap64 ((wrap64 ((wrap64 (rd x1000 (Int.tmod (wrap64 (x1001 - 1)) (x1000.length : Int)))) * 131)) + (wrap64 ((wrap64 (rd x1000 (Int.tmod (wrap64 ((wrap64 ((wrap64 (x1001 - 1)) * 7)) + 3)) (x1000.length : Int)))) * 1117)))) + (wrap64 ((wrap64 (x1001 - 1)) * 29)))) + (wrap64 ((wrap64 (Int.tdiv (wrap64 (x1001 - 1)) (x1000.length : Int))) * 53)))) 64))) x1, x1001))) else (none)) else (none)) else (none)) else (none))))
def spec_reader_pick.f (k : Nat) (s0_0 : List Int) (s0_1 : Int) (a1 : Int) : Option (Int × Int) := if a1 < 1 then (spec_reader_pick.j0 k a1 true s0_0 (wrap64 (s0_1 + 1))) else (spec_reader_pick.j0 k a1 ((s0_0.length : Int) == 0) s0_0 (wrap64 (s0_1 + 1)))
theorem spec_reader_pick.mono_l : ∀ k, (∀ y0 y1 y2 y3, LeO (spec_reader_pick.j0 k y0 y1 y2 y3) (spec_reader_pick.j0 (k + 1) y0 y1 y2 y3))
 | 0 => fun _ _ _ _ r h => by simp [spec_reader_pick.j0] at h
 | k + 1 => by
  have ih0 := spec_reader_pick.mono_l k
  ·intro y0 y1 y2 y3
   unfold spec_reader_pick.j0
   repeat' first | (with_reducible first | exact ih0 _ _ _ _ | exact lR | exact lN | refine lI ?_ ?_ | refine lB ?_ fun _ => ?_) | exact ih0 _ _ _ _ | exact lN | refine lI ?_ ?_ | refine lB ?_ fun _ => ?_
theorem spec_reader_pick.mono : ∀ a0 a1 a2 k, LeO (spec_reader_pick.f k a0 a1 a2) (spec_reader_pick.f (k + 1) a0 a1 a2) := by
 intro a0 a1 a2 k
 have ih0 := spec_reader_pick.mono_l k
 unfold spec_reader_pick.f
 repeat' first | (with_reducible first | exact ih0 _ _ _ _ | exact lR | exact lN | refine lI ?_ ?_ | refine lB ?_ fun _ => ?_) | exact ih0 _ _ _ _ | exact lN | refine lI ?_ ?_ | refine lB ?_ fun _ => ?_
set_option maxHeartbeats 8000000 in
set_option maxRecDepth 100000 in
theorem spec_reader_pick.calls (k : Nat) (g : Nat) (s0_0 : List Int) (s0_1 : Int) (a1 : Int) (r1 : Int) (r2 : Int) (w0 w : World) (hI : IsS67 w0 w g s0_0 s0_1) (hB : Below w0.heap.size w0 w) (h : spec_reader_pick.f k s0_0 s0_1 a1 = some (r1, r2)) :
  Calls Try.prog 51 #[.pointer (some ⟨g, 0, none⟩), .int .i64 a1] w fun e w' => e = .returned (.int .i64 r1) ∧ IsS67 w0 w' g s0_0 r2 ∧ Below w0.heap.size w0 w' ∧ KeepBut w w' g none := by
 have HI0 := aM hI
 have HK := aM (KeepBut.refl w g none)
 have HL := aM hB.size
 clear hI
 have HW0 := aM hB.size
 have HB := aM hB
 clear hB
 unfold spec_reader_pick.f at h
 have H := h
 clear h
 have HC3 := aM H
 clear H
 obtain ⟨ASz4_0, cSz4_0, HGz4, hgz4, HSz4_0⟩ := HI0.out
 have hcz4_0 := cellS67_0 HGz4
 have hcz4_1 := cellS67_1 HGz4
 have hfz4_1 := blk_frozen HGz4 1
 clear HGz4 hgz4
 go_enter Try.func51, Try.ntmps51
 go_upto_region 2 with (fail)
 repeat (go_quiet (fail); go_upto_region 2 with (fail))
 go_cut [24] (fun v24 wc => ∃ (kq : Nat) (x24_2 : Bool), v24 = .bool x24_2 ∧ Aside0 (spec_reader_pick.j0 kq a1 x24_2 s0_0 (wrap64 (s0_1 + 1)) = some (r1, r2)) ∧ Aside0 (kq ≤ k) ∧ Aside0 (IsS67 w0 wc g s0_0 (wrap64 (s0_1 + 1))) ∧ Aside0 (KeepBut w wc g none) ∧ Aside0 (Below w0.heap.size w0 wc))
 case first =>
  have H := HC3.out
  clear HC3
  by_cases c5 : a1 < 1
  ·rw [if_pos c5] at H
   have c5b0 : decide (a1 < 1) = true := decide_eq_true c5
   clear c5
   (first | rw [c5b0] | (simp only [i64_w, i32_w]; rw [c5b0]) | skip)
   have H' := aM H
   clear H
   go_wp2
   repeat (go_quiet (fail); try go_wp2)
   go_meet
   case rel => exact ⟨_, (true), qE, H', ⟨by first | omega | exact Nat.le_refl _⟩, ⟨iS67 HI0.out⟩, ⟨kB HK.out⟩, ⟨wS67 HB.out⟩⟩
  rw [if_neg c5] at H
  have c5b0 : decide (a1 < 1) = false := decide_eq_false c5
  clear c5
  (first | rw [c5b0] | (simp only [i64_w, i32_w]; rw [c5b0]) | skip)
  have H' := aM H
  clear H
  obtain ⟨ASz6_0, cSz6_0, HGz6, hgz6, HSz6_0⟩ := HI0.out
  have hcz6_0 := cellS67_0 HGz6
  have hcz6_1 := cellS67_1 HGz6
  have hfz6_1 := blk_frozen HGz6 1
  clear HGz6 hgz6
  go_wp2
  repeat (go_quiet (fail); try go_wp2)
  go_meet
  case rel => exact ⟨_, (((s0_0.length : Int) == 0)), qE, H', ⟨by first | omega | exact Nat.le_refl _⟩, ⟨iS67 HI0.out⟩, ⟨kB HK.out⟩, ⟨wS67 HB.out⟩⟩
 case rest =>
  clear HC3
  try clear c5
  try clear c5b0
  try clear hcz4_0 hcz4_1 hfz4_1
  try clear hcz6_0 hcz6_1 hfz6_1
  obtain ⟨kq, x24_2, rfl, HA, HJ2, HI0, HK, HB⟩ := hcut
  cases kq with
  | zero => exact absurd HA.out (by simp [spec_reader_pick.j0])
  | succ kj2 =>
   have H := HA.out
   clear HA
   simp only [spec_reader_pick.j0] at H
   by_cases c7 : x24_2 = true
   ·subst c7
    have H1 : (some (0, (wrap64 (s0_1 + 1)))) = some (r1, r2) := by rw [if_pos rfl] at H; exact H
    clear H
    have H := H1
    clear H1
    simp only [Option.some.injEq, Prod.mk.injEq] at H
    obtain ⟨rfl, rfl⟩ := H
    go_wp2
    repeat (go_quiet (fail); try go_wp2)
    go_ret
    exact ⟨qX, iS67 HI0.out, wS67 HB.out, kB HK.out⟩
   replace c7 := Bool.eq_false_iff.mpr c7
   subst c7
   have H1 : (if (wrap64 ((wrap64 (s0_1 + 1)) - 1)) < (s0_0.length : Int) then (if 0 ≤ (wrap64 ((wrap64 (s0_1 + 1)) - 1)) then (if a1 = 0 then (none) else (some (Int.tmod (wrap64 (rd s0_0 (wrap64 ((wrap64 (s0_1 + 1)) - 1)))) a1, (wrap64 (s0_1 + 1))))) else (none)) else (if (s0_0.length : Int) = 0 then (none) else (if 0 ≤ (Int.tmod (wrap64 ((wrap64 (s0_1 + 1)) - 1)) (s0_0.length : Int)) then (if (Int.tmod (wrap64 ((wrap64 (s0_1 + 1)) - 1)) (s0_0.length : Int)) < (s0_0.length : Int) then (if 0 ≤ (Int.tmod (wrap64 ((wrap64 ((wrap64 ((wrap64 (s0_1 + 1)) - 1)) * 7)) + 3)) (s0_0.length : Int)) then (if (Int.tmod (wrap64 ((wrap64 ((wrap64 ((wrap64 (s0_1 + 1)) - 1)) * 7)) + 3)) (s0_0.length : Int)) < (s0_0.length : Int) then (if a1 = 0 then (none) else (some (Int.tmod (Go.bits .xor .i64 (wrap64 ((wrap64 ((wrap64 ((wrap64 ((wrap64 (rd s0_0 (Int.tmod (wrap64 ((wrap64 (s0_1 + 1)) - 1)) (s0_0.length : Int)))) * 131)) + (wrap64 ((wrap64 (rd s0_0 (Int.tmod (wrap64 ((wrap64 ((wrap64 ((wrap64 (s0_1 + 1)) - 1)) * 7)) + 3)) (s0_0.length : Int)))) * 1117)))) + (wrap64 ((wrap64 ((wrap64 (s0_1 + 1)) - 1)) * 29)))) + (wrap64 ((wrap64 (Int.tdiv (wrap64 ((wrap64 (s0_1 + 1)) - 1)) (s0_0.length : Int))) * 53)))) (wrap64 (Int.tdiv (wrap64 ((wrap64 ((wrap64 ((wrap64 ((wrap64 (rd s0_0 (Int.tmod (wrap64 ((wrap64 (s0_1 + 1)) - 1)) (s0_0.length : Int)))) * 131)) + (wrap64 ((wrap64 (rd s0_0 (Int.tmod (wrap64 ((wrap64 ((wrap64 ((wrap64 (s0_1 + 1)) - 1)) * 7)) + 3)) (s0_0.length : Int)))) * 1117)))) + (wrap64 ((wrap64 ((wrap64 (s0_1 + 1)) - 1)) * 29)))) + (wrap64 ((wrap64 (Int.tdiv (wrap64 ((wrap64 (s0_1 + 1)) - 1)) (s0_0.length : Int))) * 53)))) 64))) a1, (wrap64 (s0_1 + 1))))) else (none)) else (none)) else (none)) else (none)))) = some (r1, r2) := by rw [if_neg (show ¬ (false = true) by decide)] at H; exact H
   clear H
   have H := H1
   clear H1
   by_cases c8 : (wrap64 ((wrap64 (s0_1 + 1)) - 1)) < (s0_0.length : Int)
   ·rw [if_pos c8] at H
    have c8b0 : decide ((wrap64 ((wrap64 (s0_1 + 1)) - 1)) < (s0_0.length : Int)) = true := decide_eq_true c8
    clear c8
    obtain ⟨ji9, hji9⟩ : ∃ j_ : Int, (wrap64 ((wrap64 (s0_1 + 1)) - 1)) = j_ := ⟨_, rfl⟩
    replace H : (if 0 ≤ (ji9) then (if a1 = 0 then (none) else (some (Int.tmod (wrap64 (rd s0_0 (ji9))) a1, (wrap64 (s0_1 + 1))))) else (none)) = some (r1, r2) := by first | (rw [hji9] at H; exact H) | (simp only [hji9] at H ⊢; exact H)
    (try rw [hji9] at c8b0)
    have hji9w : (IntKind.i64.wrap ((wrap64 (s0_1 + 1)) - 1)) = ji9 := (i64_w _).trans hji9
    replace H := iD H
    obtain ⟨c10b0, H⟩ := H
    by_cases c11 : a1 = 0
    ·rw [if_pos c11] at H
     exact absurd H (by simp)
    rw [if_neg c11] at H
    have c11b0 : (a1 == 0) = false := beq_eq_false_iff_ne.mpr c11
    have c11b1 : (a1 != 0) = true := bne_iff_ne.mpr c11
    simp only [Option.some.injEq, Prod.mk.injEq] at H
    obtain ⟨rfl, rfl⟩ := H
    obtain ⟨ASz12_0, cSz12_0, HGz12, hgz12, HSz12_0⟩ := HI0.out
    have hcz12_0 := cellS67_0 HGz12
    have hcz12_1 := cellS67_1 HGz12
    have hfz12_1 := blk_frozen HGz12 1
    clear HGz12 hgz12
    obtain ⟨ad595, e595, hx595_0⟩ := Kd.at_int HSz12_0 (ji9) oD oD
    cases e595
    replace hx595_0 := pw_cell_below HB.out hx595_0
    have p595 := eq_true (oD : 0 ≤ ((ji9) : Int))
    have q595 := eq_true (oD : (ji9) < (s0_0.length : Int))
    go_wp2
    repeat (go_quiet (fail); try go_wp2)
    go_ret
    exact ⟨by first | rfl | (simp [errW_none, errW_some] <;> rfl) | (simp only [← hji9]; first | rfl | (simp [errW_none, errW_some] <;> rfl)) | (simp [*, errW_none, errW_some] <;> rfl), iS67 HI0.out, wS67 HB.out, kB HK.out⟩
   rw [if_neg c8] at H
   have c8b0 : decide ((wrap64 ((wrap64 (s0_1 + 1)) - 1)) < (s0_0.length : Int)) = false := decide_eq_false c8
   clear c8
   by_cases c13 : (s0_0.length : Int) = 0
   ·rw [if_pos c13] at H
    exact absurd H (by simp)
   rw [if_neg c13] at H
   have c13b0 : ((s0_0.length : Int) == 0) = false := beq_eq_false_iff_ne.mpr c13
   have c13b1 : ((s0_0.length : Int) != 0) = true := bne_iff_ne.mpr c13
   have c13b2 : ¬ (s0_0 = []) := fun h_ => c13 (by rw [h_]; rfl)
   obtain ⟨ji14, hji14⟩ : ∃ j_ : Int, (Int.tmod (wrap64 ((wrap64 (s0_1 + 1)) - 1)) (s0_0.length : Int)) = j_ := ⟨_, rfl⟩
   replace H : (if 0 ≤ (ji14) then (if (ji14) < (s0_0.length : Int) then (if 0 ≤ (Int.tmod (wrap64 ((wrap64 ((wrap64 ((wrap64 (s0_1 + 1)) - 1)) * 7)) + 3)) (s0_0.length : Int)) then (if (Int.tmod (wrap64 ((wrap64 ((wrap64 ((wrap64 (s0_1 + 1)) - 1)) * 7)) + 3)) (s0_0.length : Int)) < (s0_0.length : Int) then (if a1 = 0 then (none) else (some (Int.tmod (Go.bits .xor .i64 (wrap64 ((wrap64 ((wrap64 ((wrap64 ((wrap64 (rd s0_0 (ji14))) * 131)) + (wrap64 ((wrap64 (rd s0_0 (Int.tmod (wrap64 ((wrap64 ((wrap64 ((wrap64 (s0_1 + 1)) - 1)) * 7)) + 3)) (s0_0.length : Int)))) * 1117)))) + (wrap64 ((wrap64 ((wrap64 (s0_1 + 1)) - 1)) * 29)))) + (wrap64 ((wrap64 (Int.tdiv (wrap64 ((wrap64 (s0_1 + 1)) - 1)) (s0_0.length : Int))) * 53)))) (wrap64 (Int.tdiv (wrap64 ((wrap64 ((wrap64 ((wrap64 ((wrap64 (rd s0_0 (ji14))) * 131)) + (wrap64 ((wrap64 (rd s0_0 (Int.tmod (wrap64 ((wrap64 ((wrap64 ((wrap64 (s0_1 + 1)) - 1)) * 7)) + 3)) (s0_0.length : Int)))) * 1117)))) + (wrap64 ((wrap64 ((wrap64 (s0_1 + 1)) - 1)) * 29)))) + (wrap64 ((wrap64 (Int.tdiv (wrap64 ((wrap64 (s0_1 + 1)) - 1)) (s0_0.length : Int))) * 53)))) 64))) a1, (wrap64 (s0_1 + 1))))) else (none)) else (none)) else (none)) else (none)) = some (r1, r2) := by first | (rw [hji14] at H; exact H) | (simp only [hji14] at H ⊢; exact H)
   replace H := iD H
   obtain ⟨c15b0, H⟩ := H
   replace H := iD H
   obtain ⟨c16b0, H⟩ := H
   obtain ⟨ji17, hji17⟩ : ∃ j_ : Int, (Int.tmod (wrap64 ((wrap64 ((wrap64 ((wrap64 (s0_1 + 1)) - 1)) * 7)) + 3)) (s0_0.length : Int)) = j_ := ⟨_, rfl⟩
   replace H : (if 0 ≤ (ji17) then (if (ji17) < (s0_0.length : Int) then (if a1 = 0 then (none) else (some (Int.tmod (Go.bits .xor .i64 (wrap64 ((wrap64 ((wrap64 ((wrap64 ((wrap64 (rd s0_0 (ji14))) * 131)) + (wrap64 ((wrap64 (rd s0_0 (ji17))) * 1117)))) + (wrap64 ((wrap64 ((wrap64 (s0_1 + 1)) - 1)) * 29)))) + (wrap64 ((wrap64 (Int.tdiv (wrap64 ((wrap64 (s0_1 + 1)) - 1)) (s0_0.length : Int))) * 53)))) (wrap64 (Int.tdiv (wrap64 ((wrap64 ((wrap64 ((wrap64 ((wrap64 (rd s0_0 (ji14))) * 131)) + (wrap64 ((wrap64 (rd s0_0 (ji17))) * 1117)))) + (wrap64 ((wrap64 ((wrap64 (s0_1 + 1)) - 1)) * 29)))) + (wrap64 ((wrap64 (Int.tdiv (wrap64 ((wrap64 (s0_1 + 1)) - 1)) (s0_0.length : Int))) * 53)))) 64))) a1, (wrap64 (s0_1 + 1))))) else (none)) else (none)) = some (r1, r2) := by first | (rw [hji17] at H; exact H) | (simp only [hji17] at H ⊢; exact H)
   replace H := iD H
   obtain ⟨c18b0, H⟩ := H
   replace H := iD H
   obtain ⟨c19b0, H⟩ := H
   by_cases c20 : a1 = 0
   ·rw [if_pos c20] at H
    exact absurd H (by simp)
   rw [if_neg c20] at H
   have c20b0 : (a1 == 0) = false := beq_eq_false_iff_ne.mpr c20
   have c20b1 : (a1 != 0) = true := bne_iff_ne.mpr c20
   simp only [Option.some.injEq, Prod.mk.injEq] at H
   obtain ⟨rfl, rfl⟩ := H
   obtain ⟨ASz21_0, cSz21_0, HGz21, hgz21, HSz21_0⟩ := HI0.out
   have hcz21_0 := cellS67_0 HGz21
   have hcz21_1 := cellS67_1 HGz21
   have hfz21_1 := blk_frozen HGz21 1
   clear HGz21 hgz21
   obtain ⟨ad596, e596, hx596_0⟩ := Kd.at_int HSz21_0 (ji14) oD oD
   cases e596
   replace hx596_0 := pw_cell_below HB.out hx596_0
   have p596 := eq_true (oD : 0 ≤ ((ji14) : Int))
   have q596 := eq_true (oD : (ji14) < (s0_0.length : Int))
   obtain ⟨ad597, e597, hx597_0⟩ := Kd.at_int HSz21_0 (ji17) oD oD
   obtain rfl : ad596 = ad597 := (by injection e597)
   replace hx597_0 := pw_cell_below HB.out hx597_0
   have p597 := eq_true (oD : 0 ≤ ((ji17) : Int))
   have q597 := eq_true (oD : (ji17) < (s0_0.length : Int))
   go_wp2
   repeat (go_quiet (fail); try go_wp2)
   go_ret
   exact ⟨by first | rfl | (simp [errW_none, errW_some] <;> rfl) | (simp only [← hji14, ← hji17]; first | rfl | (simp [errW_none, errW_some] <;> rfl)) | (simp [*, errW_none, errW_some] <;> rfl), iS67 HI0.out, wS67 HB.out, kB HK.out⟩
def spec_reader_one.f (k : Nat) (s0_0 : List Int) (s0_1 : Int) (l1 : List Int) : Option (Int × Int) := (spec_reader_pick.f k s0_0 s0_1 (l1.length : Int)).bind fun bt598 => (if 0 ≤ bt598.1 then (if bt598.1 < (l1.length : Int) then (some (rd l1 bt598.1, bt598.2)) else (none)) else (none))
theorem spec_reader_one.mono : ∀ a0 a1 a2 k, LeO (spec_reader_one.f k a0 a1 a2) (spec_reader_one.f (k + 1) a0 a1 a2) := by
 intro a0 a1 a2 k
 unfold spec_reader_one.f
 repeat' first | (with_reducible first | exact spec_reader_pick.mono _ _ _ _ | exact lR | exact lN | refine lI ?_ ?_ | refine lB ?_ fun _ => ?_) | exact spec_reader_pick.mono _ _ _ _ | exact lN | refine lI ?_ ?_ | refine lB ?_ fun _ => ?_
set_option maxHeartbeats 8000000 in
set_option maxRecDepth 100000 in
theorem spec_reader_one.calls (k : Nat) (g : Nat) (s0_0 : List Int) (s0_1 : Int) (A1 : Option Addr) (c1 : Nat) (l1 : List Int) (r1 : Int) (r2 : Int) (w0 w : World) (hI : IsS67 w0 w g s0_0 s0_1) (hB : Below w0.heap.size w0 w) (hr1 : Kd.C (Kd.int .i64) w A1 l1.length l1) (hc1 : l1.length ≤ c1) (hf1 : ∀ ad, A1 = some ad → 0 < l1.length → ad.block ≠ g) (h : spec_reader_one.f k s0_0 s0_1 l1 = some (r1, r2)) :
  Calls Try.prog 58 #[.pointer (some ⟨g, 0, none⟩), .slice A1 l1.length c1] w fun e w' => e = .returned (.int .i64 r1) ∧ IsS67 w0 w' g s0_0 r2 ∧ Below w0.heap.size w0 w' ∧ KeepBut w w' g none := by
 have HR1 := aM hr1
 have HC1 := aM hc1
 clear hr1 hc1
 have HI0 := aM hI
 have HK := aM (KeepBut.refl w g none)
 have HL := aM hB.size
 clear hI
 have HW0 := aM hB.size
 have HB := aM hB
 clear hB
 unfold spec_reader_one.f at h
 have H := h
 clear h
 replace H := Option.bind_eq_some_iff.mp H
 obtain ⟨⟨t598, t599⟩, A30, H⟩ := H
 replace H : (if 0 ≤ t598 then (if t598 < (l1.length : Int) then (some (rd l1 t598, t599)) else (none)) else (none)) = some (r1, r2) := H
 have A3 := aM A30
 clear A30
 replace H := iD H
 obtain ⟨c4b0, H⟩ := H
 replace H := iD H
 obtain ⟨c5b0, H⟩ := H
 simp only [Option.some.injEq, Prod.mk.injEq] at H
 obtain ⟨rfl, rfl⟩ := H
 go_enter Try.func58, Try.ntmps58
 go_wp2_with (first | ((with_reducible refine gate_callee (f := 51) rfl ?_); refine gL (some 9) Try.func51 #[.pointer (some ⟨g, 0, none⟩), .int .i64 (l1.length : Int)] ?_; (with_reducible refine (spec_reader_pick.calls k g s0_0 s0_1 (l1.length : Int) t598 t599 w0 _ ?side1 ?side2 A3.out).mono ?_); (case side1 => exact iS67 HI0.out); (case side2 => exact wS67 HB.out); rintro e w6 ⟨rfl, hi, hb, hk⟩; refine ⟨_, rfl, ?_⟩; replace HK := aM (KeepBut.trans (kB HK.out) hk (.inl rfl)); replace HB := aM (hb); replace HI0 := aM (hi); clear hb hk hi; have p600 : 0 ≤ (t598 : Int) := oD; have q600 : t598 < (l1.length : Int) := oD; obtain ⟨ad600, e600, hx600_0⟩ := Kd.at_int HR1.out t598 p600 q600; cases e600; replace hx600_0 := keep_cell HK.out hx600_0 (by first | (rw [add_block]; exact hf1 _ rfl (by omega)) | exact hf1 _ rfl (by omega) | exact hf1 ad600 rfl (by omega)); replace p600 := eq_true p600; replace q600 := eq_true q600))
 go_ret
 exact ⟨qX, iS67 HI0.out, wS67 HB.out, kB HK.out⟩
end Go.Proofs.Ytchahbdmdcllaaa.P
