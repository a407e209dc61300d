/- Contracts and row, written by a program of this place out of the translation: the call answers true and its argument reads as before, for every input; no condition. -/
import Derived.Test.YteeeedmmcdlhjaaK0
import Derived.Test.YteeeedmmcdlhjaaK2
import Derived.Test.YteeeedmmcdlhjaaK3
namespace Go.Proofs.Yteeeedmmcdlhjaa.P
open Go.RowKit Go.Proofs.YteeeedmmcdlhjaaW.PrintWords Go.Proofs.YteeeedmmcdlhjaaW.PrintLast Go.Proofs.YteeeedmmcdlhjaaW.PrintMore
attribute [local go_sem] max2_int min2_int max_two min_two max_three min_three max_four min_four   -- for this text's walks alone
set_option linter.unusedVariables false
set_option linter.unusedSimpArgs false
def laws_FnExactConvolveImage.j0 : Nat → Bool → Int → Int → Int → List Int → Int → List Int → Int → Int → Int → Int → List Int → Int → Int → Int → List Int → Option (Bool)
 | 0, _, _, _, _, _, _, _, _, _, _, _, _, _, _, _, _ => none
 | k + 1, x63, x565000, x565001, x565002, x565003, x566000, x566001, x566002, x586000, x586001, x586002, x586003, x606000, x606001, x606002, x606003 => if x63 = true then (some false) else ((laws_markImage.f k x606000 x606001 x606002 x606003 1).bind fun bt625 => ((laws_heldImage.f k x606000 x606001 x606002 bt625.2 1).bind fun t627 => (if t627 < 0 then (some false) else (if t627 = bt625.1 then ((laws_toImage.f k x565000 x565001 x565002 x565003).bind fun bt628 => ((laws_toKernel.f k x566000 x566001 x566002).bind fun bt634 => ((impl_ConvolveImage.f bt628.1 bt628.2.1 bt628.2.2.1 bt628.2.2.2 bt634.1 bt634.2.1 bt634.2.2).bind fun bt639 => ((laws_eqImage.f k bt639.1 bt639.2.1 bt639.2.2.1 bt639.2.2.2 x586000 x586001 x586002 x586003).bind fun t646 => (if t646 = true then ((laws_heldImage.f k x606000 x606001 x606002 bt625.2 1).bind fun t647 => (if t647 < 0 then (some false) else (if t647 = bt625.1 then (some true) else (some false)))) else (some false)))))) else (some false)))))
def laws_FnExactConvolveImage.f (k : Nat) (a0_0 : Int) (a0_1 : Int) (a0_2 : Int) (l0_3 : List Int) (a1_0 : Int) (l1_1 : List Int) (a1_2 : Int) : Option (Bool) := (laws_szImage.f a0_0 a0_1 a0_2 l0_3 1048576).bind fun t566 => (if t566 < 0 then (some true) else ((laws_szKernel.f a1_0 l1_1 a1_2 t566).bind fun t567 => (if t567 < 0 then (some true) else ((laws_toImage.f k a0_0 a0_1 a0_2 l0_3).bind fun bt568 => ((laws_toKernel.f k a1_0 l1_1 a1_2).bind fun bt574 => ((spec_ConvolveImage.f k bt568.1 bt568.2.1 bt568.2.2.1 bt568.2.2.2 bt574.1 bt574.2.1 bt574.2.2).bind fun bt579 => ((laws_toImage.f k a0_0 a0_1 a0_2 l0_3).bind fun bt586 => ((laws_toKernel.f k a1_0 l1_1 a1_2).bind fun bt593 => ((impl_ConvolveImage.f bt586.1 bt586.2.1 bt586.2.2.1 bt586.2.2.2 bt593.1 bt593.2.1 bt593.2.2).bind fun bt599 => ((laws_eqImage.f k bt599.1 bt599.2.1 bt599.2.2.1 bt599.2.2.2 bt579.1 bt579.2.1 bt579.2.2.1 bt579.2.2.2).bind fun t606 => (if t606 = true then ((laws_toImage.f k a0_0 a0_1 a0_2 l0_3).bind fun bt607 => ((laws_eqImage.f k bt586.1 bt586.2.1 bt586.2.2.1 bt586.2.2.2 bt607.1 bt607.2.1 bt607.2.2.1 bt607.2.2.2).bind fun t613 => (if t613 = true then ((laws_toKernel.f k a1_0 l1_1 a1_2).bind fun bt614 => ((laws_eqKernel.f k bt593.1 bt593.2.1 bt593.2.2 bt614.1 bt614.2.1 bt614.2.2).bind fun t619 => (if t619 = true then ((laws_markImage.f k bt586.1 bt586.2.1 bt586.2.2.1 bt586.2.2.2 1).bind fun bt620 => ((laws_markKernel.f k bt593.1 bt593.2.1 bt593.2.2 bt620.1).bind fun bt622 => (if bt622.1 < 0 then (laws_FnExactConvolveImage.j0 k true a0_0 a0_1 a0_2 l0_3 a1_0 l1_1 a1_2 bt579.1 bt579.2.1 bt579.2.2.1 bt579.2.2.2 bt599.1 bt599.2.1 bt599.2.2.1 bt599.2.2.2) else ((laws_eqImage.f k bt599.1 bt599.2.1 bt599.2.2.1 bt599.2.2.2 bt579.1 bt579.2.1 bt579.2.2.1 bt579.2.2.2).bind fun t624 => (laws_FnExactConvolveImage.j0 k (!t624) a0_0 a0_1 a0_2 l0_3 a1_0 l1_1 a1_2 bt579.1 bt579.2.1 bt579.2.2.1 bt579.2.2.2 bt599.1 bt599.2.1 bt599.2.2.1 bt599.2.2.2))))) else (some false)))) else (some false)))) else (some false))))))))))))
theorem laws_FnExactConvolveImage.mono_l : ∀ k, (∀ y0 y1 y2 y3 y4 y5 y6 y7 y8 y9 y10 y11 y12 y13 y14 y15, LeO (laws_FnExactConvolveImage.j0 k y0 y1 y2 y3 y4 y5 y6 y7 y8 y9 y10 y11 y12 y13 y14 y15) (laws_FnExactConvolveImage.j0 (k + 1) y0 y1 y2 y3 y4 y5 y6 y7 y8 y9 y10 y11 y12 y13 y14 y15))
 | 0 => fun _ _ _ _ _ _ _ _ _ _ _ _ _ _ _ _ r h => by simp [laws_FnExactConvolveImage.j0] at h
 | k + 1 => by
  have ih0 := laws_FnExactConvolveImage.mono_l k
  ·intro y0 y1 y2 y3 y4 y5 y6 y7 y8 y9 y10 y11 y12 y13 y14 y15
   unfold laws_FnExactConvolveImage.j0
   repeat' first | (with_reducible first | exact ih0 _ _ _ _ _ _ _ _ _ _ _ _ _ _ _ _ | exact laws_eqImage.mono _ _ _ _ _ _ _ _ _ | exact laws_eqKernel.mono _ _ _ _ _ _ _ | exact laws_heldImage.mono _ _ _ _ _ _ | exact laws_markImage.mono _ _ _ _ _ _ | exact laws_markKernel.mono _ _ _ _ _ | exact laws_toImage.mono _ _ _ _ _ | exact laws_toKernel.mono _ _ _ _ | exact spec_ConvolveImage.mono _ _ _ _ _ _ _ _ | exact lR | exact lN | refine lI ?_ ?_ | refine lB ?_ fun _ => ?_) | exact ih0 _ _ _ _ _ _ _ _ _ _ _ _ _ _ _ _ | exact laws_eqImage.mono _ _ _ _ _ _ _ _ _ | exact laws_eqKernel.mono _ _ _ _ _ _ _ | exact laws_heldImage.mono _ _ _ _ _ _ | exact laws_markImage.mono _ _ _ _ _ _ | exact laws_markKernel.mono _ _ _ _ _ | exact laws_toImage.mono _ _ _ _ _ | exact laws_toKernel.mono _ _ _ _ | exact spec_ConvolveImage.mono _ _ _ _ _ _ _ _ | exact lN | refine lI ?_ ?_ | refine lB ?_ fun _ => ?_
theorem laws_FnExactConvolveImage.mono : ∀ a0 a1 a2 a3 a4 a5 a6 k, LeO (laws_FnExactConvolveImage.f k a0 a1 a2 a3 a4 a5 a6) (laws_FnExactConvolveImage.f (k + 1) a0 a1 a2 a3 a4 a5 a6) := by
 intro a0 a1 a2 a3 a4 a5 a6 k
 have ih0 := laws_FnExactConvolveImage.mono_l k
 unfold laws_FnExactConvolveImage.f
 repeat' first | (with_reducible first | exact ih0 _ _ _ _ _ _ _ _ _ _ _ _ _ _ _ _ | exact laws_eqImage.mono _ _ _ _ _ _ _ _ _ | exact laws_eqKernel.mono _ _ _ _ _ _ _ | exact laws_heldImage.mono _ _ _ _ _ _ | exact laws_markImage.mono _ _ _ _ _ _ | exact laws_markKernel.mono _ _ _ _ _ | exact laws_toImage.mono _ _ _ _ _ | exact laws_toKernel.mono _ _ _ _ | exact spec_ConvolveImage.mono _ _ _ _ _ _ _ _ | exact lR | exact lN | refine lI ?_ ?_ | refine lB ?_ fun _ => ?_) | exact ih0 _ _ _ _ _ _ _ _ _ _ _ _ _ _ _ _ | exact laws_eqImage.mono _ _ _ _ _ _ _ _ _ | exact laws_eqKernel.mono _ _ _ _ _ _ _ | exact laws_heldImage.mono _ _ _ _ _ _ | exact laws_markImage.mono _ _ _ _ _ _ | exact laws_markKernel.mono _ _ _ _ _ | exact laws_toImage.mono _ _ _ _ _ | exact laws_toKernel.mono _ _ _ _ | exact spec_ConvolveImage.mono _ _ _ _ _ _ _ _ | exact lN | refine lI ?_ ?_ | refine lB ?_ fun _ => ?_
set_option maxHeartbeats 8000000 in
set_option maxRecDepth 100000 in
theorem laws_FnExactConvolveImage.calls (k : Nat) (a0_0 : Int) (a0_1 : Int) (a0_2 : Int) (A0_3 : Option Addr) (c0_3 : Nat) (l0_3 : List Int) (a1_0 : Int) (A1_1 : Option Addr) (c1_1 : Nat) (l1_1 : List Int) (a1_2 : Int) (r : Bool) (w : World) (hr0_3 : Kd.C (Kd.int .i64) w A0_3 l0_3.length l0_3) (hc0_3 : l0_3.length ≤ c0_3) (hr1_1 : Kd.C (Kd.int .i64) w A1_1 l1_1.length l1_1) (hc1_1 : l1_1.length ≤ c1_1) (h : laws_FnExactConvolveImage.f k a0_0 a0_1 a0_2 l0_3 a1_0 l1_1 a1_2 = some r) (hrt : r = true) :
  Calls Try.prog 9 #[.agg #[.int .i64 a0_0, .int .i64 a0_1, .int .i64 a0_2, .slice A0_3 l0_3.length c0_3], .agg #[.int .i64 a1_0, .slice A1_1 l1_1.length c1_1, .int .i64 a1_2]] w fun e w' => e = .returned (.bool r) ∧ Below w.heap.size w w' := by
 have hu34 := Try.underlying34
 have hu46 := Try.underlying46
 have hu27 := Try.underlying27
 have hu49 := Try.underlying49
 have HR0_3 := aM hr0_3
 have HC0_3 := aM hc0_3
 clear hr0_3 hc0_3
 have HR1_1 := aM hr1_1
 have HC1_1 := aM hc1_1
 clear hr1_1 hc1_1
 have HB := aM (Below.refl w.heap.size w)
 unfold laws_FnExactConvolveImage.f at h
 have H := h
 clear h
 replace H := Option.bind_eq_some_iff.mp H
 obtain ⟨t566, A30, H⟩ := H
 replace H : (if t566 < 0 then (some true) else ((laws_szKernel.f a1_0 l1_1 a1_2 t566).bind fun t567 => (if t567 < 0 then (some true) else ((laws_toImage.f k a0_0 a0_1 a0_2 l0_3).bind fun bt568 => ((laws_toKernel.f k a1_0 l1_1 a1_2).bind fun bt574 => ((spec_ConvolveImage.f k bt568.1 bt568.2.1 bt568.2.2.1 bt568.2.2.2 bt574.1 bt574.2.1 bt574.2.2).bind fun bt579 => ((laws_toImage.f k a0_0 a0_1 a0_2 l0_3).bind fun bt586 => ((laws_toKernel.f k a1_0 l1_1 a1_2).bind fun bt593 => ((impl_ConvolveImage.f bt586.1 bt586.2.1 bt586.2.2.1 bt586.2.2.2 bt593.1 bt593.2.1 bt593.2.2).bind fun bt599 => ((laws_eqImage.f k bt599.1 bt599.2.1 bt599.2.2.1 bt599.2.2.2 bt579.1 bt579.2.1 bt579.2.2.1 bt579.2.2.2).bind fun t606 => (if t606 = true then ((laws_toImage.f k a0_0 a0_1 a0_2 l0_3).bind fun bt607 => ((laws_eqImage.f k bt586.1 bt586.2.1 bt586.2.2.1 bt586.2.2.2 bt607.1 bt607.2.1 bt607.2.2.1 bt607.2.2.2).bind fun t613 => (if t613 = true then ((laws_toKernel.f k a1_0 l1_1 a1_2).bind fun bt614 => ((laws_eqKernel.f k bt593.1 bt593.2.1 bt593.2.2 bt614.1 bt614.2.1 bt614.2.2).bind fun t619 => (if t619 = true then ((laws_markImage.f k bt586.1 bt586.2.1 bt586.2.2.1 bt586.2.2.2 1).bind fun bt620 => ((laws_markKernel.f k bt593.1 bt593.2.1 bt593.2.2 bt620.1).bind fun bt622 => (if bt622.1 < 0 then (laws_FnExactConvolveImage.j0 k true a0_0 a0_1 a0_2 l0_3 a1_0 l1_1 a1_2 bt579.1 bt579.2.1 bt579.2.2.1 bt579.2.2.2 bt599.1 bt599.2.1 bt599.2.2.1 bt599.2.2.2) else ((laws_eqImage.f k bt599.1 bt599.2.1 bt599.2.2.1 bt599.2.2.2 bt579.1 bt579.2.1 bt579.2.2.1 bt579.2.2.2).bind fun t624 => (laws_FnExactConvolveImage.j0 k (!t624) a0_0 a0_1 a0_2 l0_3 a1_0 l1_1 a1_2 bt579.1 bt579.2.1 bt579.2.2.1 bt579.2.2.2 bt599.1 bt599.2.1 bt599.2.2.1 bt599.2.2.2))))) else (some false)))) else (some false)))) else (some false)))))))))))) = some r := H
 have A3 := aM A30
 clear A30
 by_cases c4 : t566 < 0
 ·rw [if_pos c4] at H
  have c4b0 : decide (t566 < 0) = true := decide_eq_true c4
  clear c4
  obtain rfl := Option.some.inj H
  go_enter Try.func9, Try.ntmps9
  go_wp2_with (first | ((with_reducible refine gate_dst (N := 2) rfl ?_); refine bxE (N := 2) (cs := #[.int .i64 a0_0, .int .i64 a0_1, .int .i64 a0_2, .slice A0_3 l0_3.length c0_3]) (t := 34) ?_; intro gb564 hg w5 hbox hb; have BK564 := aM (hbox); have GW564 := gW hg HB; have GE564 := gW hg HB; replace HB := bS HB hb; clear hb hbox hg) | ((with_reducible refine gate_dst (N := 3) rfl ?_); refine bxE (N := 3) (cs := #[.int .i64 a1_0, .slice A1_1 l1_1.length c1_1, .int .i64 a1_2]) (t := 46) ?_; intro gb565 hg w6 hbox hb; have BK565 := aM (hbox); have GW565 := gW hg HB; have GE565 := gW hg HB; replace HB := bS HB hb; have NB564_565 := nL hg BK564; have NB565_564 := nG hg BK564; replace BK564 := bB BK564 hb; clear hb hbox hg; have hnb7 := NB564_565.out; have hnc7 := NB565_564.out; obtain ⟨⟨hcz8_0, hcz8_1, hcz8_2, hcz8_3⟩, hfz8_0, hfz8_1, hfz8_2, hfz8_3⟩ := cf4 BK564) | ((with_reducible refine gate_callee (f := 18) rfl ?_); refine gL (some 16) Try.func18 #[.agg #[.int .i64 a0_0, .int .i64 a0_1, .int .i64 a0_2, .slice A0_3 l0_3.length c0_3], .int .i64 1048576] ?_; (with_reducible refine (laws_szImage.calls a0_0 a0_1 a0_2 _ _ l0_3 1048576 t566 _ ?side1 ?side2 A3.out).mono ?_); (case side1 => exact qC (Kd.C_below HR0_3.out HB.out)); (case side2 => exact HC0_3.out); rintro e w9 ⟨rfl, hb⟩; refine ⟨_, rfl, ?_⟩; replace BK564 := bB BK564 hb; replace BK565 := bB BK565 hb; replace HB := bS HB hb; clear hb))
  go_ret
  exact ⟨qX, by exact qW HB.out⟩
 rw [if_neg c4] at H
 have c4b0 : decide (t566 < 0) = false := decide_eq_false c4
 clear c4
 replace H := Option.bind_eq_some_iff.mp H
 obtain ⟨t567, A100, H⟩ := H
 replace H : (if t567 < 0 then (some true) else ((laws_toImage.f k a0_0 a0_1 a0_2 l0_3).bind fun bt568 => ((laws_toKernel.f k a1_0 l1_1 a1_2).bind fun bt574 => ((spec_ConvolveImage.f k bt568.1 bt568.2.1 bt568.2.2.1 bt568.2.2.2 bt574.1 bt574.2.1 bt574.2.2).bind fun bt579 => ((laws_toImage.f k a0_0 a0_1 a0_2 l0_3).bind fun bt586 => ((laws_toKernel.f k a1_0 l1_1 a1_2).bind fun bt593 => ((impl_ConvolveImage.f bt586.1 bt586.2.1 bt586.2.2.1 bt586.2.2.2 bt593.1 bt593.2.1 bt593.2.2).bind fun bt599 => ((laws_eqImage.f k bt599.1 bt599.2.1 bt599.2.2.1 bt599.2.2.2 bt579.1 bt579.2.1 bt579.2.2.1 bt579.2.2.2).bind fun t606 => (if t606 = true then ((laws_toImage.f k a0_0 a0_1 a0_2 l0_3).bind fun bt607 => ((laws_eqImage.f k bt586.1 bt586.2.1 bt586.2.2.1 bt586.2.2.2 bt607.1 bt607.2.1 bt607.2.2.1 bt607.2.2.2).bind fun t613 => (if t613 = true then ((laws_toKernel.f k a1_0 l1_1 a1_2).bind fun bt614 => ((laws_eqKernel.f k bt593.1 bt593.2.1 bt593.2.2 bt614.1 bt614.2.1 bt614.2.2).bind fun t619 => (if t619 = true then ((laws_markImage.f k bt586.1 bt586.2.1 bt586.2.2.1 bt586.2.2.2 1).bind fun bt620 => ((laws_markKernel.f k bt593.1 bt593.2.1 bt593.2.2 bt620.1).bind fun bt622 => (if bt622.1 < 0 then (laws_FnExactConvolveImage.j0 k true a0_0 a0_1 a0_2 l0_3 a1_0 l1_1 a1_2 bt579.1 bt579.2.1 bt579.2.2.1 bt579.2.2.2 bt599.1 bt599.2.1 bt599.2.2.1 bt599.2.2.2) else ((laws_eqImage.f k bt599.1 bt599.2.1 bt599.2.2.1 bt599.2.2.2 bt579.1 bt579.2.1 bt579.2.2.1 bt579.2.2.2).bind fun t624 => (laws_FnExactConvolveImage.j0 k (!t624) a0_0 a0_1 a0_2 l0_3 a1_0 l1_1 a1_2 bt579.1 bt579.2.1 bt579.2.2.1 bt579.2.2.2 bt599.1 bt599.2.1 bt599.2.2.1 bt599.2.2.2))))) else (some false)))) else (some false)))) else (some false)))))))))) = some r := H
 have A10 := aM A100
 clear A100
 by_cases c11 : t567 < 0
 ·rw [if_pos c11] at H
  have c11b0 : decide (t567 < 0) = true := decide_eq_true c11
  clear c11
  obtain rfl := Option.some.inj H
  go_enter Try.func9, Try.ntmps9
  go_wp2_with (first | ((with_reducible refine gate_dst (N := 2) rfl ?_); refine bxE (N := 2) (cs := #[.int .i64 a0_0, .int .i64 a0_1, .int .i64 a0_2, .slice A0_3 l0_3.length c0_3]) (t := 34) ?_; intro gb564 hg w12 hbox hb; have BK564 := aM (hbox); have GW564 := gW hg HB; have GE564 := gW hg HB; replace HB := bS HB hb; clear hb hbox hg) | ((with_reducible refine gate_dst (N := 3) rfl ?_); refine bxE (N := 3) (cs := #[.int .i64 a1_0, .slice A1_1 l1_1.length c1_1, .int .i64 a1_2]) (t := 46) ?_; intro gb565 hg w13 hbox hb; have BK565 := aM (hbox); have GW565 := gW hg HB; have GE565 := gW hg HB; replace HB := bS HB hb; have NB564_565 := nL hg BK564; have NB565_564 := nG hg BK564; replace BK564 := bB BK564 hb; clear hb hbox hg; have hnb14 := NB564_565.out; have hnc14 := NB565_564.out; obtain ⟨⟨hcz15_0, hcz15_1, hcz15_2, hcz15_3⟩, hfz15_0, hfz15_1, hfz15_2, hfz15_3⟩ := cf4 BK564) | ((with_reducible refine gate_callee (f := 18) rfl ?_); refine gL (some 16) Try.func18 #[.agg #[.int .i64 a0_0, .int .i64 a0_1, .int .i64 a0_2, .slice A0_3 l0_3.length c0_3], .int .i64 1048576] ?_; (with_reducible refine (laws_szImage.calls a0_0 a0_1 a0_2 _ _ l0_3 1048576 t566 _ ?side1 ?side2 A3.out).mono ?_); (case side1 => exact qC (Kd.C_below HR0_3.out HB.out)); (case side2 => exact HC0_3.out); rintro e w16 ⟨rfl, hb⟩; refine ⟨_, rfl, ?_⟩; replace BK564 := bB BK564 hb; replace BK565 := bB BK565 hb; replace HB := bS HB hb; clear hb; obtain ⟨⟨hcz17_0, hcz17_1, hcz17_2⟩, hfz17_0, hfz17_1, hfz17_2⟩ := cf3 BK565) | ((with_reducible refine gate_callee (f := 32) rfl ?_); refine gL (some 21) Try.func32 #[.agg #[.int .i64 a1_0, .slice A1_1 l1_1.length c1_1, .int .i64 a1_2], .int .i64 t566] ?_; (with_reducible refine (laws_szKernel.calls a1_0 _ _ l1_1 a1_2 t566 t567 _ ?side1 ?side2 A10.out).mono ?_); (case side1 => exact qC (Kd.C_below HR1_1.out HB.out)); (case side2 => exact HC1_1.out); rintro e w18 ⟨rfl, hb⟩; refine ⟨_, rfl, ?_⟩; replace BK564 := bB BK564 hb; replace BK565 := bB BK565 hb; replace HB := bS HB hb; clear hb))
  go_ret
  exact ⟨qX, by exact qW HB.out⟩
 rw [if_neg c11] at H
 have c11b0 : decide (t567 < 0) = false := decide_eq_false c11
 clear c11
 replace H := Option.bind_eq_some_iff.mp H
 obtain ⟨⟨t568, t569, t570, t571⟩, A190, H⟩ := H
 replace H : ((laws_toKernel.f k a1_0 l1_1 a1_2).bind fun bt574 => ((spec_ConvolveImage.f k t568 t569 t570 t571 bt574.1 bt574.2.1 bt574.2.2).bind fun bt579 => ((laws_toImage.f k a0_0 a0_1 a0_2 l0_3).bind fun bt586 => ((laws_toKernel.f k a1_0 l1_1 a1_2).bind fun bt593 => ((impl_ConvolveImage.f bt586.1 bt586.2.1 bt586.2.2.1 bt586.2.2.2 bt593.1 bt593.2.1 bt593.2.2).bind fun bt599 => ((laws_eqImage.f k bt599.1 bt599.2.1 bt599.2.2.1 bt599.2.2.2 bt579.1 bt579.2.1 bt579.2.2.1 bt579.2.2.2).bind fun t606 => (if t606 = true then ((laws_toImage.f k a0_0 a0_1 a0_2 l0_3).bind fun bt607 => ((laws_eqImage.f k bt586.1 bt586.2.1 bt586.2.2.1 bt586.2.2.2 bt607.1 bt607.2.1 bt607.2.2.1 bt607.2.2.2).bind fun t613 => (if t613 = true then ((laws_toKernel.f k a1_0 l1_1 a1_2).bind fun bt614 => ((laws_eqKernel.f k bt593.1 bt593.2.1 bt593.2.2 bt614.1 bt614.2.1 bt614.2.2).bind fun t619 => (if t619 = true then ((laws_markImage.f k bt586.1 bt586.2.1 bt586.2.2.1 bt586.2.2.2 1).bind fun bt620 => ((laws_markKernel.f k bt593.1 bt593.2.1 bt593.2.2 bt620.1).bind fun bt622 => (if bt622.1 < 0 then (laws_FnExactConvolveImage.j0 k true a0_0 a0_1 a0_2 l0_3 a1_0 l1_1 a1_2 bt579.1 bt579.2.1 bt579.2.2.1 bt579.2.2.2 bt599.1 bt599.2.1 bt599.2.2.1 bt599.2.2.2) else ((laws_eqImage.f k bt599.1 bt599.2.1 bt599.2.2.1 bt599.2.2.2 bt579.1 bt579.2.1 bt579.2.2.1 bt579.2.2.2).bind fun t624 => (laws_FnExactConvolveImage.j0 k (!t624) a0_0 a0_1 a0_2 l0_3 a1_0 l1_1 a1_2 bt579.1 bt579.2.1 bt579.2.2.1 bt579.2.2.2 bt599.1 bt599.2.1 bt599.2.2.1 bt599.2.2.2))))) else (some false)))) else (some false)))) else (some false)))))))) = some r := H
 have A19 := aM A190
 clear A190
 replace H := Option.bind_eq_some_iff.mp H
 obtain ⟨⟨t574, t575, t578⟩, A200, H⟩ := H
 replace H : ((spec_ConvolveImage.f k t568 t569 t570 t571 t574 t575 t578).bind fun bt579 => ((laws_toImage.f k a0_0 a0_1 a0_2 l0_3).bind fun bt586 => ((laws_toKernel.f k a1_0 l1_1 a1_2).bind fun bt593 => ((impl_ConvolveImage.f bt586.1 bt586.2.1 bt586.2.2.1 bt586.2.2.2 bt593.1 bt593.2.1 bt593.2.2).bind fun bt599 => ((laws_eqImage.f k bt599.1 bt599.2.1 bt599.2.2.1 bt599.2.2.2 bt579.1 bt579.2.1 bt579.2.2.1 bt579.2.2.2).bind fun t606 => (if t606 = true then ((laws_toImage.f k a0_0 a0_1 a0_2 l0_3).bind fun bt607 => ((laws_eqImage.f k bt586.1 bt586.2.1 bt586.2.2.1 bt586.2.2.2 bt607.1 bt607.2.1 bt607.2.2.1 bt607.2.2.2).bind fun t613 => (if t613 = true then ((laws_toKernel.f k a1_0 l1_1 a1_2).bind fun bt614 => ((laws_eqKernel.f k bt593.1 bt593.2.1 bt593.2.2 bt614.1 bt614.2.1 bt614.2.2).bind fun t619 => (if t619 = true then ((laws_markImage.f k bt586.1 bt586.2.1 bt586.2.2.1 bt586.2.2.2 1).bind fun bt620 => ((laws_markKernel.f k bt593.1 bt593.2.1 bt593.2.2 bt620.1).bind fun bt622 => (if bt622.1 < 0 then (laws_FnExactConvolveImage.j0 k true a0_0 a0_1 a0_2 l0_3 a1_0 l1_1 a1_2 bt579.1 bt579.2.1 bt579.2.2.1 bt579.2.2.2 bt599.1 bt599.2.1 bt599.2.2.1 bt599.2.2.2) else ((laws_eqImage.f k bt599.1 bt599.2.1 bt599.2.2.1 bt599.2.2.2 bt579.1 bt579.2.1 bt579.2.2.1 bt579.2.2.2).bind fun t624 => (laws_FnExactConvolveImage.j0 k (!t624) a0_0 a0_1 a0_2 l0_3 a1_0 l1_1 a1_2 bt579.1 bt579.2.1 bt579.2.2.1 bt579.2.2.2 bt599.1 bt599.2.1 bt599.2.2.1 bt599.2.2.2))))) else (some false)))) else (some false)))) else (some false))))))) = some r := H
 have A20 := aM A200
 clear A200
 replace H := Option.bind_eq_some_iff.mp H
 obtain ⟨⟨t579, t580, t581, t582⟩, A210, H⟩ := H
 replace H : ((laws_toImage.f k a0_0 a0_1 a0_2 l0_3).bind fun bt586 => ((laws_toKernel.f k a1_0 l1_1 a1_2).bind fun bt593 => ((impl_ConvolveImage.f bt586.1 bt586.2.1 bt586.2.2.1 bt586.2.2.2 bt593.1 bt593.2.1 bt593.2.2).bind fun bt599 => ((laws_eqImage.f k bt599.1 bt599.2.1 bt599.2.2.1 bt599.2.2.2 t579 t580 t581 t582).bind fun t606 => (if t606 = true then ((laws_toImage.f k a0_0 a0_1 a0_2 l0_3).bind fun bt607 => ((laws_eqImage.f k bt586.1 bt586.2.1 bt586.2.2.1 bt586.2.2.2 bt607.1 bt607.2.1 bt607.2.2.1 bt607.2.2.2).bind fun t613 => (if t613 = true then ((laws_toKernel.f k a1_0 l1_1 a1_2).bind fun bt614 => ((laws_eqKernel.f k bt593.1 bt593.2.1 bt593.2.2 bt614.1 bt614.2.1 bt614.2.2).bind fun t619 => (if t619 = true then ((laws_markImage.f k bt586.1 bt586.2.1 bt586.2.2.1 bt586.2.2.2 1).bind fun bt620 => ((laws_markKernel.f k bt593.1 bt593.2.1 bt593.2.2 bt620.1).bind fun bt622 => (if bt622.1 < 0 then (laws_FnExactConvolveImage.j0 k true a0_0 a0_1 a0_2 l0_3 a1_0 l1_1 a1_2 t579 t580 t581 t582 bt599.1 bt599.2.1 bt599.2.2.1 bt599.2.2.2) else ((laws_eqImage.f k bt599.1 bt599.2.1 bt599.2.2.1 bt599.2.2.2 t579 t580 t581 t582).bind fun t624 => (laws_FnExactConvolveImage.j0 k (!t624) a0_0 a0_1 a0_2 l0_3 a1_0 l1_1 a1_2 t579 t580 t581 t582 bt599.1 bt599.2.1 bt599.2.2.1 bt599.2.2.2))))) else (some false)))) else (some false)))) else (some false)))))) = some r := H
 have A21 := aM A210
 clear A210
 replace H := Option.bind_eq_some_iff.mp H
 obtain ⟨⟨t586, t587, t588, t589⟩, A220, H⟩ := H
 replace H : ((laws_toKernel.f k a1_0 l1_1 a1_2).bind fun bt593 => ((impl_ConvolveImage.f t586 t587 t588 t589 bt593.1 bt593.2.1 bt593.2.2).bind fun bt599 => ((laws_eqImage.f k bt599.1 bt599.2.1 bt599.2.2.1 bt599.2.2.2 t579 t580 t581 t582).bind fun t606 => (if t606 = true then ((laws_toImage.f k a0_0 a0_1 a0_2 l0_3).bind fun bt607 => ((laws_eqImage.f k t586 t587 t588 t589 bt607.1 bt607.2.1 bt607.2.2.1 bt607.2.2.2).bind fun t613 => (if t613 = true then ((laws_toKernel.f k a1_0 l1_1 a1_2).bind fun bt614 => ((laws_eqKernel.f k bt593.1 bt593.2.1 bt593.2.2 bt614.1 bt614.2.1 bt614.2.2).bind fun t619 => (if t619 = true then ((laws_markImage.f k t586 t587 t588 t589 1).bind fun bt620 => ((laws_markKernel.f k bt593.1 bt593.2.1 bt593.2.2 bt620.1).bind fun bt622 => (if bt622.1 < 0 then (laws_FnExactConvolveImage.j0 k true a0_0 a0_1 a0_2 l0_3 a1_0 l1_1 a1_2 t579 t580 t581 t582 bt599.1 bt599.2.1 bt599.2.2.1 bt599.2.2.2) else ((laws_eqImage.f k bt599.1 bt599.2.1 bt599.2.2.1 bt599.2.2.2 t579 t580 t581 t582).bind fun t624 => (laws_FnExactConvolveImage.j0 k (!t624) a0_0 a0_1 a0_2 l0_3 a1_0 l1_1 a1_2 t579 t580 t581 t582 bt599.1 bt599.2.1 bt599.2.2.1 bt599.2.2.2))))) else (some false)))) else (some false)))) else (some false))))) = some r := H
 have A22 := aM A220
 clear A220
 replace H := Option.bind_eq_some_iff.mp H
 obtain ⟨⟨t593, t594, t597⟩, A230, H⟩ := H
 replace H : ((impl_ConvolveImage.f t586 t587 t588 t589 t593 t594 t597).bind fun bt599 => ((laws_eqImage.f k bt599.1 bt599.2.1 bt599.2.2.1 bt599.2.2.2 t579 t580 t581 t582).bind fun t606 => (if t606 = true then ((laws_toImage.f k a0_0 a0_1 a0_2 l0_3).bind fun bt607 => ((laws_eqImage.f k t586 t587 t588 t589 bt607.1 bt607.2.1 bt607.2.2.1 bt607.2.2.2).bind fun t613 => (if t613 = true then ((laws_toKernel.f k a1_0 l1_1 a1_2).bind fun bt614 => ((laws_eqKernel.f k t593 t594 t597 bt614.1 bt614.2.1 bt614.2.2).bind fun t619 => (if t619 = true then ((laws_markImage.f k t586 t587 t588 t589 1).bind fun bt620 => ((laws_markKernel.f k t593 t594 t597 bt620.1).bind fun bt622 => (if bt622.1 < 0 then (laws_FnExactConvolveImage.j0 k true a0_0 a0_1 a0_2 l0_3 a1_0 l1_1 a1_2 t579 t580 t581 t582 bt599.1 bt599.2.1 bt599.2.2.1 bt599.2.2.2) else ((laws_eqImage.f k bt599.1 bt599.2.1 bt599.2.2.1 bt599.2.2.2 t579 t580 t581 t582).bind fun t624 => (laws_FnExactConvolveImage.j0 k (!t624) a0_0 a0_1 a0_2 l0_3 a1_0 l1_1 a1_2 t579 t580 t581 t582 bt599.1 bt599.2.1 bt599.2.2.1 bt599.2.2.2))))) else (some false)))) else (some false)))) else (some false)))) = some r := H
 have A23 := aM A230
 clear A230
 replace H := Option.bind_eq_some_iff.mp H
 obtain ⟨⟨t599, t600, t601, t602⟩, A240, H⟩ := H
 replace H : ((laws_eqImage.f k t599 t600 t601 t602 t579 t580 t581 t582).bind fun t606 => (if t606 = true then ((laws_toImage.f k a0_0 a0_1 a0_2 l0_3).bind fun bt607 => ((laws_eqImage.f k t586 t587 t588 t589 bt607.1 bt607.2.1 bt607.2.2.1 bt607.2.2.2).bind fun t613 => (if t613 = true then ((laws_toKernel.f k a1_0 l1_1 a1_2).bind fun bt614 => ((laws_eqKernel.f k t593 t594 t597 bt614.1 bt614.2.1 bt614.2.2).bind fun t619 => (if t619 = true then ((laws_markImage.f k t586 t587 t588 t589 1).bind fun bt620 => ((laws_markKernel.f k t593 t594 t597 bt620.1).bind fun bt622 => (if bt622.1 < 0 then (laws_FnExactConvolveImage.j0 k true a0_0 a0_1 a0_2 l0_3 a1_0 l1_1 a1_2 t579 t580 t581 t582 t599 t600 t601 t602) else ((laws_eqImage.f k t599 t600 t601 t602 t579 t580 t581 t582).bind fun t624 => (laws_FnExactConvolveImage.j0 k (!t624) a0_0 a0_1 a0_2 l0_3 a1_0 l1_1 a1_2 t579 t580 t581 t582 t599 t600 t601 t602))))) else (some false)))) else (some false)))) else (some false))) = some r := H
 have A24 := aM A240
 clear A240
 replace H := Option.bind_eq_some_iff.mp H
 obtain ⟨t606, A250, H⟩ := H
 replace H : (if t606 = true then ((laws_toImage.f k a0_0 a0_1 a0_2 l0_3).bind fun bt607 => ((laws_eqImage.f k t586 t587 t588 t589 bt607.1 bt607.2.1 bt607.2.2.1 bt607.2.2.2).bind fun t613 => (if t613 = true then ((laws_toKernel.f k a1_0 l1_1 a1_2).bind fun bt614 => ((laws_eqKernel.f k t593 t594 t597 bt614.1 bt614.2.1 bt614.2.2).bind fun t619 => (if t619 = true then ((laws_markImage.f k t586 t587 t588 t589 1).bind fun bt620 => ((laws_markKernel.f k t593 t594 t597 bt620.1).bind fun bt622 => (if bt622.1 < 0 then (laws_FnExactConvolveImage.j0 k true a0_0 a0_1 a0_2 l0_3 a1_0 l1_1 a1_2 t579 t580 t581 t582 t599 t600 t601 t602) else ((laws_eqImage.f k t599 t600 t601 t602 t579 t580 t581 t582).bind fun t624 => (laws_FnExactConvolveImage.j0 k (!t624) a0_0 a0_1 a0_2 l0_3 a1_0 l1_1 a1_2 t579 t580 t581 t582 t599 t600 t601 t602))))) else (some false)))) else (some false)))) else (some false)) = some r := H
 have A25 := aM A250
 clear A250
 by_cases c26 : t606 = true
 rotate_left
 ·replace c26 := Bool.eq_false_iff.mpr c26
  subst c26
  have H1 : (some false) = some r := by rw [if_neg (show ¬ (false = true) by decide)] at H; exact H
  clear H
  have H := H1
  clear H1
  obtain rfl := Option.some.inj H
  exact absurd hrt (by decide)
 subst c26
 have H1 : ((laws_toImage.f k a0_0 a0_1 a0_2 l0_3).bind fun bt607 => ((laws_eqImage.f k t586 t587 t588 t589 bt607.1 bt607.2.1 bt607.2.2.1 bt607.2.2.2).bind fun t613 => (if t613 = true then ((laws_toKernel.f k a1_0 l1_1 a1_2).bind fun bt614 => ((laws_eqKernel.f k t593 t594 t597 bt614.1 bt614.2.1 bt614.2.2).bind fun t619 => (if t619 = true then ((laws_markImage.f k t586 t587 t588 t589 1).bind fun bt620 => ((laws_markKernel.f k t593 t594 t597 bt620.1).bind fun bt622 => (if bt622.1 < 0 then (laws_FnExactConvolveImage.j0 k true a0_0 a0_1 a0_2 l0_3 a1_0 l1_1 a1_2 t579 t580 t581 t582 t599 t600 t601 t602) else ((laws_eqImage.f k t599 t600 t601 t602 t579 t580 t581 t582).bind fun t624 => (laws_FnExactConvolveImage.j0 k (!t624) a0_0 a0_1 a0_2 l0_3 a1_0 l1_1 a1_2 t579 t580 t581 t582 t599 t600 t601 t602))))) else (some false)))) else (some false)))) = some r := by rw [if_pos rfl] at H; exact H
 clear H
 have H := H1
 clear H1
 replace H := Option.bind_eq_some_iff.mp H
 obtain ⟨⟨t607, t608, t609, t610⟩, A270, H⟩ := H
 replace H : ((laws_eqImage.f k t586 t587 t588 t589 t607 t608 t609 t610).bind fun t613 => (if t613 = true then ((laws_toKernel.f k a1_0 l1_1 a1_2).bind fun bt614 => ((laws_eqKernel.f k t593 t594 t597 bt614.1 bt614.2.1 bt614.2.2).bind fun t619 => (if t619 = true then ((laws_markImage.f k t586 t587 t588 t589 1).bind fun bt620 => ((laws_markKernel.f k t593 t594 t597 bt620.1).bind fun bt622 => (if bt622.1 < 0 then (laws_FnExactConvolveImage.j0 k true a0_0 a0_1 a0_2 l0_3 a1_0 l1_1 a1_2 t579 t580 t581 t582 t599 t600 t601 t602) else ((laws_eqImage.f k t599 t600 t601 t602 t579 t580 t581 t582).bind fun t624 => (laws_FnExactConvolveImage.j0 k (!t624) a0_0 a0_1 a0_2 l0_3 a1_0 l1_1 a1_2 t579 t580 t581 t582 t599 t600 t601 t602))))) else (some false)))) else (some false))) = some r := H
 have A27 := aM A270
 clear A270
 replace H := Option.bind_eq_some_iff.mp H
 obtain ⟨t613, A280, H⟩ := H
 replace H : (if t613 = true then ((laws_toKernel.f k a1_0 l1_1 a1_2).bind fun bt614 => ((laws_eqKernel.f k t593 t594 t597 bt614.1 bt614.2.1 bt614.2.2).bind fun t619 => (if t619 = true then ((laws_markImage.f k t586 t587 t588 t589 1).bind fun bt620 => ((laws_markKernel.f k t593 t594 t597 bt620.1).bind fun bt622 => (if bt622.1 < 0 then (laws_FnExactConvolveImage.j0 k true a0_0 a0_1 a0_2 l0_3 a1_0 l1_1 a1_2 t579 t580 t581 t582 t599 t600 t601 t602) else ((laws_eqImage.f k t599 t600 t601 t602 t579 t580 t581 t582).bind fun t624 => (laws_FnExactConvolveImage.j0 k (!t624) a0_0 a0_1 a0_2 l0_3 a1_0 l1_1 a1_2 t579 t580 t581 t582 t599 t600 t601 t602))))) else (some false)))) else (some false)) = some r := H
 have A28 := aM A280
 clear A280
 by_cases c29 : t613 = true
 rotate_left
 ·replace c29 := Bool.eq_false_iff.mpr c29
  subst c29
  have H1 : (some false) = some r := by rw [if_neg (show ¬ (false = true) by decide)] at H; exact H
  clear H
  have H := H1
  clear H1
  obtain rfl := Option.some.inj H
  exact absurd hrt (by decide)
 subst c29
 have H1 : ((laws_toKernel.f k a1_0 l1_1 a1_2).bind fun bt614 => ((laws_eqKernel.f k t593 t594 t597 bt614.1 bt614.2.1 bt614.2.2).bind fun t619 => (if t619 = true then ((laws_markImage.f k t586 t587 t588 t589 1).bind fun bt620 => ((laws_markKernel.f k t593 t594 t597 bt620.1).bind fun bt622 => (if bt622.1 < 0 then (laws_FnExactConvolveImage.j0 k true a0_0 a0_1 a0_2 l0_3 a1_0 l1_1 a1_2 t579 t580 t581 t582 t599 t600 t601 t602) else ((laws_eqImage.f k t599 t600 t601 t602 t579 t580 t581 t582).bind fun t624 => (laws_FnExactConvolveImage.j0 k (!t624) a0_0 a0_1 a0_2 l0_3 a1_0 l1_1 a1_2 t579 t580 t581 t582 t599 t600 t601 t602))))) else (some false)))) = some r := by rw [if_pos rfl] at H; exact H
 clear H
 have H := H1
 clear H1
 replace H := Option.bind_eq_some_iff.mp H
 obtain ⟨⟨t614, t615, t618⟩, A300, H⟩ := H
 replace H : ((laws_eqKernel.f k t593 t594 t597 t614 t615 t618).bind fun t619 => (if t619 = true then ((laws_markImage.f k t586 t587 t588 t589 1).bind fun bt620 => ((laws_markKernel.f k t593 t594 t597 bt620.1).bind fun bt622 => (if bt622.1 < 0 then (laws_FnExactConvolveImage.j0 k true a0_0 a0_1 a0_2 l0_3 a1_0 l1_1 a1_2 t579 t580 t581 t582 t599 t600 t601 t602) else ((laws_eqImage.f k t599 t600 t601 t602 t579 t580 t581 t582).bind fun t624 => (laws_FnExactConvolveImage.j0 k (!t624) a0_0 a0_1 a0_2 l0_3 a1_0 l1_1 a1_2 t579 t580 t581 t582 t599 t600 t601 t602))))) else (some false))) = some r := H
 have A30 := aM A300
 clear A300
 replace H := Option.bind_eq_some_iff.mp H
 obtain ⟨t619, A310, H⟩ := H
 replace H : (if t619 = true then ((laws_markImage.f k t586 t587 t588 t589 1).bind fun bt620 => ((laws_markKernel.f k t593 t594 t597 bt620.1).bind fun bt622 => (if bt622.1 < 0 then (laws_FnExactConvolveImage.j0 k true a0_0 a0_1 a0_2 l0_3 a1_0 l1_1 a1_2 t579 t580 t581 t582 t599 t600 t601 t602) else ((laws_eqImage.f k t599 t600 t601 t602 t579 t580 t581 t582).bind fun t624 => (laws_FnExactConvolveImage.j0 k (!t624) a0_0 a0_1 a0_2 l0_3 a1_0 l1_1 a1_2 t579 t580 t581 t582 t599 t600 t601 t602))))) else (some false)) = some r := H
 have A31 := aM A310
 clear A310
 by_cases c32 : t619 = true
 rotate_left
 ·replace c32 := Bool.eq_false_iff.mpr c32
  subst c32
  have H1 : (some false) = some r := by rw [if_neg (show ¬ (false = true) by decide)] at H; exact H
  clear H
  have H := H1
  clear H1
  obtain rfl := Option.some.inj H
  exact absurd hrt (by decide)
 subst c32
 have H1 : ((laws_markImage.f k t586 t587 t588 t589 1).bind fun bt620 => ((laws_markKernel.f k t593 t594 t597 bt620.1).bind fun bt622 => (if bt622.1 < 0 then (laws_FnExactConvolveImage.j0 k true a0_0 a0_1 a0_2 l0_3 a1_0 l1_1 a1_2 t579 t580 t581 t582 t599 t600 t601 t602) else ((laws_eqImage.f k t599 t600 t601 t602 t579 t580 t581 t582).bind fun t624 => (laws_FnExactConvolveImage.j0 k (!t624) a0_0 a0_1 a0_2 l0_3 a1_0 l1_1 a1_2 t579 t580 t581 t582 t599 t600 t601 t602))))) = some r := by rw [if_pos rfl] at H; exact H
 clear H
 have H := H1
 clear H1
 replace H := Option.bind_eq_some_iff.mp H
 obtain ⟨⟨t620, t621⟩, A330, H⟩ := H
 replace H : ((laws_markKernel.f k t593 t594 t597 t620).bind fun bt622 => (if bt622.1 < 0 then (laws_FnExactConvolveImage.j0 k true a0_0 a0_1 a0_2 l0_3 a1_0 l1_1 a1_2 t579 t580 t581 t582 t599 t600 t601 t602) else ((laws_eqImage.f k t599 t600 t601 t602 t579 t580 t581 t582).bind fun t624 => (laws_FnExactConvolveImage.j0 k (!t624) a0_0 a0_1 a0_2 l0_3 a1_0 l1_1 a1_2 t579 t580 t581 t582 t599 t600 t601 t602)))) = some r := H
 have A33 := aM A330
 clear A330
 replace H := Option.bind_eq_some_iff.mp H
 obtain ⟨⟨t622, t623⟩, A340, H⟩ := H
 replace H : (if t622 < 0 then (laws_FnExactConvolveImage.j0 k true a0_0 a0_1 a0_2 l0_3 a1_0 l1_1 a1_2 t579 t580 t581 t582 t599 t600 t601 t602) else ((laws_eqImage.f k t599 t600 t601 t602 t579 t580 t581 t582).bind fun t624 => (laws_FnExactConvolveImage.j0 k (!t624) a0_0 a0_1 a0_2 l0_3 a1_0 l1_1 a1_2 t579 t580 t581 t582 t599 t600 t601 t602))) = some r := H
 have A34 := aM A340
 clear A340
 have HC35 := aM H
 clear H
 go_enter Try.func9, Try.ntmps9
 try go_wp2_with (first | ((with_reducible refine gate_dst (N := 2) rfl ?_); refine bxE (N := 2) (cs := #[.int .i64 a0_0, .int .i64 a0_1, .int .i64 a0_2, .slice A0_3 l0_3.length c0_3]) (t := 34) ?_; intro gb564 hg w36 hbox hb; have BK564 := aM (hbox); have GW564 := gW hg HB; have GE564 := gW hg HB; replace HB := bS HB hb; clear hb hbox hg) | ((with_reducible refine gate_dst (N := 3) rfl ?_); refine bxE (N := 3) (cs := #[.int .i64 a1_0, .slice A1_1 l1_1.length c1_1, .int .i64 a1_2]) (t := 46) ?_; intro gb565 hg w37 hbox hb; have BK565 := aM (hbox); have GW565 := gW hg HB; have GE565 := gW hg HB; replace HB := bS HB hb; have NB564_565 := nL hg BK564; have NB565_564 := nG hg BK564; replace BK564 := bB BK564 hb; clear hb hbox hg; have hnb38 := NB564_565.out; have hnc38 := NB565_564.out; obtain ⟨⟨hcz39_0, hcz39_1, hcz39_2, hcz39_3⟩, hfz39_0, hfz39_1, hfz39_2, hfz39_3⟩ := cf4 BK564) | ((with_reducible refine gate_callee (f := 18) rfl ?_); refine gL (some 16) Try.func18 #[.agg #[.int .i64 a0_0, .int .i64 a0_1, .int .i64 a0_2, .slice A0_3 l0_3.length c0_3], .int .i64 1048576] ?_; (with_reducible refine (laws_szImage.calls a0_0 a0_1 a0_2 _ _ l0_3 1048576 t566 _ ?side1 ?side2 A3.out).mono ?_); (case side1 => exact qC (Kd.C_below HR0_3.out HB.out)); (case side2 => exact HC0_3.out); rintro e w40 ⟨rfl, hb⟩; refine ⟨_, rfl, ?_⟩; replace BK564 := bB BK564 hb; replace BK565 := bB BK565 hb; replace HB := bS HB hb; clear hb; obtain ⟨⟨hcz41_0, hcz41_1, hcz41_2⟩, hfz41_0, hfz41_1, hfz41_2⟩ := cf3 BK565) | ((with_reducible refine gate_callee (f := 32) rfl ?_); refine gL (some 21) Try.func32 #[.agg #[.int .i64 a1_0, .slice A1_1 l1_1.length c1_1, .int .i64 a1_2], .int .i64 t566] ?_; (with_reducible refine (laws_szKernel.calls a1_0 _ _ l1_1 a1_2 t566 t567 _ ?side1 ?side2 A10.out).mono ?_); (case side1 => exact qC (Kd.C_below HR1_1.out HB.out)); (case side2 => exact HC1_1.out); rintro e w42 ⟨rfl, hb⟩; refine ⟨_, rfl, ?_⟩; replace BK564 := bB BK564 hb; replace BK565 := bB BK565 hb; replace HB := bS HB hb; clear hb))
 replace BK564 := aM (blk_drew BK564.out)
 replace BK565 := aM (blk_drew BK565.out)
 replace HB := aM (below_drew1 HB.out)
 refine start_ (n := 7) (S := fun w' => w'.cell? ⟨gb564, 0, none⟩ = some (.int .i64 a0_0) ∧ w'.cell? ⟨gb564, 1, none⟩ = some (.int .i64 a0_1) ∧ w'.cell? ⟨gb564, 2, none⟩ = some (.int .i64 a0_2) ∧ w'.cell? ⟨gb564, 3, none⟩ = some (.slice A0_3 l0_3.length c0_3) ∧ w'.cell? ⟨gb565, 0, none⟩ = some (.int .i64 a1_0) ∧ w'.cell? ⟨gb565, 1, none⟩ = some (.slice A1_1 l1_1.length c1_1) ∧ w'.cell? ⟨gb565, 2, none⟩ = some (.int .i64 a1_2)) (ds := []) (bA 7 0) (by kernel_rfl) rfl rfl ⟨(blk_cell BK564.out 0).trans rfl, (blk_cell BK564.out 1).trans rfl, (blk_cell BK564.out 2).trans rfl, (blk_cell BK564.out 3).trans rfl, (blk_cell BK565.out 0).trans rfl, (blk_cell BK565.out 1).trans rfl, (blk_cell BK565.out 2).trans rfl⟩ (fun hHeld => ?_)
 generalize w42.drew = w43 at BK564 BK565 HB hHeld ⊢
 refine take_ (i := 0) (N := some 24) (v := ?_) (a' := ?_) (bA 7 1) rfl rfl (by kernel_rfl) (fun _ _ _ h => h) (Or.inl ⟨by rfl, ?_⟩) hHeld ?_ ?_
 rotate_left
 ·rintro w' ⟨s0, s1, s2, s3, s4, s5, s6⟩
  go_simp
  with_reducible rfl
 rotate_left
 ·refine pZ ?_
  rfl
 refine take_ (i := 2) (N := some 26) (v := ?_) (a' := ?_) (bA 7 5) rfl rfl (by kernel_rfl) (fun _ _ _ h => h) (Or.inl ⟨by rfl, ?_⟩) hHeld ?_ ?_
 rotate_left
 ·rintro w' ⟨s0, s1, s2, s3, s4, s5, s6⟩
  go_simp
  with_reducible rfl
 rotate_left
 ·refine pZ ?_
  rfl
 refine join_ (σ := Value × Value × Value × Nat) 1 (bA 7 63) (fun s_ => [(25, .agg #[.int .i64 t568, .int .i64 t569, .int .i64 t570, s_.1]), (27, .agg #[.int .i64 t574, s_.2.1, .int .i64 t578]), (28, .agg #[.int .i64 t579, .int .i64 t580, .int .i64 t581, s_.2.2.1]), (6, .pointer (some ⟨s_.2.2.2, 0, none⟩))]) (fun s_ w' => (w'.cell? ⟨gb564, 0, none⟩ = some (.int .i64 a0_0) ∧ w'.cell? ⟨gb564, 1, none⟩ = some (.int .i64 a0_1) ∧ w'.cell? ⟨gb564, 2, none⟩ = some (.int .i64 a0_2) ∧ w'.cell? ⟨gb564, 3, none⟩ = some (.slice A0_3 l0_3.length c0_3) ∧ w'.cell? ⟨gb565, 0, none⟩ = some (.int .i64 a1_0) ∧ w'.cell? ⟨gb565, 1, none⟩ = some (.slice A1_1 l1_1.length c1_1) ∧ w'.cell? ⟨gb565, 2, none⟩ = some (.int .i64 a1_2)) ∧ (Kd.R (Kd.int .i64) 3 w' w.heap.size (fun k_ => some k_ ≠ (s_.2.1 : Value).ownBlock ∧ some k_ ≠ (s_.2.2.1 : Value).ownBlock) s_.1 t571) ∧ (Kd.R (Kd.int .i64) 3 w' w.heap.size (fun k_ => some k_ ≠ (s_.1 : Value).ownBlock ∧ some k_ ≠ (s_.2.2.1 : Value).ownBlock) s_.2.1 t575) ∧ (Kd.R (Kd.int .i64) 3 w' w.heap.size (fun k_ => some k_ ≠ (s_.1 : Value).ownBlock ∧ some k_ ≠ (s_.2.1 : Value).ownBlock) s_.2.2.1 t582) ∧ (w'.heap[gb564]? = some (.cells #[.int .i64 a0_0, .int .i64 a0_1, .int .i64 a0_2, .slice A0_3 l0_3.length c0_3] 34 (0, 0))) ∧ (w'.heap[gb565]? = some (.cells #[.int .i64 a1_0, .slice A1_1 l1_1.length c1_1, .int .i64 a1_2] 46 (0, 0))) ∧ (w'.heap[s_.2.2.2]? = some (.cells #[.int .i64 0, .int .i64 0, .int .i64 0, .slice none 0 0] 27 (0, 0))) ∧ (w.heap.size ≤ s_.2.2.2) ∧ (w.heap.size ≤ s_.2.2.2) ∧ (gb564 ≠ s_.2.2.2) ∧ (s_.2.2.2 ≠ gb564) ∧ (gb565 ≠ s_.2.2.2) ∧ (s_.2.2.2 ≠ gb565) ∧ (Below w.heap.size w w')) ?_ ?_
 rotate_left
 ·intro hCont
  refine two_ (i := 1) (j := 5) (Ni := some 25) (Nj := some 6) (bA 7 7) (bA 7 37) rfl rfl rfl rfl (by kernel_rfl) (by decide) (by decide) (fun K hK => ?_) (fun K hK => ?_)
  rotate_left
  ·skip
   refine box_step ?hg (N := 6) ?hd (cs := #[.int .i64 0, .int .i64 0, .int .i64 0, .slice none 0 0]) (t := 27) ?hr ?_; (case hd => rfl); (case hg => rfl); (case hr => first | (go_simp; done) | (go_simp; rfl))
   intro gb585 hg w44 hbox hb
   have BK585 := aM (hbox)
   have GW585 := gW hg HB
   have GE585 := gW hg HB
   replace HB := bS HB hb
   have NB564_585 := nL hg BK564
   have NB585_564 := nG hg BK564
   replace BK564 := bB BK564 hb
   have NB565_585 := nL hg BK565
   have NB585_565 := nG hg BK565
   replace BK565 := bB BK565 hb
   clear hb hbox hg
   refine hK.out _ _ ⟨(blk_cell BK564.out 0).trans rfl, (blk_cell BK564.out 1).trans rfl, (blk_cell BK564.out 2).trans rfl, (blk_cell BK564.out 3).trans rfl, (blk_cell BK565.out 0).trans rfl, (blk_cell BK565.out 1).trans rfl, (blk_cell BK565.out 2).trans rfl⟩ (fun hHeld => ?_)
   clear hK K
   refine norm_ (a' := ?_) ?_ ?_
   rotate_left
   ·show Act.put _ (some 6) _ = _
    refine pZ ?_
    rfl
   refine one_ (i := 1) (N := some 25) (bA 7 39) rfl rfl (by kernel_rfl) (by decide) (fun K hK => ?_)
   refine goes_ Try.func20 (by kernel_rfl) rfl #[.agg #[.int .i64 a0_0, .int .i64 a0_1, .int .i64 a0_2, .slice A0_3 l0_3.length c0_3]] (by rfl) rfl rfl qM ?_
   with_reducible refine (laws_toImage.calls k a0_0 a0_1 a0_2 _ _ l0_3 t568 t569 t570 t571 _ ?side1 ?side2 A19.out).mono ?_
   (case side1 => exact qC (Kd.C_below HR0_3.out HB.out))
   (case side2 => exact HC0_3.out)
   rintro e w45 ⟨v572, rfl, ho0, hb⟩
   refine ⟨_, rfl, ?_⟩
   have HO573 := oR ho0 HB
   replace BK564 := bB BK564 hb
   replace BK565 := bB BK565 hb
   replace BK585 := bB BK585 hb
   replace HB := bS HB hb
   (try clear hb)
   (try clear hb2)
   (try clear hk)
   (try clear hi)
   (try clear ho0)
   refine hK.out _ _ ⟨(blk_cell BK564.out 0).trans rfl, (blk_cell BK564.out 1).trans rfl, (blk_cell BK564.out 2).trans rfl, (blk_cell BK564.out 3).trans rfl, (blk_cell BK565.out 0).trans rfl, (blk_cell BK565.out 1).trans rfl, (blk_cell BK565.out 2).trans rfl⟩ (fun hHeld => ?_)
   clear hK K
   refine norm_ (a' := ?_) ?_ ?_
   rotate_left
   ·show Act.put _ (some 25) _ = _
    refine pZ ?_
    rfl
   refine one_ (i := 3) (N := some 27) (bA 7 47) rfl rfl (by kernel_rfl) (by decide) (fun K hK => ?_)
   refine goes_ Try.func34 (by kernel_rfl) rfl #[.agg #[.int .i64 a1_0, .slice A1_1 l1_1.length c1_1, .int .i64 a1_2]] (by rfl) rfl rfl qM ?_
   with_reducible refine (laws_toKernel.calls k a1_0 _ _ l1_1 a1_2 t574 t575 t578 _ ?side1 ?side2 A20.out).mono ?_
   (case side1 => exact qC (Kd.C_below HR1_1.out HB.out))
   (case side2 => exact HC1_1.out)
   rintro e w46 ⟨v576, rfl, ho0, hb⟩
   refine ⟨_, rfl, ?_⟩
   have HO577 := nR ho0 HO573 HB
   replace HO573 := aM (Kd.R_elder' (qR HO573.out) (Kd.R_base ho0) hb)
   replace BK564 := bB BK564 hb
   replace BK565 := bB BK565 hb
   replace BK585 := bB BK585 hb
   replace HB := bS HB hb
   (try clear hb)
   (try clear hb2)
   (try clear hk)
   (try clear hi)
   (try clear ho0)
   obtain ⟨Ao47, co47, eo47⟩ := Kd.R_slice HO573.out
   (first | subst eo47 | (injection eo47 with f1_ f2_ f3_; have f4_ := f1_.symm; have f5_ := f3_.symm; clear f1_ f2_ f3_; subst f4_; subst f5_))
   obtain ⟨Ao48, co48, eo48⟩ := Kd.R_slice HO577.out
   (first | subst eo48 | (injection eo48 with f1_ f2_ f3_; have f4_ := f1_.symm; have f5_ := f3_.symm; clear f1_ f2_ f3_; subst f4_; subst f5_))
   refine hK.out _ _ ⟨(blk_cell BK564.out 0).trans rfl, (blk_cell BK564.out 1).trans rfl, (blk_cell BK564.out 2).trans rfl, (blk_cell BK564.out 3).trans rfl, (blk_cell BK565.out 0).trans rfl, (blk_cell BK565.out 1).trans rfl, (blk_cell BK565.out 2).trans rfl⟩ (fun hHeld => ?_)
   clear hK K
   refine norm_ (a' := ?_) ?_ ?_
   rotate_left
   ·show Act.put _ (some 27) _ = _
    refine pZ ?_
    rfl
   refine one_ (i := 4) (N := some 28) (bA 7 63) rfl rfl (by kernel_rfl) (by decide) (fun K hK => ?_)
   refine goes_ Try.func33 (by kernel_rfl) rfl #[.agg #[.int .i64 t568, .int .i64 t569, .int .i64 t570, .slice Ao47 t571.length co47], .agg #[.int .i64 t574, .slice Ao48 t575.length co48, .int .i64 t578]] (by rfl) rfl rfl qM ?_
   with_reducible refine (spec_ConvolveImage.calls k t568 t569 t570 _ _ t571 t574 _ _ t575 t578 t579 t580 t581 t582 _ ?side1 ?side2 ?side3 ?side4 A21.out).mono ?_
   (case side1 => exact qC (Kd.R_reads' HO573.out).2.2)
   (case side2 => exact (Kd.R_reads' HO573.out).2.1)
   (case side3 => exact qC (Kd.R_reads' HO577.out).2.2)
   (case side4 => exact (Kd.R_reads' HO577.out).2.1)
   rintro e w49 ⟨v583, rfl, ho0, hb⟩
   refine ⟨_, rfl, ?_⟩
   have HO584 := aM (Kd.R_lower (Kd.R_new' (Kd.R_new' ho0 (Kd.R_lt (qR HO573.out))) (Kd.R_lt (qR HO577.out))) (below_size (qW HB.out)))
   replace HO573 := aM (Kd.R_elder' (qR HO573.out) (Kd.R_base ho0) hb)
   replace HO577 := aM (Kd.R_elder' (qR HO577.out) (Kd.R_base ho0) hb)
   replace BK564 := bB BK564 hb
   replace BK565 := bB BK565 hb
   replace BK585 := bB BK585 hb
   replace HB := bS HB hb
   (try clear hb)
   (try clear hb2)
   (try clear hk)
   (try clear hi)
   (try clear ho0)
   refine hK.out _ _ ⟨(blk_cell BK564.out 0).trans rfl, (blk_cell BK564.out 1).trans rfl, (blk_cell BK564.out 2).trans rfl, (blk_cell BK564.out 3).trans rfl, (blk_cell BK565.out 0).trans rfl, (blk_cell BK565.out 1).trans rfl, (blk_cell BK565.out 2).trans rfl⟩ (fun hHeld => ?_)
   clear hK K
   refine norm_ (a' := ?_) ?_ ?_
   rotate_left
   ·show Act.put _ (some 28) _ = _
    refine pZ ?_
    rfl
   exact norm_ (by simp only [putAll, Act.put, List.setIfInBounds_toArray, List.set_cons_zero, List.set_cons_succ]) (hCont (.slice Ao47 t571.length co47, .slice Ao48 t575.length co48, v583, gb585) _ ⟨hHeld, (by refine qR ?_; exact Kd.R_mono HO573.out (fun _ hk => ⟨hk.1.2, hk.2⟩)), (by refine qR ?_; exact Kd.R_mono HO577.out (fun _ hk => ⟨hk.1.2, hk.2⟩)), (by refine qR ?_; exact Kd.R_mono HO584.out (fun _ hk => ⟨hk.1.2, hk.2⟩)), (qB BK564.out), (qB BK565.out), (qB BK585.out), GW585.out, GE585.out, NB564_585.out, NB585_564.out, NB565_585.out, NB585_565.out, (qW HB.out)⟩)
  skip
  refine goes_ Try.func20 (by kernel_rfl) rfl #[.agg #[.int .i64 a0_0, .int .i64 a0_1, .int .i64 a0_2, .slice A0_3 l0_3.length c0_3]] (by rfl) rfl rfl qM ?_
  with_reducible refine (laws_toImage.calls k a0_0 a0_1 a0_2 _ _ l0_3 t568 t569 t570 t571 _ ?side1 ?side2 A19.out).mono ?_
  (case side1 => exact qC (Kd.C_below HR0_3.out HB.out))
  (case side2 => exact HC0_3.out)
  rintro e w44 ⟨v572, rfl, ho0, hb⟩
  refine ⟨_, rfl, ?_⟩
  have HO573 := oR ho0 HB
  replace BK564 := bB BK564 hb
  replace BK565 := bB BK565 hb
  replace HB := bS HB hb
  (try clear hb)
  (try clear hb2)
  (try clear hk)
  (try clear hi)
  (try clear ho0)
  refine hK.out _ _ ⟨(blk_cell BK564.out 0).trans rfl, (blk_cell BK564.out 1).trans rfl, (blk_cell BK564.out 2).trans rfl, (blk_cell BK564.out 3).trans rfl, (blk_cell BK565.out 0).trans rfl, (blk_cell BK565.out 1).trans rfl, (blk_cell BK565.out 2).trans rfl⟩ (fun hHeld => ?_)
  clear hK K
  refine norm_ (a' := ?_) ?_ ?_
  rotate_left
  ·show Act.put _ (some 25) _ = _
   refine pZ ?_
   rfl
  refine two_ (i := 3) (j := 5) (Ni := some 27) (Nj := some 6) (bA 7 15) (bA 7 39) rfl rfl rfl rfl (by kernel_rfl) (by decide) (by decide) (fun K hK => ?_) (fun K hK => ?_)
  rotate_left
  ·skip
   refine box_step ?hg (N := 6) ?hd (cs := #[.int .i64 0, .int .i64 0, .int .i64 0, .slice none 0 0]) (t := 27) ?hr ?_; (case hd => rfl); (case hg => rfl); (case hr => first | (go_simp; done) | (go_simp; rfl))
   intro gb585 hg w45 hbox hb
   replace HO573 := aM (Kd.R_below (qR HO573.out) hb)
   have BK585 := aM (hbox)
   have GW585 := gW hg HB
   have GE585 := gW hg HB
   replace HB := bS HB hb
   have NB564_585 := nL hg BK564
   have NB585_564 := nG hg BK564
   replace BK564 := bB BK564 hb
   have NB565_585 := nL hg BK565
   have NB585_565 := nG hg BK565
   replace BK565 := bB BK565 hb
   clear hb hbox hg
   refine hK.out _ _ ⟨(blk_cell BK564.out 0).trans rfl, (blk_cell BK564.out 1).trans rfl, (blk_cell BK564.out 2).trans rfl, (blk_cell BK564.out 3).trans rfl, (blk_cell BK565.out 0).trans rfl, (blk_cell BK565.out 1).trans rfl, (blk_cell BK565.out 2).trans rfl⟩ (fun hHeld => ?_)
   clear hK K
   refine norm_ (a' := ?_) ?_ ?_
   rotate_left
   ·show Act.put _ (some 6) _ = _
    refine pZ ?_
    rfl
   refine one_ (i := 3) (N := some 27) (bA 7 47) rfl rfl (by kernel_rfl) (by decide) (fun K hK => ?_)
   refine goes_ Try.func34 (by kernel_rfl) rfl #[.agg #[.int .i64 a1_0, .slice A1_1 l1_1.length c1_1, .int .i64 a1_2]] (by rfl) rfl rfl qM ?_
   with_reducible refine (laws_toKernel.calls k a1_0 _ _ l1_1 a1_2 t574 t575 t578 _ ?side1 ?side2 A20.out).mono ?_
   (case side1 => exact qC (Kd.C_below HR1_1.out HB.out))
   (case side2 => exact HC1_1.out)
   rintro e w46 ⟨v576, rfl, ho0, hb⟩
   refine ⟨_, rfl, ?_⟩
   have HO577 := nR ho0 HO573 HB
   replace HO573 := aM (Kd.R_elder' (qR HO573.out) (Kd.R_base ho0) hb)
   replace BK564 := bB BK564 hb
   replace BK565 := bB BK565 hb
   replace BK585 := bB BK585 hb
   replace HB := bS HB hb
   (try clear hb)
   (try clear hb2)
   (try clear hk)
   (try clear hi)
   (try clear ho0)
   obtain ⟨Ao47, co47, eo47⟩ := Kd.R_slice HO573.out
   (first | subst eo47 | (injection eo47 with f1_ f2_ f3_; have f4_ := f1_.symm; have f5_ := f3_.symm; clear f1_ f2_ f3_; subst f4_; subst f5_))
   obtain ⟨Ao48, co48, eo48⟩ := Kd.R_slice HO577.out
   (first | subst eo48 | (injection eo48 with f1_ f2_ f3_; have f4_ := f1_.symm; have f5_ := f3_.symm; clear f1_ f2_ f3_; subst f4_; subst f5_))
   refine hK.out _ _ ⟨(blk_cell BK564.out 0).trans rfl, (blk_cell BK564.out 1).trans rfl, (blk_cell BK564.out 2).trans rfl, (blk_cell BK564.out 3).trans rfl, (blk_cell BK565.out 0).trans rfl, (blk_cell BK565.out 1).trans rfl, (blk_cell BK565.out 2).trans rfl⟩ (fun hHeld => ?_)
   clear hK K
   refine norm_ (a' := ?_) ?_ ?_
   rotate_left
   ·show Act.put _ (some 27) _ = _
    refine pZ ?_
    rfl
   refine one_ (i := 4) (N := some 28) (bA 7 63) rfl rfl (by kernel_rfl) (by decide) (fun K hK => ?_)
   refine goes_ Try.func33 (by kernel_rfl) rfl #[.agg #[.int .i64 t568, .int .i64 t569, .int .i64 t570, .slice Ao47 t571.length co47], .agg #[.int .i64 t574, .slice Ao48 t575.length co48, .int .i64 t578]] (by rfl) rfl rfl qM ?_
   with_reducible refine (spec_ConvolveImage.calls k t568 t569 t570 _ _ t571 t574 _ _ t575 t578 t579 t580 t581 t582 _ ?side1 ?side2 ?side3 ?side4 A21.out).mono ?_
   (case side1 => exact qC (Kd.R_reads' HO573.out).2.2)
   (case side2 => exact (Kd.R_reads' HO573.out).2.1)
   (case side3 => exact qC (Kd.R_reads' HO577.out).2.2)
   (case side4 => exact (Kd.R_reads' HO577.out).2.1)
   rintro e w49 ⟨v583, rfl, ho0, hb⟩
   refine ⟨_, rfl, ?_⟩
   have HO584 := aM (Kd.R_lower (Kd.R_new' (Kd.R_new' ho0 (Kd.R_lt (qR HO573.out))) (Kd.R_lt (qR HO577.out))) (below_size (qW HB.out)))
   replace HO573 := aM (Kd.R_elder' (qR HO573.out) (Kd.R_base ho0) hb)
   replace HO577 := aM (Kd.R_elder' (qR HO577.out) (Kd.R_base ho0) hb)
   replace BK564 := bB BK564 hb
   replace BK565 := bB BK565 hb
   replace BK585 := bB BK585 hb
   replace HB := bS HB hb
   (try clear hb)
   (try clear hb2)
   (try clear hk)
   (try clear hi)
   (try clear ho0)
   refine hK.out _ _ ⟨(blk_cell BK564.out 0).trans rfl, (blk_cell BK564.out 1).trans rfl, (blk_cell BK564.out 2).trans rfl, (blk_cell BK564.out 3).trans rfl, (blk_cell BK565.out 0).trans rfl, (blk_cell BK565.out 1).trans rfl, (blk_cell BK565.out 2).trans rfl⟩ (fun hHeld => ?_)
   clear hK K
   refine norm_ (a' := ?_) ?_ ?_
   rotate_left
   ·show Act.put _ (some 28) _ = _
    refine pZ ?_
    rfl
   exact norm_ (by simp only [putAll, Act.put, List.setIfInBounds_toArray, List.set_cons_zero, List.set_cons_succ]) (hCont (.slice Ao47 t571.length co47, .slice Ao48 t575.length co48, v583, gb585) _ ⟨hHeld, (by refine qR ?_; exact Kd.R_mono HO573.out (fun _ hk => ⟨hk.1.2, hk.2⟩)), (by refine qR ?_; exact Kd.R_mono HO577.out (fun _ hk => ⟨hk.1.2, hk.2⟩)), (by refine qR ?_; exact Kd.R_mono HO584.out (fun _ hk => ⟨hk.1.2, hk.2⟩)), (qB BK564.out), (qB BK565.out), (qB BK585.out), GW585.out, GE585.out, NB564_585.out, NB585_564.out, NB565_585.out, NB585_565.out, (qW HB.out)⟩)
  skip
  refine goes_ Try.func34 (by kernel_rfl) rfl #[.agg #[.int .i64 a1_0, .slice A1_1 l1_1.length c1_1, .int .i64 a1_2]] (by rfl) rfl rfl qM ?_
  with_reducible refine (laws_toKernel.calls k a1_0 _ _ l1_1 a1_2 t574 t575 t578 _ ?side1 ?side2 A20.out).mono ?_
  (case side1 => exact qC (Kd.C_below HR1_1.out HB.out))
  (case side2 => exact HC1_1.out)
  rintro e w45 ⟨v576, rfl, ho0, hb⟩
  refine ⟨_, rfl, ?_⟩
  have HO577 := nR ho0 HO573 HB
  replace HO573 := aM (Kd.R_elder' (qR HO573.out) (Kd.R_base ho0) hb)
  replace BK564 := bB BK564 hb
  replace BK565 := bB BK565 hb
  replace HB := bS HB hb
  (try clear hb)
  (try clear hb2)
  (try clear hk)
  (try clear hi)
  (try clear ho0)
  obtain ⟨Ao46, co46, eo46⟩ := Kd.R_slice HO573.out
  (first | subst eo46 | (injection eo46 with f1_ f2_ f3_; have f4_ := f1_.symm; have f5_ := f3_.symm; clear f1_ f2_ f3_; subst f4_; subst f5_))
  obtain ⟨Ao47, co47, eo47⟩ := Kd.R_slice HO577.out
  (first | subst eo47 | (injection eo47 with f1_ f2_ f3_; have f4_ := f1_.symm; have f5_ := f3_.symm; clear f1_ f2_ f3_; subst f4_; subst f5_))
  refine hK.out _ _ ⟨(blk_cell BK564.out 0).trans rfl, (blk_cell BK564.out 1).trans rfl, (blk_cell BK564.out 2).trans rfl, (blk_cell BK564.out 3).trans rfl, (blk_cell BK565.out 0).trans rfl, (blk_cell BK565.out 1).trans rfl, (blk_cell BK565.out 2).trans rfl⟩ (fun hHeld => ?_)
  clear hK K
  refine norm_ (a' := ?_) ?_ ?_
  rotate_left
  ·show Act.put _ (some 27) _ = _
   refine pZ ?_
   rfl
  refine two_ (i := 4) (j := 5) (Ni := some 28) (Nj := some 6) (bA 7 31) (bA 7 47) rfl rfl rfl rfl (by kernel_rfl) (by decide) (by decide) (fun K hK => ?_) (fun K hK => ?_)
  ·skip
   refine goes_ Try.func33 (by kernel_rfl) rfl #[.agg #[.int .i64 t568, .int .i64 t569, .int .i64 t570, .slice Ao46 t571.length co46], .agg #[.int .i64 t574, .slice Ao47 t575.length co47, .int .i64 t578]] (by rfl) rfl rfl qM ?_
   with_reducible refine (spec_ConvolveImage.calls k t568 t569 t570 _ _ t571 t574 _ _ t575 t578 t579 t580 t581 t582 _ ?side1 ?side2 ?side3 ?side4 A21.out).mono ?_
   (case side1 => exact qC (Kd.R_reads' HO573.out).2.2)
   (case side2 => exact (Kd.R_reads' HO573.out).2.1)
   (case side3 => exact qC (Kd.R_reads' HO577.out).2.2)
   (case side4 => exact (Kd.R_reads' HO577.out).2.1)
   rintro e w48 ⟨v583, rfl, ho0, hb⟩
   refine ⟨_, rfl, ?_⟩
   have HO584 := aM (Kd.R_lower (Kd.R_new' (Kd.R_new' ho0 (Kd.R_lt (qR HO573.out))) (Kd.R_lt (qR HO577.out))) (below_size (qW HB.out)))
   replace HO573 := aM (Kd.R_elder' (qR HO573.out) (Kd.R_base ho0) hb)
   replace HO577 := aM (Kd.R_elder' (qR HO577.out) (Kd.R_base ho0) hb)
   replace BK564 := bB BK564 hb
   replace BK565 := bB BK565 hb
   replace HB := bS HB hb
   (try clear hb)
   (try clear hb2)
   (try clear hk)
   (try clear hi)
   (try clear ho0)
   refine hK.out _ _ ⟨(blk_cell BK564.out 0).trans rfl, (blk_cell BK564.out 1).trans rfl, (blk_cell BK564.out 2).trans rfl, (blk_cell BK564.out 3).trans rfl, (blk_cell BK565.out 0).trans rfl, (blk_cell BK565.out 1).trans rfl, (blk_cell BK565.out 2).trans rfl⟩ (fun hHeld => ?_)
   clear hK K
   refine norm_ (a' := ?_) ?_ ?_
   rotate_left
   ·show Act.put _ (some 28) _ = _
    refine pZ ?_
    rfl
   refine one_ (i := 5) (N := some 6) (bA 7 63) rfl rfl (by kernel_rfl) (by decide) (fun K hK => ?_)
   refine box_step ?hg (N := 6) ?hd (cs := #[.int .i64 0, .int .i64 0, .int .i64 0, .slice none 0 0]) (t := 27) ?hr ?_; (case hd => rfl); (case hg => rfl); (case hr => first | (go_simp; done) | (go_simp; rfl))
   intro gb585 hg w49 hbox hb
   replace HO573 := aM (Kd.R_below (qR HO573.out) hb)
   replace HO577 := aM (Kd.R_below (qR HO577.out) hb)
   replace HO584 := aM (Kd.R_below (qR HO584.out) hb)
   have BK585 := aM (hbox)
   have GW585 := gW hg HB
   have GE585 := gW hg HB
   replace HB := bS HB hb
   have NB564_585 := nL hg BK564
   have NB585_564 := nG hg BK564
   replace BK564 := bB BK564 hb
   have NB565_585 := nL hg BK565
   have NB585_565 := nG hg BK565
   replace BK565 := bB BK565 hb
   clear hb hbox hg
   refine hK.out _ _ ⟨(blk_cell BK564.out 0).trans rfl, (blk_cell BK564.out 1).trans rfl, (blk_cell BK564.out 2).trans rfl, (blk_cell BK564.out 3).trans rfl, (blk_cell BK565.out 0).trans rfl, (blk_cell BK565.out 1).trans rfl, (blk_cell BK565.out 2).trans rfl⟩ (fun hHeld => ?_)
   clear hK K
   refine norm_ (a' := ?_) ?_ ?_
   rotate_left
   ·show Act.put _ (some 6) _ = _
    refine pZ ?_
    rfl
   exact norm_ (by simp only [putAll, Act.put, List.setIfInBounds_toArray, List.set_cons_zero, List.set_cons_succ]) (hCont (.slice Ao46 t571.length co46, .slice Ao47 t575.length co47, v583, gb585) _ ⟨hHeld, (by refine qR ?_; exact Kd.R_mono HO573.out (fun _ hk => ⟨hk.1.2, hk.2⟩)), (by refine qR ?_; exact Kd.R_mono HO577.out (fun _ hk => ⟨hk.1.2, hk.2⟩)), (by refine qR ?_; exact Kd.R_mono HO584.out (fun _ hk => ⟨hk.1.2, hk.2⟩)), (qB BK564.out), (qB BK565.out), (qB BK585.out), GW585.out, GE585.out, NB564_585.out, NB585_564.out, NB565_585.out, NB585_565.out, (qW HB.out)⟩)
  skip
  refine box_step ?hg (N := 6) ?hd (cs := #[.int .i64 0, .int .i64 0, .int .i64 0, .slice none 0 0]) (t := 27) ?hr ?_; (case hd => rfl); (case hg => rfl); (case hr => first | (go_simp; done) | (go_simp; rfl))
  intro gb585 hg w46 hbox hb
  replace HO573 := aM (Kd.R_below (qR HO573.out) hb)
  replace HO577 := aM (Kd.R_below (qR HO577.out) hb)
  have BK585 := aM (hbox)
  have GW585 := gW hg HB
  have GE585 := gW hg HB
  replace HB := bS HB hb
  have NB564_585 := nL hg BK564
  have NB585_564 := nG hg BK564
  replace BK564 := bB BK564 hb
  have NB565_585 := nL hg BK565
  have NB585_565 := nG hg BK565
  replace BK565 := bB BK565 hb
  clear hb hbox hg
  obtain ⟨Ao47, co47, eo47⟩ := Kd.R_slice HO573.out
  (first | subst eo47 | (injection eo47 with f1_ f2_ f3_; have f4_ := f1_.symm; have f5_ := f3_.symm; clear f1_ f2_ f3_; subst f4_; subst f5_))
  obtain ⟨Ao48, co48, eo48⟩ := Kd.R_slice HO577.out
  (first | subst eo48 | (injection eo48 with f1_ f2_ f3_; have f4_ := f1_.symm; have f5_ := f3_.symm; clear f1_ f2_ f3_; subst f4_; subst f5_))
  refine hK.out _ _ ⟨(blk_cell BK564.out 0).trans rfl, (blk_cell BK564.out 1).trans rfl, (blk_cell BK564.out 2).trans rfl, (blk_cell BK564.out 3).trans rfl, (blk_cell BK565.out 0).trans rfl, (blk_cell BK565.out 1).trans rfl, (blk_cell BK565.out 2).trans rfl⟩ (fun hHeld => ?_)
  clear hK K
  refine norm_ (a' := ?_) ?_ ?_
  rotate_left
  ·show Act.put _ (some 6) _ = _
   refine pZ ?_
   rfl
  refine one_ (i := 4) (N := some 28) (bA 7 63) rfl rfl (by kernel_rfl) (by decide) (fun K hK => ?_)
  refine goes_ Try.func33 (by kernel_rfl) rfl #[.agg #[.int .i64 t568, .int .i64 t569, .int .i64 t570, .slice Ao47 t571.length co47], .agg #[.int .i64 t574, .slice Ao48 t575.length co48, .int .i64 t578]] (by rfl) rfl rfl qM ?_
  with_reducible refine (spec_ConvolveImage.calls k t568 t569 t570 _ _ t571 t574 _ _ t575 t578 t579 t580 t581 t582 _ ?side1 ?side2 ?side3 ?side4 A21.out).mono ?_
  (case side1 => exact qC (Kd.R_reads' HO573.out).2.2)
  (case side2 => exact (Kd.R_reads' HO573.out).2.1)
  (case side3 => exact qC (Kd.R_reads' HO577.out).2.2)
  (case side4 => exact (Kd.R_reads' HO577.out).2.1)
  rintro e w49 ⟨v583, rfl, ho0, hb⟩
  refine ⟨_, rfl, ?_⟩
  have HO584 := aM (Kd.R_lower (Kd.R_new' (Kd.R_new' ho0 (Kd.R_lt (qR HO573.out))) (Kd.R_lt (qR HO577.out))) (below_size (qW HB.out)))
  replace HO573 := aM (Kd.R_elder' (qR HO573.out) (Kd.R_base ho0) hb)
  replace HO577 := aM (Kd.R_elder' (qR HO577.out) (Kd.R_base ho0) hb)
  replace BK564 := bB BK564 hb
  replace BK565 := bB BK565 hb
  replace BK585 := bB BK585 hb
  replace HB := bS HB hb
  (try clear hb)
  (try clear hb2)
  (try clear hk)
  (try clear hi)
  (try clear ho0)
  refine hK.out _ _ ⟨(blk_cell BK564.out 0).trans rfl, (blk_cell BK564.out 1).trans rfl, (blk_cell BK564.out 2).trans rfl, (blk_cell BK564.out 3).trans rfl, (blk_cell BK565.out 0).trans rfl, (blk_cell BK565.out 1).trans rfl, (blk_cell BK565.out 2).trans rfl⟩ (fun hHeld => ?_)
  clear hK K
  refine norm_ (a' := ?_) ?_ ?_
  rotate_left
  ·show Act.put _ (some 28) _ = _
   refine pZ ?_
   rfl
  exact norm_ (by simp only [putAll, Act.put, List.setIfInBounds_toArray, List.set_cons_zero, List.set_cons_succ]) (hCont (.slice Ao47 t571.length co47, .slice Ao48 t575.length co48, v583, gb585) _ ⟨hHeld, (by refine qR ?_; exact Kd.R_mono HO573.out (fun _ hk => ⟨hk.1.2, hk.2⟩)), (by refine qR ?_; exact Kd.R_mono HO577.out (fun _ hk => ⟨hk.1.2, hk.2⟩)), (by refine qR ?_; exact Kd.R_mono HO584.out (fun _ hk => ⟨hk.1.2, hk.2⟩)), (qB BK564.out), (qB BK565.out), (qB BK585.out), GW585.out, GE585.out, NB564_585.out, NB585_564.out, NB565_585.out, NB585_565.out, (qW HB.out)⟩)
 rintro ⟨v572, v576, v583, gb585⟩ w50 ⟨hS_, h0_, h1_, h2_, h3_, h4_, h5_, h6_, h7_, h8_, h9_, h10_, h11_, h12_⟩
 have HO573 : Aside0 (Kd.R (Kd.int .i64) 3 w50 w.heap.size (fun k_ => some k_ ≠ (v576 : Value).ownBlock ∧ some k_ ≠ (v583 : Value).ownBlock) v572 t571) := ⟨h0_⟩
 have HO577 : Aside0 (Kd.R (Kd.int .i64) 3 w50 w.heap.size (fun k_ => some k_ ≠ (v572 : Value).ownBlock ∧ some k_ ≠ (v583 : Value).ownBlock) v576 t575) := ⟨h1_⟩
 have HO584 : Aside0 (Kd.R (Kd.int .i64) 3 w50 w.heap.size (fun k_ => some k_ ≠ (v572 : Value).ownBlock ∧ some k_ ≠ (v576 : Value).ownBlock) v583 t582) := ⟨h2_⟩
 replace BK564 : Aside0 (w50.heap[gb564]? = some (.cells #[.int .i64 a0_0, .int .i64 a0_1, .int .i64 a0_2, .slice A0_3 l0_3.length c0_3] 34 (0, 0))) := ⟨h3_⟩
 replace BK565 : Aside0 (w50.heap[gb565]? = some (.cells #[.int .i64 a1_0, .slice A1_1 l1_1.length c1_1, .int .i64 a1_2] 46 (0, 0))) := ⟨h4_⟩
 have BK585 : Aside0 (w50.heap[gb585]? = some (.cells #[.int .i64 0, .int .i64 0, .int .i64 0, .slice none 0 0] 27 (0, 0))) := ⟨h5_⟩
 have GW585 : Aside0 (w.heap.size ≤ gb585) := ⟨h6_⟩
 have GE585 : Aside0 (w.heap.size ≤ gb585) := ⟨h7_⟩
 have NB564_585 : Aside0 (gb564 ≠ gb585) := ⟨h8_⟩
 have NB585_564 : Aside0 (gb585 ≠ gb564) := ⟨h9_⟩
 have NB565_585 : Aside0 (gb565 ≠ gb585) := ⟨h10_⟩
 have NB585_565 : Aside0 (gb585 ≠ gb565) := ⟨h11_⟩
 replace HB : Aside0 (Below w.heap.size w w50) := ⟨h12_⟩
 clear h0_ h1_ h2_ h3_ h4_ h5_ h6_ h7_ h8_ h9_ h10_ h11_ h12_
 have hHeld : w50.cell? ⟨gb564, 0, none⟩ = some (.int .i64 a0_0) ∧ w50.cell? ⟨gb564, 1, none⟩ = some (.int .i64 a0_1) ∧ w50.cell? ⟨gb564, 2, none⟩ = some (.int .i64 a0_2) ∧ w50.cell? ⟨gb564, 3, none⟩ = some (.slice A0_3 l0_3.length c0_3) ∧ w50.cell? ⟨gb565, 0, none⟩ = some (.int .i64 a1_0) ∧ w50.cell? ⟨gb565, 1, none⟩ = some (.slice A1_1 l1_1.length c1_1) ∧ w50.cell? ⟨gb565, 2, none⟩ = some (.int .i64 a1_2) := hS_
 obtain ⟨Ao54, co54, eo54⟩ := Kd.R_slice HO584.out
 (first | subst eo54 | (injection eo54 with f1_ f2_ f3_; have f4_ := f1_.symm; have f5_ := f3_.symm; clear f1_ f2_ f3_; subst f4_; subst f5_))
 refine norm_ (a' := ?_) ?_ ?_
 rotate_left
 ·simp only [putAll, Act.put, List.setIfInBounds_toArray, List.set_cons_zero, List.set_cons_succ]
  rfl
 refine one_ (i := 6) (N := none) (bA 7 127) rfl rfl (by kernel_rfl) (by decide) (fun K hK => ?_)
 have hs51 : w50.cell? ⟨gb585, 0, none⟩ = some (.int .i64 0) := (blk_cell BK585.out 0).trans rfl
 have hfs51 := blk_frozen BK585.out 0
 have hns51_0 := NB564_585.out
 have hns51_1 := NB565_585.out
 have hms51_0 := NB585_564.out
 have hms51_1 := NB585_565.out
 have hs52 : w50.cell? ⟨gb585, 1, none⟩ = some (.int .i64 0) := (blk_cell BK585.out 1).trans rfl
 have hfs52 := blk_frozen BK585.out 1
 have hns52_0 := NB564_585.out
 have hns52_1 := NB565_585.out
 have hms52_0 := NB585_564.out
 have hms52_1 := NB585_565.out
 have hs53 : w50.cell? ⟨gb585, 2, none⟩ = some (.int .i64 0) := (blk_cell BK585.out 2).trans rfl
 have hfs53 := blk_frozen BK585.out 2
 have hns53_0 := NB564_585.out
 have hns53_1 := NB565_585.out
 have hms53_0 := NB585_564.out
 have hms53_1 := NB585_565.out
 have hs55 : w50.cell? ⟨gb585, 3, none⟩ = some (.slice none 0 0) := (blk_cell BK585.out 3).trans rfl
 have hfs55 := blk_frozen BK585.out 3
 have hns55_0 := NB564_585.out
 have hns55_1 := NB565_585.out
 have hms55_0 := NB585_564.out
 have hms55_1 := NB585_565.out
 refine skip_ (w1 := ?_) (by rfl) rfl ?_ ?_
 rotate_left
 ·go_simp
  rfl
 refine hK.out _ _ ⟨((cell_far (p := ⟨gb585, _, none⟩) NB564_585.out _).trans (((cell_far (p := ⟨gb585, _, none⟩) NB564_585.out _).trans (((cell_far (p := ⟨gb585, _, none⟩) NB564_585.out _).trans (((cell_far (p := ⟨gb585, _, none⟩) NB564_585.out _).trans (hHeld.1)))))))), ((cell_far (p := ⟨gb585, _, none⟩) NB564_585.out _).trans (((cell_far (p := ⟨gb585, _, none⟩) NB564_585.out _).trans (((cell_far (p := ⟨gb585, _, none⟩) NB564_585.out _).trans (((cell_far (p := ⟨gb585, _, none⟩) NB564_585.out _).trans (hHeld.2.1)))))))), ((cell_far (p := ⟨gb585, _, none⟩) NB564_585.out _).trans (((cell_far (p := ⟨gb585, _, none⟩) NB564_585.out _).trans (((cell_far (p := ⟨gb585, _, none⟩) NB564_585.out _).trans (((cell_far (p := ⟨gb585, _, none⟩) NB564_585.out _).trans (hHeld.2.2.1)))))))), ((cell_far (p := ⟨gb585, _, none⟩) NB564_585.out _).trans (((cell_far (p := ⟨gb585, _, none⟩) NB564_585.out _).trans (((cell_far (p := ⟨gb585, _, none⟩) NB564_585.out _).trans (((cell_far (p := ⟨gb585, _, none⟩) NB564_585.out _).trans (hHeld.2.2.2.1)))))))), ((cell_far (p := ⟨gb585, _, none⟩) NB565_585.out _).trans (((cell_far (p := ⟨gb585, _, none⟩) NB565_585.out _).trans (((cell_far (p := ⟨gb585, _, none⟩) NB565_585.out _).trans (((cell_far (p := ⟨gb585, _, none⟩) NB565_585.out _).trans (hHeld.2.2.2.2.1)))))))), ((cell_far (p := ⟨gb585, _, none⟩) NB565_585.out _).trans (((cell_far (p := ⟨gb585, _, none⟩) NB565_585.out _).trans (((cell_far (p := ⟨gb585, _, none⟩) NB565_585.out _).trans (((cell_far (p := ⟨gb585, _, none⟩) NB565_585.out _).trans (hHeld.2.2.2.2.2.1)))))))), ((cell_far (p := ⟨gb585, _, none⟩) NB565_585.out _).trans (((cell_far (p := ⟨gb585, _, none⟩) NB565_585.out _).trans (((cell_far (p := ⟨gb585, _, none⟩) NB565_585.out _).trans (((cell_far (p := ⟨gb585, _, none⟩) NB565_585.out _).trans (hHeld.2.2.2.2.2.2))))))))⟩ (fun hHeld => ?_)
 clear hK K
 refine done_ (by kernel_rfl) ?_
 have hnb56 := NB564_585.out
 have hnc56 := NB585_564.out
 obtain ⟨⟨hcz57_0, hcz57_1, hcz57_2, hcz57_3⟩, hfz57_0, hfz57_1, hfz57_2, hfz57_3⟩ := cf4 BK564
 try go_wp2_with (first | ((with_reducible refine gate_callee (f := 20) rfl ?_); refine gL (some 30) Try.func20 #[.agg #[.int .i64 a0_0, .int .i64 a0_1, .int .i64 a0_2, .slice A0_3 l0_3.length c0_3]] ?_; (with_reducible refine (laws_toImage.calls k a0_0 a0_1 a0_2 _ _ l0_3 t586 t587 t588 t589 _ ?side1 ?side2 A22.out).mono ?_); (case side1 => exact Kd.C_below HR0_3.out (qW HB.out)); (case side2 => exact HC0_3.out); rintro e w58 ⟨v590, rfl, ho0, hb⟩; refine ⟨_, rfl, ?_⟩; have HO591 := aM (Kd.R_lower (Kd.R_new' (Kd.R_new' (Kd.R_new' ho0 (Kd.R_lt (by refine qR ?_; exact (fr4 HO573 BK585)))) (Kd.R_lt (by refine qR ?_; exact (fr4 HO577 BK585)))) (Kd.R_lt (by refine qR ?_; exact (fr4 HO584 BK585)))) (below_size (qW HB.out))); replace HO573 := aM (Kd.R_elder' (by refine qR ?_; exact (fr4 HO573 BK585)) (Kd.R_base ho0) hb); replace HO577 := aM (Kd.R_elder' (by refine qR ?_; exact (fr4 HO577 BK585)) (Kd.R_base ho0) hb); replace HO584 := aM (Kd.R_elder' (by refine qR ?_; exact (fr4 HO584 BK585)) (Kd.R_base ho0) hb); replace BK564 := aM (blk_below (g := gb564) (o := .cells #[.int .i64 a0_0, .int .i64 a0_1, .int .i64 a0_2, .slice A0_3 l0_3.length c0_3] 34 (0, 0)) (by refine qB ?_; refine blk_far ?_ NB564_585.out _; refine qB ?_; refine blk_far ?_ NB564_585.out _; refine qB ?_; refine blk_far ?_ NB564_585.out _; refine qB ?_; refine blk_far ?_ NB564_585.out _; refine qB ?_; exact BK564.out) hb); replace BK565 := aM (blk_below (g := gb565) (o := .cells #[.int .i64 a1_0, .slice A1_1 l1_1.length c1_1, .int .i64 a1_2] 46 (0, 0)) (by refine qB ?_; refine blk_far ?_ NB565_585.out _; refine qB ?_; refine blk_far ?_ NB565_585.out _; refine qB ?_; refine blk_far ?_ NB565_585.out _; refine qB ?_; refine blk_far ?_ NB565_585.out _; refine qB ?_; exact BK565.out) hb); replace BK585 := aM (blk_below (g := gb585) (o := .cells #[.int .i64 t579, .int .i64 t580, .int .i64 t581, .slice Ao54 t582.length co54] 27 (0, 0)) (by exact bP BK585.out) hb); replace HB := bS HB hb; clear hb ho0) | ((with_reducible refine gate_dst (N := 7) rfl ?_); refine bxE (N := 7) (cs := #[.int .i64 0, .int .i64 0, .int .i64 0, .slice none 0 0]) (t := 27) ?_; intro gb592 hg w59 hbox hb; replace HO573 := aM (Kd.R_below (qR HO573.out) hb); replace HO577 := aM (Kd.R_below (qR HO577.out) hb); replace HO584 := aM (Kd.R_below (qR HO584.out) hb); replace HO591 := aM (Kd.R_below (qR HO591.out) hb); have BK592 := aM (hbox); have GW592 := gW hg HB; have GE592 := gW hg HB; replace HB := bS HB hb; have NB564_592 := nL hg BK564; have NB592_564 := nG hg BK564; replace BK564 := bB BK564 hb; have NB565_592 := nL hg BK565; have NB592_565 := nG hg BK565; replace BK565 := bB BK565 hb; have NB585_592 := nL hg BK585; have NB592_585 := nG hg BK585; replace BK585 := bB BK585 hb; clear hb hbox hg; have hnb60 := NB592_564.out; have hnc60 := NB564_592.out; have hnb61 := NB592_565.out; have hnc61 := NB565_592.out; have hnb62 := NB592_585.out; have hnc62 := NB585_592.out; obtain ⟨⟨hcz63_0, hcz63_1, hcz63_2, hcz63_3⟩, hfz63_0, hfz63_1, hfz63_2, hfz63_3⟩ := cf4 BK592; obtain ⟨Ao64, co64, rfl⟩ := sL HO591; have hnb65 := NB565_585.out; have hnc65 := NB585_565.out; obtain ⟨⟨hcz66_0, hcz66_1, hcz66_2⟩, hfz66_0, hfz66_1, hfz66_2⟩ := cf3 BK565) | ((with_reducible refine gate_callee (f := 34) rfl ?_); refine gL (some 32) Try.func34 #[.agg #[.int .i64 a1_0, .slice A1_1 l1_1.length c1_1, .int .i64 a1_2]] ?_; (with_reducible refine (laws_toKernel.calls k a1_0 _ _ l1_1 a1_2 t593 t594 t597 _ ?side1 ?side2 A23.out).mono ?_); (case side1 => exact Kd.C_below HR1_1.out (qW HB.out)); (case side2 => exact HC1_1.out); rintro e w67 ⟨v595, rfl, ho0, hb⟩; refine ⟨_, rfl, ?_⟩; have HO596 := aM (Kd.R_lower (Kd.R_new' (Kd.R_new' (Kd.R_new' (Kd.R_new' ho0 (Kd.R_lt (by refine qR ?_; exact (fr4 HO573 BK592)))) (Kd.R_lt (by refine qR ?_; exact (fr4 HO577 BK592)))) (Kd.R_lt (by refine qR ?_; exact (fr4 HO584 BK592)))) (Kd.R_lt (by refine qR ?_; exact (fr4 HO591 BK592)))) (below_size (qW HB.out))); replace HO573 := aM (Kd.R_elder' (by refine qR ?_; exact (fr4 HO573 BK592)) (Kd.R_base ho0) hb); replace HO577 := aM (Kd.R_elder' (by refine qR ?_; exact (fr4 HO577 BK592)) (Kd.R_base ho0) hb); replace HO584 := aM (Kd.R_elder' (by refine qR ?_; exact (fr4 HO584 BK592)) (Kd.R_base ho0) hb); replace HO591 := aM (Kd.R_elder' (by refine qR ?_; exact (fr4 HO591 BK592)) (Kd.R_base ho0) hb); replace BK564 := aM (blk_below (g := gb564) (o := .cells #[.int .i64 a0_0, .int .i64 a0_1, .int .i64 a0_2, .slice A0_3 l0_3.length c0_3] 34 (0, 0)) (by refine qB ?_; refine blk_far ?_ NB564_592.out _; refine qB ?_; refine blk_far ?_ NB564_592.out _; refine qB ?_; refine blk_far ?_ NB564_592.out _; refine qB ?_; refine blk_far ?_ NB564_592.out _; refine qB ?_; exact BK564.out) hb); replace BK565 := aM (blk_below (g := gb565) (o := .cells #[.int .i64 a1_0, .slice A1_1 l1_1.length c1_1, .int .i64 a1_2] 46 (0, 0)) (by refine qB ?_; refine blk_far ?_ NB565_592.out _; refine qB ?_; refine blk_far ?_ NB565_592.out _; refine qB ?_; refine blk_far ?_ NB565_592.out _; refine qB ?_; refine blk_far ?_ NB565_592.out _; refine qB ?_; exact BK565.out) hb); replace BK585 := aM (blk_below (g := gb585) (o := .cells #[.int .i64 t579, .int .i64 t580, .int .i64 t581, .slice Ao54 t582.length co54] 27 (0, 0)) (by refine qB ?_; refine blk_far ?_ NB585_592.out _; refine qB ?_; refine blk_far ?_ NB585_592.out _; refine qB ?_; refine blk_far ?_ NB585_592.out _; refine qB ?_; refine blk_far ?_ NB585_592.out _; refine qB ?_; exact BK585.out) hb); replace BK592 := aM (blk_below (g := gb592) (o := .cells #[.int .i64 t586, .int .i64 t587, .int .i64 t588, .slice Ao64 t589.length co64] 27 (0, 0)) (by exact bP BK592.out) hb); replace HB := bS HB hb; clear hb ho0) | ((with_reducible refine gate_dst (N := 8) rfl ?_); refine bxE (N := 8) (cs := #[.int .i64 0, .slice none 0 0, .int .i64 0]) (t := 49) ?_; intro gb598 hg w68 hbox hb; replace HO573 := aM (Kd.R_below (qR HO573.out) hb); replace HO577 := aM (Kd.R_below (qR HO577.out) hb); replace HO584 := aM (Kd.R_below (qR HO584.out) hb); replace HO591 := aM (Kd.R_below (qR HO591.out) hb); replace HO596 := aM (Kd.R_below (qR HO596.out) hb); have BK598 := aM (hbox); have GW598 := gW hg HB; have GE598 := gW hg HB; replace HB := bS HB hb; have NB564_598 := nL hg BK564; have NB598_564 := nG hg BK564; replace BK564 := bB BK564 hb; have NB565_598 := nL hg BK565; have NB598_565 := nG hg BK565; replace BK565 := bB BK565 hb; have NB585_598 := nL hg BK585; have NB598_585 := nG hg BK585; replace BK585 := bB BK585 hb; have NB592_598 := nL hg BK592; have NB598_592 := nG hg BK592; replace BK592 := bB BK592 hb; clear hb hbox hg; have hnb69 := NB598_564.out; have hnc69 := NB564_598.out; have hnb70 := NB598_565.out; have hnc70 := NB565_598.out; have hnb71 := NB598_585.out; have hnc71 := NB585_598.out; have hnb72 := NB598_592.out; have hnc72 := NB592_598.out; obtain ⟨⟨hcz73_0, hcz73_1, hcz73_2⟩, hfz73_0, hfz73_1, hfz73_2⟩ := cf3 BK598; obtain ⟨Ao74, co74, rfl⟩ := sL HO596; obtain ⟨⟨hcz75_0, hcz75_1, hcz75_2, hcz75_3⟩, hfz75_0, hfz75_1, hfz75_2, hfz75_3⟩ := cf4 BK592) | ((with_reducible refine gate_callee (f := 35) rfl ?_); refine gL (some 35) Try.func35 #[.agg #[.int .i64 t586, .int .i64 t587, .int .i64 t588, .slice Ao64 t589.length co64], .agg #[.int .i64 t593, .slice Ao74 t594.length co74, .int .i64 t597]] ?_; (with_reducible refine (impl_ConvolveImage.calls t586 t587 t588 _ _ t589 t593 _ _ t594 t597 t599 t600 t601 t602 _ ?side1 ?side2 ?side3 ?side4 A24.out).mono ?_); (case side1 => refine (Kd.R_reads' (e := 3) (base := w.heap.size) (ok := fun k_ => ((((True ∧ some k_ ≠ (v572 : Value).ownBlock) ∧ some k_ ≠ (v576 : Value).ownBlock) ∧ some k_ ≠ (.slice Ao54 t582.length co54 : Value).ownBlock) ∧ some k_ ≠ (.slice Ao74 t594.length co74 : Value).ownBlock)) (n := t589.length) (c := co64) ?_).2.2; exact (by refine qR ?_; exact (Kd.R_mono (rT HO591 BK598) (fun _ h_ => h_.1)))); (case side2 => exact (Kd.R_reads' HO591.out).2.1); (case side3 => refine (Kd.R_reads' (e := 3) (base := w.heap.size) (ok := fun k_ => ((((True ∧ some k_ ≠ (v572 : Value).ownBlock) ∧ some k_ ≠ (v576 : Value).ownBlock) ∧ some k_ ≠ (.slice Ao54 t582.length co54 : Value).ownBlock) ∧ some k_ ≠ (.slice Ao64 t589.length co64 : Value).ownBlock)) (n := t594.length) (c := co74) ?_).2.2; exact (by refine qR ?_; exact (Kd.R_mono (rT HO596 BK598) (fun _ h_ => h_.1)))); (case side4 => exact (Kd.R_reads' HO596.out).2.1); rintro e w76 ⟨v603, rfl, ho0, hb⟩; refine ⟨_, rfl, ?_⟩; have HO604 := aM (Kd.R_lower (Kd.R_new' (Kd.R_new' (Kd.R_new' (Kd.R_new' (Kd.R_new' ho0 (Kd.R_lt (by refine qR ?_; exact (Kd.R_mono (rT HO573 BK598) (fun _ h_ => h_.1))))) (Kd.R_lt (by refine qR ?_; exact (Kd.R_mono (rT HO577 BK598) (fun _ h_ => h_.1))))) (Kd.R_lt (by refine qR ?_; exact (Kd.R_mono (rT HO584 BK598) (fun _ h_ => h_.1))))) (Kd.R_lt (by refine qR ?_; exact (Kd.R_mono (rT HO591 BK598) (fun _ h_ => h_.1))))) (Kd.R_lt (by refine qR ?_; exact (Kd.R_mono (rT HO596 BK598) (fun _ h_ => h_.1))))) (below_size (qW HB.out))); replace HO573 := aM (Kd.R_elder' (by refine qR ?_; exact (Kd.R_mono (rT HO573 BK598) (fun _ h_ => h_.1))) (Kd.R_base ho0) hb); replace HO577 := aM (Kd.R_elder' (by refine qR ?_; exact (Kd.R_mono (rT HO577 BK598) (fun _ h_ => h_.1))) (Kd.R_base ho0) hb); replace HO584 := aM (Kd.R_elder' (by refine qR ?_; exact (Kd.R_mono (rT HO584 BK598) (fun _ h_ => h_.1))) (Kd.R_base ho0) hb); replace HO591 := aM (Kd.R_elder' (by refine qR ?_; exact (Kd.R_mono (rT HO591 BK598) (fun _ h_ => h_.1))) (Kd.R_base ho0) hb); replace HO596 := aM (Kd.R_elder' (by refine qR ?_; exact (Kd.R_mono (rT HO596 BK598) (fun _ h_ => h_.1))) (Kd.R_base ho0) hb); replace BK564 := aM (blk_below (g := gb564) (o := .cells #[.int .i64 a0_0, .int .i64 a0_1, .int .i64 a0_2, .slice A0_3 l0_3.length c0_3] 34 (0, 0)) (by refine qB ?_; refine blk_far ?_ NB564_598.out _; refine qB ?_; refine blk_far ?_ NB564_598.out _; refine qB ?_; refine blk_far ?_ NB564_598.out _; refine qB ?_; exact BK564.out) hb); replace BK565 := aM (blk_below (g := gb565) (o := .cells #[.int .i64 a1_0, .slice A1_1 l1_1.length c1_1, .int .i64 a1_2] 46 (0, 0)) (by refine qB ?_; refine blk_far ?_ NB565_598.out _; refine qB ?_; refine blk_far ?_ NB565_598.out _; refine qB ?_; refine blk_far ?_ NB565_598.out _; refine qB ?_; exact BK565.out) hb); replace BK585 := aM (blk_below (g := gb585) (o := .cells #[.int .i64 t579, .int .i64 t580, .int .i64 t581, .slice Ao54 t582.length co54] 27 (0, 0)) (by refine qB ?_; refine blk_far ?_ NB585_598.out _; refine qB ?_; refine blk_far ?_ NB585_598.out _; refine qB ?_; refine blk_far ?_ NB585_598.out _; refine qB ?_; exact BK585.out) hb); replace BK592 := aM (blk_below (g := gb592) (o := .cells #[.int .i64 t586, .int .i64 t587, .int .i64 t588, .slice Ao64 t589.length co64] 27 (0, 0)) (by refine qB ?_; refine blk_far ?_ NB592_598.out _; refine qB ?_; refine blk_far ?_ NB592_598.out _; refine qB ?_; refine blk_far ?_ NB592_598.out _; refine qB ?_; exact BK592.out) hb); replace BK598 := aM (blk_below (g := gb598) (o := .cells #[.int .i64 t593, .slice Ao74 t594.length co74, .int .i64 t597] 49 (0, 0)) (by exact bP BK598.out) hb); replace HB := bS HB hb; clear hb ho0) | ((with_reducible refine gate_dst (N := 9) rfl ?_); refine bxE (N := 9) (cs := #[.int .i64 0, .int .i64 0, .int .i64 0, .slice none 0 0]) (t := 27) ?_; intro gb605 hg w77 hbox hb; replace HO573 := aM (Kd.R_below (qR HO573.out) hb); replace HO577 := aM (Kd.R_below (qR HO577.out) hb); replace HO584 := aM (Kd.R_below (qR HO584.out) hb); replace HO591 := aM (Kd.R_below (qR HO591.out) hb); replace HO596 := aM (Kd.R_below (qR HO596.out) hb); replace HO604 := aM (Kd.R_below (qR HO604.out) hb); have BK605 := aM (hbox); have GW605 := gW hg HB; have GE605 := gW hg HB; replace HB := bS HB hb; have NB564_605 := nL hg BK564; have NB605_564 := nG hg BK564; replace BK564 := bB BK564 hb; have NB565_605 := nL hg BK565; have NB605_565 := nG hg BK565; replace BK565 := bB BK565 hb; have NB585_605 := nL hg BK585; have NB605_585 := nG hg BK585; replace BK585 := bB BK585 hb; have NB592_605 := nL hg BK592; have NB605_592 := nG hg BK592; replace BK592 := bB BK592 hb; have NB598_605 := nL hg BK598; have NB605_598 := nG hg BK598; replace BK598 := bB BK598 hb; clear hb hbox hg; have hnb78 := NB605_564.out; have hnc78 := NB564_605.out; have hnb79 := NB605_565.out; have hnc79 := NB565_605.out; have hnb80 := NB605_585.out; have hnc80 := NB585_605.out; have hnb81 := NB605_592.out; have hnc81 := NB592_605.out; have hnb82 := NB605_598.out; have hnc82 := NB598_605.out; obtain ⟨⟨hcz83_0, hcz83_1, hcz83_2, hcz83_3⟩, hfz83_0, hfz83_1, hfz83_2, hfz83_3⟩ := cf4 BK605; obtain ⟨Ao84, co84, rfl⟩ := sL HO604; obtain ⟨⟨hcz85_0, hcz85_1, hcz85_2, hcz85_3⟩, hfz85_0, hfz85_1, hfz85_2, hfz85_3⟩ := cf4 BK585) | ((with_reducible refine gate_callee (f := 22) rfl ?_); refine gL (some 38) Try.func22 #[.agg #[.int .i64 t599, .int .i64 t600, .int .i64 t601, .slice Ao84 t602.length co84], .agg #[.int .i64 t579, .int .i64 t580, .int .i64 t581, .slice Ao54 t582.length co54]] ?_; (with_reducible refine (laws_eqImage.calls k t599 t600 t601 _ _ t602 t579 t580 t581 _ _ t582 true _ ?side1 ?side2 ?side3 ?side4 A25.out).mono ?_); (case side1 => refine (Kd.R_reads' (e := 3) (base := w.heap.size) (ok := fun k_ => (((((True ∧ some k_ ≠ (v572 : Value).ownBlock) ∧ some k_ ≠ (v576 : Value).ownBlock) ∧ some k_ ≠ (.slice Ao54 t582.length co54 : Value).ownBlock) ∧ some k_ ≠ (.slice Ao64 t589.length co64 : Value).ownBlock) ∧ some k_ ≠ (.slice Ao74 t594.length co74 : Value).ownBlock)) (n := t602.length) (c := co84) ?_).2.2; exact (by refine qR ?_; exact (fr4 HO604 BK605))); (case side2 => exact (Kd.R_reads' HO604.out).2.1); (case side3 => refine (Kd.R_reads' (e := 3) (base := w.heap.size) (ok := fun k_ => ((((some k_ ≠ (v572 : Value).ownBlock ∧ some k_ ≠ (v576 : Value).ownBlock) ∧ some k_ ≠ (.slice Ao64 t589.length co64 : Value).ownBlock) ∧ some k_ ≠ (.slice Ao74 t594.length co74 : Value).ownBlock) ∧ some k_ ≠ (.slice Ao84 t602.length co84 : Value).ownBlock)) (n := t582.length) (c := co54) ?_).2.2; exact (by refine qR ?_; exact (fr4 HO584 BK605))); (case side4 => exact (Kd.R_reads' HO584.out).2.1); rintro e w86 ⟨rfl, hb⟩; refine ⟨_, rfl, ?_⟩; replace HO573 := aM (Kd.R_below (by refine qR ?_; exact (fr4 HO573 BK605)) hb); replace HO577 := aM (Kd.R_below (by refine qR ?_; exact (fr4 HO577 BK605)) hb); replace HO584 := aM (Kd.R_below (by refine qR ?_; exact (fr4 HO584 BK605)) hb); replace HO591 := aM (Kd.R_below (by refine qR ?_; exact (fr4 HO591 BK605)) hb); replace HO596 := aM (Kd.R_below (by refine qR ?_; exact (fr4 HO596 BK605)) hb); replace HO604 := aM (Kd.R_below (by refine qR ?_; exact (fr4 HO604 BK605)) hb); replace BK564 := aM (blk_below (g := gb564) (o := .cells #[.int .i64 a0_0, .int .i64 a0_1, .int .i64 a0_2, .slice A0_3 l0_3.length c0_3] 34 (0, 0)) (by refine qB ?_; refine blk_far ?_ NB564_605.out _; refine qB ?_; refine blk_far ?_ NB564_605.out _; refine qB ?_; refine blk_far ?_ NB564_605.out _; refine qB ?_; refine blk_far ?_ NB564_605.out _; refine qB ?_; exact BK564.out) hb); replace BK565 := aM (blk_below (g := gb565) (o := .cells #[.int .i64 a1_0, .slice A1_1 l1_1.length c1_1, .int .i64 a1_2] 46 (0, 0)) (by refine qB ?_; refine blk_far ?_ NB565_605.out _; refine qB ?_; refine blk_far ?_ NB565_605.out _; refine qB ?_; refine blk_far ?_ NB565_605.out _; refine qB ?_; refine blk_far ?_ NB565_605.out _; refine qB ?_; exact BK565.out) hb); replace BK585 := aM (blk_below (g := gb585) (o := .cells #[.int .i64 t579, .int .i64 t580, .int .i64 t581, .slice Ao54 t582.length co54] 27 (0, 0)) (by refine qB ?_; refine blk_far ?_ NB585_605.out _; refine qB ?_; refine blk_far ?_ NB585_605.out _; refine qB ?_; refine blk_far ?_ NB585_605.out _; refine qB ?_; refine blk_far ?_ NB585_605.out _; refine qB ?_; exact BK585.out) hb); replace BK592 := aM (blk_below (g := gb592) (o := .cells #[.int .i64 t586, .int .i64 t587, .int .i64 t588, .slice Ao64 t589.length co64] 27 (0, 0)) (by refine qB ?_; refine blk_far ?_ NB592_605.out _; refine qB ?_; refine blk_far ?_ NB592_605.out _; refine qB ?_; refine blk_far ?_ NB592_605.out _; refine qB ?_; refine blk_far ?_ NB592_605.out _; refine qB ?_; exact BK592.out) hb); replace BK598 := aM (blk_below (g := gb598) (o := .cells #[.int .i64 t593, .slice Ao74 t594.length co74, .int .i64 t597] 49 (0, 0)) (by refine qB ?_; refine blk_far ?_ NB598_605.out _; refine qB ?_; refine blk_far ?_ NB598_605.out _; refine qB ?_; refine blk_far ?_ NB598_605.out _; refine qB ?_; refine blk_far ?_ NB598_605.out _; refine qB ?_; exact BK598.out) hb); replace BK605 := aM (blk_below (g := gb605) (o := .cells #[.int .i64 t599, .int .i64 t600, .int .i64 t601, .slice Ao84 t602.length co84] 27 (0, 0)) (by exact bP BK605.out) hb); replace HB := bS HB hb; clear hb))
 replace HO573 := aM (Kd.R_drew HO573.out)
 replace HO577 := aM (Kd.R_drew HO577.out)
 replace HO584 := aM (Kd.R_drew HO584.out)
 replace HO591 := aM (Kd.R_drew HO591.out)
 replace HO596 := aM (Kd.R_drew HO596.out)
 replace HO604 := aM (Kd.R_drew HO604.out)
 replace BK564 := aM (blk_drew BK564.out)
 replace BK565 := aM (blk_drew BK565.out)
 replace BK585 := aM (blk_drew BK585.out)
 replace BK592 := aM (blk_drew BK592.out)
 replace BK598 := aM (blk_drew BK598.out)
 replace BK605 := aM (blk_drew BK605.out)
 replace HB := aM (below_drew1 HB.out)
 refine start_ (n := 5) (S := fun w' => w'.cell? ⟨gb592, 0, none⟩ = some (.int .i64 t586) ∧ w'.cell? ⟨gb592, 1, none⟩ = some (.int .i64 t587) ∧ w'.cell? ⟨gb592, 2, none⟩ = some (.int .i64 t588) ∧ w'.cell? ⟨gb592, 3, none⟩ = some (.slice Ao64 t589.length co64) ∧ w'.cell? ⟨gb564, 0, none⟩ = some (.int .i64 a0_0) ∧ w'.cell? ⟨gb564, 1, none⟩ = some (.int .i64 a0_1) ∧ w'.cell? ⟨gb564, 2, none⟩ = some (.int .i64 a0_2) ∧ w'.cell? ⟨gb564, 3, none⟩ = some (.slice A0_3 l0_3.length c0_3)) (ds := []) (bA 5 0) (by kernel_rfl) rfl rfl ⟨(blk_cell BK592.out 0).trans rfl, (blk_cell BK592.out 1).trans rfl, (blk_cell BK592.out 2).trans rfl, (blk_cell BK592.out 3).trans rfl, (blk_cell BK564.out 0).trans rfl, (blk_cell BK564.out 1).trans rfl, (blk_cell BK564.out 2).trans rfl, (blk_cell BK564.out 3).trans rfl⟩ (fun hHeld => ?_)
 generalize w86.drew = w87 at HO573 HO577 HO584 HO591 HO596 HO604 BK564 BK565 BK585 BK592 BK598 BK605 HB hHeld ⊢
 refine take_ (i := 0) (N := some 40) (v := ?_) (a' := ?_) (bA 5 1) rfl rfl (by kernel_rfl) (fun _ _ _ h => h) (Or.inl ⟨by rfl, ?_⟩) hHeld ?_ ?_
 rotate_left
 ·rintro w' ⟨s0, s1, s2, s3, s4, s5, s6, s7⟩
  go_simp
  with_reducible rfl
 rotate_left
 ·refine pZ ?_
  rfl
 refine take_ (i := 1) (N := some 41) (v := ?_) (a' := ?_) (bA 5 3) rfl rfl (by kernel_rfl) (fun _ _ _ h => h) (Or.inl ⟨by rfl, ?_⟩) hHeld ?_ ?_
 rotate_left
 ·rintro w' ⟨s0, s1, s2, s3, s4, s5, s6, s7⟩
  go_simp
  with_reducible rfl
 rotate_left
 ·refine pZ ?_
  rfl
 refine one_ (i := 2) (N := some 42) (bA 5 7) rfl rfl (by kernel_rfl) (by decide) (fun K hK => ?_)
 refine goes_ Try.func20 (by kernel_rfl) rfl #[.agg #[.int .i64 a0_0, .int .i64 a0_1, .int .i64 a0_2, .slice A0_3 l0_3.length c0_3]] (by rfl) rfl rfl qM ?_
 with_reducible refine (laws_toImage.calls k a0_0 a0_1 a0_2 _ _ l0_3 t607 t608 t609 t610 _ ?side1 ?side2 A27.out).mono ?_
 (case side1 => exact qC (Kd.C_below HR0_3.out HB.out))
 (case side2 => exact HC0_3.out)
 rintro e w88 ⟨v611, rfl, ho0, hb⟩
 refine ⟨_, rfl, ?_⟩
 have HO612 := aM (Kd.R_lower (Kd.R_new' (Kd.R_new' (Kd.R_new' (Kd.R_new' (Kd.R_new' (Kd.R_new' ho0 (Kd.R_lt (qR HO573.out))) (Kd.R_lt (qR HO577.out))) (Kd.R_lt (qR HO584.out))) (Kd.R_lt (qR HO591.out))) (Kd.R_lt (qR HO596.out))) (Kd.R_lt (qR HO604.out))) (below_size (qW HB.out)))
 replace HO573 := aM (Kd.R_elder' (qR HO573.out) (Kd.R_base ho0) hb)
 replace HO577 := aM (Kd.R_elder' (qR HO577.out) (Kd.R_base ho0) hb)
 replace HO584 := aM (Kd.R_elder' (qR HO584.out) (Kd.R_base ho0) hb)
 replace HO591 := aM (Kd.R_elder' (qR HO591.out) (Kd.R_base ho0) hb)
 replace HO596 := aM (Kd.R_elder' (qR HO596.out) (Kd.R_base ho0) hb)
 replace HO604 := aM (Kd.R_elder' (qR HO604.out) (Kd.R_base ho0) hb)
 replace BK564 := bB BK564 hb
 replace BK565 := bB BK565 hb
 replace BK585 := bB BK585 hb
 replace BK592 := bB BK592 hb
 replace BK598 := bB BK598 hb
 replace BK605 := bB BK605 hb
 replace HB := bS HB hb
 (try clear hb)
 (try clear hb2)
 (try clear hk)
 (try clear hi)
 (try clear ho0)
 obtain ⟨Ao89, co89, eo89⟩ := Kd.R_slice HO612.out
 (first | subst eo89 | (injection eo89 with f1_ f2_ f3_; have f4_ := f1_.symm; have f5_ := f3_.symm; clear f1_ f2_ f3_; subst f4_; subst f5_))
 refine hK.out _ _ ⟨(blk_cell BK592.out 0).trans rfl, (blk_cell BK592.out 1).trans rfl, (blk_cell BK592.out 2).trans rfl, (blk_cell BK592.out 3).trans rfl, (blk_cell BK564.out 0).trans rfl, (blk_cell BK564.out 1).trans rfl, (blk_cell BK564.out 2).trans rfl, (blk_cell BK564.out 3).trans rfl⟩ (fun hHeld => ?_)
 clear hK K
 refine norm_ (a' := ?_) ?_ ?_
 rotate_left
 ·show Act.put _ (some 42) _ = _
  refine pZ ?_
  rfl
 refine one_ (i := 3) (N := some 43) (bA 5 15) rfl rfl (by kernel_rfl) (by decide) (fun K hK => ?_)
 refine goes_ Try.func22 (by kernel_rfl) rfl #[.agg #[.int .i64 t586, .int .i64 t587, .int .i64 t588, .slice Ao64 t589.length co64], .agg #[.int .i64 t607, .int .i64 t608, .int .i64 t609, .slice Ao89 t610.length co89]] (by rfl) rfl rfl qM ?_
 with_reducible refine (laws_eqImage.calls k t586 t587 t588 _ _ t589 t607 t608 t609 _ _ t610 true _ ?side1 ?side2 ?side3 ?side4 A28.out).mono ?_
 (case side1 => exact qC (Kd.R_reads' HO591.out).2.2)
 (case side2 => exact (Kd.R_reads' HO591.out).2.1)
 (case side3 => exact qC (Kd.R_reads' HO612.out).2.2)
 (case side4 => exact (Kd.R_reads' HO612.out).2.1)
 rintro e w90 ⟨rfl, hb⟩
 refine ⟨_, rfl, ?_⟩
 replace HO573 := aM (Kd.R_below (qR HO573.out) hb)
 replace HO577 := aM (Kd.R_below (qR HO577.out) hb)
 replace HO584 := aM (Kd.R_below (qR HO584.out) hb)
 replace HO591 := aM (Kd.R_below (qR HO591.out) hb)
 replace HO596 := aM (Kd.R_below (qR HO596.out) hb)
 replace HO604 := aM (Kd.R_below (qR HO604.out) hb)
 replace HO612 := aM (Kd.R_below (qR HO612.out) hb)
 replace BK564 := bB BK564 hb
 replace BK565 := bB BK565 hb
 replace BK585 := bB BK585 hb
 replace BK592 := bB BK592 hb
 replace BK598 := bB BK598 hb
 replace BK605 := bB BK605 hb
 replace HB := bS HB hb
 (try clear hb)
 (try clear hb2)
 (try clear hk)
 (try clear hi)
 refine hK.out _ _ ⟨(blk_cell BK592.out 0).trans rfl, (blk_cell BK592.out 1).trans rfl, (blk_cell BK592.out 2).trans rfl, (blk_cell BK592.out 3).trans rfl, (blk_cell BK564.out 0).trans rfl, (blk_cell BK564.out 1).trans rfl, (blk_cell BK564.out 2).trans rfl, (blk_cell BK564.out 3).trans rfl⟩ (fun hHeld => ?_)
 clear hK K
 refine norm_ (a' := ?_) ?_ ?_
 rotate_left
 ·show Act.put _ (some 43) _ = _
  refine pZ ?_
  rfl
 refine pure_ (i := 4) (N := some 44) (v := ?_) (a' := ?_) (bA 5 31) rfl rfl (by kernel_rfl) (fun _ _ _ h => h) (Or.inl ⟨by rfl, ?_⟩) ?_ ?_
 rotate_left
 ·intro w'
  go_simp
  with_reducible rfl
 rotate_left
 ·refine pZ ?_
  rfl
 refine done_ (by kernel_rfl) ?_
 try go_wp2
 replace HO573 := aM (Kd.R_drew HO573.out)
 replace HO577 := aM (Kd.R_drew HO577.out)
 replace HO584 := aM (Kd.R_drew HO584.out)
 replace HO591 := aM (Kd.R_drew HO591.out)
 replace HO596 := aM (Kd.R_drew HO596.out)
 replace HO604 := aM (Kd.R_drew HO604.out)
 replace HO612 := aM (Kd.R_drew HO612.out)
 replace BK564 := aM (blk_drew BK564.out)
 replace BK565 := aM (blk_drew BK565.out)
 replace BK585 := aM (blk_drew BK585.out)
 replace BK592 := aM (blk_drew BK592.out)
 replace BK598 := aM (blk_drew BK598.out)
 replace BK605 := aM (blk_drew BK605.out)
 replace HB := aM (below_drew1 HB.out)
 refine start_ (n := 5) (S := fun w' => w'.cell? ⟨gb598, 0, none⟩ = some (.int .i64 t593) ∧ w'.cell? ⟨gb598, 1, none⟩ = some (.slice Ao74 t594.length co74) ∧ w'.cell? ⟨gb598, 2, none⟩ = some (.int .i64 t597) ∧ w'.cell? ⟨gb565, 0, none⟩ = some (.int .i64 a1_0) ∧ w'.cell? ⟨gb565, 1, none⟩ = some (.slice A1_1 l1_1.length c1_1) ∧ w'.cell? ⟨gb565, 2, none⟩ = some (.int .i64 a1_2)) (ds := []) (bA 5 0) (by kernel_rfl) rfl rfl ⟨(blk_cell BK598.out 0).trans rfl, (blk_cell BK598.out 1).trans rfl, (blk_cell BK598.out 2).trans rfl, (blk_cell BK565.out 0).trans rfl, (blk_cell BK565.out 1).trans rfl, (blk_cell BK565.out 2).trans rfl⟩ (fun hHeld => ?_)
 generalize w90.drew = w91 at HO573 HO577 HO584 HO591 HO596 HO604 HO612 BK564 BK565 BK585 BK592 BK598 BK605 HB hHeld ⊢
 refine take_ (i := 0) (N := some 45) (v := ?_) (a' := ?_) (bA 5 1) rfl rfl (by kernel_rfl) (fun _ _ _ h => h) (Or.inl ⟨by rfl, ?_⟩) hHeld ?_ ?_
 rotate_left
 ·rintro w' ⟨s0, s1, s2, s3, s4, s5⟩
  go_simp
  with_reducible rfl
 rotate_left
 ·refine pZ ?_
  rfl
 refine take_ (i := 1) (N := some 46) (v := ?_) (a' := ?_) (bA 5 3) rfl rfl (by kernel_rfl) (fun _ _ _ h => h) (Or.inl ⟨by rfl, ?_⟩) hHeld ?_ ?_
 rotate_left
 ·rintro w' ⟨s0, s1, s2, s3, s4, s5⟩
  go_simp
  with_reducible rfl
 rotate_left
 ·refine pZ ?_
  rfl
 refine one_ (i := 2) (N := some 47) (bA 5 7) rfl rfl (by kernel_rfl) (by decide) (fun K hK => ?_)
 refine goes_ Try.func34 (by kernel_rfl) rfl #[.agg #[.int .i64 a1_0, .slice A1_1 l1_1.length c1_1, .int .i64 a1_2]] (by rfl) rfl rfl qM ?_
 with_reducible refine (laws_toKernel.calls k a1_0 _ _ l1_1 a1_2 t614 t615 t618 _ ?side1 ?side2 A30.out).mono ?_
 (case side1 => exact qC (Kd.C_below HR1_1.out HB.out))
 (case side2 => exact HC1_1.out)
 rintro e w92 ⟨v616, rfl, ho0, hb⟩
 refine ⟨_, rfl, ?_⟩
 have HO617 := aM (Kd.R_lower (Kd.R_new' (Kd.R_new' (Kd.R_new' (Kd.R_new' (Kd.R_new' (Kd.R_new' (Kd.R_new' ho0 (Kd.R_lt (qR HO573.out))) (Kd.R_lt (qR HO577.out))) (Kd.R_lt (qR HO584.out))) (Kd.R_lt (qR HO591.out))) (Kd.R_lt (qR HO596.out))) (Kd.R_lt (qR HO604.out))) (Kd.R_lt (qR HO612.out))) (below_size (qW HB.out)))
 replace HO573 := aM (Kd.R_elder' (qR HO573.out) (Kd.R_base ho0) hb)
 replace HO577 := aM (Kd.R_elder' (qR HO577.out) (Kd.R_base ho0) hb)
 replace HO584 := aM (Kd.R_elder' (qR HO584.out) (Kd.R_base ho0) hb)
 replace HO591 := aM (Kd.R_elder' (qR HO591.out) (Kd.R_base ho0) hb)
 replace HO596 := aM (Kd.R_elder' (qR HO596.out) (Kd.R_base ho0) hb)
 replace HO604 := aM (Kd.R_elder' (qR HO604.out) (Kd.R_base ho0) hb)
 replace HO612 := aM (Kd.R_elder' (qR HO612.out) (Kd.R_base ho0) hb)
 replace BK564 := bB BK564 hb
 replace BK565 := bB BK565 hb
 replace BK585 := bB BK585 hb
 replace BK592 := bB BK592 hb
 replace BK598 := bB BK598 hb
 replace BK605 := bB BK605 hb
 replace HB := bS HB hb
 (try clear hb)
 (try clear hb2)
 (try clear hk)
 (try clear hi)
 (try clear ho0)
 obtain ⟨Ao93, co93, eo93⟩ := Kd.R_slice HO617.out
 (first | subst eo93 | (injection eo93 with f1_ f2_ f3_; have f4_ := f1_.symm; have f5_ := f3_.symm; clear f1_ f2_ f3_; subst f4_; subst f5_))
 refine hK.out _ _ ⟨(blk_cell BK598.out 0).trans rfl, (blk_cell BK598.out 1).trans rfl, (blk_cell BK598.out 2).trans rfl, (blk_cell BK565.out 0).trans rfl, (blk_cell BK565.out 1).trans rfl, (blk_cell BK565.out 2).trans rfl⟩ (fun hHeld => ?_)
 clear hK K
 refine norm_ (a' := ?_) ?_ ?_
 rotate_left
 ·show Act.put _ (some 47) _ = _
  refine pZ ?_
  rfl
 refine one_ (i := 3) (N := some 48) (bA 5 15) rfl rfl (by kernel_rfl) (by decide) (fun K hK => ?_)
 refine goes_ Try.func36 (by kernel_rfl) rfl #[.agg #[.int .i64 t593, .slice Ao74 t594.length co74, .int .i64 t597], .agg #[.int .i64 t614, .slice Ao93 t615.length co93, .int .i64 t618]] (by rfl) rfl rfl qM ?_
 with_reducible refine (laws_eqKernel.calls k t593 _ _ t594 t597 t614 _ _ t615 t618 true _ ?side1 ?side2 ?side3 ?side4 A31.out).mono ?_
 (case side1 => exact qC (Kd.R_reads' HO596.out).2.2)
 (case side2 => exact (Kd.R_reads' HO596.out).2.1)
 (case side3 => exact qC (Kd.R_reads' HO617.out).2.2)
 (case side4 => exact (Kd.R_reads' HO617.out).2.1)
 rintro e w94 ⟨rfl, hb⟩
 refine ⟨_, rfl, ?_⟩
 replace HO573 := aM (Kd.R_below (qR HO573.out) hb)
 replace HO577 := aM (Kd.R_below (qR HO577.out) hb)
 replace HO584 := aM (Kd.R_below (qR HO584.out) hb)
 replace HO591 := aM (Kd.R_below (qR HO591.out) hb)
 replace HO596 := aM (Kd.R_below (qR HO596.out) hb)
 replace HO604 := aM (Kd.R_below (qR HO604.out) hb)
 replace HO612 := aM (Kd.R_below (qR HO612.out) hb)
 replace HO617 := aM (Kd.R_below (qR HO617.out) hb)
 replace BK564 := bB BK564 hb
 replace BK565 := bB BK565 hb
 replace BK585 := bB BK585 hb
 replace BK592 := bB BK592 hb
 replace BK598 := bB BK598 hb
 replace BK605 := bB BK605 hb
 replace HB := bS HB hb
 (try clear hb)
 (try clear hb2)
 (try clear hk)
 (try clear hi)
 refine hK.out _ _ ⟨(blk_cell BK598.out 0).trans rfl, (blk_cell BK598.out 1).trans rfl, (blk_cell BK598.out 2).trans rfl, (blk_cell BK565.out 0).trans rfl, (blk_cell BK565.out 1).trans rfl, (blk_cell BK565.out 2).trans rfl⟩ (fun hHeld => ?_)
 clear hK K
 refine norm_ (a' := ?_) ?_ ?_
 rotate_left
 ·show Act.put _ (some 48) _ = _
  refine pZ ?_
  rfl
 refine pure_ (i := 4) (N := some 49) (v := ?_) (a' := ?_) (bA 5 31) rfl rfl (by kernel_rfl) (fun _ _ _ h => h) (Or.inl ⟨by rfl, ?_⟩) ?_ ?_
 rotate_left
 ·intro w'
  go_simp
  with_reducible rfl
 rotate_left
 ·refine pZ ?_
  rfl
 refine done_ (by kernel_rfl) ?_
 obtain ⟨⟨hcz95_0, hcz95_1, hcz95_2, hcz95_3⟩, hfz95_0, hfz95_1, hfz95_2, hfz95_3⟩ := cf4 BK592
 go_upto_region 21 with (first | ((with_reducible refine gate_callee (f := 23) rfl ?_); refine gL (some 52) Try.func23 #[.agg #[.int .i64 t586, .int .i64 t587, .int .i64 t588, .slice Ao64 t589.length co64], .int .i64 1] ?_; (with_reducible refine (laws_markImage.calls k t586 t587 t588 (fun k_ => some k_ = (.slice Ao64 t589.length co64 : Value).ownBlock) (.slice Ao64 t589.length co64) t589 1 t620 t621 w _ ?side1 ?side2 A33.out).mono ?_); (case side1 => exact qW HB.out); (case side2 => exact Kd.R_tight rfl HO591.out); rintro e w96 ⟨rfl, hy0, hb, hkp⟩; refine ⟨_, rfl, ?_⟩; replace BK564 := aM (blk_kept (qB BK564.out) hkp (fun hs_ => (fun e_ => (Kd.R_ne HO591.out BK564.out (by decide)) e_) hs_)); replace BK565 := aM (blk_kept (qB BK565.out) hkp (fun hs_ => (fun e_ => (Kd.R_ne HO591.out BK565.out (by decide)) e_) hs_)); replace HO573 := aM (Kd.R_mono (ok' := fun k_ => some k_ ≠ (v576 : Value).ownBlock ∧ some k_ ≠ (.slice Ao54 t582.length co54 : Value).ownBlock ∧ some k_ ≠ (.slice Ao64 t589.length co64 : Value).ownBlock ∧ some k_ ≠ (.slice Ao74 t594.length co74 : Value).ownBlock ∧ some k_ ≠ (.slice Ao84 t602.length co84 : Value).ownBlock ∧ some k_ ≠ (.slice Ao89 t610.length co89 : Value).ownBlock ∧ some k_ ≠ (.slice Ao93 t615.length co93 : Value).ownBlock) (Kd.R_keptB (HO573.out) hkp (fun k_ hk_ hs_ => by first | exact hk_.1.1.1.1.2 hs_ | (revert hk_; simp only [and_imp]; intros; contradiction))) (fun k_ hk_ => by first | exact ⟨hk_.1.1.1.1.1.1.1, hk_.1.1.1.1.1.1.2, hk_.1.1.1.1.1.2, hk_.1.1.1.1.2, hk_.1.1.1.2, hk_.1.1.2, hk_.1.2⟩ | (revert hk_; simp only [and_imp]; intros; and_intros <;> assumption))); replace HO577 := aM (Kd.R_mono (ok' := fun k_ => some k_ ≠ (v572 : Value).ownBlock ∧ some k_ ≠ (.slice Ao54 t582.length co54 : Value).ownBlock ∧ some k_ ≠ (.slice Ao64 t589.length co64 : Value).ownBlock ∧ some k_ ≠ (.slice Ao74 t594.length co74 : Value).ownBlock ∧ some k_ ≠ (.slice Ao84 t602.length co84 : Value).ownBlock ∧ some k_ ≠ (.slice Ao89 t610.length co89 : Value).ownBlock ∧ some k_ ≠ (.slice Ao93 t615.length co93 : Value).ownBlock) (Kd.R_keptB (HO577.out) hkp (fun k_ hk_ hs_ => by first | exact hk_.1.1.1.1.2 hs_ | (revert hk_; simp only [and_imp]; intros; contradiction))) (fun k_ hk_ => by first | exact ⟨hk_.1.1.1.1.1.1.1, hk_.1.1.1.1.1.1.2, hk_.1.1.1.1.1.2, hk_.1.1.1.1.2, hk_.1.1.1.2, hk_.1.1.2, hk_.1.2⟩ | (revert hk_; simp only [and_imp]; intros; and_intros <;> assumption))); replace HO584 := aM (Kd.R_mono (ok' := fun k_ => some k_ ≠ (v572 : Value).ownBlock ∧ some k_ ≠ (v576 : Value).ownBlock ∧ some k_ ≠ (.slice Ao64 t589.length co64 : Value).ownBlock ∧ some k_ ≠ (.slice Ao74 t594.length co74 : Value).ownBlock ∧ some k_ ≠ (.slice Ao84 t602.length co84 : Value).ownBlock ∧ some k_ ≠ (.slice Ao89 t610.length co89 : Value).ownBlock ∧ some k_ ≠ (.slice Ao93 t615.length co93 : Value).ownBlock) (Kd.R_keptB (HO584.out) hkp (fun k_ hk_ hs_ => by first | exact hk_.1.1.1.1.2 hs_ | (revert hk_; simp only [and_imp]; intros; contradiction))) (fun k_ hk_ => by first | exact ⟨hk_.1.1.1.1.1.1.1, hk_.1.1.1.1.1.1.2, hk_.1.1.1.1.1.2, hk_.1.1.1.1.2, hk_.1.1.1.2, hk_.1.1.2, hk_.1.2⟩ | (revert hk_; simp only [and_imp]; intros; and_intros <;> assumption))); replace BK585 := aM (blk_kept (qB BK585.out) hkp (fun hs_ => (fun e_ => (Kd.R_ne HO591.out BK585.out (by decide)) e_) hs_)); replace BK592 := aM (blk_kept (qB BK592.out) hkp (fun hs_ => (fun e_ => (Kd.R_ne HO591.out BK592.out (by decide)) e_) hs_)); replace HO596 := aM (Kd.R_mono (ok' := fun k_ => some k_ ≠ (v572 : Value).ownBlock ∧ some k_ ≠ (v576 : Value).ownBlock ∧ some k_ ≠ (.slice Ao54 t582.length co54 : Value).ownBlock ∧ some k_ ≠ (.slice Ao64 t589.length co64 : Value).ownBlock ∧ some k_ ≠ (.slice Ao84 t602.length co84 : Value).ownBlock ∧ some k_ ≠ (.slice Ao89 t610.length co89 : Value).ownBlock ∧ some k_ ≠ (.slice Ao93 t615.length co93 : Value).ownBlock) (Kd.R_keptB (HO596.out) hkp (fun k_ hk_ hs_ => by first | exact hk_.1.1.1.2 hs_ | (revert hk_; simp only [and_imp]; intros; contradiction))) (fun k_ hk_ => by first | exact ⟨hk_.1.1.1.1.1.1.1.2, hk_.1.1.1.1.1.1.2, hk_.1.1.1.1.1.2, hk_.1.1.1.1.2, hk_.1.1.1.2, hk_.1.1.2, hk_.1.2⟩ | (revert hk_; simp only [and_imp]; intros; and_intros <;> assumption))); replace BK598 := aM (blk_kept (qB BK598.out) hkp (fun hs_ => (fun e_ => (Kd.R_ne HO591.out BK598.out (by decide)) e_) hs_)); replace HO604 := aM (Kd.R_mono (ok' := fun k_ => some k_ ≠ (v572 : Value).ownBlock ∧ some k_ ≠ (v576 : Value).ownBlock ∧ some k_ ≠ (.slice Ao54 t582.length co54 : Value).ownBlock ∧ some k_ ≠ (.slice Ao64 t589.length co64 : Value).ownBlock ∧ some k_ ≠ (.slice Ao74 t594.length co74 : Value).ownBlock ∧ some k_ ≠ (.slice Ao89 t610.length co89 : Value).ownBlock ∧ some k_ ≠ (.slice Ao93 t615.length co93 : Value).ownBlock) (Kd.R_keptB (HO604.out) hkp (fun k_ hk_ hs_ => by first | exact hk_.1.1.1.2 hs_ | (revert hk_; simp only [and_imp]; intros; contradiction))) (fun k_ hk_ => by first | exact ⟨hk_.1.1.1.1.1.1.1.2, hk_.1.1.1.1.1.1.2, hk_.1.1.1.1.1.2, hk_.1.1.1.1.2, hk_.1.1.1.2, hk_.1.1.2, hk_.1.2⟩ | (revert hk_; simp only [and_imp]; intros; and_intros <;> assumption))); replace BK605 := aM (blk_kept (qB BK605.out) hkp (fun hs_ => (fun e_ => (Kd.R_ne HO591.out BK605.out (by decide)) e_) hs_)); replace HO591 := aM (Kd.R_reok rfl hy0 (fun k_ e_ => HO591.out.1 k_ e_)); replace HO612 := aM (Kd.R_mono (ok' := fun k_ => some k_ ≠ (v572 : Value).ownBlock ∧ some k_ ≠ (v576 : Value).ownBlock ∧ some k_ ≠ (.slice Ao54 t582.length co54 : Value).ownBlock ∧ some k_ ≠ (.slice Ao64 t589.length co64 : Value).ownBlock ∧ some k_ ≠ (.slice Ao74 t594.length co74 : Value).ownBlock ∧ some k_ ≠ (.slice Ao84 t602.length co84 : Value).ownBlock ∧ some k_ ≠ (.slice Ao93 t615.length co93 : Value).ownBlock) (Kd.R_keptB (HO612.out) hkp (fun k_ hk_ hs_ => by first | exact hk_.1.1.1.2 hs_ | (revert hk_; simp only [and_imp]; intros; contradiction))) (fun k_ hk_ => by first | exact ⟨hk_.1.1.1.1.1.1.1.2, hk_.1.1.1.1.1.1.2, hk_.1.1.1.1.1.2, hk_.1.1.1.1.2, hk_.1.1.1.2, hk_.1.1.2, hk_.1.2⟩ | (revert hk_; simp only [and_imp]; intros; and_intros <;> assumption))); replace HO617 := aM (Kd.R_mono (ok' := fun k_ => some k_ ≠ (v572 : Value).ownBlock ∧ some k_ ≠ (v576 : Value).ownBlock ∧ some k_ ≠ (.slice Ao54 t582.length co54 : Value).ownBlock ∧ some k_ ≠ (.slice Ao64 t589.length co64 : Value).ownBlock ∧ some k_ ≠ (.slice Ao74 t594.length co74 : Value).ownBlock ∧ some k_ ≠ (.slice Ao84 t602.length co84 : Value).ownBlock ∧ some k_ ≠ (.slice Ao89 t610.length co89 : Value).ownBlock) (Kd.R_keptB (HO617.out) hkp (fun k_ hk_ hs_ => by first | exact hk_.1.1.1.2 hs_ | (revert hk_; simp only [and_imp]; intros; contradiction))) (fun k_ hk_ => by first | exact ⟨hk_.1.1.1.1.1.1.1.2, hk_.1.1.1.1.1.1.2, hk_.1.1.1.1.1.2, hk_.1.1.1.1.2, hk_.1.1.1.2, hk_.1.1.2, hk_.1.2⟩ | (revert hk_; simp only [and_imp]; intros; and_intros <;> assumption))); replace HB := aM (hb); clear hb hkp hy0; obtain ⟨⟨hcz97_0, hcz97_1, hcz97_2⟩, hfz97_0, hfz97_1, hfz97_2⟩ := cf3 BK598) | ((with_reducible refine gate_callee (f := 37) rfl ?_); refine gL (some 55) Try.func37 #[.agg #[.int .i64 t593, .slice Ao74 t594.length co74, .int .i64 t597], .int .i64 t620] ?_; (with_reducible refine (laws_markKernel.calls k t593 (fun k_ => some k_ = (.slice Ao74 t594.length co74 : Value).ownBlock) (.slice Ao74 t594.length co74) t594 t597 t620 t622 t623 w _ ?side1 ?side2 A34.out).mono ?_); (case side1 => exact qW HB.out); (case side2 => exact Kd.R_tight rfl HO596.out); rintro e w98 ⟨rfl, hy0, hb, hkp⟩; refine ⟨_, rfl, ?_⟩; replace BK564 := aM (blk_kept (qB BK564.out) hkp (fun hs_ => (fun e_ => (Kd.R_ne HO596.out BK564.out (by decide)) e_) hs_)); replace BK565 := aM (blk_kept (qB BK565.out) hkp (fun hs_ => (fun e_ => (Kd.R_ne HO596.out BK565.out (by decide)) e_) hs_)); replace HO573 := aM (Kd.R_mono (ok' := fun k_ => some k_ ≠ (v576 : Value).ownBlock ∧ some k_ ≠ (.slice Ao54 t582.length co54 : Value).ownBlock ∧ some k_ ≠ (.slice Ao64 t589.length co64 : Value).ownBlock ∧ some k_ ≠ (.slice Ao74 t594.length co74 : Value).ownBlock ∧ some k_ ≠ (.slice Ao84 t602.length co84 : Value).ownBlock ∧ some k_ ≠ (.slice Ao89 t610.length co89 : Value).ownBlock ∧ some k_ ≠ (.slice Ao93 t615.length co93 : Value).ownBlock) (Kd.R_keptB (HO573.out) hkp (fun k_ hk_ hs_ => by first | exact hk_.2.2.2.1 hs_ | (revert hk_; simp only [and_imp]; intros; contradiction))) (fun k_ hk_ => by first | exact ⟨hk_.1.1, hk_.1.2.1, hk_.1.2.2.1, hk_.1.2.2.2.1, hk_.1.2.2.2.2.1, hk_.1.2.2.2.2.2.1, hk_.1.2.2.2.2.2.2⟩ | (revert hk_; simp only [and_imp]; intros; and_intros <;> assumption))); replace HO577 := aM (Kd.R_mono (ok' := fun k_ => some k_ ≠ (v572 : Value).ownBlock ∧ some k_ ≠ (.slice Ao54 t582.length co54 : Value).ownBlock ∧ some k_ ≠ (.slice Ao64 t589.length co64 : Value).ownBlock ∧ some k_ ≠ (.slice Ao74 t594.length co74 : Value).ownBlock ∧ some k_ ≠ (.slice Ao84 t602.length co84 : Value).ownBlock ∧ some k_ ≠ (.slice Ao89 t610.length co89 : Value).ownBlock ∧ some k_ ≠ (.slice Ao93 t615.length co93 : Value).ownBlock) (Kd.R_keptB (HO577.out) hkp (fun k_ hk_ hs_ => by first | exact hk_.2.2.2.1 hs_ | (revert hk_; simp only [and_imp]; intros; contradiction))) (fun k_ hk_ => by first | exact ⟨hk_.1.1, hk_.1.2.1, hk_.1.2.2.1, hk_.1.2.2.2.1, hk_.1.2.2.2.2.1, hk_.1.2.2.2.2.2.1, hk_.1.2.2.2.2.2.2⟩ | (revert hk_; simp only [and_imp]; intros; and_intros <;> assumption))); replace HO584 := aM (Kd.R_mono (ok' := fun k_ => some k_ ≠ (v572 : Value).ownBlock ∧ some k_ ≠ (v576 : Value).ownBlock ∧ some k_ ≠ (.slice Ao64 t589.length co64 : Value).ownBlock ∧ some k_ ≠ (.slice Ao74 t594.length co74 : Value).ownBlock ∧ some k_ ≠ (.slice Ao84 t602.length co84 : Value).ownBlock ∧ some k_ ≠ (.slice Ao89 t610.length co89 : Value).ownBlock ∧ some k_ ≠ (.slice Ao93 t615.length co93 : Value).ownBlock) (Kd.R_keptB (HO584.out) hkp (fun k_ hk_ hs_ => by first | exact hk_.2.2.2.1 hs_ | (revert hk_; simp only [and_imp]; intros; contradiction))) (fun k_ hk_ => by first | exact ⟨hk_.1.1, hk_.1.2.1, hk_.1.2.2.1, hk_.1.2.2.2.1, hk_.1.2.2.2.2.1, hk_.1.2.2.2.2.2.1, hk_.1.2.2.2.2.2.2⟩ | (revert hk_; simp only [and_imp]; intros; and_intros <;> assumption))); replace BK585 := aM (blk_kept (qB BK585.out) hkp (fun hs_ => (fun e_ => (Kd.R_ne HO596.out BK585.out (by decide)) e_) hs_)); replace HO591 := aM (Kd.R_mono (ok' := fun k_ => some k_ ≠ (v572 : Value).ownBlock ∧ some k_ ≠ (v576 : Value).ownBlock ∧ some k_ ≠ (.slice Ao54 t582.length co54 : Value).ownBlock ∧ some k_ ≠ (.slice Ao74 t594.length co74 : Value).ownBlock ∧ some k_ ≠ (.slice Ao84 t602.length co84 : Value).ownBlock ∧ some k_ ≠ (.slice Ao89 t610.length co89 : Value).ownBlock ∧ some k_ ≠ (.slice Ao93 t615.length co93 : Value).ownBlock) (Kd.R_keptB (HO591.out) hkp (fun k_ hk_ hs_ => by first | exact hk_.1.1.1.2 hs_ | (revert hk_; simp only [and_imp]; intros; contradiction))) (fun k_ hk_ => by first | exact ⟨hk_.1.1.1.1.1.1.1.2, hk_.1.1.1.1.1.1.2, hk_.1.1.1.1.1.2, hk_.1.1.1.1.2, hk_.1.1.1.2, hk_.1.1.2, hk_.1.2⟩ | (revert hk_; simp only [and_imp]; intros; and_intros <;> assumption))); replace BK592 := aM (blk_kept (qB BK592.out) hkp (fun hs_ => (fun e_ => (Kd.R_ne HO596.out BK592.out (by decide)) e_) hs_)); replace BK598 := aM (blk_kept (qB BK598.out) hkp (fun hs_ => (fun e_ => (Kd.R_ne HO596.out BK598.out (by decide)) e_) hs_)); replace HO604 := aM (Kd.R_mono (ok' := fun k_ => some k_ ≠ (v572 : Value).ownBlock ∧ some k_ ≠ (v576 : Value).ownBlock ∧ some k_ ≠ (.slice Ao54 t582.length co54 : Value).ownBlock ∧ some k_ ≠ (.slice Ao64 t589.length co64 : Value).ownBlock ∧ some k_ ≠ (.slice Ao74 t594.length co74 : Value).ownBlock ∧ some k_ ≠ (.slice Ao89 t610.length co89 : Value).ownBlock ∧ some k_ ≠ (.slice Ao93 t615.length co93 : Value).ownBlock) (Kd.R_keptB (HO604.out) hkp (fun k_ hk_ hs_ => by first | exact hk_.2.2.2.2.1 hs_ | (revert hk_; simp only [and_imp]; intros; contradiction))) (fun k_ hk_ => by first | exact ⟨hk_.1.1, hk_.1.2.1, hk_.1.2.2.1, hk_.1.2.2.2.1, hk_.1.2.2.2.2.1, hk_.1.2.2.2.2.2.1, hk_.1.2.2.2.2.2.2⟩ | (revert hk_; simp only [and_imp]; intros; and_intros <;> assumption))); replace BK605 := aM (blk_kept (qB BK605.out) hkp (fun hs_ => (fun e_ => (Kd.R_ne HO596.out BK605.out (by decide)) e_) hs_)); replace HO596 := aM (Kd.R_reok rfl hy0 (fun k_ e_ => HO596.out.1 k_ e_)); replace HO612 := aM (Kd.R_mono (ok' := fun k_ => some k_ ≠ (v572 : Value).ownBlock ∧ some k_ ≠ (v576 : Value).ownBlock ∧ some k_ ≠ (.slice Ao54 t582.length co54 : Value).ownBlock ∧ some k_ ≠ (.slice Ao64 t589.length co64 : Value).ownBlock ∧ some k_ ≠ (.slice Ao74 t594.length co74 : Value).ownBlock ∧ some k_ ≠ (.slice Ao84 t602.length co84 : Value).ownBlock ∧ some k_ ≠ (.slice Ao93 t615.length co93 : Value).ownBlock) (Kd.R_keptB (HO612.out) hkp (fun k_ hk_ hs_ => by first | exact hk_.2.2.2.2.1 hs_ | (revert hk_; simp only [and_imp]; intros; contradiction))) (fun k_ hk_ => by first | exact ⟨hk_.1.1, hk_.1.2.1, hk_.1.2.2.1, hk_.1.2.2.2.1, hk_.1.2.2.2.2.1, hk_.1.2.2.2.2.2.1, hk_.1.2.2.2.2.2.2⟩ | (revert hk_; simp only [and_imp]; intros; and_intros <;> assumption))); replace HO617 := aM (Kd.R_mono (ok' := fun k_ => some k_ ≠ (v572 : Value).ownBlock ∧ some k_ ≠ (v576 : Value).ownBlock ∧ some k_ ≠ (.slice Ao54 t582.length co54 : Value).ownBlock ∧ some k_ ≠ (.slice Ao64 t589.length co64 : Value).ownBlock ∧ some k_ ≠ (.slice Ao74 t594.length co74 : Value).ownBlock ∧ some k_ ≠ (.slice Ao84 t602.length co84 : Value).ownBlock ∧ some k_ ≠ (.slice Ao89 t610.length co89 : Value).ownBlock) (Kd.R_keptB (HO617.out) hkp (fun k_ hk_ hs_ => by first | exact hk_.2.2.2.2.1 hs_ | (revert hk_; simp only [and_imp]; intros; contradiction))) (fun k_ hk_ => by first | exact ⟨hk_.1.1, hk_.1.2.1, hk_.1.2.2.1, hk_.1.2.2.2.1, hk_.1.2.2.2.2.1, hk_.1.2.2.2.2.2.1, hk_.1.2.2.2.2.2.2⟩ | (revert hk_; simp only [and_imp]; intros; and_intros <;> assumption))); replace HB := aM (hb); clear hb hkp hy0))
 (try simp only [Act.put, List.setIfInBounds_toArray, List.set_cons_zero, List.set_cons_succ])
 go_cut [63] (fun v63 wc => ∃ (kq : Nat) (x63_34 : Bool), v63 = .bool x63_34 ∧ Aside0 (laws_FnExactConvolveImage.j0 kq x63_34 a0_0 a0_1 a0_2 l0_3 a1_0 l1_1 a1_2 t579 t580 t581 t582 t599 t600 t601 t602 = some r) ∧ Aside0 (kq ≤ k) ∧ Aside0 (Kd.R (Kd.int .i64) 3 wc w.heap.size (fun k_ => some k_ ≠ ((.slice Ao64 t589.length co64) : Value).ownBlock ∧ some k_ ≠ ((.slice Ao74 t594.length co74) : Value).ownBlock ∧ some k_ ≠ ((.slice Ao84 t602.length co84) : Value).ownBlock) (.slice Ao54 t582.length co54) t582) ∧ Aside0 (Kd.R (Kd.int .i64) 3 wc w.heap.size (fun k_ => some k_ ≠ ((.slice Ao54 t582.length co54) : Value).ownBlock ∧ some k_ ≠ ((.slice Ao74 t594.length co74) : Value).ownBlock ∧ some k_ ≠ ((.slice Ao84 t602.length co84) : Value).ownBlock) (.slice Ao64 t589.length co64) t621) ∧ Aside0 (Kd.R (Kd.int .i64) 3 wc w.heap.size (fun k_ => some k_ ≠ ((.slice Ao54 t582.length co54) : Value).ownBlock ∧ some k_ ≠ ((.slice Ao64 t589.length co64) : Value).ownBlock ∧ some k_ ≠ ((.slice Ao84 t602.length co84) : Value).ownBlock) (.slice Ao74 t594.length co74) t623) ∧ Aside0 (Kd.R (Kd.int .i64) 3 wc w.heap.size (fun k_ => some k_ ≠ ((.slice Ao54 t582.length co54) : Value).ownBlock ∧ some k_ ≠ ((.slice Ao64 t589.length co64) : Value).ownBlock ∧ some k_ ≠ ((.slice Ao74 t594.length co74) : Value).ownBlock) (.slice Ao84 t602.length co84) t602) ∧ Aside0 (wc.heap[gb564]? = some (.cells #[.int .i64 a0_0, .int .i64 a0_1, .int .i64 a0_2, (.slice A0_3 l0_3.length c0_3)] 34 (0, 0))) ∧ Aside0 (wc.heap[gb565]? = some (.cells #[.int .i64 a1_0, (.slice A1_1 l1_1.length c1_1), .int .i64 a1_2] 46 (0, 0))) ∧ Aside0 (wc.heap[gb585]? = some (.cells #[.int .i64 t579, .int .i64 t580, .int .i64 t581, (.slice Ao54 t582.length co54)] 27 (0, 0))) ∧ Aside0 (wc.heap[gb592]? = some (.cells #[.int .i64 t586, .int .i64 t587, .int .i64 t588, (.slice Ao64 t589.length co64)] 27 (0, 0))) ∧ Aside0 (wc.heap[gb598]? = some (.cells #[.int .i64 t593, (.slice Ao74 t594.length co74), .int .i64 t597] 49 (0, 0))) ∧ Aside0 (wc.heap[gb605]? = some (.cells #[.int .i64 t599, .int .i64 t600, .int .i64 t601, (.slice Ao84 t602.length co84)] 27 (0, 0))) ∧ Aside0 (Below w.heap.size w wc))
 case first =>
  have H := HC35.out
  clear HC35
  by_cases c99 : t622 < 0
  ·rw [if_pos c99] at H
   have c99b0 : decide (t622 < 0) = true := decide_eq_true c99
   clear c99
   (first | rw [c99b0] | (simp only [i64_w, i32_w]; rw [c99b0]) | skip)
   have H' := aM H
   clear H
   go_wp2
   go_meet
   case rel => exact ⟨_, (true), qE, H', ⟨by first | omega | exact Nat.le_refl _⟩, ⟨by refine qR ?_; exact Kd.R_mono HO584.out (fun _ hk => ⟨hk.2.2.1, ⟨hk.2.2.2.1, hk.2.2.2.2.1⟩⟩)⟩, ⟨by refine qR ?_; exact Kd.R_mono HO591.out (fun _ hk => ⟨hk.2.2.1, ⟨hk.2.2.2.1, hk.2.2.2.2.1⟩⟩)⟩, ⟨by refine qR ?_; exact Kd.R_mono HO596.out (fun _ hk => ⟨hk.2.2.1, ⟨hk.2.2.2.1, hk.2.2.2.2.1⟩⟩)⟩, ⟨by refine qR ?_; exact Kd.R_mono HO604.out (fun _ hk => ⟨hk.2.2.1, ⟨hk.2.2.2.1, hk.2.2.2.2.1⟩⟩)⟩, ⟨by refine qB ?_; exact BK564.out⟩, ⟨by refine qB ?_; exact BK565.out⟩, ⟨by refine qB ?_; exact BK585.out⟩, ⟨by refine qB ?_; exact BK592.out⟩, ⟨by refine qB ?_; exact BK598.out⟩, ⟨by refine qB ?_; exact BK605.out⟩, ⟨by exact qW HB.out⟩⟩
  rw [if_neg c99] at H
  have c99b0 : decide (t622 < 0) = false := decide_eq_false c99
  clear c99
  (first | rw [c99b0] | (simp only [i64_w, i32_w]; rw [c99b0]) | skip)
  replace H := Option.bind_eq_some_iff.mp H
  obtain ⟨t624, A1000, H⟩ := H
  replace H : (laws_FnExactConvolveImage.j0 k (!t624) a0_0 a0_1 a0_2 l0_3 a1_0 l1_1 a1_2 t579 t580 t581 t582 t599 t600 t601 t602) = some r := H
  have A100 := aM A1000
  clear A1000
  have H' := aM H
  clear H
  have hnb101 := NB605_564.out
  have hnc101 := NB564_605.out
  have hnb102 := NB605_565.out
  have hnc102 := NB565_605.out
  have hnb103 := NB605_585.out
  have hnc103 := NB585_605.out
  have hnb104 := NB605_592.out
  have hnc104 := NB592_605.out
  have hnb105 := NB605_598.out
  have hnc105 := NB598_605.out
  obtain ⟨⟨hcz106_0, hcz106_1, hcz106_2, hcz106_3⟩, hfz106_0, hfz106_1, hfz106_2, hfz106_3⟩ := cf4 BK605
  have hnb107 := NB585_564.out
  have hnc107 := NB564_585.out
  have hnb108 := NB585_565.out
  have hnc108 := NB565_585.out
  have hnb109 := NB585_592.out
  have hnc109 := NB592_585.out
  have hnb110 := NB585_598.out
  have hnc110 := NB598_585.out
  obtain ⟨⟨hcz111_0, hcz111_1, hcz111_2, hcz111_3⟩, hfz111_0, hfz111_1, hfz111_2, hfz111_3⟩ := cf4 BK585
  go_wp2_with (first | (go_at_call 22; (with_reducible refine (laws_eqImage.calls k t599 t600 t601 _ _ t602 t579 t580 t581 _ _ t582 t624 _ ?side1 ?side2 ?side3 ?side4 A100.out).mono ?_); (case side1 => exact qC (Kd.R_reads' HO604.out).2.2); (case side2 => exact (Kd.R_reads' HO604.out).2.1); (case side3 => exact qC (Kd.R_reads' HO584.out).2.2); (case side4 => exact (Kd.R_reads' HO584.out).2.1); rintro e w112 ⟨rfl, hb⟩; replace HO573 := aM (Kd.R_below (qR HO573.out) hb); replace HO577 := aM (Kd.R_below (qR HO577.out) hb); replace HO584 := aM (Kd.R_below (qR HO584.out) hb); replace HO591 := aM (Kd.R_below (qR HO591.out) hb); replace HO596 := aM (Kd.R_below (qR HO596.out) hb); replace HO604 := aM (Kd.R_below (qR HO604.out) hb); replace HO612 := aM (Kd.R_below (qR HO612.out) hb); replace HO617 := aM (Kd.R_below (qR HO617.out) hb); replace BK564 := bB BK564 hb; replace BK565 := bB BK565 hb; replace BK585 := bB BK585 hb; replace BK592 := bB BK592 hb; replace BK598 := bB BK598 hb; replace BK605 := bB BK605 hb; replace HB := bS HB hb; clear hb))
  go_meet
  case rel => exact ⟨_, (!t624), qE, H', ⟨by first | omega | exact Nat.le_refl _⟩, ⟨by refine qR ?_; exact Kd.R_mono HO584.out (fun _ hk => ⟨hk.2.2.1, ⟨hk.2.2.2.1, hk.2.2.2.2.1⟩⟩)⟩, ⟨by refine qR ?_; exact Kd.R_mono HO591.out (fun _ hk => ⟨hk.2.2.1, ⟨hk.2.2.2.1, hk.2.2.2.2.1⟩⟩)⟩, ⟨by refine qR ?_; exact Kd.R_mono HO596.out (fun _ hk => ⟨hk.2.2.1, ⟨hk.2.2.2.1, hk.2.2.2.2.1⟩⟩)⟩, ⟨by refine qR ?_; exact Kd.R_mono HO604.out (fun _ hk => ⟨hk.2.2.1, ⟨hk.2.2.2.1, hk.2.2.2.2.1⟩⟩)⟩, ⟨by refine qB ?_; exact BK564.out⟩, ⟨by refine qB ?_; exact BK565.out⟩, ⟨by refine qB ?_; exact BK585.out⟩, ⟨by refine qB ?_; exact BK592.out⟩, ⟨by refine qB ?_; exact BK598.out⟩, ⟨by refine qB ?_; exact BK605.out⟩, ⟨by exact qW HB.out⟩⟩
 case rest =>
  clear HC35
  try clear c11
  try clear c99
  try clear c99b0
  try clear hcz106_0 hcz106_1 hcz106_2 hcz106_3 hfz106_0 hfz106_1 hfz106_2 hfz106_3
  try clear hcz111_0 hcz111_1 hcz111_2 hcz111_3 hfz111_0 hfz111_1 hfz111_2 hfz111_3
  try clear hcz57_0 hcz57_1 hcz57_2 hcz57_3 hfz57_0 hfz57_1 hfz57_2 hfz57_3
  try clear hcz63_0 hcz63_1 hcz63_2 hcz63_3 hfz63_0 hfz63_1 hfz63_2 hfz63_3
  try clear hcz66_0 hcz66_1 hcz66_2 hfz66_0 hfz66_1 hfz66_2
  try clear hcz73_0 hcz73_1 hcz73_2 hfz73_0 hfz73_1 hfz73_2
  try clear hcz75_0 hcz75_1 hcz75_2 hcz75_3 hfz75_0 hfz75_1 hfz75_2 hfz75_3
  try clear hcz83_0 hcz83_1 hcz83_2 hcz83_3 hfz83_0 hfz83_1 hfz83_2 hfz83_3
  try clear hcz85_0 hcz85_1 hcz85_2 hcz85_3 hfz85_0 hfz85_1 hfz85_2 hfz85_3
  try clear hcz95_0 hcz95_1 hcz95_2 hcz95_3 hfz95_0 hfz95_1 hfz95_2 hfz95_3
  try clear hcz97_0 hcz97_1 hcz97_2 hfz97_0 hfz97_1 hfz97_2
  obtain ⟨kq, x63_34, rfl, HA, HJ34, HO_586003, HO_593003, HO_599001, HO_606003, BK564, BK565, BK585, BK592, BK598, BK605, HB⟩ := hcut
  have hl593003_34 := (Kd.R_reads' HO_593003.out).1
  rw [hl593003_34] at HO_593003
  (try simp only [hl593003_34])
  (try simp only [hl593003_34] at BK564)
  (try simp only [hl593003_34] at BK565)
  (try simp only [hl593003_34] at BK585)
  (try simp only [hl593003_34] at BK592)
  (try simp only [hl593003_34] at BK598)
  (try simp only [hl593003_34] at BK605)
  (try simp only [hl593003_34] at HO_586003)
  (try simp only [hl593003_34] at HO_599001)
  (try simp only [hl593003_34] at HO_606003)
  have hl599001_34 := (Kd.R_reads' HO_599001.out).1
  rw [hl599001_34] at HO_599001
  (try simp only [hl599001_34])
  (try simp only [hl599001_34] at BK564)
  (try simp only [hl599001_34] at BK565)
  (try simp only [hl599001_34] at BK585)
  (try simp only [hl599001_34] at BK592)
  (try simp only [hl599001_34] at BK598)
  (try simp only [hl599001_34] at BK605)
  (try simp only [hl599001_34] at HO_586003)
  (try simp only [hl599001_34] at HO_593003)
  (try simp only [hl599001_34] at HO_606003)
  cases kq with
  | zero => exact absurd HA.out (by simp [laws_FnExactConvolveImage.j0])
  | succ kj34 =>
   have H := HA.out
   clear HA
   simp only [laws_FnExactConvolveImage.j0] at H
   by_cases c113 : x63_34 = true
   ·subst c113
    have H1 : (some false) = some r := by rw [if_pos rfl] at H; exact H
    clear H
    have H := H1
    clear H1
    obtain rfl := Option.some.inj H
    exact absurd hrt (by decide)
   replace c113 := Bool.eq_false_iff.mpr c113
   subst c113
   have H1 : ((laws_markImage.f kj34 t599 t600 t601 t602 1).bind fun bt625 => ((laws_heldImage.f kj34 t599 t600 t601 bt625.2 1).bind fun t627 => (if t627 < 0 then (some false) else (if t627 = bt625.1 then ((laws_toImage.f kj34 a0_0 a0_1 a0_2 l0_3).bind fun bt628 => ((laws_toKernel.f kj34 a1_0 l1_1 a1_2).bind fun bt634 => ((impl_ConvolveImage.f bt628.1 bt628.2.1 bt628.2.2.1 bt628.2.2.2 bt634.1 bt634.2.1 bt634.2.2).bind fun bt639 => ((laws_eqImage.f kj34 bt639.1 bt639.2.1 bt639.2.2.1 bt639.2.2.2 t579 t580 t581 t582).bind fun t646 => (if t646 = true then ((laws_heldImage.f kj34 t599 t600 t601 bt625.2 1).bind fun t647 => (if t647 < 0 then (some false) else (if t647 = bt625.1 then (some true) else (some false)))) else (some false)))))) else (some false))))) = some r := by rw [if_neg (show ¬ (false = true) by decide)] at H; exact H
   clear H
   have H := H1
   clear H1
   replace H := Option.bind_eq_some_iff.mp H
   obtain ⟨⟨t625, t626⟩, A1140, H⟩ := H
   replace H : ((laws_heldImage.f kj34 t599 t600 t601 t626 1).bind fun t627 => (if t627 < 0 then (some false) else (if t627 = t625 then ((laws_toImage.f kj34 a0_0 a0_1 a0_2 l0_3).bind fun bt628 => ((laws_toKernel.f kj34 a1_0 l1_1 a1_2).bind fun bt634 => ((impl_ConvolveImage.f bt628.1 bt628.2.1 bt628.2.2.1 bt628.2.2.2 bt634.1 bt634.2.1 bt634.2.2).bind fun bt639 => ((laws_eqImage.f kj34 bt639.1 bt639.2.1 bt639.2.2.1 bt639.2.2.2 t579 t580 t581 t582).bind fun t646 => (if t646 = true then ((laws_heldImage.f kj34 t599 t600 t601 t626 1).bind fun t647 => (if t647 < 0 then (some false) else (if t647 = t625 then (some true) else (some false)))) else (some false)))))) else (some false)))) = some r := H
   have A114 := aM A1140
   clear A1140
   replace H := Option.bind_eq_some_iff.mp H
   obtain ⟨t627, A1150, H⟩ := H
   replace H : (if t627 < 0 then (some false) else (if t627 = t625 then ((laws_toImage.f kj34 a0_0 a0_1 a0_2 l0_3).bind fun bt628 => ((laws_toKernel.f kj34 a1_0 l1_1 a1_2).bind fun bt634 => ((impl_ConvolveImage.f bt628.1 bt628.2.1 bt628.2.2.1 bt628.2.2.2 bt634.1 bt634.2.1 bt634.2.2).bind fun bt639 => ((laws_eqImage.f kj34 bt639.1 bt639.2.1 bt639.2.2.1 bt639.2.2.2 t579 t580 t581 t582).bind fun t646 => (if t646 = true then ((laws_heldImage.f kj34 t599 t600 t601 t626 1).bind fun t647 => (if t647 < 0 then (some false) else (if t647 = t625 then (some true) else (some false)))) else (some false)))))) else (some false))) = some r := H
   have A115 := aM A1150
   clear A1150
   by_cases c116 : t627 < 0
   ·rw [if_pos c116] at H
    have c116b0 : decide (t627 < 0) = true := decide_eq_true c116
    clear c116
    obtain rfl := Option.some.inj H
    exact absurd hrt (by decide)
   rw [if_neg c116] at H
   have c116b0 : decide (t627 < 0) = false := decide_eq_false c116
   clear c116
   by_cases c126 : t627 = t625
   rotate_left
   ·rw [if_neg c126] at H
    have c126b0 : (t627 == t625) = false := beq_eq_false_iff_ne.mpr c126
    have c126b1 : (t627 != t625) = true := bne_iff_ne.mpr c126
    obtain rfl := Option.some.inj H
    exact absurd hrt (by decide)
   rw [if_pos c126] at H
   have c126b0 : (t627 == t625) = true := beq_iff_eq.mpr c126
   have c126b1 : (t627 != t625) = false := bne_eq_false_iff_eq.mpr c126
   clear c126
   replace H := Option.bind_eq_some_iff.mp H
   obtain ⟨⟨t628, t629, t630, t631⟩, A1270, H⟩ := H
   replace H : ((laws_toKernel.f kj34 a1_0 l1_1 a1_2).bind fun bt634 => ((impl_ConvolveImage.f t628 t629 t630 t631 bt634.1 bt634.2.1 bt634.2.2).bind fun bt639 => ((laws_eqImage.f kj34 bt639.1 bt639.2.1 bt639.2.2.1 bt639.2.2.2 t579 t580 t581 t582).bind fun t646 => (if t646 = true then ((laws_heldImage.f kj34 t599 t600 t601 t626 1).bind fun t647 => (if t647 < 0 then (some false) else (if t647 = t625 then (some true) else (some false)))) else (some false))))) = some r := H
   have A127 := aM A1270
   clear A1270
   replace H := Option.bind_eq_some_iff.mp H
   obtain ⟨⟨t634, t635, t638⟩, A1280, H⟩ := H
   replace H : ((impl_ConvolveImage.f t628 t629 t630 t631 t634 t635 t638).bind fun bt639 => ((laws_eqImage.f kj34 bt639.1 bt639.2.1 bt639.2.2.1 bt639.2.2.2 t579 t580 t581 t582).bind fun t646 => (if t646 = true then ((laws_heldImage.f kj34 t599 t600 t601 t626 1).bind fun t647 => (if t647 < 0 then (some false) else (if t647 = t625 then (some true) else (some false)))) else (some false)))) = some r := H
   have A128 := aM A1280
   clear A1280
   replace H := Option.bind_eq_some_iff.mp H
   obtain ⟨⟨t639, t640, t641, t642⟩, A1290, H⟩ := H
   replace H : ((laws_eqImage.f kj34 t639 t640 t641 t642 t579 t580 t581 t582).bind fun t646 => (if t646 = true then ((laws_heldImage.f kj34 t599 t600 t601 t626 1).bind fun t647 => (if t647 < 0 then (some false) else (if t647 = t625 then (some true) else (some false)))) else (some false))) = some r := H
   have A129 := aM A1290
   clear A1290
   replace H := Option.bind_eq_some_iff.mp H
   obtain ⟨t646, A1300, H⟩ := H
   replace H : (if t646 = true then ((laws_heldImage.f kj34 t599 t600 t601 t626 1).bind fun t647 => (if t647 < 0 then (some false) else (if t647 = t625 then (some true) else (some false)))) else (some false)) = some r := H
   have A130 := aM A1300
   clear A1300
   by_cases c131 : t646 = true
   rotate_left
   ·replace c131 := Bool.eq_false_iff.mpr c131
    subst c131
    have H1 : (some false) = some r := by rw [if_neg (show ¬ (false = true) by decide)] at H; exact H
    clear H
    have H := H1
    clear H1
    obtain rfl := Option.some.inj H
    exact absurd hrt (by decide)
   subst c131
   have H1 : ((laws_heldImage.f kj34 t599 t600 t601 t626 1).bind fun t647 => (if t647 < 0 then (some false) else (if t647 = t625 then (some true) else (some false)))) = some r := by rw [if_pos rfl] at H; exact H
   clear H
   have H := H1
   clear H1
   replace H := Option.bind_eq_some_iff.mp H
   obtain ⟨t647, A1320, H⟩ := H
   replace H : (if t647 < 0 then (some false) else (if t647 = t625 then (some true) else (some false))) = some r := H
   have A132 := aM A1320
   clear A1320
   by_cases c133 : t647 < 0
   ·rw [if_pos c133] at H
    have c133b0 : decide (t647 < 0) = true := decide_eq_true c133
    clear c133
    obtain rfl := Option.some.inj H
    exact absurd hrt (by decide)
   rw [if_neg c133] at H
   have c133b0 : decide (t647 < 0) = false := decide_eq_false c133
   clear c133
   by_cases c171 : t647 = t625
   rotate_left
   ·rw [if_neg c171] at H
    have c171b0 : (t647 == t625) = false := beq_eq_false_iff_ne.mpr c171
    have c171b1 : (t647 != t625) = true := bne_iff_ne.mpr c171
    obtain rfl := Option.some.inj H
    exact absurd hrt (by decide)
   rw [if_pos c171] at H
   have c171b0 : (t647 == t625) = true := beq_iff_eq.mpr c171
   have c171b1 : (t647 != t625) = false := bne_eq_false_iff_eq.mpr c171
   clear c171
   obtain rfl := Option.some.inj H
   have hnb172 := NB605_564.out
   have hnc172 := NB564_605.out
   have hnb173 := NB605_565.out
   have hnc173 := NB565_605.out
   have hnb174 := NB605_585.out
   have hnc174 := NB585_605.out
   have hnb175 := NB605_592.out
   have hnc175 := NB592_605.out
   have hnb176 := NB605_598.out
   have hnc176 := NB598_605.out
   obtain ⟨⟨hcz177_0, hcz177_1, hcz177_2, hcz177_3⟩, hfz177_0, hfz177_1, hfz177_2, hfz177_3⟩ := cf4 BK605
   try go_wp2_with (first | ((with_reducible refine gate_callee (f := 23) rfl ?_); refine gL (some 66) Try.func23 #[.agg #[.int .i64 t599, .int .i64 t600, .int .i64 t601, .slice Ao84 t602.length co84], .int .i64 1] ?_; (with_reducible refine (laws_markImage.calls kj34 t599 t600 t601 (fun k_ => some k_ = (.slice Ao84 t602.length co84 : Value).ownBlock) (.slice Ao84 t602.length co84) t602 1 t625 t626 w _ ?side1 ?side2 A114.out).mono ?_); (case side1 => exact qW HB.out); (case side2 => exact Kd.R_tight rfl HO_606003.out); rintro e w178 ⟨rfl, hy0, hb, hkp⟩; refine ⟨_, rfl, ?_⟩; replace HO_586003 := aM (Kd.R_mono (ok' := fun k_ => some k_ ≠ (.slice Ao64 t621.length co64 : Value).ownBlock ∧ some k_ ≠ (.slice Ao74 t623.length co74 : Value).ownBlock ∧ some k_ ≠ (.slice Ao84 t602.length co84 : Value).ownBlock) (Kd.R_keptB (HO_586003.out) hkp (fun k_ hk_ hs_ => by first | exact hk_.2.2 hs_ | (revert hk_; simp only [and_imp]; intros; contradiction))) (fun k_ hk_ => by first | exact ⟨hk_.1.1, hk_.1.2.1, hk_.1.2.2⟩ | (revert hk_; simp only [and_imp]; intros; and_intros <;> assumption))); replace HO_593003 := aM (Kd.R_mono (ok' := fun k_ => some k_ ≠ (.slice Ao54 t582.length co54 : Value).ownBlock ∧ some k_ ≠ (.slice Ao74 t623.length co74 : Value).ownBlock ∧ some k_ ≠ (.slice Ao84 t602.length co84 : Value).ownBlock) (Kd.R_keptB (HO_593003.out) hkp (fun k_ hk_ hs_ => by first | exact hk_.2.2 hs_ | (revert hk_; simp only [and_imp]; intros; contradiction))) (fun k_ hk_ => by first | exact ⟨hk_.1.1, hk_.1.2.1, hk_.1.2.2⟩ | (revert hk_; simp only [and_imp]; intros; and_intros <;> assumption))); replace HO_599001 := aM (Kd.R_mono (ok' := fun k_ => some k_ ≠ (.slice Ao54 t582.length co54 : Value).ownBlock ∧ some k_ ≠ (.slice Ao64 t621.length co64 : Value).ownBlock ∧ some k_ ≠ (.slice Ao84 t602.length co84 : Value).ownBlock) (Kd.R_keptB (HO_599001.out) hkp (fun k_ hk_ hs_ => by first | exact hk_.2.2 hs_ | (revert hk_; simp only [and_imp]; intros; contradiction))) (fun k_ hk_ => by first | exact ⟨hk_.1.1, hk_.1.2.1, hk_.1.2.2⟩ | (revert hk_; simp only [and_imp]; intros; and_intros <;> assumption))); replace BK564 := aM (blk_kept (qB BK564.out) hkp (fun hs_ => (fun e_ => (Kd.R_ne HO_606003.out BK564.out (by decide)) e_) hs_)); replace BK565 := aM (blk_kept (qB BK565.out) hkp (fun hs_ => (fun e_ => (Kd.R_ne HO_606003.out BK565.out (by decide)) e_) hs_)); replace BK585 := aM (blk_kept (qB BK585.out) hkp (fun hs_ => (fun e_ => (Kd.R_ne HO_606003.out BK585.out (by decide)) e_) hs_)); replace BK592 := aM (blk_kept (qB BK592.out) hkp (fun hs_ => (fun e_ => (Kd.R_ne HO_606003.out BK592.out (by decide)) e_) hs_)); replace BK598 := aM (blk_kept (qB BK598.out) hkp (fun hs_ => (fun e_ => (Kd.R_ne HO_606003.out BK598.out (by decide)) e_) hs_)); replace BK605 := aM (blk_kept (qB BK605.out) hkp (fun hs_ => (fun e_ => (Kd.R_ne HO_606003.out BK605.out (by decide)) e_) hs_)); replace HO_606003 := aM (Kd.R_reok rfl hy0 (fun k_ e_ => HO_606003.out.1 k_ e_)); replace HB := aM (hb); clear hb hkp hy0; obtain ⟨⟨hcz179_0, hcz179_1, hcz179_2, hcz179_3⟩, hfz179_0, hfz179_1, hfz179_2, hfz179_3⟩ := cf4 BK605) | ((with_reducible refine gate_callee (f := 24) rfl ?_); refine goesL_ (some 69) rfl rfl Try.func24 (by kernel_rfl) rfl #[.agg #[.int .i64 t599, .int .i64 t600, .int .i64 t601, .slice Ao84 t626.length co84], .int .i64 1] rfl (by (try simp only [List.map_toArray, List.map_cons, List.map_nil]); first | done | (rw [show t626.length = t602.length from (Kd.R_reads' HO_606003.out).1.symm] <;> rfl) | rfl | (simp only [List.length_drop, List.length_take]; rfl)) ?_; (with_reducible refine (laws_heldImage.calls kj34 t599 t600 t601 _ _ t626 1 t627 _ ?side1 ?side2 A115.out).mono ?_); (case side1 => exact qC (Kd.R_reads' HO_606003.out).2.2); (case side2 => rw [show t626.length = t602.length from (Kd.R_reads' HO_606003.out).1.symm]; exact (Kd.R_reads' HO_606003.out).2.1); rintro e w180 ⟨rfl, hb⟩; refine ⟨_, rfl, ?_⟩; replace HO_586003 := aM (Kd.R_below (qR HO_586003.out) hb); replace HO_593003 := aM (Kd.R_below (qR HO_593003.out) hb); replace HO_599001 := aM (Kd.R_below (qR HO_599001.out) hb); replace HO_606003 := aM (Kd.R_below (qR HO_606003.out) hb); replace BK564 := bB BK564 hb; replace BK565 := bB BK565 hb; replace BK585 := bB BK585 hb; replace BK592 := bB BK592 hb; replace BK598 := bB BK598 hb; replace BK605 := bB BK605 hb; replace HB := bS HB hb; clear hb))
   replace HO_586003 := aM (Kd.R_drew HO_586003.out)
   replace HO_593003 := aM (Kd.R_drew HO_593003.out)
   replace HO_599001 := aM (Kd.R_drew HO_599001.out)
   replace HO_606003 := aM (Kd.R_drew HO_606003.out)
   replace BK564 := aM (blk_drew BK564.out)
   replace BK565 := aM (blk_drew BK565.out)
   replace BK585 := aM (blk_drew BK585.out)
   replace BK592 := aM (blk_drew BK592.out)
   replace BK598 := aM (blk_drew BK598.out)
   replace BK605 := aM (blk_drew BK605.out)
   replace HB := aM (below_drew1 HB.out)
   refine start_ (n := 7) (S := fun w' => w'.cell? ⟨gb564, 0, none⟩ = some (.int .i64 a0_0) ∧ w'.cell? ⟨gb564, 1, none⟩ = some (.int .i64 a0_1) ∧ w'.cell? ⟨gb564, 2, none⟩ = some (.int .i64 a0_2) ∧ w'.cell? ⟨gb564, 3, none⟩ = some (.slice A0_3 l0_3.length c0_3) ∧ w'.cell? ⟨gb565, 0, none⟩ = some (.int .i64 a1_0) ∧ w'.cell? ⟨gb565, 1, none⟩ = some (.slice A1_1 l1_1.length c1_1) ∧ w'.cell? ⟨gb565, 2, none⟩ = some (.int .i64 a1_2)) (ds := []) (bA 7 0) (by kernel_rfl) rfl rfl ⟨(blk_cell BK564.out 0).trans rfl, (blk_cell BK564.out 1).trans rfl, (blk_cell BK564.out 2).trans rfl, (blk_cell BK564.out 3).trans rfl, (blk_cell BK565.out 0).trans rfl, (blk_cell BK565.out 1).trans rfl, (blk_cell BK565.out 2).trans rfl⟩ (fun hHeld => ?_)
   generalize w180.drew = w181 at HO_586003 HO_593003 HO_599001 HO_606003 BK564 BK565 BK585 BK592 BK598 BK605 HB hHeld ⊢
   refine take_ (i := 0) (N := some 75) (v := ?_) (a' := ?_) (bA 7 1) rfl rfl (by kernel_rfl) (fun _ _ _ h => h) (Or.inl ⟨by rfl, ?_⟩) hHeld ?_ ?_
   rotate_left
   ·rintro w' ⟨s0, s1, s2, s3, s4, s5, s6⟩
    go_simp
    with_reducible rfl
   rotate_left
   ·refine pZ ?_
    rfl
   refine take_ (i := 2) (N := some 77) (v := ?_) (a' := ?_) (bA 7 5) rfl rfl (by kernel_rfl) (fun _ _ _ h => h) (Or.inl ⟨by rfl, ?_⟩) hHeld ?_ ?_
   rotate_left
   ·rintro w' ⟨s0, s1, s2, s3, s4, s5, s6⟩
    go_simp
    with_reducible rfl
   rotate_left
   ·refine pZ ?_
    rfl
   refine join_ (σ := Value × Value × Value × Nat) 1 (bA 7 63) (fun s_ => [(76, .agg #[.int .i64 t628, .int .i64 t629, .int .i64 t630, s_.1]), (78, .agg #[.int .i64 t634, s_.2.1, .int .i64 t638]), (79, .agg #[.int .i64 t639, .int .i64 t640, .int .i64 t641, s_.2.2.1]), (13, .pointer (some ⟨s_.2.2.2, 0, none⟩))]) (fun s_ w' => (w'.cell? ⟨gb564, 0, none⟩ = some (.int .i64 a0_0) ∧ w'.cell? ⟨gb564, 1, none⟩ = some (.int .i64 a0_1) ∧ w'.cell? ⟨gb564, 2, none⟩ = some (.int .i64 a0_2) ∧ w'.cell? ⟨gb564, 3, none⟩ = some (.slice A0_3 l0_3.length c0_3) ∧ w'.cell? ⟨gb565, 0, none⟩ = some (.int .i64 a1_0) ∧ w'.cell? ⟨gb565, 1, none⟩ = some (.slice A1_1 l1_1.length c1_1) ∧ w'.cell? ⟨gb565, 2, none⟩ = some (.int .i64 a1_2)) ∧ (Kd.R (Kd.int .i64) 3 w' w.heap.size (fun k_ => some k_ ≠ (s_.2.1 : Value).ownBlock ∧ some k_ ≠ (s_.2.2.1 : Value).ownBlock ∧ some k_ ≠ (.slice Ao54 t582.length co54 : Value).ownBlock ∧ some k_ ≠ (.slice Ao64 t621.length co64 : Value).ownBlock ∧ some k_ ≠ (.slice Ao74 t623.length co74 : Value).ownBlock ∧ some k_ ≠ (.slice Ao84 t602.length co84 : Value).ownBlock) s_.1 t631) ∧ (Kd.R (Kd.int .i64) 3 w' w.heap.size (fun k_ => some k_ ≠ (s_.1 : Value).ownBlock ∧ some k_ ≠ (s_.2.2.1 : Value).ownBlock ∧ some k_ ≠ (.slice Ao54 t582.length co54 : Value).ownBlock ∧ some k_ ≠ (.slice Ao64 t621.length co64 : Value).ownBlock ∧ some k_ ≠ (.slice Ao74 t623.length co74 : Value).ownBlock ∧ some k_ ≠ (.slice Ao84 t602.length co84 : Value).ownBlock) s_.2.1 t635) ∧ (Kd.R (Kd.int .i64) 3 w' w.heap.size (fun k_ => some k_ ≠ (s_.1 : Value).ownBlock ∧ some k_ ≠ (s_.2.1 : Value).ownBlock ∧ some k_ ≠ (.slice Ao54 t582.length co54 : Value).ownBlock ∧ some k_ ≠ (.slice Ao64 t621.length co64 : Value).ownBlock ∧ some k_ ≠ (.slice Ao74 t623.length co74 : Value).ownBlock ∧ some k_ ≠ (.slice Ao84 t602.length co84 : Value).ownBlock) s_.2.2.1 t642) ∧ (Kd.R (Kd.int .i64) 3 w' w.heap.size (fun k_ => some k_ ≠ (s_.1 : Value).ownBlock ∧ some k_ ≠ (s_.2.1 : Value).ownBlock ∧ some k_ ≠ (s_.2.2.1 : Value).ownBlock ∧ some k_ ≠ (.slice Ao64 t621.length co64 : Value).ownBlock ∧ some k_ ≠ (.slice Ao74 t623.length co74 : Value).ownBlock ∧ some k_ ≠ (.slice Ao84 t602.length co84 : Value).ownBlock) (.slice Ao54 t582.length co54) t582) ∧ (Kd.R (Kd.int .i64) 3 w' w.heap.size (fun k_ => some k_ ≠ (s_.1 : Value).ownBlock ∧ some k_ ≠ (s_.2.1 : Value).ownBlock ∧ some k_ ≠ (s_.2.2.1 : Value).ownBlock ∧ some k_ ≠ (.slice Ao54 t582.length co54 : Value).ownBlock ∧ some k_ ≠ (.slice Ao74 t623.length co74 : Value).ownBlock ∧ some k_ ≠ (.slice Ao84 t602.length co84 : Value).ownBlock) (.slice Ao64 t621.length co64) t621) ∧ (Kd.R (Kd.int .i64) 3 w' w.heap.size (fun k_ => some k_ ≠ (s_.1 : Value).ownBlock ∧ some k_ ≠ (s_.2.1 : Value).ownBlock ∧ some k_ ≠ (s_.2.2.1 : Value).ownBlock ∧ some k_ ≠ (.slice Ao54 t582.length co54 : Value).ownBlock ∧ some k_ ≠ (.slice Ao64 t621.length co64 : Value).ownBlock ∧ some k_ ≠ (.slice Ao84 t602.length co84 : Value).ownBlock) (.slice Ao74 t623.length co74) t623) ∧ (Kd.R (Kd.int .i64) 3 w' w.heap.size (fun k_ => some k_ ≠ (s_.1 : Value).ownBlock ∧ some k_ ≠ (s_.2.1 : Value).ownBlock ∧ some k_ ≠ (s_.2.2.1 : Value).ownBlock ∧ some k_ ≠ (.slice Ao54 t582.length co54 : Value).ownBlock ∧ some k_ ≠ (.slice Ao64 t621.length co64 : Value).ownBlock ∧ some k_ ≠ (.slice Ao74 t623.length co74 : Value).ownBlock) (.slice Ao84 t602.length co84) t626) ∧ (w'.heap[gb564]? = some (.cells #[.int .i64 a0_0, .int .i64 a0_1, .int .i64 a0_2, .slice A0_3 l0_3.length c0_3] 34 (0, 0))) ∧ (w'.heap[gb565]? = some (.cells #[.int .i64 a1_0, .slice A1_1 l1_1.length c1_1, .int .i64 a1_2] 46 (0, 0))) ∧ (w'.heap[gb585]? = some (.cells #[.int .i64 t579, .int .i64 t580, .int .i64 t581, .slice Ao54 t582.length co54] 27 (0, 0))) ∧ (w'.heap[gb592]? = some (.cells #[.int .i64 t586, .int .i64 t587, .int .i64 t588, .slice Ao64 t621.length co64] 27 (0, 0))) ∧ (w'.heap[gb598]? = some (.cells #[.int .i64 t593, .slice Ao74 t623.length co74, .int .i64 t597] 49 (0, 0))) ∧ (w'.heap[gb605]? = some (.cells #[.int .i64 t599, .int .i64 t600, .int .i64 t601, .slice Ao84 t602.length co84] 27 (0, 0))) ∧ (w'.heap[s_.2.2.2]? = some (.cells #[.int .i64 0, .int .i64 0, .int .i64 0, .slice none 0 0] 27 (0, 0))) ∧ (w.heap.size ≤ s_.2.2.2) ∧ (w.heap.size ≤ s_.2.2.2) ∧ (gb564 ≠ s_.2.2.2) ∧ (s_.2.2.2 ≠ gb564) ∧ (gb565 ≠ s_.2.2.2) ∧ (s_.2.2.2 ≠ gb565) ∧ (gb585 ≠ s_.2.2.2) ∧ (s_.2.2.2 ≠ gb585) ∧ (gb592 ≠ s_.2.2.2) ∧ (s_.2.2.2 ≠ gb592) ∧ (gb598 ≠ s_.2.2.2) ∧ (s_.2.2.2 ≠ gb598) ∧ (gb605 ≠ s_.2.2.2) ∧ (s_.2.2.2 ≠ gb605) ∧ (Below w.heap.size w w')) ?_ ?_
   rotate_left
   ·intro hCont
    refine two_ (i := 1) (j := 5) (Ni := some 76) (Nj := some 13) (bA 7 7) (bA 7 37) rfl rfl rfl rfl (by kernel_rfl) (by decide) (by decide) (fun K hK => ?_) (fun K hK => ?_)
    rotate_left
    ·skip
     refine box_step ?hg (N := 13) ?hd (cs := #[.int .i64 0, .int .i64 0, .int .i64 0, .slice none 0 0]) (t := 27) ?hr ?_; (case hd => rfl); (case hg => rfl); (case hr => first | (go_simp; done) | (go_simp; rfl))
     intro gb645 hg w182 hbox hb
     replace HO_586003 := aM (Kd.R_below (qR HO_586003.out) hb)
     replace HO_593003 := aM (Kd.R_below (qR HO_593003.out) hb)
     replace HO_599001 := aM (Kd.R_below (qR HO_599001.out) hb)
     replace HO_606003 := aM (Kd.R_below (qR HO_606003.out) hb)
     have BK645 := aM (hbox)
     have GW645 := gW hg HB
     have GE645 := gW hg HB
     replace HB := bS HB hb
     have NB564_645 := nL hg BK564
     have NB645_564 := nG hg BK564
     replace BK564 := bB BK564 hb
     have NB565_645 := nL hg BK565
     have NB645_565 := nG hg BK565
     replace BK565 := bB BK565 hb
     have NB585_645 := nL hg BK585
     have NB645_585 := nG hg BK585
     replace BK585 := bB BK585 hb
     have NB592_645 := nL hg BK592
     have NB645_592 := nG hg BK592
     replace BK592 := bB BK592 hb
     have NB598_645 := nL hg BK598
     have NB645_598 := nG hg BK598
     replace BK598 := bB BK598 hb
     have NB605_645 := nL hg BK605
     have NB645_605 := nG hg BK605
     replace BK605 := bB BK605 hb
     clear hb hbox hg
     refine hK.out _ _ ⟨(blk_cell BK564.out 0).trans rfl, (blk_cell BK564.out 1).trans rfl, (blk_cell BK564.out 2).trans rfl, (blk_cell BK564.out 3).trans rfl, (blk_cell BK565.out 0).trans rfl, (blk_cell BK565.out 1).trans rfl, (blk_cell BK565.out 2).trans rfl⟩ (fun hHeld => ?_)
     clear hK K
     refine norm_ (a' := ?_) ?_ ?_
     rotate_left
     ·show Act.put _ (some 13) _ = _
      refine pZ ?_
      rfl
     refine one_ (i := 1) (N := some 76) (bA 7 39) rfl rfl (by kernel_rfl) (by decide) (fun K hK => ?_)
     refine goes_ Try.func20 (by kernel_rfl) rfl #[.agg #[.int .i64 a0_0, .int .i64 a0_1, .int .i64 a0_2, .slice A0_3 l0_3.length c0_3]] (by rfl) rfl rfl qM ?_
     with_reducible refine (laws_toImage.calls kj34 a0_0 a0_1 a0_2 _ _ l0_3 t628 t629 t630 t631 _ ?side1 ?side2 A127.out).mono ?_
     (case side1 => exact qC (Kd.C_below HR0_3.out HB.out))
     (case side2 => exact HC0_3.out)
     rintro e w183 ⟨v632, rfl, ho0, hb⟩
     refine ⟨_, rfl, ?_⟩
     have HO633 := aM (Kd.R_lower (Kd.R_new' (Kd.R_new' (Kd.R_new' (Kd.R_new' ho0 (Kd.R_lt (qR HO_586003.out))) (Kd.R_lt (qR HO_593003.out))) (Kd.R_lt (qR HO_599001.out))) (Kd.R_lt (qR HO_606003.out))) (below_size (qW HB.out)))
     replace HO_586003 := aM (Kd.R_elder' (qR HO_586003.out) (Kd.R_base ho0) hb)
     replace HO_593003 := aM (Kd.R_elder' (qR HO_593003.out) (Kd.R_base ho0) hb)
     replace HO_599001 := aM (Kd.R_elder' (qR HO_599001.out) (Kd.R_base ho0) hb)
     replace HO_606003 := aM (Kd.R_elder' (qR HO_606003.out) (Kd.R_base ho0) hb)
     replace BK564 := bB BK564 hb
     replace BK565 := bB BK565 hb
     replace BK585 := bB BK585 hb
     replace BK592 := bB BK592 hb
     replace BK598 := bB BK598 hb
     replace BK605 := bB BK605 hb
     replace BK645 := bB BK645 hb
     replace HB := bS HB hb
     (try clear hb)
     (try clear hb2)
     (try clear hk)
     (try clear hi)
     (try clear ho0)
     refine hK.out _ _ ⟨(blk_cell BK564.out 0).trans rfl, (blk_cell BK564.out 1).trans rfl, (blk_cell BK564.out 2).trans rfl, (blk_cell BK564.out 3).trans rfl, (blk_cell BK565.out 0).trans rfl, (blk_cell BK565.out 1).trans rfl, (blk_cell BK565.out 2).trans rfl⟩ (fun hHeld => ?_)
     clear hK K
     refine norm_ (a' := ?_) ?_ ?_
     rotate_left
     ·show Act.put _ (some 76) _ = _
      refine pZ ?_
      rfl
     refine one_ (i := 3) (N := some 78) (bA 7 47) rfl rfl (by kernel_rfl) (by decide) (fun K hK => ?_)
     refine goes_ Try.func34 (by kernel_rfl) rfl #[.agg #[.int .i64 a1_0, .slice A1_1 l1_1.length c1_1, .int .i64 a1_2]] (by rfl) rfl rfl qM ?_
     with_reducible refine (laws_toKernel.calls kj34 a1_0 _ _ l1_1 a1_2 t634 t635 t638 _ ?side1 ?side2 A128.out).mono ?_
     (case side1 => exact qC (Kd.C_below HR1_1.out HB.out))
     (case side2 => exact HC1_1.out)
     rintro e w184 ⟨v636, rfl, ho0, hb⟩
     refine ⟨_, rfl, ?_⟩
     have HO637 := aM (Kd.R_lower (Kd.R_new' (Kd.R_new' (Kd.R_new' (Kd.R_new' (Kd.R_new' ho0 (Kd.R_lt (qR HO_586003.out))) (Kd.R_lt (qR HO_593003.out))) (Kd.R_lt (qR HO_599001.out))) (Kd.R_lt (qR HO_606003.out))) (Kd.R_lt (qR HO633.out))) (below_size (qW HB.out)))
     replace HO_586003 := aM (Kd.R_elder' (qR HO_586003.out) (Kd.R_base ho0) hb)
     replace HO_593003 := aM (Kd.R_elder' (qR HO_593003.out) (Kd.R_base ho0) hb)
     replace HO_599001 := aM (Kd.R_elder' (qR HO_599001.out) (Kd.R_base ho0) hb)
     replace HO_606003 := aM (Kd.R_elder' (qR HO_606003.out) (Kd.R_base ho0) hb)
     replace HO633 := aM (Kd.R_elder' (qR HO633.out) (Kd.R_base ho0) hb)
     replace BK564 := bB BK564 hb
     replace BK565 := bB BK565 hb
     replace BK585 := bB BK585 hb
     replace BK592 := bB BK592 hb
     replace BK598 := bB BK598 hb
     replace BK605 := bB BK605 hb
     replace BK645 := bB BK645 hb
     replace HB := bS HB hb
     (try clear hb)
     (try clear hb2)
     (try clear hk)
     (try clear hi)
     (try clear ho0)
     obtain ⟨Ao185, co185, eo185⟩ := Kd.R_slice HO633.out
     (first | subst eo185 | (injection eo185 with f1_ f2_ f3_; have f4_ := f1_.symm; have f5_ := f3_.symm; clear f1_ f2_ f3_; subst f4_; subst f5_))
     obtain ⟨Ao186, co186, eo186⟩ := Kd.R_slice HO637.out
     (first | subst eo186 | (injection eo186 with f1_ f2_ f3_; have f4_ := f1_.symm; have f5_ := f3_.symm; clear f1_ f2_ f3_; subst f4_; subst f5_))
     refine hK.out _ _ ⟨(blk_cell BK564.out 0).trans rfl, (blk_cell BK564.out 1).trans rfl, (blk_cell BK564.out 2).trans rfl, (blk_cell BK564.out 3).trans rfl, (blk_cell BK565.out 0).trans rfl, (blk_cell BK565.out 1).trans rfl, (blk_cell BK565.out 2).trans rfl⟩ (fun hHeld => ?_)
     clear hK K
     refine norm_ (a' := ?_) ?_ ?_
     rotate_left
     ·show Act.put _ (some 78) _ = _
      refine pZ ?_
      rfl
     refine one_ (i := 4) (N := some 79) (bA 7 63) rfl rfl (by kernel_rfl) (by decide) (fun K hK => ?_)
     refine goes_ Try.func35 (by kernel_rfl) rfl #[.agg #[.int .i64 t628, .int .i64 t629, .int .i64 t630, .slice Ao185 t631.length co185], .agg #[.int .i64 t634, .slice Ao186 t635.length co186, .int .i64 t638]] (by rfl) rfl rfl qM ?_
     with_reducible refine (impl_ConvolveImage.calls t628 t629 t630 _ _ t631 t634 _ _ t635 t638 t639 t640 t641 t642 _ ?side1 ?side2 ?side3 ?side4 A129.out).mono ?_
     (case side1 => exact qC (Kd.R_reads' HO633.out).2.2)
     (case side2 => exact (Kd.R_reads' HO633.out).2.1)
     (case side3 => exact qC (Kd.R_reads' HO637.out).2.2)
     (case side4 => exact (Kd.R_reads' HO637.out).2.1)
     rintro e w187 ⟨v643, rfl, ho0, hb⟩
     refine ⟨_, rfl, ?_⟩
     have HO644 := aM (Kd.R_lower (Kd.R_new' (Kd.R_new' (Kd.R_new' (Kd.R_new' (Kd.R_new' (Kd.R_new' ho0 (Kd.R_lt (qR HO_586003.out))) (Kd.R_lt (qR HO_593003.out))) (Kd.R_lt (qR HO_599001.out))) (Kd.R_lt (qR HO_606003.out))) (Kd.R_lt (qR HO633.out))) (Kd.R_lt (qR HO637.out))) (below_size (qW HB.out)))
     replace HO_586003 := aM (Kd.R_elder' (qR HO_586003.out) (Kd.R_base ho0) hb)
     replace HO_593003 := aM (Kd.R_elder' (qR HO_593003.out) (Kd.R_base ho0) hb)
     replace HO_599001 := aM (Kd.R_elder' (qR HO_599001.out) (Kd.R_base ho0) hb)
     replace HO_606003 := aM (Kd.R_elder' (qR HO_606003.out) (Kd.R_base ho0) hb)
     replace HO633 := aM (Kd.R_elder' (qR HO633.out) (Kd.R_base ho0) hb)
     replace HO637 := aM (Kd.R_elder' (qR HO637.out) (Kd.R_base ho0) hb)
     replace BK564 := bB BK564 hb
     replace BK565 := bB BK565 hb
     replace BK585 := bB BK585 hb
     replace BK592 := bB BK592 hb
     replace BK598 := bB BK598 hb
     replace BK605 := bB BK605 hb
     replace BK645 := bB BK645 hb
     replace HB := bS HB hb
     (try clear hb)
     (try clear hb2)
     (try clear hk)
     (try clear hi)
     (try clear ho0)
     refine hK.out _ _ ⟨(blk_cell BK564.out 0).trans rfl, (blk_cell BK564.out 1).trans rfl, (blk_cell BK564.out 2).trans rfl, (blk_cell BK564.out 3).trans rfl, (blk_cell BK565.out 0).trans rfl, (blk_cell BK565.out 1).trans rfl, (blk_cell BK565.out 2).trans rfl⟩ (fun hHeld => ?_)
     clear hK K
     refine norm_ (a' := ?_) ?_ ?_
     rotate_left
     ·show Act.put _ (some 79) _ = _
      refine pZ ?_
      rfl
     exact norm_ (by simp only [putAll, Act.put, List.setIfInBounds_toArray, List.set_cons_zero, List.set_cons_succ]) (hCont (.slice Ao185 t631.length co185, .slice Ao186 t635.length co186, v643, gb645) _ ⟨hHeld, (by refine qR ?_; exact Kd.R_mono HO633.out (fun _ hk => ⟨hk.1.2, ⟨hk.2, ⟨hk.1.1.1.1.1.2, ⟨hk.1.1.1.1.2, ⟨hk.1.1.1.2, hk.1.1.2⟩⟩⟩⟩⟩)), (by refine qR ?_; exact Kd.R_mono HO637.out (fun _ hk => ⟨hk.1.2, ⟨hk.2, ⟨hk.1.1.1.1.1.2, ⟨hk.1.1.1.1.2, ⟨hk.1.1.1.2, hk.1.1.2⟩⟩⟩⟩⟩)), (by refine qR ?_; exact Kd.R_mono HO644.out (fun _ hk => ⟨hk.1.2, ⟨hk.2, ⟨hk.1.1.1.1.1.2, ⟨hk.1.1.1.1.2, ⟨hk.1.1.1.2, hk.1.1.2⟩⟩⟩⟩⟩)), (by refine qR ?_; exact Kd.R_mono HO_586003.out (fun _ hk => ⟨hk.1.1.2, ⟨hk.1.2, ⟨hk.2, ⟨hk.1.1.1.1, ⟨hk.1.1.1.2.1, hk.1.1.1.2.2⟩⟩⟩⟩⟩)), (by refine qR ?_; exact Kd.R_mono HO_593003.out (fun _ hk => ⟨hk.1.1.2, ⟨hk.1.2, ⟨hk.2, ⟨hk.1.1.1.1, ⟨hk.1.1.1.2.1, hk.1.1.1.2.2⟩⟩⟩⟩⟩)), (by refine qR ?_; exact Kd.R_mono HO_599001.out (fun _ hk => ⟨hk.1.1.2, ⟨hk.1.2, ⟨hk.2, ⟨hk.1.1.1.1, ⟨hk.1.1.1.2.1, hk.1.1.1.2.2⟩⟩⟩⟩⟩)), (by refine qR ?_; exact Kd.R_mono HO_606003.out (fun _ hk => ⟨hk.1.1.2, ⟨hk.1.2, ⟨hk.2, ⟨hk.1.1.1.1, ⟨hk.1.1.1.2.1, hk.1.1.1.2.2⟩⟩⟩⟩⟩)), (qB BK564.out), (qB BK565.out), (qB BK585.out), (qB BK592.out), (qB BK598.out), (qB BK605.out), (qB BK645.out), GW645.out, GE645.out, NB564_645.out, NB645_564.out, NB565_645.out, NB645_565.out, NB585_645.out, NB645_585.out, NB592_645.out, NB645_592.out, NB598_645.out, NB645_598.out, NB605_645.out, NB645_605.out, (qW HB.out)⟩)
    skip
    refine goes_ Try.func20 (by kernel_rfl) rfl #[.agg #[.int .i64 a0_0, .int .i64 a0_1, .int .i64 a0_2, .slice A0_3 l0_3.length c0_3]] (by rfl) rfl rfl qM ?_
    with_reducible refine (laws_toImage.calls kj34 a0_0 a0_1 a0_2 _ _ l0_3 t628 t629 t630 t631 _ ?side1 ?side2 A127.out).mono ?_
    (case side1 => exact qC (Kd.C_below HR0_3.out HB.out))
    (case side2 => exact HC0_3.out)
    rintro e w182 ⟨v632, rfl, ho0, hb⟩
    refine ⟨_, rfl, ?_⟩
    have HO633 := aM (Kd.R_lower (Kd.R_new' (Kd.R_new' (Kd.R_new' (Kd.R_new' ho0 (Kd.R_lt (qR HO_586003.out))) (Kd.R_lt (qR HO_593003.out))) (Kd.R_lt (qR HO_599001.out))) (Kd.R_lt (qR HO_606003.out))) (below_size (qW HB.out)))
    replace HO_586003 := aM (Kd.R_elder' (qR HO_586003.out) (Kd.R_base ho0) hb)
    replace HO_593003 := aM (Kd.R_elder' (qR HO_593003.out) (Kd.R_base ho0) hb)
    replace HO_599001 := aM (Kd.R_elder' (qR HO_599001.out) (Kd.R_base ho0) hb)
    replace HO_606003 := aM (Kd.R_elder' (qR HO_606003.out) (Kd.R_base ho0) hb)
    replace BK564 := bB BK564 hb
    replace BK565 := bB BK565 hb
    replace BK585 := bB BK585 hb
    replace BK592 := bB BK592 hb
    replace BK598 := bB BK598 hb
    replace BK605 := bB BK605 hb
    replace HB := bS HB hb
    (try clear hb)
    (try clear hb2)
    (try clear hk)
    (try clear hi)
    (try clear ho0)
    refine hK.out _ _ ⟨(blk_cell BK564.out 0).trans rfl, (blk_cell BK564.out 1).trans rfl, (blk_cell BK564.out 2).trans rfl, (blk_cell BK564.out 3).trans rfl, (blk_cell BK565.out 0).trans rfl, (blk_cell BK565.out 1).trans rfl, (blk_cell BK565.out 2).trans rfl⟩ (fun hHeld => ?_)
    clear hK K
    refine norm_ (a' := ?_) ?_ ?_
    rotate_left
    ·show Act.put _ (some 76) _ = _
     refine pZ ?_
     rfl
    refine two_ (i := 3) (j := 5) (Ni := some 78) (Nj := some 13) (bA 7 15) (bA 7 39) rfl rfl rfl rfl (by kernel_rfl) (by decide) (by decide) (fun K hK => ?_) (fun K hK => ?_)
    rotate_left
    ·skip
     refine box_step ?hg (N := 13) ?hd (cs := #[.int .i64 0, .int .i64 0, .int .i64 0, .slice none 0 0]) (t := 27) ?hr ?_; (case hd => rfl); (case hg => rfl); (case hr => first | (go_simp; done) | (go_simp; rfl))
     intro gb645 hg w183 hbox hb
     replace HO_586003 := aM (Kd.R_below (qR HO_586003.out) hb)
     replace HO_593003 := aM (Kd.R_below (qR HO_593003.out) hb)
     replace HO_599001 := aM (Kd.R_below (qR HO_599001.out) hb)
     replace HO_606003 := aM (Kd.R_below (qR HO_606003.out) hb)
     replace HO633 := aM (Kd.R_below (qR HO633.out) hb)
     have BK645 := aM (hbox)
     have GW645 := gW hg HB
     have GE645 := gW hg HB
     replace HB := bS HB hb
     have NB564_645 := nL hg BK564
     have NB645_564 := nG hg BK564
     replace BK564 := bB BK564 hb
     have NB565_645 := nL hg BK565
     have NB645_565 := nG hg BK565
     replace BK565 := bB BK565 hb
     have NB585_645 := nL hg BK585
     have NB645_585 := nG hg BK585
     replace BK585 := bB BK585 hb
     have NB592_645 := nL hg BK592
     have NB645_592 := nG hg BK592
     replace BK592 := bB BK592 hb
     have NB598_645 := nL hg BK598
     have NB645_598 := nG hg BK598
     replace BK598 := bB BK598 hb
     have NB605_645 := nL hg BK605
     have NB645_605 := nG hg BK605
     replace BK605 := bB BK605 hb
     clear hb hbox hg
     refine hK.out _ _ ⟨(blk_cell BK564.out 0).trans rfl, (blk_cell BK564.out 1).trans rfl, (blk_cell BK564.out 2).trans rfl, (blk_cell BK564.out 3).trans rfl, (blk_cell BK565.out 0).trans rfl, (blk_cell BK565.out 1).trans rfl, (blk_cell BK565.out 2).trans rfl⟩ (fun hHeld => ?_)
     clear hK K
     refine norm_ (a' := ?_) ?_ ?_
     rotate_left
     ·show Act.put _ (some 13) _ = _
      refine pZ ?_
      rfl
     refine one_ (i := 3) (N := some 78) (bA 7 47) rfl rfl (by kernel_rfl) (by decide) (fun K hK => ?_)
     refine goes_ Try.func34 (by kernel_rfl) rfl #[.agg #[.int .i64 a1_0, .slice A1_1 l1_1.length c1_1, .int .i64 a1_2]] (by rfl) rfl rfl qM ?_
     with_reducible refine (laws_toKernel.calls kj34 a1_0 _ _ l1_1 a1_2 t634 t635 t638 _ ?side1 ?side2 A128.out).mono ?_
     (case side1 => exact qC (Kd.C_below HR1_1.out HB.out))
     (case side2 => exact HC1_1.out)
     rintro e w184 ⟨v636, rfl, ho0, hb⟩
     refine ⟨_, rfl, ?_⟩
     have HO637 := aM (Kd.R_lower (Kd.R_new' (Kd.R_new' (Kd.R_new' (Kd.R_new' (Kd.R_new' ho0 (Kd.R_lt (qR HO_586003.out))) (Kd.R_lt (qR HO_593003.out))) (Kd.R_lt (qR HO_599001.out))) (Kd.R_lt (qR HO_606003.out))) (Kd.R_lt (qR HO633.out))) (below_size (qW HB.out)))
     replace HO_586003 := aM (Kd.R_elder' (qR HO_586003.out) (Kd.R_base ho0) hb)
     replace HO_593003 := aM (Kd.R_elder' (qR HO_593003.out) (Kd.R_base ho0) hb)
     replace HO_599001 := aM (Kd.R_elder' (qR HO_599001.out) (Kd.R_base ho0) hb)
     replace HO_606003 := aM (Kd.R_elder' (qR HO_606003.out) (Kd.R_base ho0) hb)
     replace HO633 := aM (Kd.R_elder' (qR HO633.out) (Kd.R_base ho0) hb)
     replace BK564 := bB BK564 hb
     replace BK565 := bB BK565 hb
     replace BK585 := bB BK585 hb
     replace BK592 := bB BK592 hb
     replace BK598 := bB BK598 hb
     replace BK605 := bB BK605 hb
     replace BK645 := bB BK645 hb
     replace HB := bS HB hb
     (try clear hb)
     (try clear hb2)
     (try clear hk)
     (try clear hi)
     (try clear ho0)
     obtain ⟨Ao185, co185, eo185⟩ := Kd.R_slice HO633.out
     (first | subst eo185 | (injection eo185 with f1_ f2_ f3_; have f4_ := f1_.symm; have f5_ := f3_.symm; clear f1_ f2_ f3_; subst f4_; subst f5_))
     obtain ⟨Ao186, co186, eo186⟩ := Kd.R_slice HO637.out
     (first | subst eo186 | (injection eo186 with f1_ f2_ f3_; have f4_ := f1_.symm; have f5_ := f3_.symm; clear f1_ f2_ f3_; subst f4_; subst f5_))
     refine hK.out _ _ ⟨(blk_cell BK564.out 0).trans rfl, (blk_cell BK564.out 1).trans rfl, (blk_cell BK564.out 2).trans rfl, (blk_cell BK564.out 3).trans rfl, (blk_cell BK565.out 0).trans rfl, (blk_cell BK565.out 1).trans rfl, (blk_cell BK565.out 2).trans rfl⟩ (fun hHeld => ?_)
     clear hK K
     refine norm_ (a' := ?_) ?_ ?_
     rotate_left
     ·show Act.put _ (some 78) _ = _
      refine pZ ?_
      rfl
     refine one_ (i := 4) (N := some 79) (bA 7 63) rfl rfl (by kernel_rfl) (by decide) (fun K hK => ?_)
     refine goes_ Try.func35 (by kernel_rfl) rfl #[.agg #[.int .i64 t628, .int .i64 t629, .int .i64 t630, .slice Ao185 t631.length co185], .agg #[.int .i64 t634, .slice Ao186 t635.length co186, .int .i64 t638]] (by rfl) rfl rfl qM ?_
     with_reducible refine (impl_ConvolveImage.calls t628 t629 t630 _ _ t631 t634 _ _ t635 t638 t639 t640 t641 t642 _ ?side1 ?side2 ?side3 ?side4 A129.out).mono ?_
     (case side1 => exact qC (Kd.R_reads' HO633.out).2.2)
     (case side2 => exact (Kd.R_reads' HO633.out).2.1)
     (case side3 => exact qC (Kd.R_reads' HO637.out).2.2)
     (case side4 => exact (Kd.R_reads' HO637.out).2.1)
     rintro e w187 ⟨v643, rfl, ho0, hb⟩
     refine ⟨_, rfl, ?_⟩
     have HO644 := aM (Kd.R_lower (Kd.R_new' (Kd.R_new' (Kd.R_new' (Kd.R_new' (Kd.R_new' (Kd.R_new' ho0 (Kd.R_lt (qR HO_586003.out))) (Kd.R_lt (qR HO_593003.out))) (Kd.R_lt (qR HO_599001.out))) (Kd.R_lt (qR HO_606003.out))) (Kd.R_lt (qR HO633.out))) (Kd.R_lt (qR HO637.out))) (below_size (qW HB.out)))
     replace HO_586003 := aM (Kd.R_elder' (qR HO_586003.out) (Kd.R_base ho0) hb)
     replace HO_593003 := aM (Kd.R_elder' (qR HO_593003.out) (Kd.R_base ho0) hb)
     replace HO_599001 := aM (Kd.R_elder' (qR HO_599001.out) (Kd.R_base ho0) hb)
     replace HO_606003 := aM (Kd.R_elder' (qR HO_606003.out) (Kd.R_base ho0) hb)
     replace HO633 := aM (Kd.R_elder' (qR HO633.out) (Kd.R_base ho0) hb)
     replace HO637 := aM (Kd.R_elder' (qR HO637.out) (Kd.R_base ho0) hb)
     replace BK564 := bB BK564 hb
     replace BK565 := bB BK565 hb
     replace BK585 := bB BK585 hb
     replace BK592 := bB BK592 hb
     replace BK598 := bB BK598 hb
     replace BK605 := bB BK605 hb
     replace BK645 := bB BK645 hb
     replace HB := bS HB hb
     (try clear hb)
     (try clear hb2)
     (try clear hk)
     (try clear hi)
     (try clear ho0)
     refine hK.out _ _ ⟨(blk_cell BK564.out 0).trans rfl, (blk_cell BK564.out 1).trans rfl, (blk_cell BK564.out 2).trans rfl, (blk_cell BK564.out 3).trans rfl, (blk_cell BK565.out 0).trans rfl, (blk_cell BK565.out 1).trans rfl, (blk_cell BK565.out 2).trans rfl⟩ (fun hHeld => ?_)
     clear hK K
     refine norm_ (a' := ?_) ?_ ?_
     rotate_left
     ·show Act.put _ (some 79) _ = _
      refine pZ ?_
      rfl
     exact norm_ (by simp only [putAll, Act.put, List.setIfInBounds_toArray, List.set_cons_zero, List.set_cons_succ]) (hCont (.slice Ao185 t631.length co185, .slice Ao186 t635.length co186, v643, gb645) _ ⟨hHeld, (by refine qR ?_; exact Kd.R_mono HO633.out (fun _ hk => ⟨hk.1.2, ⟨hk.2, ⟨hk.1.1.1.1.1.2, ⟨hk.1.1.1.1.2, ⟨hk.1.1.1.2, hk.1.1.2⟩⟩⟩⟩⟩)), (by refine qR ?_; exact Kd.R_mono HO637.out (fun _ hk => ⟨hk.1.2, ⟨hk.2, ⟨hk.1.1.1.1.1.2, ⟨hk.1.1.1.1.2, ⟨hk.1.1.1.2, hk.1.1.2⟩⟩⟩⟩⟩)), (by refine qR ?_; exact Kd.R_mono HO644.out (fun _ hk => ⟨hk.1.2, ⟨hk.2, ⟨hk.1.1.1.1.1.2, ⟨hk.1.1.1.1.2, ⟨hk.1.1.1.2, hk.1.1.2⟩⟩⟩⟩⟩)), (by refine qR ?_; exact Kd.R_mono HO_586003.out (fun _ hk => ⟨hk.1.1.2, ⟨hk.1.2, ⟨hk.2, ⟨hk.1.1.1.1, ⟨hk.1.1.1.2.1, hk.1.1.1.2.2⟩⟩⟩⟩⟩)), (by refine qR ?_; exact Kd.R_mono HO_593003.out (fun _ hk => ⟨hk.1.1.2, ⟨hk.1.2, ⟨hk.2, ⟨hk.1.1.1.1, ⟨hk.1.1.1.2.1, hk.1.1.1.2.2⟩⟩⟩⟩⟩)), (by refine qR ?_; exact Kd.R_mono HO_599001.out (fun _ hk => ⟨hk.1.1.2, ⟨hk.1.2, ⟨hk.2, ⟨hk.1.1.1.1, ⟨hk.1.1.1.2.1, hk.1.1.1.2.2⟩⟩⟩⟩⟩)), (by refine qR ?_; exact Kd.R_mono HO_606003.out (fun _ hk => ⟨hk.1.1.2, ⟨hk.1.2, ⟨hk.2, ⟨hk.1.1.1.1, ⟨hk.1.1.1.2.1, hk.1.1.1.2.2⟩⟩⟩⟩⟩)), (qB BK564.out), (qB BK565.out), (qB BK585.out), (qB BK592.out), (qB BK598.out), (qB BK605.out), (qB BK645.out), GW645.out, GE645.out, NB564_645.out, NB645_564.out, NB565_645.out, NB645_565.out, NB585_645.out, NB645_585.out, NB592_645.out, NB645_592.out, NB598_645.out, NB645_598.out, NB605_645.out, NB645_605.out, (qW HB.out)⟩)
    skip
    refine goes_ Try.func34 (by kernel_rfl) rfl #[.agg #[.int .i64 a1_0, .slice A1_1 l1_1.length c1_1, .int .i64 a1_2]] (by rfl) rfl rfl qM ?_
    with_reducible refine (laws_toKernel.calls kj34 a1_0 _ _ l1_1 a1_2 t634 t635 t638 _ ?side1 ?side2 A128.out).mono ?_
    (case side1 => exact qC (Kd.C_below HR1_1.out HB.out))
    (case side2 => exact HC1_1.out)
    rintro e w183 ⟨v636, rfl, ho0, hb⟩
    refine ⟨_, rfl, ?_⟩
    have HO637 := aM (Kd.R_lower (Kd.R_new' (Kd.R_new' (Kd.R_new' (Kd.R_new' (Kd.R_new' ho0 (Kd.R_lt (qR HO_586003.out))) (Kd.R_lt (qR HO_593003.out))) (Kd.R_lt (qR HO_599001.out))) (Kd.R_lt (qR HO_606003.out))) (Kd.R_lt (qR HO633.out))) (below_size (qW HB.out)))
    replace HO_586003 := aM (Kd.R_elder' (qR HO_586003.out) (Kd.R_base ho0) hb)
    replace HO_593003 := aM (Kd.R_elder' (qR HO_593003.out) (Kd.R_base ho0) hb)
    replace HO_599001 := aM (Kd.R_elder' (qR HO_599001.out) (Kd.R_base ho0) hb)
    replace HO_606003 := aM (Kd.R_elder' (qR HO_606003.out) (Kd.R_base ho0) hb)
    replace HO633 := aM (Kd.R_elder' (qR HO633.out) (Kd.R_base ho0) hb)
    replace BK564 := bB BK564 hb
    replace BK565 := bB BK565 hb
    replace BK585 := bB BK585 hb
    replace BK592 := bB BK592 hb
    replace BK598 := bB BK598 hb
    replace BK605 := bB BK605 hb
    replace HB := bS HB hb
    (try clear hb)
    (try clear hb2)
    (try clear hk)
    (try clear hi)
    (try clear ho0)
    obtain ⟨Ao184, co184, eo184⟩ := Kd.R_slice HO633.out
    (first | subst eo184 | (injection eo184 with f1_ f2_ f3_; have f4_ := f1_.symm; have f5_ := f3_.symm; clear f1_ f2_ f3_; subst f4_; subst f5_))
    obtain ⟨Ao185, co185, eo185⟩ := Kd.R_slice HO637.out
    (first | subst eo185 | (injection eo185 with f1_ f2_ f3_; have f4_ := f1_.symm; have f5_ := f3_.symm; clear f1_ f2_ f3_; subst f4_; subst f5_))
    refine hK.out _ _ ⟨(blk_cell BK564.out 0).trans rfl, (blk_cell BK564.out 1).trans rfl, (blk_cell BK564.out 2).trans rfl, (blk_cell BK564.out 3).trans rfl, (blk_cell BK565.out 0).trans rfl, (blk_cell BK565.out 1).trans rfl, (blk_cell BK565.out 2).trans rfl⟩ (fun hHeld => ?_)
    clear hK K
    refine norm_ (a' := ?_) ?_ ?_
    rotate_left
    ·show Act.put _ (some 78) _ = _
     refine pZ ?_
     rfl
    refine two_ (i := 4) (j := 5) (Ni := some 79) (Nj := some 13) (bA 7 31) (bA 7 47) rfl rfl rfl rfl (by kernel_rfl) (by decide) (by decide) (fun K hK => ?_) (fun K hK => ?_)
    ·skip
     refine goes_ Try.func35 (by kernel_rfl) rfl #[.agg #[.int .i64 t628, .int .i64 t629, .int .i64 t630, .slice Ao184 t631.length co184], .agg #[.int .i64 t634, .slice Ao185 t635.length co185, .int .i64 t638]] (by rfl) rfl rfl qM ?_
     with_reducible refine (impl_ConvolveImage.calls t628 t629 t630 _ _ t631 t634 _ _ t635 t638 t639 t640 t641 t642 _ ?side1 ?side2 ?side3 ?side4 A129.out).mono ?_
     (case side1 => exact qC (Kd.R_reads' HO633.out).2.2)
     (case side2 => exact (Kd.R_reads' HO633.out).2.1)
     (case side3 => exact qC (Kd.R_reads' HO637.out).2.2)
     (case side4 => exact (Kd.R_reads' HO637.out).2.1)
     rintro e w186 ⟨v643, rfl, ho0, hb⟩
     refine ⟨_, rfl, ?_⟩
     have HO644 := aM (Kd.R_lower (Kd.R_new' (Kd.R_new' (Kd.R_new' (Kd.R_new' (Kd.R_new' (Kd.R_new' ho0 (Kd.R_lt (qR HO_586003.out))) (Kd.R_lt (qR HO_593003.out))) (Kd.R_lt (qR HO_599001.out))) (Kd.R_lt (qR HO_606003.out))) (Kd.R_lt (qR HO633.out))) (Kd.R_lt (qR HO637.out))) (below_size (qW HB.out)))
     replace HO_586003 := aM (Kd.R_elder' (qR HO_586003.out) (Kd.R_base ho0) hb)
     replace HO_593003 := aM (Kd.R_elder' (qR HO_593003.out) (Kd.R_base ho0) hb)
     replace HO_599001 := aM (Kd.R_elder' (qR HO_599001.out) (Kd.R_base ho0) hb)
     replace HO_606003 := aM (Kd.R_elder' (qR HO_606003.out) (Kd.R_base ho0) hb)
     replace HO633 := aM (Kd.R_elder' (qR HO633.out) (Kd.R_base ho0) hb)
     replace HO637 := aM (Kd.R_elder' (qR HO637.out) (Kd.R_base ho0) hb)
     replace BK564 := bB BK564 hb
     replace BK565 := bB BK565 hb
     replace BK585 := bB BK585 hb
     replace BK592 := bB BK592 hb
     replace BK598 := bB BK598 hb
     replace BK605 := bB BK605 hb
     replace HB := bS HB hb
     (try clear hb)
     (try clear hb2)
     (try clear hk)
     (try clear hi)
     (try clear ho0)
     refine hK.out _ _ ⟨(blk_cell BK564.out 0).trans rfl, (blk_cell BK564.out 1).trans rfl, (blk_cell BK564.out 2).trans rfl, (blk_cell BK564.out 3).trans rfl, (blk_cell BK565.out 0).trans rfl, (blk_cell BK565.out 1).trans rfl, (blk_cell BK565.out 2).trans rfl⟩ (fun hHeld => ?_)
     clear hK K
     refine norm_ (a' := ?_) ?_ ?_
     rotate_left
     ·show Act.put _ (some 79) _ = _
      refine pZ ?_
      rfl
     refine one_ (i := 5) (N := some 13) (bA 7 63) rfl rfl (by kernel_rfl) (by decide) (fun K hK => ?_)
     refine box_step ?hg (N := 13) ?hd (cs := #[.int .i64 0, .int .i64 0, .int .i64 0, .slice none 0 0]) (t := 27) ?hr ?_; (case hd => rfl); (case hg => rfl); (case hr => first | (go_simp; done) | (go_simp; rfl))
     intro gb645 hg w187 hbox hb
     replace HO_586003 := aM (Kd.R_below (qR HO_586003.out) hb)
     replace HO_593003 := aM (Kd.R_below (qR HO_593003.out) hb)
     replace HO_599001 := aM (Kd.R_below (qR HO_599001.out) hb)
     replace HO_606003 := aM (Kd.R_below (qR HO_606003.out) hb)
     replace HO633 := aM (Kd.R_below (qR HO633.out) hb)
     replace HO637 := aM (Kd.R_below (qR HO637.out) hb)
     replace HO644 := aM (Kd.R_below (qR HO644.out) hb)
     have BK645 := aM (hbox)
     have GW645 := gW hg HB
     have GE645 := gW hg HB
     replace HB := bS HB hb
     have NB564_645 := nL hg BK564
     have NB645_564 := nG hg BK564
     replace BK564 := bB BK564 hb
     have NB565_645 := nL hg BK565
     have NB645_565 := nG hg BK565
     replace BK565 := bB BK565 hb
     have NB585_645 := nL hg BK585
     have NB645_585 := nG hg BK585
     replace BK585 := bB BK585 hb
     have NB592_645 := nL hg BK592
     have NB645_592 := nG hg BK592
     replace BK592 := bB BK592 hb
     have NB598_645 := nL hg BK598
     have NB645_598 := nG hg BK598
     replace BK598 := bB BK598 hb
     have NB605_645 := nL hg BK605
     have NB645_605 := nG hg BK605
     replace BK605 := bB BK605 hb
     clear hb hbox hg
     refine hK.out _ _ ⟨(blk_cell BK564.out 0).trans rfl, (blk_cell BK564.out 1).trans rfl, (blk_cell BK564.out 2).trans rfl, (blk_cell BK564.out 3).trans rfl, (blk_cell BK565.out 0).trans rfl, (blk_cell BK565.out 1).trans rfl, (blk_cell BK565.out 2).trans rfl⟩ (fun hHeld => ?_)
     clear hK K
     refine norm_ (a' := ?_) ?_ ?_
     rotate_left
     ·show Act.put _ (some 13) _ = _
      refine pZ ?_
      rfl
     exact norm_ (by simp only [putAll, Act.put, List.setIfInBounds_toArray, List.set_cons_zero, List.set_cons_succ]) (hCont (.slice Ao184 t631.length co184, .slice Ao185 t635.length co185, v643, gb645) _ ⟨hHeld, (by refine qR ?_; exact Kd.R_mono HO633.out (fun _ hk => ⟨hk.1.2, ⟨hk.2, ⟨hk.1.1.1.1.1.2, ⟨hk.1.1.1.1.2, ⟨hk.1.1.1.2, hk.1.1.2⟩⟩⟩⟩⟩)), (by refine qR ?_; exact Kd.R_mono HO637.out (fun _ hk => ⟨hk.1.2, ⟨hk.2, ⟨hk.1.1.1.1.1.2, ⟨hk.1.1.1.1.2, ⟨hk.1.1.1.2, hk.1.1.2⟩⟩⟩⟩⟩)), (by refine qR ?_; exact Kd.R_mono HO644.out (fun _ hk => ⟨hk.1.2, ⟨hk.2, ⟨hk.1.1.1.1.1.2, ⟨hk.1.1.1.1.2, ⟨hk.1.1.1.2, hk.1.1.2⟩⟩⟩⟩⟩)), (by refine qR ?_; exact Kd.R_mono HO_586003.out (fun _ hk => ⟨hk.1.1.2, ⟨hk.1.2, ⟨hk.2, ⟨hk.1.1.1.1, ⟨hk.1.1.1.2.1, hk.1.1.1.2.2⟩⟩⟩⟩⟩)), (by refine qR ?_; exact Kd.R_mono HO_593003.out (fun _ hk => ⟨hk.1.1.2, ⟨hk.1.2, ⟨hk.2, ⟨hk.1.1.1.1, ⟨hk.1.1.1.2.1, hk.1.1.1.2.2⟩⟩⟩⟩⟩)), (by refine qR ?_; exact Kd.R_mono HO_599001.out (fun _ hk => ⟨hk.1.1.2, ⟨hk.1.2, ⟨hk.2, ⟨hk.1.1.1.1, ⟨hk.1.1.1.2.1, hk.1.1.1.2.2⟩⟩⟩⟩⟩)), (by refine qR ?_; exact Kd.R_mono HO_606003.out (fun _ hk => ⟨hk.1.1.2, ⟨hk.1.2, ⟨hk.2, ⟨hk.1.1.1.1, ⟨hk.1.1.1.2.1, hk.1.1.1.2.2⟩⟩⟩⟩⟩)), (qB BK564.out), (qB BK565.out), (qB BK585.out), (qB BK592.out), (qB BK598.out), (qB BK605.out), (qB BK645.out), GW645.out, GE645.out, NB564_645.out, NB645_564.out, NB565_645.out, NB645_565.out, NB585_645.out, NB645_585.out, NB592_645.out, NB645_592.out, NB598_645.out, NB645_598.out, NB605_645.out, NB645_605.out, (qW HB.out)⟩)
    skip
    refine box_step ?hg (N := 13) ?hd (cs := #[.int .i64 0, .int .i64 0, .int .i64 0, .slice none 0 0]) (t := 27) ?hr ?_; (case hd => rfl); (case hg => rfl); (case hr => first | (go_simp; done) | (go_simp; rfl))
    intro gb645 hg w184 hbox hb
    replace HO_586003 := aM (Kd.R_below (qR HO_586003.out) hb)
    replace HO_593003 := aM (Kd.R_below (qR HO_593003.out) hb)
    replace HO_599001 := aM (Kd.R_below (qR HO_599001.out) hb)
    replace HO_606003 := aM (Kd.R_below (qR HO_606003.out) hb)
    replace HO633 := aM (Kd.R_below (qR HO633.out) hb)
    replace HO637 := aM (Kd.R_below (qR HO637.out) hb)
    have BK645 := aM (hbox)
    have GW645 := gW hg HB
    have GE645 := gW hg HB
    replace HB := bS HB hb
    have NB564_645 := nL hg BK564
    have NB645_564 := nG hg BK564
    replace BK564 := bB BK564 hb
    have NB565_645 := nL hg BK565
    have NB645_565 := nG hg BK565
    replace BK565 := bB BK565 hb
    have NB585_645 := nL hg BK585
    have NB645_585 := nG hg BK585
    replace BK585 := bB BK585 hb
    have NB592_645 := nL hg BK592
    have NB645_592 := nG hg BK592
    replace BK592 := bB BK592 hb
    have NB598_645 := nL hg BK598
    have NB645_598 := nG hg BK598
    replace BK598 := bB BK598 hb
    have NB605_645 := nL hg BK605
    have NB645_605 := nG hg BK605
    replace BK605 := bB BK605 hb
    clear hb hbox hg
    obtain ⟨Ao185, co185, eo185⟩ := Kd.R_slice HO633.out
    (first | subst eo185 | (injection eo185 with f1_ f2_ f3_; have f4_ := f1_.symm; have f5_ := f3_.symm; clear f1_ f2_ f3_; subst f4_; subst f5_))
    obtain ⟨Ao186, co186, eo186⟩ := Kd.R_slice HO637.out
    (first | subst eo186 | (injection eo186 with f1_ f2_ f3_; have f4_ := f1_.symm; have f5_ := f3_.symm; clear f1_ f2_ f3_; subst f4_; subst f5_))
    refine hK.out _ _ ⟨(blk_cell BK564.out 0).trans rfl, (blk_cell BK564.out 1).trans rfl, (blk_cell BK564.out 2).trans rfl, (blk_cell BK564.out 3).trans rfl, (blk_cell BK565.out 0).trans rfl, (blk_cell BK565.out 1).trans rfl, (blk_cell BK565.out 2).trans rfl⟩ (fun hHeld => ?_)
    clear hK K
    refine norm_ (a' := ?_) ?_ ?_
    rotate_left
    ·show Act.put _ (some 13) _ = _
     refine pZ ?_
     rfl
    refine one_ (i := 4) (N := some 79) (bA 7 63) rfl rfl (by kernel_rfl) (by decide) (fun K hK => ?_)
    refine goes_ Try.func35 (by kernel_rfl) rfl #[.agg #[.int .i64 t628, .int .i64 t629, .int .i64 t630, .slice Ao185 t631.length co185], .agg #[.int .i64 t634, .slice Ao186 t635.length co186, .int .i64 t638]] (by rfl) rfl rfl qM ?_
    with_reducible refine (impl_ConvolveImage.calls t628 t629 t630 _ _ t631 t634 _ _ t635 t638 t639 t640 t641 t642 _ ?side1 ?side2 ?side3 ?side4 A129.out).mono ?_
    (case side1 => exact qC (Kd.R_reads' HO633.out).2.2)
    (case side2 => exact (Kd.R_reads' HO633.out).2.1)
    (case side3 => exact qC (Kd.R_reads' HO637.out).2.2)
    (case side4 => exact (Kd.R_reads' HO637.out).2.1)
    rintro e w187 ⟨v643, rfl, ho0, hb⟩
    refine ⟨_, rfl, ?_⟩
    have HO644 := aM (Kd.R_lower (Kd.R_new' (Kd.R_new' (Kd.R_new' (Kd.R_new' (Kd.R_new' (Kd.R_new' ho0 (Kd.R_lt (qR HO_586003.out))) (Kd.R_lt (qR HO_593003.out))) (Kd.R_lt (qR HO_599001.out))) (Kd.R_lt (qR HO_606003.out))) (Kd.R_lt (qR HO633.out))) (Kd.R_lt (qR HO637.out))) (below_size (qW HB.out)))
    replace HO_586003 := aM (Kd.R_elder' (qR HO_586003.out) (Kd.R_base ho0) hb)
    replace HO_593003 := aM (Kd.R_elder' (qR HO_593003.out) (Kd.R_base ho0) hb)
    replace HO_599001 := aM (Kd.R_elder' (qR HO_599001.out) (Kd.R_base ho0) hb)
    replace HO_606003 := aM (Kd.R_elder' (qR HO_606003.out) (Kd.R_base ho0) hb)
    replace HO633 := aM (Kd.R_elder' (qR HO633.out) (Kd.R_base ho0) hb)
    replace HO637 := aM (Kd.R_elder' (qR HO637.out) (Kd.R_base ho0) hb)
    replace BK564 := bB BK564 hb
    replace BK565 := bB BK565 hb
    replace BK585 := bB BK585 hb
    replace BK592 := bB BK592 hb
    replace BK598 := bB BK598 hb
    replace BK605 := bB BK605 hb
    replace BK645 := bB BK645 hb
    replace HB := bS HB hb
    (try clear hb)
    (try clear hb2)
    (try clear hk)
    (try clear hi)
    (try clear ho0)
    refine hK.out _ _ ⟨(blk_cell BK564.out 0).trans rfl, (blk_cell BK564.out 1).trans rfl, (blk_cell BK564.out 2).trans rfl, (blk_cell BK564.out 3).trans rfl, (blk_cell BK565.out 0).trans rfl, (blk_cell BK565.out 1).trans rfl, (blk_cell BK565.out 2).trans rfl⟩ (fun hHeld => ?_)
    clear hK K
    refine norm_ (a' := ?_) ?_ ?_
    rotate_left
    ·show Act.put _ (some 79) _ = _
     refine pZ ?_
     rfl
    exact norm_ (by simp only [putAll, Act.put, List.setIfInBounds_toArray, List.set_cons_zero, List.set_cons_succ]) (hCont (.slice Ao185 t631.length co185, .slice Ao186 t635.length co186, v643, gb645) _ ⟨hHeld, (by refine qR ?_; exact Kd.R_mono HO633.out (fun _ hk => ⟨hk.1.2, ⟨hk.2, ⟨hk.1.1.1.1.1.2, ⟨hk.1.1.1.1.2, ⟨hk.1.1.1.2, hk.1.1.2⟩⟩⟩⟩⟩)), (by refine qR ?_; exact Kd.R_mono HO637.out (fun _ hk => ⟨hk.1.2, ⟨hk.2, ⟨hk.1.1.1.1.1.2, ⟨hk.1.1.1.1.2, ⟨hk.1.1.1.2, hk.1.1.2⟩⟩⟩⟩⟩)), (by refine qR ?_; exact Kd.R_mono HO644.out (fun _ hk => ⟨hk.1.2, ⟨hk.2, ⟨hk.1.1.1.1.1.2, ⟨hk.1.1.1.1.2, ⟨hk.1.1.1.2, hk.1.1.2⟩⟩⟩⟩⟩)), (by refine qR ?_; exact Kd.R_mono HO_586003.out (fun _ hk => ⟨hk.1.1.2, ⟨hk.1.2, ⟨hk.2, ⟨hk.1.1.1.1, ⟨hk.1.1.1.2.1, hk.1.1.1.2.2⟩⟩⟩⟩⟩)), (by refine qR ?_; exact Kd.R_mono HO_593003.out (fun _ hk => ⟨hk.1.1.2, ⟨hk.1.2, ⟨hk.2, ⟨hk.1.1.1.1, ⟨hk.1.1.1.2.1, hk.1.1.1.2.2⟩⟩⟩⟩⟩)), (by refine qR ?_; exact Kd.R_mono HO_599001.out (fun _ hk => ⟨hk.1.1.2, ⟨hk.1.2, ⟨hk.2, ⟨hk.1.1.1.1, ⟨hk.1.1.1.2.1, hk.1.1.1.2.2⟩⟩⟩⟩⟩)), (by refine qR ?_; exact Kd.R_mono HO_606003.out (fun _ hk => ⟨hk.1.1.2, ⟨hk.1.2, ⟨hk.2, ⟨hk.1.1.1.1, ⟨hk.1.1.1.2.1, hk.1.1.1.2.2⟩⟩⟩⟩⟩)), (qB BK564.out), (qB BK565.out), (qB BK585.out), (qB BK592.out), (qB BK598.out), (qB BK605.out), (qB BK645.out), GW645.out, GE645.out, NB564_645.out, NB645_564.out, NB565_645.out, NB645_565.out, NB585_645.out, NB645_585.out, NB592_645.out, NB645_592.out, NB598_645.out, NB645_598.out, NB605_645.out, NB645_605.out, (qW HB.out)⟩)
   rintro ⟨v632, v636, v643, gb645⟩ w188 ⟨hS_, h0_, h1_, h2_, h3_, h4_, h5_, h6_, h7_, h8_, h9_, h10_, h11_, h12_, h13_, h14_, h15_, h16_, h17_, h18_, h19_, h20_, h21_, h22_, h23_, h24_, h25_, h26_, h27_, h28_⟩
   have HO633 : Aside0 (Kd.R (Kd.int .i64) 3 w188 w.heap.size (fun k_ => some k_ ≠ (v636 : Value).ownBlock ∧ some k_ ≠ (v643 : Value).ownBlock ∧ some k_ ≠ (.slice Ao54 t582.length co54 : Value).ownBlock ∧ some k_ ≠ (.slice Ao64 t621.length co64 : Value).ownBlock ∧ some k_ ≠ (.slice Ao74 t623.length co74 : Value).ownBlock ∧ some k_ ≠ (.slice Ao84 t602.length co84 : Value).ownBlock) v632 t631) := ⟨h0_⟩
   have HO637 : Aside0 (Kd.R (Kd.int .i64) 3 w188 w.heap.size (fun k_ => some k_ ≠ (v632 : Value).ownBlock ∧ some k_ ≠ (v643 : Value).ownBlock ∧ some k_ ≠ (.slice Ao54 t582.length co54 : Value).ownBlock ∧ some k_ ≠ (.slice Ao64 t621.length co64 : Value).ownBlock ∧ some k_ ≠ (.slice Ao74 t623.length co74 : Value).ownBlock ∧ some k_ ≠ (.slice Ao84 t602.length co84 : Value).ownBlock) v636 t635) := ⟨h1_⟩
   have HO644 : Aside0 (Kd.R (Kd.int .i64) 3 w188 w.heap.size (fun k_ => some k_ ≠ (v632 : Value).ownBlock ∧ some k_ ≠ (v636 : Value).ownBlock ∧ some k_ ≠ (.slice Ao54 t582.length co54 : Value).ownBlock ∧ some k_ ≠ (.slice Ao64 t621.length co64 : Value).ownBlock ∧ some k_ ≠ (.slice Ao74 t623.length co74 : Value).ownBlock ∧ some k_ ≠ (.slice Ao84 t602.length co84 : Value).ownBlock) v643 t642) := ⟨h2_⟩
   replace HO_586003 : Aside0 (Kd.R (Kd.int .i64) 3 w188 w.heap.size (fun k_ => some k_ ≠ (v632 : Value).ownBlock ∧ some k_ ≠ (v636 : Value).ownBlock ∧ some k_ ≠ (v643 : Value).ownBlock ∧ some k_ ≠ (.slice Ao64 t621.length co64 : Value).ownBlock ∧ some k_ ≠ (.slice Ao74 t623.length co74 : Value).ownBlock ∧ some k_ ≠ (.slice Ao84 t602.length co84 : Value).ownBlock) (.slice Ao54 t582.length co54) t582) := ⟨h3_⟩
   replace HO_593003 : Aside0 (Kd.R (Kd.int .i64) 3 w188 w.heap.size (fun k_ => some k_ ≠ (v632 : Value).ownBlock ∧ some k_ ≠ (v636 : Value).ownBlock ∧ some k_ ≠ (v643 : Value).ownBlock ∧ some k_ ≠ (.slice Ao54 t582.length co54 : Value).ownBlock ∧ some k_ ≠ (.slice Ao74 t623.length co74 : Value).ownBlock ∧ some k_ ≠ (.slice Ao84 t602.length co84 : Value).ownBlock) (.slice Ao64 t621.length co64) t621) := ⟨h4_⟩
   replace HO_599001 : Aside0 (Kd.R (Kd.int .i64) 3 w188 w.heap.size (fun k_ => some k_ ≠ (v632 : Value).ownBlock ∧ some k_ ≠ (v636 : Value).ownBlock ∧ some k_ ≠ (v643 : Value).ownBlock ∧ some k_ ≠ (.slice Ao54 t582.length co54 : Value).ownBlock ∧ some k_ ≠ (.slice Ao64 t621.length co64 : Value).ownBlock ∧ some k_ ≠ (.slice Ao84 t602.length co84 : Value).ownBlock) (.slice Ao74 t623.length co74) t623) := ⟨h5_⟩
   replace HO_606003 : Aside0 (Kd.R (Kd.int .i64) 3 w188 w.heap.size (fun k_ => some k_ ≠ (v632 : Value).ownBlock ∧ some k_ ≠ (v636 : Value).ownBlock ∧ some k_ ≠ (v643 : Value).ownBlock ∧ some k_ ≠ (.slice Ao54 t582.length co54 : Value).ownBlock ∧ some k_ ≠ (.slice Ao64 t621.length co64 : Value).ownBlock ∧ some k_ ≠ (.slice Ao74 t623.length co74 : Value).ownBlock) (.slice Ao84 t602.length co84) t626) := ⟨h6_⟩
   replace BK564 : Aside0 (w188.heap[gb564]? = some (.cells #[.int .i64 a0_0, .int .i64 a0_1, .int .i64 a0_2, .slice A0_3 l0_3.length c0_3] 34 (0, 0))) := ⟨h7_⟩
   replace BK565 : Aside0 (w188.heap[gb565]? = some (.cells #[.int .i64 a1_0, .slice A1_1 l1_1.length c1_1, .int .i64 a1_2] 46 (0, 0))) := ⟨h8_⟩
   replace BK585 : Aside0 (w188.heap[gb585]? = some (.cells #[.int .i64 t579, .int .i64 t580, .int .i64 t581, .slice Ao54 t582.length co54] 27 (0, 0))) := ⟨h9_⟩
   replace BK592 : Aside0 (w188.heap[gb592]? = some (.cells #[.int .i64 t586, .int .i64 t587, .int .i64 t588, .slice Ao64 t621.length co64] 27 (0, 0))) := ⟨h10_⟩
   replace BK598 : Aside0 (w188.heap[gb598]? = some (.cells #[.int .i64 t593, .slice Ao74 t623.length co74, .int .i64 t597] 49 (0, 0))) := ⟨h11_⟩
   replace BK605 : Aside0 (w188.heap[gb605]? = some (.cells #[.int .i64 t599, .int .i64 t600, .int .i64 t601, .slice Ao84 t602.length co84] 27 (0, 0))) := ⟨h12_⟩
   have BK645 : Aside0 (w188.heap[gb645]? = some (.cells #[.int .i64 0, .int .i64 0, .int .i64 0, .slice none 0 0] 27 (0, 0))) := ⟨h13_⟩
   have GW645 : Aside0 (w.heap.size ≤ gb645) := ⟨h14_⟩
   have GE645 : Aside0 (w.heap.size ≤ gb645) := ⟨h15_⟩
   have NB564_645 : Aside0 (gb564 ≠ gb645) := ⟨h16_⟩
   have NB645_564 : Aside0 (gb645 ≠ gb564) := ⟨h17_⟩
   have NB565_645 : Aside0 (gb565 ≠ gb645) := ⟨h18_⟩
   have NB645_565 : Aside0 (gb645 ≠ gb565) := ⟨h19_⟩
   have NB585_645 : Aside0 (gb585 ≠ gb645) := ⟨h20_⟩
   have NB645_585 : Aside0 (gb645 ≠ gb585) := ⟨h21_⟩
   have NB592_645 : Aside0 (gb592 ≠ gb645) := ⟨h22_⟩
   have NB645_592 : Aside0 (gb645 ≠ gb592) := ⟨h23_⟩
   have NB598_645 : Aside0 (gb598 ≠ gb645) := ⟨h24_⟩
   have NB645_598 : Aside0 (gb645 ≠ gb598) := ⟨h25_⟩
   have NB605_645 : Aside0 (gb605 ≠ gb645) := ⟨h26_⟩
   have NB645_605 : Aside0 (gb645 ≠ gb605) := ⟨h27_⟩
   replace HB : Aside0 (Below w.heap.size w w188) := ⟨h28_⟩
   clear h0_ h1_ h2_ h3_ h4_ h5_ h6_ h7_ h8_ h9_ h10_ h11_ h12_ h13_ h14_ h15_ h16_ h17_ h18_ h19_ h20_ h21_ h22_ h23_ h24_ h25_ h26_ h27_ h28_
   have hHeld : w188.cell? ⟨gb564, 0, none⟩ = some (.int .i64 a0_0) ∧ w188.cell? ⟨gb564, 1, none⟩ = some (.int .i64 a0_1) ∧ w188.cell? ⟨gb564, 2, none⟩ = some (.int .i64 a0_2) ∧ w188.cell? ⟨gb564, 3, none⟩ = some (.slice A0_3 l0_3.length c0_3) ∧ w188.cell? ⟨gb565, 0, none⟩ = some (.int .i64 a1_0) ∧ w188.cell? ⟨gb565, 1, none⟩ = some (.slice A1_1 l1_1.length c1_1) ∧ w188.cell? ⟨gb565, 2, none⟩ = some (.int .i64 a1_2) := hS_
   obtain ⟨Ao192, co192, eo192⟩ := Kd.R_slice HO644.out
   (first | subst eo192 | (injection eo192 with f1_ f2_ f3_; have f4_ := f1_.symm; have f5_ := f3_.symm; clear f1_ f2_ f3_; subst f4_; subst f5_))
   refine norm_ (a' := ?_) ?_ ?_
   rotate_left
   ·simp only [putAll, Act.put, List.setIfInBounds_toArray, List.set_cons_zero, List.set_cons_succ]
    rfl
   refine one_ (i := 6) (N := none) (bA 7 127) rfl rfl (by kernel_rfl) (by decide) (fun K hK => ?_)
   have hs189 : w188.cell? ⟨gb645, 0, none⟩ = some (.int .i64 0) := (blk_cell BK645.out 0).trans rfl
   have hfs189 := blk_frozen BK645.out 0
   have hns189_0 := NB564_645.out
   have hns189_1 := NB565_645.out
   have hns189_2 := NB585_645.out
   have hns189_3 := NB592_645.out
   have hns189_4 := NB598_645.out
   have hns189_5 := NB605_645.out
   have hms189_0 := NB645_564.out
   have hms189_1 := NB645_565.out
   have hms189_2 := NB645_585.out
   have hms189_3 := NB645_592.out
   have hms189_4 := NB645_598.out
   have hms189_5 := NB645_605.out
   have hs190 : w188.cell? ⟨gb645, 1, none⟩ = some (.int .i64 0) := (blk_cell BK645.out 1).trans rfl
   have hfs190 := blk_frozen BK645.out 1
   have hns190_0 := NB564_645.out
   have hns190_1 := NB565_645.out
   have hns190_2 := NB585_645.out
   have hns190_3 := NB592_645.out
   have hns190_4 := NB598_645.out
   have hns190_5 := NB605_645.out
   have hms190_0 := NB645_564.out
   have hms190_1 := NB645_565.out
   have hms190_2 := NB645_585.out
   have hms190_3 := NB645_592.out
   have hms190_4 := NB645_598.out
   have hms190_5 := NB645_605.out
   have hs191 : w188.cell? ⟨gb645, 2, none⟩ = some (.int .i64 0) := (blk_cell BK645.out 2).trans rfl
   have hfs191 := blk_frozen BK645.out 2
   have hns191_0 := NB564_645.out
   have hns191_1 := NB565_645.out
   have hns191_2 := NB585_645.out
   have hns191_3 := NB592_645.out
   have hns191_4 := NB598_645.out
   have hns191_5 := NB605_645.out
   have hms191_0 := NB645_564.out
   have hms191_1 := NB645_565.out
   have hms191_2 := NB645_585.out
   have hms191_3 := NB645_592.out
   have hms191_4 := NB645_598.out
   have hms191_5 := NB645_605.out
   have hs193 : w188.cell? ⟨gb645, 3, none⟩ = some (.slice none 0 0) := (blk_cell BK645.out 3).trans rfl
   have hfs193 := blk_frozen BK645.out 3
   have hns193_0 := NB564_645.out
   have hns193_1 := NB565_645.out
   have hns193_2 := NB585_645.out
   have hns193_3 := NB592_645.out
   have hns193_4 := NB598_645.out
   have hns193_5 := NB605_645.out
   have hms193_0 := NB645_564.out
   have hms193_1 := NB645_565.out
   have hms193_2 := NB645_585.out
   have hms193_3 := NB645_592.out
   have hms193_4 := NB645_598.out
   have hms193_5 := NB645_605.out
   refine skip_ (w1 := ?_) (by rfl) rfl ?_ ?_
   rotate_left
   ·go_simp
    rfl
   refine hK.out _ _ ⟨((cell_far (p := ⟨gb645, _, none⟩) NB564_645.out _).trans (((cell_far (p := ⟨gb645, _, none⟩) NB564_645.out _).trans (((cell_far (p := ⟨gb645, _, none⟩) NB564_645.out _).trans (((cell_far (p := ⟨gb645, _, none⟩) NB564_645.out _).trans (hHeld.1)))))))), ((cell_far (p := ⟨gb645, _, none⟩) NB564_645.out _).trans (((cell_far (p := ⟨gb645, _, none⟩) NB564_645.out _).trans (((cell_far (p := ⟨gb645, _, none⟩) NB564_645.out _).trans (((cell_far (p := ⟨gb645, _, none⟩) NB564_645.out _).trans (hHeld.2.1)))))))), ((cell_far (p := ⟨gb645, _, none⟩) NB564_645.out _).trans (((cell_far (p := ⟨gb645, _, none⟩) NB564_645.out _).trans (((cell_far (p := ⟨gb645, _, none⟩) NB564_645.out _).trans (((cell_far (p := ⟨gb645, _, none⟩) NB564_645.out _).trans (hHeld.2.2.1)))))))), ((cell_far (p := ⟨gb645, _, none⟩) NB564_645.out _).trans (((cell_far (p := ⟨gb645, _, none⟩) NB564_645.out _).trans (((cell_far (p := ⟨gb645, _, none⟩) NB564_645.out _).trans (((cell_far (p := ⟨gb645, _, none⟩) NB564_645.out _).trans (hHeld.2.2.2.1)))))))), ((cell_far (p := ⟨gb645, _, none⟩) NB565_645.out _).trans (((cell_far (p := ⟨gb645, _, none⟩) NB565_645.out _).trans (((cell_far (p := ⟨gb645, _, none⟩) NB565_645.out _).trans (((cell_far (p := ⟨gb645, _, none⟩) NB565_645.out _).trans (hHeld.2.2.2.2.1)))))))), ((cell_far (p := ⟨gb645, _, none⟩) NB565_645.out _).trans (((cell_far (p := ⟨gb645, _, none⟩) NB565_645.out _).trans (((cell_far (p := ⟨gb645, _, none⟩) NB565_645.out _).trans (((cell_far (p := ⟨gb645, _, none⟩) NB565_645.out _).trans (hHeld.2.2.2.2.2.1)))))))), ((cell_far (p := ⟨gb645, _, none⟩) NB565_645.out _).trans (((cell_far (p := ⟨gb645, _, none⟩) NB565_645.out _).trans (((cell_far (p := ⟨gb645, _, none⟩) NB565_645.out _).trans (((cell_far (p := ⟨gb645, _, none⟩) NB565_645.out _).trans (hHeld.2.2.2.2.2.2))))))))⟩ (fun hHeld => ?_)
   clear hK K
   refine done_ (by kernel_rfl) ?_
   have hnb194 := NB645_564.out
   have hnc194 := NB564_645.out
   have hnb195 := NB645_565.out
   have hnc195 := NB565_645.out
   have hnb196 := NB645_585.out
   have hnc196 := NB585_645.out
   have hnb197 := NB645_592.out
   have hnc197 := NB592_645.out
   have hnb198 := NB645_598.out
   have hnc198 := NB598_645.out
   have hnb199 := NB645_605.out
   have hnc199 := NB605_645.out
   obtain ⟨⟨hcz200_0, hcz200_1, hcz200_2, hcz200_3⟩, hfz200_0, hfz200_1, hfz200_2, hfz200_3⟩ := cf4 BK645
   have hnb201 := NB585_564.out
   have hnc201 := NB564_585.out
   have hnb202 := NB585_565.out
   have hnc202 := NB565_585.out
   have hnb203 := NB585_592.out
   have hnc203 := NB592_585.out
   have hnb204 := NB585_598.out
   have hnc204 := NB598_585.out
   obtain ⟨⟨hcz205_0, hcz205_1, hcz205_2, hcz205_3⟩, hfz205_0, hfz205_1, hfz205_2, hfz205_3⟩ := cf4 BK585
   try go_wp2_with (first | ((with_reducible refine gate_callee (f := 22) rfl ?_); refine gL (some 82) Try.func22 #[.agg #[.int .i64 t639, .int .i64 t640, .int .i64 t641, .slice Ao192 t642.length co192], .agg #[.int .i64 t579, .int .i64 t580, .int .i64 t581, .slice Ao54 t582.length co54]] ?_; (with_reducible refine (laws_eqImage.calls kj34 t639 t640 t641 _ _ t642 t579 t580 t581 _ _ t582 true _ ?side1 ?side2 ?side3 ?side4 A130.out).mono ?_); (case side1 => refine (Kd.R_reads' (e := 3) (base := w.heap.size) (ok := fun k_ => (some k_ ≠ (v632 : Value).ownBlock ∧ (some k_ ≠ (v636 : Value).ownBlock ∧ (some k_ ≠ (.slice Ao54 t582.length co54 : Value).ownBlock ∧ (some k_ ≠ (.slice Ao64 t621.length co64 : Value).ownBlock ∧ (some k_ ≠ (.slice Ao74 t623.length co74 : Value).ownBlock ∧ some k_ ≠ (.slice Ao84 t602.length co84 : Value).ownBlock)))))) (n := t642.length) (c := co192) ?_).2.2; exact (by refine qR ?_; exact (fr4 HO644 BK645))); (case side2 => exact (Kd.R_reads' HO644.out).2.1); (case side3 => refine (Kd.R_reads' (e := 3) (base := w.heap.size) (ok := fun k_ => (some k_ ≠ (v632 : Value).ownBlock ∧ (some k_ ≠ (v636 : Value).ownBlock ∧ (some k_ ≠ (.slice Ao192 t642.length co192 : Value).ownBlock ∧ (some k_ ≠ (.slice Ao64 t621.length co64 : Value).ownBlock ∧ (some k_ ≠ (.slice Ao74 t623.length co74 : Value).ownBlock ∧ some k_ ≠ (.slice Ao84 t602.length co84 : Value).ownBlock)))))) (n := t582.length) (c := co54) ?_).2.2; exact (by refine qR ?_; exact (fr4 HO_586003 BK645))); (case side4 => exact (Kd.R_reads' HO_586003.out).2.1); rintro e w206 ⟨rfl, hb⟩; refine ⟨_, rfl, ?_⟩; replace HO_586003 := aM (Kd.R_below (by refine qR ?_; exact (fr4 HO_586003 BK645)) hb); replace HO_593003 := aM (Kd.R_below (by refine qR ?_; exact (fr4 HO_593003 BK645)) hb); replace HO_599001 := aM (Kd.R_below (by refine qR ?_; exact (fr4 HO_599001 BK645)) hb); replace HO_606003 := aM (Kd.R_below (by refine qR ?_; exact (fr4 HO_606003 BK645)) hb); replace HO633 := aM (Kd.R_below (by refine qR ?_; exact (fr4 HO633 BK645)) hb); replace HO637 := aM (Kd.R_below (by refine qR ?_; exact (fr4 HO637 BK645)) hb); replace HO644 := aM (Kd.R_below (by refine qR ?_; exact (fr4 HO644 BK645)) hb); replace BK564 := aM (blk_below (g := gb564) (o := .cells #[.int .i64 a0_0, .int .i64 a0_1, .int .i64 a0_2, .slice A0_3 l0_3.length c0_3] 34 (0, 0)) (by refine qB ?_; refine blk_far ?_ NB564_645.out _; refine qB ?_; refine blk_far ?_ NB564_645.out _; refine qB ?_; refine blk_far ?_ NB564_645.out _; refine qB ?_; refine blk_far ?_ NB564_645.out _; refine qB ?_; exact BK564.out) hb); replace BK565 := aM (blk_below (g := gb565) (o := .cells #[.int .i64 a1_0, .slice A1_1 l1_1.length c1_1, .int .i64 a1_2] 46 (0, 0)) (by refine qB ?_; refine blk_far ?_ NB565_645.out _; refine qB ?_; refine blk_far ?_ NB565_645.out _; refine qB ?_; refine blk_far ?_ NB565_645.out _; refine qB ?_; refine blk_far ?_ NB565_645.out _; refine qB ?_; exact BK565.out) hb); replace BK585 := aM (blk_below (g := gb585) (o := .cells #[.int .i64 t579, .int .i64 t580, .int .i64 t581, .slice Ao54 t582.length co54] 27 (0, 0)) (by refine qB ?_; refine blk_far ?_ NB585_645.out _; refine qB ?_; refine blk_far ?_ NB585_645.out _; refine qB ?_; refine blk_far ?_ NB585_645.out _; refine qB ?_; refine blk_far ?_ NB585_645.out _; refine qB ?_; exact BK585.out) hb); replace BK592 := aM (blk_below (g := gb592) (o := .cells #[.int .i64 t586, .int .i64 t587, .int .i64 t588, .slice Ao64 t621.length co64] 27 (0, 0)) (by refine qB ?_; refine blk_far ?_ NB592_645.out _; refine qB ?_; refine blk_far ?_ NB592_645.out _; refine qB ?_; refine blk_far ?_ NB592_645.out _; refine qB ?_; refine blk_far ?_ NB592_645.out _; refine qB ?_; exact BK592.out) hb); replace BK598 := aM (blk_below (g := gb598) (o := .cells #[.int .i64 t593, .slice Ao74 t623.length co74, .int .i64 t597] 49 (0, 0)) (by refine qB ?_; refine blk_far ?_ NB598_645.out _; refine qB ?_; refine blk_far ?_ NB598_645.out _; refine qB ?_; refine blk_far ?_ NB598_645.out _; refine qB ?_; refine blk_far ?_ NB598_645.out _; refine qB ?_; exact BK598.out) hb); replace BK605 := aM (blk_below (g := gb605) (o := .cells #[.int .i64 t599, .int .i64 t600, .int .i64 t601, .slice Ao84 t602.length co84] 27 (0, 0)) (by refine qB ?_; refine blk_far ?_ NB605_645.out _; refine qB ?_; refine blk_far ?_ NB605_645.out _; refine qB ?_; refine blk_far ?_ NB605_645.out _; refine qB ?_; refine blk_far ?_ NB605_645.out _; refine qB ?_; exact BK605.out) hb); replace BK645 := aM (blk_below (g := gb645) (o := .cells #[.int .i64 t639, .int .i64 t640, .int .i64 t641, .slice Ao192 t642.length co192] 27 (0, 0)) (by exact bP BK645.out) hb); replace HB := bS HB hb; clear hb; obtain ⟨⟨hcz207_0, hcz207_1, hcz207_2, hcz207_3⟩, hfz207_0, hfz207_1, hfz207_2, hfz207_3⟩ := cf4 BK605) | ((with_reducible refine gate_callee (f := 24) rfl ?_); refine goesL_ (some 86) rfl rfl Try.func24 (by kernel_rfl) rfl #[.agg #[.int .i64 t599, .int .i64 t600, .int .i64 t601, .slice Ao84 t626.length co84], .int .i64 1] rfl (by (try simp only [List.map_toArray, List.map_cons, List.map_nil]); first | done | (rw [show t626.length = t602.length from (Kd.R_reads' HO_606003.out).1.symm] <;> rfl) | rfl | (simp only [List.length_drop, List.length_take]; rfl)) ?_; (with_reducible refine (laws_heldImage.calls kj34 t599 t600 t601 _ _ t626 1 t647 _ ?side1 ?side2 A132.out).mono ?_); (case side1 => exact qC (Kd.R_reads' HO_606003.out).2.2); (case side2 => rw [show t626.length = t602.length from (Kd.R_reads' HO_606003.out).1.symm]; exact (Kd.R_reads' HO_606003.out).2.1); rintro e w208 ⟨rfl, hb⟩; refine ⟨_, rfl, ?_⟩; replace HO_586003 := aM (Kd.R_below (qR HO_586003.out) hb); replace HO_593003 := aM (Kd.R_below (qR HO_593003.out) hb); replace HO_599001 := aM (Kd.R_below (qR HO_599001.out) hb); replace HO_606003 := aM (Kd.R_below (qR HO_606003.out) hb); replace HO633 := aM (Kd.R_below (qR HO633.out) hb); replace HO637 := aM (Kd.R_below (qR HO637.out) hb); replace HO644 := aM (Kd.R_below (qR HO644.out) hb); replace BK564 := bB BK564 hb; replace BK565 := bB BK565 hb; replace BK585 := bB BK585 hb; replace BK592 := bB BK592 hb; replace BK598 := bB BK598 hb; replace BK605 := bB BK605 hb; replace BK645 := bB BK645 hb; replace HB := bS HB hb; clear hb))
   go_ret
   exact ⟨qX, by exact qW HB.out⟩
def laws_FnExactConvolveImage.Pure : Prop := ∀ (a0_0 : Int) (a0_1 : Int) (a0_2 : Int) (l0_3 : List Int) (a1_0 : Int) (l1_1 : List Int) (a1_2 : Int), (Lit.int .i64 a0_0).wf = true → (Lit.int .i64 a0_1).wf = true → (Lit.int .i64 a0_2).wf = true → l0_3.length ≤ maxLen → (∀ x ∈ l0_3, (Lit.int .i64 x).wf = true) → (Lit.int .i64 a1_0).wf = true → l1_1.length ≤ maxLen → (∀ x ∈ l1_1, (Lit.int .i64 x).wf = true) → (Lit.int .i64 a1_2).wf = true → ∃ k, laws_FnExactConvolveImage.f k a0_0 a0_1 a0_2 l0_3 a1_0 l1_1 a1_2 = some true
theorem laws_FnExactConvolveImage.walk (P : laws_FnExactConvolveImage.Pure) (a0_0 : Int) (a0_1 : Int) (a0_2 : Int) (A0_3 : Option Addr) (len0_3 cap0_3 : Nat) (z0_3 : List Int) (a1_0 : Int) (A1_1 : Option Addr) (len1_1 cap1_1 : Nat) (z1_1 : List Int) (a1_2 : Int) (w : World) (w0_0 : (Lit.int .i64 a0_0).wf = true) (w0_1 : (Lit.int .i64 a0_1).wf = true) (w0_2 : (Lit.int .i64 a0_2).wf = true) (w0_3 : (A0_3 = none ∧ len0_3 = 0 ∧ cap0_3 = 0 ∧ z0_3 = []) ∨ ∃ x, A0_3 = some x ∧ len0_3 ≤ cap0_3 ∧ cap0_3 ≤ maxLen ∧ z0_3.length = cap0_3 ∧ (∀ i, i < z0_3.length → w.cell? (x.add i) = some (.int .i64 (z0_3.getD i 0))) ∧ ∀ n ∈ z0_3, (Lit.int .i64 n).wf = true) (w1_0 : (Lit.int .i64 a1_0).wf = true) (w1_1 : (A1_1 = none ∧ len1_1 = 0 ∧ cap1_1 = 0 ∧ z1_1 = []) ∨ ∃ x, A1_1 = some x ∧ len1_1 ≤ cap1_1 ∧ cap1_1 ≤ maxLen ∧ z1_1.length = cap1_1 ∧ (∀ i, i < z1_1.length → w.cell? (x.add i) = some (.int .i64 (z1_1.getD i 0))) ∧ ∀ n ∈ z1_1, (Lit.int .i64 n).wf = true) (w1_2 : (Lit.int .i64 a1_2).wf = true) :
  Calls Try.prog 9 #[.agg #[.int .i64 a0_0, .int .i64 a0_1, .int .i64 a0_2, .slice A0_3 len0_3 cap0_3], .agg #[.int .i64 a1_0, .slice A1_1 len1_1 cap1_1, .int .i64 a1_2]] w fun e w' => e = .returned (.bool true) ∧ Below w.heap.size w w' := by
 obtain ⟨l0_3, rfl, hr0_3, hm0_3, hw0_3, hc0_3⟩ := ReadsInt.ofRowC w0_3
 obtain ⟨l1_1, rfl, hr1_1, hm1_1, hw1_1, hc1_1⟩ := ReadsInt.ofRowC w1_1
 obtain ⟨k, h⟩ := P a0_0 a0_1 a0_2 l0_3 a1_0 l1_1 a1_2 w0_0 w0_1 w0_2 hm0_3 hw0_3 w1_0 hm1_1 hw1_1 w1_2
 refine (laws_FnExactConvolveImage.calls k a0_0 a0_1 a0_2 _ _ l0_3 a1_0 _ _ l1_1 a1_2 true w (Kd.C_of_reads (d := (0 : Int)) (h1 := fun _ => rfl) hr0_3) hc0_3 (Kd.C_of_reads (d := (0 : Int)) (h1 := fun _ => rfl) hr1_1) hc1_1 h rfl).mono ?_
 rintro e w' ⟨rfl, hd⟩
 exact ⟨rfl, hd⟩
end Go.Proofs.Yteeeedmmcdlhjaa.P
