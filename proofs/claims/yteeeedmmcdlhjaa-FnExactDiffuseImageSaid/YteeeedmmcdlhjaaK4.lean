/- Contracts and row, written by a program of this place out of the translation: the call answers true and its argument reads as before, for every input; no condition. -/
import Derived.Test.YteeeedmmcdlhjaaK0
import Derived.Test.YteeeedmmcdlhjaaK2
import Derived.Test.YteeeedmmcdlhjaaK3
namespace Go.Proofs.Yteeeedmmcdlhjaa.P
open Go.RowKit Go.Proofs.YteeeedmmcdlhjaaW.PrintWords Go.Proofs.YteeeedmmcdlhjaaW.PrintLast Go.Proofs.YteeeedmmcdlhjaaW.PrintMore
attribute [local go_sem] max2_int min2_int max_two min_two max_three min_three max_four min_four   -- for this text's walks alone
set_option linter.unusedVariables false
set_option linter.unusedSimpArgs false
mutual
def laws_FnExactDiffuseImage.j0 : Nat → Int → Bool → Bool → Bool → Int → Int → Int → List Int → Int → Int → Int → List Int → Int → Int → Int → List Int → Int → Int → Int → List Int → Option (Bool)
 | 0, _, _, _, _, _, _, _, _, _, _, _, _, _, _, _, _, _, _, _, _ => none
 | k + 1, x1, x7, x10, x44, x575000, x575001, x575002, x575003, x590000, x590001, x590002, x590003, x597000, x597001, x597002, x597003, x605000, x605001, x605002, x605003 => if x44 = true then (some false) else ((laws_toImage.f k x575000 x575001 x575002 x575003).bind fun bt606 => ((laws_eqImage.f k x597000 x597001 x597002 x597003 bt606.1 bt606.2.1 bt606.2.2.1 bt606.2.2.2).bind fun t612 => (if t612 = true then ((laws_markImage.f k x597000 x597001 x597002 x597003 1).bind fun bt613 => (if bt613.1 < 0 then (laws_FnExactDiffuseImage.j1 k x1 x7 true x575000 x575001 x575002 x575003 x590000 x590001 x590002 x590003 x605000 x605001 x605002 x605003) else ((laws_eqImage.f k x605000 x605001 x605002 x605003 x590000 x590001 x590002 x590003).bind fun t615 => (if t615 = true then (laws_FnExactDiffuseImage.j1 k x1 x7 (x10 != x7) x575000 x575001 x575002 x575003 x590000 x590001 x590002 x590003 x605000 x605001 x605002 x605003) else (laws_FnExactDiffuseImage.j1 k x1 x7 true x575000 x575001 x575002 x575003 x590000 x590001 x590002 x590003 x605000 x605001 x605002 x605003))))) else (some false))))
def laws_FnExactDiffuseImage.j1 : Nat → Int → Bool → Bool → Int → Int → Int → List Int → Int → Int → Int → List Int → Int → Int → Int → List Int → Option (Bool)
 | 0, _, _, _, _, _, _, _, _, _, _, _, _, _, _, _ => none
 | k + 1, x1, x7, x65, x575000, x575001, x575002, x575003, x590000, x590001, x590002, x590003, x605000, x605001, x605002, x605003 => if x65 = true then (some false) else ((laws_markImage.f k x605000 x605001 x605002 x605003 1).bind fun bt616 => ((laws_heldImage.f k x605000 x605001 x605002 bt616.2 1).bind fun t618 => (if t618 < 0 then (some false) else (if t618 = bt616.1 then ((laws_toImage.f k x575000 x575001 x575002 x575003).bind fun bt619 => ((impl_DiffuseImage.f k bt619.1 bt619.2.1 bt619.2.2.1 bt619.2.2.2 x1).bind fun bt625 => ((laws_eqImage.f k bt625.1 bt625.2.1 bt625.2.2.1 bt625.2.2.2.1 x590000 x590001 x590002 x590003).bind fun t633 => (if t633 = true then (laws_FnExactDiffuseImage.j2 k bt616.1 (bt625.2.2.2.2 != x7) x605000 x605001 x605002 bt616.2) else (laws_FnExactDiffuseImage.j2 k bt616.1 true x605000 x605001 x605002 bt616.2))))) else (some false)))))
def laws_FnExactDiffuseImage.j2 : Nat → Int → Bool → Int → Int → Int → List Int → Option (Bool)
 | 0, _, _, _, _, _, _ => none
 | k + 1, x12, x92, x605000, x605001, x605002, x605003 => if x92 = true then (some false) else ((laws_heldImage.f k x605000 x605001 x605002 x605003 1).bind fun t634 => (if t634 < 0 then (some false) else (if t634 = x12 then (some true) else (some false))))
end
def laws_FnExactDiffuseImage.f (k : Nat) (a0_0 : Int) (a0_1 : Int) (a0_2 : Int) (l0_3 : List Int) (a1 : Int) : Option (Bool) := (laws_szImage.f a0_0 a0_1 a0_2 l0_3 1048576).bind fun t575 => (if t575 < 0 then (some true) else ((laws_toImage.f k a0_0 a0_1 a0_2 l0_3).bind fun bt576 => ((spec_DiffuseImage.f k bt576.1 bt576.2.1 bt576.2.2.1 bt576.2.2.2 a1).bind fun bt582 => ((laws_toImage.f k a0_0 a0_1 a0_2 l0_3).bind fun bt590 => ((impl_DiffuseImage.f k bt590.1 bt590.2.1 bt590.2.2.1 bt590.2.2.2 a1).bind fun bt597 => ((laws_eqImage.f k bt597.1 bt597.2.1 bt597.2.2.1 bt597.2.2.2.1 bt582.1 bt582.2.1 bt582.2.2.1 bt582.2.2.2.1).bind fun t605 => (if t605 = true then (laws_FnExactDiffuseImage.j0 k a1 bt582.2.2.2.2 bt597.2.2.2.2 (bt597.2.2.2.2 != bt582.2.2.2.2) a0_0 a0_1 a0_2 l0_3 bt582.1 bt582.2.1 bt582.2.2.1 bt582.2.2.2.1 bt590.1 bt590.2.1 bt590.2.2.1 bt590.2.2.2 bt597.1 bt597.2.1 bt597.2.2.1 bt597.2.2.2.1) else (laws_FnExactDiffuseImage.j0 k a1 bt582.2.2.2.2 bt597.2.2.2.2 true a0_0 a0_1 a0_2 l0_3 bt582.1 bt582.2.1 bt582.2.2.1 bt582.2.2.2.1 bt590.1 bt590.2.1 bt590.2.2.1 bt590.2.2.2 bt597.1 bt597.2.1 bt597.2.2.1 bt597.2.2.2.1))))))))
theorem laws_FnExactDiffuseImage.mono_l : ∀ k, (∀ y0 y1 y2 y3 y4 y5 y6 y7 y8 y9 y10 y11 y12 y13 y14 y15 y16 y17 y18 y19, LeO (laws_FnExactDiffuseImage.j0 k y0 y1 y2 y3 y4 y5 y6 y7 y8 y9 y10 y11 y12 y13 y14 y15 y16 y17 y18 y19) (laws_FnExactDiffuseImage.j0 (k + 1) y0 y1 y2 y3 y4 y5 y6 y7 y8 y9 y10 y11 y12 y13 y14 y15 y16 y17 y18 y19)) ∧ (∀ y0 y1 y2 y3 y4 y5 y6 y7 y8 y9 y10 y11 y12 y13 y14, LeO (laws_FnExactDiffuseImage.j1 k y0 y1 y2 y3 y4 y5 y6 y7 y8 y9 y10 y11 y12 y13 y14) (laws_FnExactDiffuseImage.j1 (k + 1) y0 y1 y2 y3 y4 y5 y6 y7 y8 y9 y10 y11 y12 y13 y14)) ∧ (∀ y0 y1 y2 y3 y4 y5, LeO (laws_FnExactDiffuseImage.j2 k y0 y1 y2 y3 y4 y5) (laws_FnExactDiffuseImage.j2 (k + 1) y0 y1 y2 y3 y4 y5))
 | 0 => ⟨fun _ _ _ _ _ _ _ _ _ _ _ _ _ _ _ _ _ _ _ _ r h => by simp [laws_FnExactDiffuseImage.j0] at h, fun _ _ _ _ _ _ _ _ _ _ _ _ _ _ _ r h => by simp [laws_FnExactDiffuseImage.j1] at h, fun _ _ _ _ _ _ r h => by simp [laws_FnExactDiffuseImage.j2] at h⟩
 | k + 1 => by
  obtain ⟨ih0, ih1, ih2⟩ := laws_FnExactDiffuseImage.mono_l k
  refine ⟨?_, ?_, ?_⟩
  all_goals intros
  all_goals first | unfold laws_FnExactDiffuseImage.j0 | unfold laws_FnExactDiffuseImage.j1 | unfold laws_FnExactDiffuseImage.j2
  all_goals repeat' first | (with_reducible first | exact ih0 _ _ _ _ _ _ _ _ _ _ _ _ _ _ _ _ _ _ _ _ | exact ih1 _ _ _ _ _ _ _ _ _ _ _ _ _ _ _ | exact ih2 _ _ _ _ _ _ | exact impl_DiffuseImage.mono _ _ _ _ _ _ | exact laws_eqImage.mono _ _ _ _ _ _ _ _ _ | exact laws_heldImage.mono _ _ _ _ _ _ | exact laws_markImage.mono _ _ _ _ _ _ | exact laws_toImage.mono _ _ _ _ _ | exact spec_DiffuseImage.mono _ _ _ _ _ _ | exact lR | exact lN | refine lI ?_ ?_ | refine lB ?_ fun _ => ?_) | exact ih0 _ _ _ _ _ _ _ _ _ _ _ _ _ _ _ _ _ _ _ _ | exact ih1 _ _ _ _ _ _ _ _ _ _ _ _ _ _ _ | exact ih2 _ _ _ _ _ _ | exact impl_DiffuseImage.mono _ _ _ _ _ _ | exact laws_eqImage.mono _ _ _ _ _ _ _ _ _ | exact laws_heldImage.mono _ _ _ _ _ _ | exact laws_markImage.mono _ _ _ _ _ _ | exact laws_toImage.mono _ _ _ _ _ | exact spec_DiffuseImage.mono _ _ _ _ _ _ | exact lN | refine lI ?_ ?_ | refine lB ?_ fun _ => ?_
theorem laws_FnExactDiffuseImage.mono : ∀ a0 a1 a2 a3 a4 k, LeO (laws_FnExactDiffuseImage.f k a0 a1 a2 a3 a4) (laws_FnExactDiffuseImage.f (k + 1) a0 a1 a2 a3 a4) := by
 intro a0 a1 a2 a3 a4 k
 obtain ⟨ih0, ih1, ih2⟩ := laws_FnExactDiffuseImage.mono_l k
 unfold laws_FnExactDiffuseImage.f
 repeat' first | (with_reducible first | exact ih0 _ _ _ _ _ _ _ _ _ _ _ _ _ _ _ _ _ _ _ _ | exact ih1 _ _ _ _ _ _ _ _ _ _ _ _ _ _ _ | exact ih2 _ _ _ _ _ _ | exact impl_DiffuseImage.mono _ _ _ _ _ _ | exact laws_eqImage.mono _ _ _ _ _ _ _ _ _ | exact laws_heldImage.mono _ _ _ _ _ _ | exact laws_markImage.mono _ _ _ _ _ _ | exact laws_toImage.mono _ _ _ _ _ | exact spec_DiffuseImage.mono _ _ _ _ _ _ | exact lR | exact lN | refine lI ?_ ?_ | refine lB ?_ fun _ => ?_) | exact ih0 _ _ _ _ _ _ _ _ _ _ _ _ _ _ _ _ _ _ _ _ | exact ih1 _ _ _ _ _ _ _ _ _ _ _ _ _ _ _ | exact ih2 _ _ _ _ _ _ | exact impl_DiffuseImage.mono _ _ _ _ _ _ | exact laws_eqImage.mono _ _ _ _ _ _ _ _ _ | exact laws_heldImage.mono _ _ _ _ _ _ | exact laws_markImage.mono _ _ _ _ _ _ | exact laws_toImage.mono _ _ _ _ _ | exact spec_DiffuseImage.mono _ _ _ _ _ _ | exact lN | refine lI ?_ ?_ | refine lB ?_ fun _ => ?_
set_option maxHeartbeats 8000000 in
set_option maxRecDepth 100000 in
theorem laws_FnExactDiffuseImage.calls (k : Nat) (a0_0 : Int) (a0_1 : Int) (a0_2 : Int) (A0_3 : Option Addr) (c0_3 : Nat) (l0_3 : List Int) (a1 : Int) (r : Bool) (w : World) (hr0_3 : Kd.C (Kd.int .i64) w A0_3 l0_3.length l0_3) (hc0_3 : l0_3.length ≤ c0_3) (h : laws_FnExactDiffuseImage.f k a0_0 a0_1 a0_2 l0_3 a1 = some r) (hrt : r = true) :
  Calls Try.prog 6 #[.agg #[.int .i64 a0_0, .int .i64 a0_1, .int .i64 a0_2, .slice A0_3 l0_3.length c0_3], .int .i64 a1] w fun e w' => e = .returned (.bool r) ∧ Below w.heap.size w w' := by
 have hu34 := Try.underlying34
 have hu27 := Try.underlying27
 have HR0_3 := aM hr0_3
 have HC0_3 := aM hc0_3
 clear hr0_3 hc0_3
 have HB := aM (Below.refl w.heap.size w)
 unfold laws_FnExactDiffuseImage.f at h
 have H := h
 clear h
 replace H := Option.bind_eq_some_iff.mp H
 obtain ⟨t575, A30, H⟩ := H
 replace H : (if t575 < 0 then (some true) else ((laws_toImage.f k a0_0 a0_1 a0_2 l0_3).bind fun bt576 => ((spec_DiffuseImage.f k bt576.1 bt576.2.1 bt576.2.2.1 bt576.2.2.2 a1).bind fun bt582 => ((laws_toImage.f k a0_0 a0_1 a0_2 l0_3).bind fun bt590 => ((impl_DiffuseImage.f k bt590.1 bt590.2.1 bt590.2.2.1 bt590.2.2.2 a1).bind fun bt597 => ((laws_eqImage.f k bt597.1 bt597.2.1 bt597.2.2.1 bt597.2.2.2.1 bt582.1 bt582.2.1 bt582.2.2.1 bt582.2.2.2.1).bind fun t605 => (if t605 = true then (laws_FnExactDiffuseImage.j0 k a1 bt582.2.2.2.2 bt597.2.2.2.2 (bt597.2.2.2.2 != bt582.2.2.2.2) a0_0 a0_1 a0_2 l0_3 bt582.1 bt582.2.1 bt582.2.2.1 bt582.2.2.2.1 bt590.1 bt590.2.1 bt590.2.2.1 bt590.2.2.2 bt597.1 bt597.2.1 bt597.2.2.1 bt597.2.2.2.1) else (laws_FnExactDiffuseImage.j0 k a1 bt582.2.2.2.2 bt597.2.2.2.2 true a0_0 a0_1 a0_2 l0_3 bt582.1 bt582.2.1 bt582.2.2.1 bt582.2.2.2.1 bt590.1 bt590.2.1 bt590.2.2.1 bt590.2.2.2 bt597.1 bt597.2.1 bt597.2.2.1 bt597.2.2.2.1)))))))) = some r := H
 have A3 := aM A30
 clear A30
 by_cases c4 : t575 < 0
 ·rw [if_pos c4] at H
  have c4b0 : decide (t575 < 0) = true := decide_eq_true c4
  clear c4
  obtain rfl := Option.some.inj H
  go_enter Try.func6, Try.ntmps6
  go_wp2_with (first | ((with_reducible refine gate_dst (N := 2) rfl ?_); refine bxE (N := 2) (cs := #[.int .i64 a0_0, .int .i64 a0_1, .int .i64 a0_2, .slice A0_3 l0_3.length c0_3]) (t := 34) ?_; intro gb574 hg w5 hbox hb; have BK574 := aM (hbox); have GW574 := gW hg HB; have GE574 := gW hg HB; replace HB := bS HB hb; clear hb hbox hg; obtain ⟨⟨hcz6_0, hcz6_1, hcz6_2, hcz6_3⟩, hfz6_0, hfz6_1, hfz6_2, hfz6_3⟩ := cf4 BK574) | ((with_reducible refine gate_callee (f := 18) rfl ?_); refine gL (some 18) Try.func18 #[.agg #[.int .i64 a0_0, .int .i64 a0_1, .int .i64 a0_2, .slice A0_3 l0_3.length c0_3], .int .i64 1048576] ?_; (with_reducible refine (laws_szImage.calls a0_0 a0_1 a0_2 _ _ l0_3 1048576 t575 _ ?side1 ?side2 A3.out).mono ?_); (case side1 => exact qC (Kd.C_below HR0_3.out HB.out)); (case side2 => exact HC0_3.out); rintro e w7 ⟨rfl, hb⟩; refine ⟨_, rfl, ?_⟩; replace BK574 := bB BK574 hb; replace HB := bS HB hb; clear hb))
  go_ret
  exact ⟨qX, by exact qW HB.out⟩
 rw [if_neg c4] at H
 have c4b0 : decide (t575 < 0) = false := decide_eq_false c4
 clear c4
 replace H := Option.bind_eq_some_iff.mp H
 obtain ⟨⟨t576, t577, t578, t579⟩, A80, H⟩ := H
 replace H : ((spec_DiffuseImage.f k t576 t577 t578 t579 a1).bind fun bt582 => ((laws_toImage.f k a0_0 a0_1 a0_2 l0_3).bind fun bt590 => ((impl_DiffuseImage.f k bt590.1 bt590.2.1 bt590.2.2.1 bt590.2.2.2 a1).bind fun bt597 => ((laws_eqImage.f k bt597.1 bt597.2.1 bt597.2.2.1 bt597.2.2.2.1 bt582.1 bt582.2.1 bt582.2.2.1 bt582.2.2.2.1).bind fun t605 => (if t605 = true then (laws_FnExactDiffuseImage.j0 k a1 bt582.2.2.2.2 bt597.2.2.2.2 (bt597.2.2.2.2 != bt582.2.2.2.2) a0_0 a0_1 a0_2 l0_3 bt582.1 bt582.2.1 bt582.2.2.1 bt582.2.2.2.1 bt590.1 bt590.2.1 bt590.2.2.1 bt590.2.2.2 bt597.1 bt597.2.1 bt597.2.2.1 bt597.2.2.2.1) else (laws_FnExactDiffuseImage.j0 k a1 bt582.2.2.2.2 bt597.2.2.2.2 true a0_0 a0_1 a0_2 l0_3 bt582.1 bt582.2.1 bt582.2.2.1 bt582.2.2.2.1 bt590.1 bt590.2.1 bt590.2.2.1 bt590.2.2.2 bt597.1 bt597.2.1 bt597.2.2.1 bt597.2.2.2.1)))))) = some r := H
 have A8 := aM A80
 clear A80
 replace H := Option.bind_eq_some_iff.mp H
 obtain ⟨⟨t582, t583, t584, t585, t588⟩, A90, H⟩ := H
 replace H : ((laws_toImage.f k a0_0 a0_1 a0_2 l0_3).bind fun bt590 => ((impl_DiffuseImage.f k bt590.1 bt590.2.1 bt590.2.2.1 bt590.2.2.2 a1).bind fun bt597 => ((laws_eqImage.f k bt597.1 bt597.2.1 bt597.2.2.1 bt597.2.2.2.1 t582 t583 t584 t585).bind fun t605 => (if t605 = true then (laws_FnExactDiffuseImage.j0 k a1 t588 bt597.2.2.2.2 (bt597.2.2.2.2 != t588) a0_0 a0_1 a0_2 l0_3 t582 t583 t584 t585 bt590.1 bt590.2.1 bt590.2.2.1 bt590.2.2.2 bt597.1 bt597.2.1 bt597.2.2.1 bt597.2.2.2.1) else (laws_FnExactDiffuseImage.j0 k a1 t588 bt597.2.2.2.2 true a0_0 a0_1 a0_2 l0_3 t582 t583 t584 t585 bt590.1 bt590.2.1 bt590.2.2.1 bt590.2.2.2 bt597.1 bt597.2.1 bt597.2.2.1 bt597.2.2.2.1))))) = some r := H
 have A9 := aM A90
 clear A90
 replace H := Option.bind_eq_some_iff.mp H
 obtain ⟨⟨t590, t591, t592, t593⟩, A100, H⟩ := H
 replace H : ((impl_DiffuseImage.f k t590 t591 t592 t593 a1).bind fun bt597 => ((laws_eqImage.f k bt597.1 bt597.2.1 bt597.2.2.1 bt597.2.2.2.1 t582 t583 t584 t585).bind fun t605 => (if t605 = true then (laws_FnExactDiffuseImage.j0 k a1 t588 bt597.2.2.2.2 (bt597.2.2.2.2 != t588) a0_0 a0_1 a0_2 l0_3 t582 t583 t584 t585 t590 t591 t592 t593 bt597.1 bt597.2.1 bt597.2.2.1 bt597.2.2.2.1) else (laws_FnExactDiffuseImage.j0 k a1 t588 bt597.2.2.2.2 true a0_0 a0_1 a0_2 l0_3 t582 t583 t584 t585 t590 t591 t592 t593 bt597.1 bt597.2.1 bt597.2.2.1 bt597.2.2.2.1)))) = some r := H
 have A10 := aM A100
 clear A100
 replace H := Option.bind_eq_some_iff.mp H
 obtain ⟨⟨t597, t598, t599, t600, t603⟩, A110, H⟩ := H
 replace H : ((laws_eqImage.f k t597 t598 t599 t600 t582 t583 t584 t585).bind fun t605 => (if t605 = true then (laws_FnExactDiffuseImage.j0 k a1 t588 t603 (t603 != t588) a0_0 a0_1 a0_2 l0_3 t582 t583 t584 t585 t590 t591 t592 t593 t597 t598 t599 t600) else (laws_FnExactDiffuseImage.j0 k a1 t588 t603 true a0_0 a0_1 a0_2 l0_3 t582 t583 t584 t585 t590 t591 t592 t593 t597 t598 t599 t600))) = some r := H
 have A11 := aM A110
 clear A110
 have HC12 := aM H
 clear H
 go_enter Try.func6, Try.ntmps6
 go_upto_region 8 with (first | ((with_reducible refine gate_dst (N := 2) rfl ?_); refine bxE (N := 2) (cs := #[.int .i64 a0_0, .int .i64 a0_1, .int .i64 a0_2, .slice A0_3 l0_3.length c0_3]) (t := 34) ?_; intro gb574 hg w13 hbox hb; have BK574 := aM (hbox); have GW574 := gW hg HB; have GE574 := gW hg HB; replace HB := bS HB hb; clear hb hbox hg; obtain ⟨⟨hcz14_0, hcz14_1, hcz14_2, hcz14_3⟩, hfz14_0, hfz14_1, hfz14_2, hfz14_3⟩ := cf4 BK574) | ((with_reducible refine gate_callee (f := 18) rfl ?_); refine gL (some 18) Try.func18 #[.agg #[.int .i64 a0_0, .int .i64 a0_1, .int .i64 a0_2, .slice A0_3 l0_3.length c0_3], .int .i64 1048576] ?_; (with_reducible refine (laws_szImage.calls a0_0 a0_1 a0_2 _ _ l0_3 1048576 t575 _ ?side1 ?side2 A3.out).mono ?_); (case side1 => exact qC (Kd.C_below HR0_3.out HB.out)); (case side2 => exact HC0_3.out); rintro e w15 ⟨rfl, hb⟩; refine ⟨_, rfl, ?_⟩; replace BK574 := bB BK574 hb; replace HB := bS HB hb; clear hb; obtain ⟨⟨hcz16_0, hcz16_1, hcz16_2, hcz16_3⟩, hfz16_0, hfz16_1, hfz16_2, hfz16_3⟩ := cf4 BK574) | ((with_reducible refine gate_callee (f := 20) rfl ?_); refine gL (some 23) Try.func20 #[.agg #[.int .i64 a0_0, .int .i64 a0_1, .int .i64 a0_2, .slice A0_3 l0_3.length c0_3]] ?_; (with_reducible refine (laws_toImage.calls k a0_0 a0_1 a0_2 _ _ l0_3 t576 t577 t578 t579 _ ?side1 ?side2 A8.out).mono ?_); (case side1 => exact qC (Kd.C_below HR0_3.out HB.out)); (case side2 => exact HC0_3.out); rintro e w17 ⟨v580, rfl, ho0, hb⟩; refine ⟨_, rfl, ?_⟩; have HO581 := oR ho0 HB; replace BK574 := bB BK574 hb; replace HB := bS HB hb; clear hb ho0; obtain ⟨Ao18, co18, rfl⟩ := sL HO581) | ((with_reducible refine gate_callee (f := 27) rfl ?_); refine gL (some 25) Try.func27 #[.agg #[.int .i64 t576, .int .i64 t577, .int .i64 t578, .slice Ao18 t579.length co18], .int .i64 a1] ?_; (with_reducible refine (spec_DiffuseImage.calls k t576 t577 t578 _ _ t579 a1 t582 t583 t584 t585 t588 _ ?side1 ?side2 A9.out).mono ?_); (case side1 => exact qC (Kd.R_reads' HO581.out).2.2); (case side2 => exact (Kd.R_reads' HO581.out).2.1); rintro e w19 ⟨v586, rfl, ho0, hb⟩; refine ⟨_, rfl, ?_⟩; have HO587 := nR ho0 HO581 HB; replace HO581 := aM (Kd.R_elder' (qR HO581.out) (Kd.R_base ho0) hb); replace BK574 := bB BK574 hb; replace HB := bS HB hb; clear hb ho0) | ((with_reducible refine gate_dst (N := 6) rfl ?_); refine bxE (N := 6) (cs := #[.int .i64 0, .int .i64 0, .int .i64 0, .slice none 0 0]) (t := 27) ?_; intro gb589 hg w20 hbox hb; replace HO581 := aM (Kd.R_below (qR HO581.out) hb); replace HO587 := aM (Kd.R_below (qR HO587.out) hb); have BK589 := aM (hbox); have GW589 := gW hg HB; have GE589 := gW hg HB; replace HB := bS HB hb; have NB574_589 := nL hg BK574; have NB589_574 := nG hg BK574; replace BK574 := bB BK574 hb; clear hb hbox hg; have hnb21 := NB589_574.out; have hnc21 := NB574_589.out; obtain ⟨⟨hcz22_0, hcz22_1, hcz22_2, hcz22_3⟩, hfz22_0, hfz22_1, hfz22_2, hfz22_3⟩ := cf4 BK589; obtain ⟨Ao23, co23, rfl⟩ := sL HO587; obtain ⟨⟨hcz24_0, hcz24_1, hcz24_2, hcz24_3⟩, hfz24_0, hfz24_1, hfz24_2, hfz24_3⟩ := cf4 BK574) | ((with_reducible refine gate_callee (f := 20) rfl ?_); refine gL (some 29) Try.func20 #[.agg #[.int .i64 a0_0, .int .i64 a0_1, .int .i64 a0_2, .slice A0_3 l0_3.length c0_3]] ?_; (with_reducible refine (laws_toImage.calls k a0_0 a0_1 a0_2 _ _ l0_3 t590 t591 t592 t593 _ ?side1 ?side2 A10.out).mono ?_); (case side1 => exact Kd.C_below HR0_3.out (qW HB.out)); (case side2 => exact HC0_3.out); rintro e w25 ⟨v594, rfl, ho0, hb⟩; refine ⟨_, rfl, ?_⟩; have HO595 := aM (Kd.R_lower (Kd.R_new' (Kd.R_new' ho0 (Kd.R_lt (by refine qR ?_; exact (fr4 HO581 BK589)))) (Kd.R_lt (by refine qR ?_; exact (fr4 HO587 BK589)))) (below_size (qW HB.out))); replace HO581 := aM (Kd.R_elder' (by refine qR ?_; exact (fr4 HO581 BK589)) (Kd.R_base ho0) hb); replace HO587 := aM (Kd.R_elder' (by refine qR ?_; exact (fr4 HO587 BK589)) (Kd.R_base ho0) hb); replace BK574 := aM (blk_below (g := gb574) (o := .cells #[.int .i64 a0_0, .int .i64 a0_1, .int .i64 a0_2, .slice A0_3 l0_3.length c0_3] 34 (0, 0)) (by refine qB ?_; refine blk_far ?_ NB574_589.out _; refine qB ?_; refine blk_far ?_ NB574_589.out _; refine qB ?_; refine blk_far ?_ NB574_589.out _; refine qB ?_; refine blk_far ?_ NB574_589.out _; refine qB ?_; exact BK574.out) hb); replace BK589 := aM (blk_below (g := gb589) (o := .cells #[.int .i64 t582, .int .i64 t583, .int .i64 t584, .slice Ao23 t585.length co23] 27 (0, 0)) (by exact bP BK589.out) hb); replace HB := bS HB hb; clear hb ho0) | ((with_reducible refine gate_dst (N := 8) rfl ?_); refine bxE (N := 8) (cs := #[.int .i64 0, .int .i64 0, .int .i64 0, .slice none 0 0]) (t := 27) ?_; intro gb596 hg w26 hbox hb; replace HO581 := aM (Kd.R_below (qR HO581.out) hb); replace HO587 := aM (Kd.R_below (qR HO587.out) hb); replace HO595 := aM (Kd.R_below (qR HO595.out) hb); have BK596 := aM (hbox); have GW596 := gW hg HB; have GE596 := gW hg HB; replace HB := bS HB hb; have NB574_596 := nL hg BK574; have NB596_574 := nG hg BK574; replace BK574 := bB BK574 hb; have NB589_596 := nL hg BK589; have NB596_589 := nG hg BK589; replace BK589 := bB BK589 hb; clear hb hbox hg; have hnb27 := NB596_574.out; have hnc27 := NB574_596.out; have hnb28 := NB596_589.out; have hnc28 := NB589_596.out; obtain ⟨⟨hcz29_0, hcz29_1, hcz29_2, hcz29_3⟩, hfz29_0, hfz29_1, hfz29_2, hfz29_3⟩ := cf4 BK596; obtain ⟨Ao30, co30, rfl⟩ := sL HO595) | ((with_reducible refine gate_callee (f := 28) rfl ?_); refine gL (some 33) Try.func28 #[.agg #[.int .i64 t590, .int .i64 t591, .int .i64 t592, .slice Ao30 t593.length co30], .int .i64 a1] ?_; (with_reducible refine (impl_DiffuseImage.calls k t590 t591 t592 _ _ t593 a1 t597 t598 t599 t600 t603 _ ?side1 ?side2 A11.out).mono ?_); (case side1 => refine (Kd.R_reads' (e := 3) (base := w.heap.size) (ok := fun k_ => ((True ∧ some k_ ≠ (.slice Ao18 t579.length co18 : Value).ownBlock) ∧ some k_ ≠ (.slice Ao23 t585.length co23 : Value).ownBlock)) (n := t593.length) (c := co30) ?_).2.2; exact (by refine qR ?_; exact (fr4 HO595 BK596))); (case side2 => exact (Kd.R_reads' HO595.out).2.1); rintro e w31 ⟨v601, rfl, ho0, hb⟩; refine ⟨_, rfl, ?_⟩; have HO602 := aM (Kd.R_lower (Kd.R_new' (Kd.R_new' (Kd.R_new' ho0 (Kd.R_lt (by refine qR ?_; exact (fr4 HO581 BK596)))) (Kd.R_lt (by refine qR ?_; exact (fr4 HO587 BK596)))) (Kd.R_lt (by refine qR ?_; exact (fr4 HO595 BK596)))) (below_size (qW HB.out))); replace HO581 := aM (Kd.R_elder' (by refine qR ?_; exact (fr4 HO581 BK596)) (Kd.R_base ho0) hb); replace HO587 := aM (Kd.R_elder' (by refine qR ?_; exact (fr4 HO587 BK596)) (Kd.R_base ho0) hb); replace HO595 := aM (Kd.R_elder' (by refine qR ?_; exact (fr4 HO595 BK596)) (Kd.R_base ho0) hb); replace BK574 := aM (blk_below (g := gb574) (o := .cells #[.int .i64 a0_0, .int .i64 a0_1, .int .i64 a0_2, .slice A0_3 l0_3.length c0_3] 34 (0, 0)) (by refine qB ?_; refine blk_far ?_ NB574_596.out _; refine qB ?_; refine blk_far ?_ NB574_596.out _; refine qB ?_; refine blk_far ?_ NB574_596.out _; refine qB ?_; refine blk_far ?_ NB574_596.out _; refine qB ?_; exact BK574.out) hb); replace BK589 := aM (blk_below (g := gb589) (o := .cells #[.int .i64 t582, .int .i64 t583, .int .i64 t584, .slice Ao23 t585.length co23] 27 (0, 0)) (by refine qB ?_; refine blk_far ?_ NB589_596.out _; refine qB ?_; refine blk_far ?_ NB589_596.out _; refine qB ?_; refine blk_far ?_ NB589_596.out _; refine qB ?_; refine blk_far ?_ NB589_596.out _; refine qB ?_; exact BK589.out) hb); replace BK596 := aM (blk_below (g := gb596) (o := .cells #[.int .i64 t590, .int .i64 t591, .int .i64 t592, .slice Ao30 t593.length co30] 27 (0, 0)) (by exact bP BK596.out) hb); replace HB := bS HB hb; clear hb ho0) | ((with_reducible refine gate_dst (N := 9) rfl ?_); refine bxE (N := 9) (cs := #[.int .i64 0, .int .i64 0, .int .i64 0, .slice none 0 0]) (t := 27) ?_; intro gb604 hg w32 hbox hb; replace HO581 := aM (Kd.R_below (qR HO581.out) hb); replace HO587 := aM (Kd.R_below (qR HO587.out) hb); replace HO595 := aM (Kd.R_below (qR HO595.out) hb); replace HO602 := aM (Kd.R_below (qR HO602.out) hb); have BK604 := aM (hbox); have GW604 := gW hg HB; have GE604 := gW hg HB; replace HB := bS HB hb; have NB574_604 := nL hg BK574; have NB604_574 := nG hg BK574; replace BK574 := bB BK574 hb; have NB589_604 := nL hg BK589; have NB604_589 := nG hg BK589; replace BK589 := bB BK589 hb; have NB596_604 := nL hg BK596; have NB604_596 := nG hg BK596; replace BK596 := bB BK596 hb; clear hb hbox hg; have hnb33 := NB604_574.out; have hnc33 := NB574_604.out; have hnb34 := NB604_589.out; have hnc34 := NB589_604.out; have hnb35 := NB604_596.out; have hnc35 := NB596_604.out; obtain ⟨⟨hcz36_0, hcz36_1, hcz36_2, hcz36_3⟩, hfz36_0, hfz36_1, hfz36_2, hfz36_3⟩ := cf4 BK604; obtain ⟨Ao37, co37, rfl⟩ := sL HO602))
 (try simp only [Act.put, List.setIfInBounds_toArray, List.set_cons_zero, List.set_cons_succ])
 go_cut [44] (fun v44 wc => ∃ (kq : Nat) (x44_11 : Bool), v44 = .bool x44_11 ∧ Aside0 (laws_FnExactDiffuseImage.j0 kq a1 t588 t603 x44_11 a0_0 a0_1 a0_2 l0_3 t582 t583 t584 t585 t590 t591 t592 t593 t597 t598 t599 t600 = some r) ∧ Aside0 (kq ≤ k) ∧ Aside0 (Kd.R (Kd.int .i64) 3 wc w.heap.size (fun k_ => some k_ ≠ ((.slice Ao30 t593.length co30) : Value).ownBlock ∧ some k_ ≠ ((.slice Ao37 t600.length co37) : Value).ownBlock) (.slice Ao23 t585.length co23) t585) ∧ Aside0 (Kd.R (Kd.int .i64) 3 wc w.heap.size (fun k_ => some k_ ≠ ((.slice Ao23 t585.length co23) : Value).ownBlock ∧ some k_ ≠ ((.slice Ao37 t600.length co37) : Value).ownBlock) (.slice Ao30 t593.length co30) t593) ∧ Aside0 (Kd.R (Kd.int .i64) 3 wc w.heap.size (fun k_ => some k_ ≠ ((.slice Ao23 t585.length co23) : Value).ownBlock ∧ some k_ ≠ ((.slice Ao30 t593.length co30) : Value).ownBlock) (.slice Ao37 t600.length co37) t600) ∧ Aside0 (wc.heap[gb574]? = some (.cells #[.int .i64 a0_0, .int .i64 a0_1, .int .i64 a0_2, (.slice A0_3 l0_3.length c0_3)] 34 (0, 0))) ∧ Aside0 (wc.heap[gb589]? = some (.cells #[.int .i64 t582, .int .i64 t583, .int .i64 t584, (.slice Ao23 t585.length co23)] 27 (0, 0))) ∧ Aside0 (wc.heap[gb596]? = some (.cells #[.int .i64 t590, .int .i64 t591, .int .i64 t592, (.slice Ao30 t593.length co30)] 27 (0, 0))) ∧ Aside0 (wc.heap[gb604]? = some (.cells #[.int .i64 t597, .int .i64 t598, .int .i64 t599, (.slice Ao37 t600.length co37)] 27 (0, 0))) ∧ Aside0 (Below w.heap.size w wc))
 case first =>
  have H := HC12.out
  clear HC12
  replace H := Option.bind_eq_some_iff.mp H
  obtain ⟨t605, A380, H⟩ := H
  replace H : (if t605 = true then (laws_FnExactDiffuseImage.j0 k a1 t588 t603 (t603 != t588) a0_0 a0_1 a0_2 l0_3 t582 t583 t584 t585 t590 t591 t592 t593 t597 t598 t599 t600) else (laws_FnExactDiffuseImage.j0 k a1 t588 t603 true a0_0 a0_1 a0_2 l0_3 t582 t583 t584 t585 t590 t591 t592 t593 t597 t598 t599 t600)) = some r := H
  have A38 := aM A380
  clear A380
  by_cases c39 : t605 = true
  ·subst c39
   have H1 : (laws_FnExactDiffuseImage.j0 k a1 t588 t603 (t603 != t588) a0_0 a0_1 a0_2 l0_3 t582 t583 t584 t585 t590 t591 t592 t593 t597 t598 t599 t600) = some r := by rw [if_pos rfl] at H; exact H
   clear H
   have H := H1
   clear H1
   have H' := aM H
   clear H
   have hnb40 := NB604_574.out
   have hnc40 := NB574_604.out
   have hnb41 := NB604_589.out
   have hnc41 := NB589_604.out
   have hnb42 := NB604_596.out
   have hnc42 := NB596_604.out
   obtain ⟨⟨hcz43_0, hcz43_1, hcz43_2, hcz43_3⟩, hfz43_0, hfz43_1, hfz43_2, hfz43_3⟩ := cf4 BK604
   have hnb44 := NB589_574.out
   have hnc44 := NB574_589.out
   have hnb45 := NB589_596.out
   have hnc45 := NB596_589.out
   obtain ⟨⟨hcz46_0, hcz46_1, hcz46_2, hcz46_3⟩, hfz46_0, hfz46_1, hfz46_2, hfz46_3⟩ := cf4 BK589
   go_wp2_with (first | ((with_reducible refine gate_callee (f := 22) rfl ?_); refine gL (some 38) Try.func22 #[.agg #[.int .i64 t597, .int .i64 t598, .int .i64 t599, .slice Ao37 t600.length co37], .agg #[.int .i64 t582, .int .i64 t583, .int .i64 t584, .slice Ao23 t585.length co23]] ?_; (with_reducible refine (laws_eqImage.calls k t597 t598 t599 _ _ t600 t582 t583 t584 _ _ t585 true _ ?side1 ?side2 ?side3 ?side4 A38.out).mono ?_); (case side1 => refine (Kd.R_reads' (e := 3) (base := w.heap.size) (ok := fun k_ => (((True ∧ some k_ ≠ (.slice Ao18 t579.length co18 : Value).ownBlock) ∧ some k_ ≠ (.slice Ao23 t585.length co23 : Value).ownBlock) ∧ some k_ ≠ (.slice Ao30 t593.length co30 : Value).ownBlock)) (n := t600.length) (c := co37) ?_).2.2; exact (by refine qR ?_; exact (fr4 HO602 BK604))); (case side2 => exact (Kd.R_reads' HO602.out).2.1); (case side3 => refine (Kd.R_reads' (e := 3) (base := w.heap.size) (ok := fun k_ => (((True ∧ some k_ ≠ (.slice Ao18 t579.length co18 : Value).ownBlock) ∧ some k_ ≠ (.slice Ao30 t593.length co30 : Value).ownBlock) ∧ some k_ ≠ (.slice Ao37 t600.length co37 : Value).ownBlock)) (n := t585.length) (c := co23) ?_).2.2; exact (by refine qR ?_; exact (fr4 HO587 BK604))); (case side4 => exact (Kd.R_reads' HO587.out).2.1); rintro e w47 ⟨rfl, hb⟩; refine ⟨_, rfl, ?_⟩; replace HO581 := aM (Kd.R_below (by refine qR ?_; exact (fr4 HO581 BK604)) hb); replace HO587 := aM (Kd.R_below (by refine qR ?_; exact (fr4 HO587 BK604)) hb); replace HO595 := aM (Kd.R_below (by refine qR ?_; exact (fr4 HO595 BK604)) hb); replace HO602 := aM (Kd.R_below (by refine qR ?_; exact (fr4 HO602 BK604)) hb); replace BK574 := aM (blk_below (g := gb574) (o := .cells #[.int .i64 a0_0, .int .i64 a0_1, .int .i64 a0_2, .slice A0_3 l0_3.length c0_3] 34 (0, 0)) (by refine qB ?_; refine blk_far ?_ NB574_604.out _; refine qB ?_; refine blk_far ?_ NB574_604.out _; refine qB ?_; refine blk_far ?_ NB574_604.out _; refine qB ?_; refine blk_far ?_ NB574_604.out _; refine qB ?_; exact BK574.out) hb); replace BK589 := aM (blk_below (g := gb589) (o := .cells #[.int .i64 t582, .int .i64 t583, .int .i64 t584, .slice Ao23 t585.length co23] 27 (0, 0)) (by refine qB ?_; refine blk_far ?_ NB589_604.out _; refine qB ?_; refine blk_far ?_ NB589_604.out _; refine qB ?_; refine blk_far ?_ NB589_604.out _; refine qB ?_; refine blk_far ?_ NB589_604.out _; refine qB ?_; exact BK589.out) hb); replace BK596 := aM (blk_below (g := gb596) (o := .cells #[.int .i64 t590, .int .i64 t591, .int .i64 t592, .slice Ao30 t593.length co30] 27 (0, 0)) (by refine qB ?_; refine blk_far ?_ NB596_604.out _; refine qB ?_; refine blk_far ?_ NB596_604.out _; refine qB ?_; refine blk_far ?_ NB596_604.out _; refine qB ?_; refine blk_far ?_ NB596_604.out _; refine qB ?_; exact BK596.out) hb); replace BK604 := aM (blk_below (g := gb604) (o := .cells #[.int .i64 t597, .int .i64 t598, .int .i64 t599, .slice Ao37 t600.length co37] 27 (0, 0)) (by exact bP BK604.out) hb); replace HB := bS HB hb; clear hb))
   go_meet
   case rel => exact ⟨_, ((t603 != t588)), qE, H', ⟨by first | omega | exact Nat.le_refl _⟩, ⟨by refine qR ?_; exact Kd.R_mono HO587.out (fun _ hk => ⟨hk.1.2, hk.2⟩)⟩, ⟨by refine qR ?_; exact Kd.R_mono HO595.out (fun _ hk => ⟨hk.1.2, hk.2⟩)⟩, ⟨by refine qR ?_; exact Kd.R_mono HO602.out (fun _ hk => ⟨hk.1.2, hk.2⟩)⟩, ⟨by refine qB ?_; exact BK574.out⟩, ⟨by refine qB ?_; exact BK589.out⟩, ⟨by refine qB ?_; exact BK596.out⟩, ⟨by refine qB ?_; exact BK604.out⟩, ⟨by exact qW HB.out⟩⟩
  replace c39 := Bool.eq_false_iff.mpr c39
  subst c39
  have H1 : (laws_FnExactDiffuseImage.j0 k a1 t588 t603 true a0_0 a0_1 a0_2 l0_3 t582 t583 t584 t585 t590 t591 t592 t593 t597 t598 t599 t600) = some r := by rw [if_neg (show ¬ (false = true) by decide)] at H; exact H
  clear H
  have H := H1
  clear H1
  have H' := aM H
  clear H
  have hnb48 := NB604_574.out
  have hnc48 := NB574_604.out
  have hnb49 := NB604_589.out
  have hnc49 := NB589_604.out
  have hnb50 := NB604_596.out
  have hnc50 := NB596_604.out
  obtain ⟨⟨hcz51_0, hcz51_1, hcz51_2, hcz51_3⟩, hfz51_0, hfz51_1, hfz51_2, hfz51_3⟩ := cf4 BK604
  have hnb52 := NB589_574.out
  have hnc52 := NB574_589.out
  have hnb53 := NB589_596.out
  have hnc53 := NB596_589.out
  obtain ⟨⟨hcz54_0, hcz54_1, hcz54_2, hcz54_3⟩, hfz54_0, hfz54_1, hfz54_2, hfz54_3⟩ := cf4 BK589
  go_wp2_with (first | ((with_reducible refine gate_callee (f := 22) rfl ?_); refine gL (some 38) Try.func22 #[.agg #[.int .i64 t597, .int .i64 t598, .int .i64 t599, .slice Ao37 t600.length co37], .agg #[.int .i64 t582, .int .i64 t583, .int .i64 t584, .slice Ao23 t585.length co23]] ?_; (with_reducible refine (laws_eqImage.calls k t597 t598 t599 _ _ t600 t582 t583 t584 _ _ t585 false _ ?side1 ?side2 ?side3 ?side4 A38.out).mono ?_); (case side1 => refine (Kd.R_reads' (e := 3) (base := w.heap.size) (ok := fun k_ => (((True ∧ some k_ ≠ (.slice Ao18 t579.length co18 : Value).ownBlock) ∧ some k_ ≠ (.slice Ao23 t585.length co23 : Value).ownBlock) ∧ some k_ ≠ (.slice Ao30 t593.length co30 : Value).ownBlock)) (n := t600.length) (c := co37) ?_).2.2; exact (by refine qR ?_; exact (fr4 HO602 BK604))); (case side2 => exact (Kd.R_reads' HO602.out).2.1); (case side3 => refine (Kd.R_reads' (e := 3) (base := w.heap.size) (ok := fun k_ => (((True ∧ some k_ ≠ (.slice Ao18 t579.length co18 : Value).ownBlock) ∧ some k_ ≠ (.slice Ao30 t593.length co30 : Value).ownBlock) ∧ some k_ ≠ (.slice Ao37 t600.length co37 : Value).ownBlock)) (n := t585.length) (c := co23) ?_).2.2; exact (by refine qR ?_; exact (fr4 HO587 BK604))); (case side4 => exact (Kd.R_reads' HO587.out).2.1); rintro e w55 ⟨rfl, hb⟩; refine ⟨_, rfl, ?_⟩; replace HO581 := aM (Kd.R_below (by refine qR ?_; exact (fr4 HO581 BK604)) hb); replace HO587 := aM (Kd.R_below (by refine qR ?_; exact (fr4 HO587 BK604)) hb); replace HO595 := aM (Kd.R_below (by refine qR ?_; exact (fr4 HO595 BK604)) hb); replace HO602 := aM (Kd.R_below (by refine qR ?_; exact (fr4 HO602 BK604)) hb); replace BK574 := aM (blk_below (g := gb574) (o := .cells #[.int .i64 a0_0, .int .i64 a0_1, .int .i64 a0_2, .slice A0_3 l0_3.length c0_3] 34 (0, 0)) (by refine qB ?_; refine blk_far ?_ NB574_604.out _; refine qB ?_; refine blk_far ?_ NB574_604.out _; refine qB ?_; refine blk_far ?_ NB574_604.out _; refine qB ?_; refine blk_far ?_ NB574_604.out _; refine qB ?_; exact BK574.out) hb); replace BK589 := aM (blk_below (g := gb589) (o := .cells #[.int .i64 t582, .int .i64 t583, .int .i64 t584, .slice Ao23 t585.length co23] 27 (0, 0)) (by refine qB ?_; refine blk_far ?_ NB589_604.out _; refine qB ?_; refine blk_far ?_ NB589_604.out _; refine qB ?_; refine blk_far ?_ NB589_604.out _; refine qB ?_; refine blk_far ?_ NB589_604.out _; refine qB ?_; exact BK589.out) hb); replace BK596 := aM (blk_below (g := gb596) (o := .cells #[.int .i64 t590, .int .i64 t591, .int .i64 t592, .slice Ao30 t593.length co30] 27 (0, 0)) (by refine qB ?_; refine blk_far ?_ NB596_604.out _; refine qB ?_; refine blk_far ?_ NB596_604.out _; refine qB ?_; refine blk_far ?_ NB596_604.out _; refine qB ?_; refine blk_far ?_ NB596_604.out _; refine qB ?_; exact BK596.out) hb); replace BK604 := aM (blk_below (g := gb604) (o := .cells #[.int .i64 t597, .int .i64 t598, .int .i64 t599, .slice Ao37 t600.length co37] 27 (0, 0)) (by exact bP BK604.out) hb); replace HB := bS HB hb; clear hb))
  go_meet
  case rel => exact ⟨_, (true), qE, H', ⟨by first | omega | exact Nat.le_refl _⟩, ⟨by refine qR ?_; exact Kd.R_mono HO587.out (fun _ hk => ⟨hk.1.2, hk.2⟩)⟩, ⟨by refine qR ?_; exact Kd.R_mono HO595.out (fun _ hk => ⟨hk.1.2, hk.2⟩)⟩, ⟨by refine qR ?_; exact Kd.R_mono HO602.out (fun _ hk => ⟨hk.1.2, hk.2⟩)⟩, ⟨by refine qB ?_; exact BK574.out⟩, ⟨by refine qB ?_; exact BK589.out⟩, ⟨by refine qB ?_; exact BK596.out⟩, ⟨by refine qB ?_; exact BK604.out⟩, ⟨by exact qW HB.out⟩⟩
 case rest =>
  clear HC12
  try clear c4
  try clear c4b0
  try clear c39
  try clear hcz14_0 hcz14_1 hcz14_2 hcz14_3 hfz14_0 hfz14_1 hfz14_2 hfz14_3
  try clear hcz16_0 hcz16_1 hcz16_2 hcz16_3 hfz16_0 hfz16_1 hfz16_2 hfz16_3
  try clear hcz22_0 hcz22_1 hcz22_2 hcz22_3 hfz22_0 hfz22_1 hfz22_2 hfz22_3
  try clear hcz24_0 hcz24_1 hcz24_2 hcz24_3 hfz24_0 hfz24_1 hfz24_2 hfz24_3
  try clear hcz29_0 hcz29_1 hcz29_2 hcz29_3 hfz29_0 hfz29_1 hfz29_2 hfz29_3
  try clear hcz36_0 hcz36_1 hcz36_2 hcz36_3 hfz36_0 hfz36_1 hfz36_2 hfz36_3
  try clear hcz43_0 hcz43_1 hcz43_2 hcz43_3 hfz43_0 hfz43_1 hfz43_2 hfz43_3
  try clear hcz46_0 hcz46_1 hcz46_2 hcz46_3 hfz46_0 hfz46_1 hfz46_2 hfz46_3
  try clear hcz51_0 hcz51_1 hcz51_2 hcz51_3 hfz51_0 hfz51_1 hfz51_2 hfz51_3
  try clear hcz54_0 hcz54_1 hcz54_2 hcz54_3 hfz54_0 hfz54_1 hfz54_2 hfz54_3
  try clear hcz6_0 hcz6_1 hcz6_2 hcz6_3 hfz6_0 hfz6_1 hfz6_2 hfz6_3
  obtain ⟨kq, x44_11, rfl, HA, HJ11, HO_590003, HO_597003, HO_605003, BK574, BK589, BK596, BK604, HB⟩ := hcut
  cases kq with
  | zero => exact absurd HA.out (by simp [laws_FnExactDiffuseImage.j0])
  | succ kj11 =>
   have H := HA.out
   clear HA
   simp only [laws_FnExactDiffuseImage.j0] at H
   by_cases c56 : x44_11 = true
   ·subst c56
    have H1 : (some false) = some r := by rw [if_pos rfl] at H; exact H
    clear H
    have H := H1
    clear H1
    obtain rfl := Option.some.inj H
    exact absurd hrt (by decide)
   replace c56 := Bool.eq_false_iff.mpr c56
   subst c56
   have H1 : ((laws_toImage.f kj11 a0_0 a0_1 a0_2 l0_3).bind fun bt606 => ((laws_eqImage.f kj11 t590 t591 t592 t593 bt606.1 bt606.2.1 bt606.2.2.1 bt606.2.2.2).bind fun t612 => (if t612 = true then ((laws_markImage.f kj11 t590 t591 t592 t593 1).bind fun bt613 => (if bt613.1 < 0 then (laws_FnExactDiffuseImage.j1 kj11 a1 t588 true a0_0 a0_1 a0_2 l0_3 t582 t583 t584 t585 t597 t598 t599 t600) else ((laws_eqImage.f kj11 t597 t598 t599 t600 t582 t583 t584 t585).bind fun t615 => (if t615 = true then (laws_FnExactDiffuseImage.j1 kj11 a1 t588 (t603 != t588) a0_0 a0_1 a0_2 l0_3 t582 t583 t584 t585 t597 t598 t599 t600) else (laws_FnExactDiffuseImage.j1 kj11 a1 t588 true a0_0 a0_1 a0_2 l0_3 t582 t583 t584 t585 t597 t598 t599 t600))))) else (some false)))) = some r := by rw [if_neg (show ¬ (false = true) by decide)] at H; exact H
   clear H
   have H := H1
   clear H1
   replace H := Option.bind_eq_some_iff.mp H
   obtain ⟨⟨t606, t607, t608, t609⟩, A570, H⟩ := H
   replace H : ((laws_eqImage.f kj11 t590 t591 t592 t593 t606 t607 t608 t609).bind fun t612 => (if t612 = true then ((laws_markImage.f kj11 t590 t591 t592 t593 1).bind fun bt613 => (if bt613.1 < 0 then (laws_FnExactDiffuseImage.j1 kj11 a1 t588 true a0_0 a0_1 a0_2 l0_3 t582 t583 t584 t585 t597 t598 t599 t600) else ((laws_eqImage.f kj11 t597 t598 t599 t600 t582 t583 t584 t585).bind fun t615 => (if t615 = true then (laws_FnExactDiffuseImage.j1 kj11 a1 t588 (t603 != t588) a0_0 a0_1 a0_2 l0_3 t582 t583 t584 t585 t597 t598 t599 t600) else (laws_FnExactDiffuseImage.j1 kj11 a1 t588 true a0_0 a0_1 a0_2 l0_3 t582 t583 t584 t585 t597 t598 t599 t600))))) else (some false))) = some r := H
   have A57 := aM A570
   clear A570
   replace H := Option.bind_eq_some_iff.mp H
   obtain ⟨t612, A580, H⟩ := H
   replace H : (if t612 = true then ((laws_markImage.f kj11 t590 t591 t592 t593 1).bind fun bt613 => (if bt613.1 < 0 then (laws_FnExactDiffuseImage.j1 kj11 a1 t588 true a0_0 a0_1 a0_2 l0_3 t582 t583 t584 t585 t597 t598 t599 t600) else ((laws_eqImage.f kj11 t597 t598 t599 t600 t582 t583 t584 t585).bind fun t615 => (if t615 = true then (laws_FnExactDiffuseImage.j1 kj11 a1 t588 (t603 != t588) a0_0 a0_1 a0_2 l0_3 t582 t583 t584 t585 t597 t598 t599 t600) else (laws_FnExactDiffuseImage.j1 kj11 a1 t588 true a0_0 a0_1 a0_2 l0_3 t582 t583 t584 t585 t597 t598 t599 t600))))) else (some false)) = some r := H
   have A58 := aM A580
   clear A580
   by_cases c59 : t612 = true
   rotate_left
   ·replace c59 := Bool.eq_false_iff.mpr c59
    subst c59
    have H1 : (some false) = some r := by rw [if_neg (show ¬ (false = true) by decide)] at H; exact H
    clear H
    have H := H1
    clear H1
    obtain rfl := Option.some.inj H
    exact absurd hrt (by decide)
   subst c59
   have H1 : ((laws_markImage.f kj11 t590 t591 t592 t593 1).bind fun bt613 => (if bt613.1 < 0 then (laws_FnExactDiffuseImage.j1 kj11 a1 t588 true a0_0 a0_1 a0_2 l0_3 t582 t583 t584 t585 t597 t598 t599 t600) else ((laws_eqImage.f kj11 t597 t598 t599 t600 t582 t583 t584 t585).bind fun t615 => (if t615 = true then (laws_FnExactDiffuseImage.j1 kj11 a1 t588 (t603 != t588) a0_0 a0_1 a0_2 l0_3 t582 t583 t584 t585 t597 t598 t599 t600) else (laws_FnExactDiffuseImage.j1 kj11 a1 t588 true a0_0 a0_1 a0_2 l0_3 t582 t583 t584 t585 t597 t598 t599 t600))))) = some r := by rw [if_pos rfl] at H; exact H
   clear H
   have H := H1
   clear H1
   replace H := Option.bind_eq_some_iff.mp H
   obtain ⟨⟨t613, t614⟩, A600, H⟩ := H
   replace H : (if t613 < 0 then (laws_FnExactDiffuseImage.j1 kj11 a1 t588 true a0_0 a0_1 a0_2 l0_3 t582 t583 t584 t585 t597 t598 t599 t600) else ((laws_eqImage.f kj11 t597 t598 t599 t600 t582 t583 t584 t585).bind fun t615 => (if t615 = true then (laws_FnExactDiffuseImage.j1 kj11 a1 t588 (t603 != t588) a0_0 a0_1 a0_2 l0_3 t582 t583 t584 t585 t597 t598 t599 t600) else (laws_FnExactDiffuseImage.j1 kj11 a1 t588 true a0_0 a0_1 a0_2 l0_3 t582 t583 t584 t585 t597 t598 t599 t600)))) = some r := H
   have A60 := aM A600
   clear A600
   have HC61 := aM H
   clear H
   try go_wp2
   replace HO_590003 := aM (Kd.R_drew HO_590003.out)
   replace HO_597003 := aM (Kd.R_drew HO_597003.out)
   replace HO_605003 := aM (Kd.R_drew HO_605003.out)
   replace BK574 := aM (blk_drew BK574.out)
   replace BK589 := aM (blk_drew BK589.out)
   replace BK596 := aM (blk_drew BK596.out)
   replace BK604 := aM (blk_drew BK604.out)
   replace HB := aM (below_drew1 HB.out)
   refine start_ (n := 5) (S := fun w' => w'.cell? ⟨gb596, 0, none⟩ = some (.int .i64 t590) ∧ w'.cell? ⟨gb596, 1, none⟩ = some (.int .i64 t591) ∧ w'.cell? ⟨gb596, 2, none⟩ = some (.int .i64 t592) ∧ w'.cell? ⟨gb596, 3, none⟩ = some (.slice Ao30 t593.length co30) ∧ w'.cell? ⟨gb574, 0, none⟩ = some (.int .i64 a0_0) ∧ w'.cell? ⟨gb574, 1, none⟩ = some (.int .i64 a0_1) ∧ w'.cell? ⟨gb574, 2, none⟩ = some (.int .i64 a0_2) ∧ w'.cell? ⟨gb574, 3, none⟩ = some (.slice A0_3 l0_3.length c0_3)) (ds := []) (bA 5 0) (by kernel_rfl) rfl rfl ⟨(blk_cell BK596.out 0).trans rfl, (blk_cell BK596.out 1).trans rfl, (blk_cell BK596.out 2).trans rfl, (blk_cell BK596.out 3).trans rfl, (blk_cell BK574.out 0).trans rfl, (blk_cell BK574.out 1).trans rfl, (blk_cell BK574.out 2).trans rfl, (blk_cell BK574.out 3).trans rfl⟩ (fun hHeld => ?_)
   generalize wc.drew = w62 at HO_590003 HO_597003 HO_605003 BK574 BK589 BK596 BK604 HB hHeld ⊢
   refine take_ (i := 0) (N := some 45) (v := ?_) (a' := ?_) (bA 5 1) rfl rfl (by kernel_rfl) (fun _ _ _ h => h) (Or.inl ⟨by rfl, ?_⟩) hHeld ?_ ?_
   rotate_left
   ·rintro w' ⟨s0, s1, s2, s3, s4, s5, s6, s7⟩
    go_simp
    with_reducible rfl
   rotate_left
   ·refine pZ ?_
    rfl
   refine take_ (i := 1) (N := some 46) (v := ?_) (a' := ?_) (bA 5 3) rfl rfl (by kernel_rfl) (fun _ _ _ h => h) (Or.inl ⟨by rfl, ?_⟩) hHeld ?_ ?_
   rotate_left
   ·rintro w' ⟨s0, s1, s2, s3, s4, s5, s6, s7⟩
    go_simp
    with_reducible rfl
   rotate_left
   ·refine pZ ?_
    rfl
   refine one_ (i := 2) (N := some 47) (bA 5 7) rfl rfl (by kernel_rfl) (by decide) (fun K hK => ?_)
   refine goes_ Try.func20 (by kernel_rfl) rfl #[.agg #[.int .i64 a0_0, .int .i64 a0_1, .int .i64 a0_2, .slice A0_3 l0_3.length c0_3]] (by rfl) rfl rfl qM ?_
   with_reducible refine (laws_toImage.calls kj11 a0_0 a0_1 a0_2 _ _ l0_3 t606 t607 t608 t609 _ ?side1 ?side2 A57.out).mono ?_
   (case side1 => exact qC (Kd.C_below HR0_3.out HB.out))
   (case side2 => exact HC0_3.out)
   rintro e w63 ⟨v610, rfl, ho0, hb⟩
   refine ⟨_, rfl, ?_⟩
   have HO611 := aM (Kd.R_lower (Kd.R_new' (Kd.R_new' (Kd.R_new' ho0 (Kd.R_lt (qR HO_590003.out))) (Kd.R_lt (qR HO_597003.out))) (Kd.R_lt (qR HO_605003.out))) (below_size (qW HB.out)))
   replace HO_590003 := aM (Kd.R_elder' (qR HO_590003.out) (Kd.R_base ho0) hb)
   replace HO_597003 := aM (Kd.R_elder' (qR HO_597003.out) (Kd.R_base ho0) hb)
   replace HO_605003 := aM (Kd.R_elder' (qR HO_605003.out) (Kd.R_base ho0) hb)
   replace BK574 := bB BK574 hb
   replace BK589 := bB BK589 hb
   replace BK596 := bB BK596 hb
   replace BK604 := bB BK604 hb
   replace HB := bS HB hb
   (try clear hb)
   (try clear hb2)
   (try clear hk)
   (try clear hi)
   (try clear ho0)
   obtain ⟨Ao64, co64, eo64⟩ := Kd.R_slice HO611.out
   (first | subst eo64 | (injection eo64 with f1_ f2_ f3_; have f4_ := f1_.symm; have f5_ := f3_.symm; clear f1_ f2_ f3_; subst f4_; subst f5_))
   refine hK.out _ _ ⟨(blk_cell BK596.out 0).trans rfl, (blk_cell BK596.out 1).trans rfl, (blk_cell BK596.out 2).trans rfl, (blk_cell BK596.out 3).trans rfl, (blk_cell BK574.out 0).trans rfl, (blk_cell BK574.out 1).trans rfl, (blk_cell BK574.out 2).trans rfl, (blk_cell BK574.out 3).trans rfl⟩ (fun hHeld => ?_)
   clear hK K
   refine norm_ (a' := ?_) ?_ ?_
   rotate_left
   ·show Act.put _ (some 47) _ = _
    refine pZ ?_
    rfl
   refine one_ (i := 3) (N := some 48) (bA 5 15) rfl rfl (by kernel_rfl) (by decide) (fun K hK => ?_)
   refine goes_ Try.func22 (by kernel_rfl) rfl #[.agg #[.int .i64 t590, .int .i64 t591, .int .i64 t592, .slice Ao30 t593.length co30], .agg #[.int .i64 t606, .int .i64 t607, .int .i64 t608, .slice Ao64 t609.length co64]] (by rfl) rfl rfl qM ?_
   with_reducible refine (laws_eqImage.calls kj11 t590 t591 t592 _ _ t593 t606 t607 t608 _ _ t609 true _ ?side1 ?side2 ?side3 ?side4 A58.out).mono ?_
   (case side1 => exact qC (Kd.R_reads' HO_597003.out).2.2)
   (case side2 => exact (Kd.R_reads' HO_597003.out).2.1)
   (case side3 => exact qC (Kd.R_reads' HO611.out).2.2)
   (case side4 => exact (Kd.R_reads' HO611.out).2.1)
   rintro e w65 ⟨rfl, hb⟩
   refine ⟨_, rfl, ?_⟩
   replace HO_590003 := aM (Kd.R_below (qR HO_590003.out) hb)
   replace HO_597003 := aM (Kd.R_below (qR HO_597003.out) hb)
   replace HO_605003 := aM (Kd.R_below (qR HO_605003.out) hb)
   replace HO611 := aM (Kd.R_below (qR HO611.out) hb)
   replace BK574 := bB BK574 hb
   replace BK589 := bB BK589 hb
   replace BK596 := bB BK596 hb
   replace BK604 := bB BK604 hb
   replace HB := bS HB hb
   (try clear hb)
   (try clear hb2)
   (try clear hk)
   (try clear hi)
   refine hK.out _ _ ⟨(blk_cell BK596.out 0).trans rfl, (blk_cell BK596.out 1).trans rfl, (blk_cell BK596.out 2).trans rfl, (blk_cell BK596.out 3).trans rfl, (blk_cell BK574.out 0).trans rfl, (blk_cell BK574.out 1).trans rfl, (blk_cell BK574.out 2).trans rfl, (blk_cell BK574.out 3).trans rfl⟩ (fun hHeld => ?_)
   clear hK K
   refine norm_ (a' := ?_) ?_ ?_
   rotate_left
   ·show Act.put _ (some 48) _ = _
    refine pZ ?_
    rfl
   refine pure_ (i := 4) (N := some 49) (v := ?_) (a' := ?_) (bA 5 31) rfl rfl (by kernel_rfl) (fun _ _ _ h => h) (Or.inl ⟨by rfl, ?_⟩) ?_ ?_
   rotate_left
   ·intro w'
    go_simp
    with_reducible rfl
   rotate_left
   ·refine pZ ?_
    rfl
   refine done_ (by kernel_rfl) ?_
   have hnb66 := NB596_574.out
   have hnc66 := NB574_596.out
   have hnb67 := NB596_589.out
   have hnc67 := NB589_596.out
   have hnb68 := NB596_604.out
   have hnc68 := NB604_596.out
   obtain ⟨⟨hcz69_0, hcz69_1, hcz69_2, hcz69_3⟩, hfz69_0, hfz69_1, hfz69_2, hfz69_3⟩ := cf4 BK596
   go_upto_region 14 with (first | ((with_reducible refine gate_callee (f := 23) rfl ?_); refine gL (some 52) Try.func23 #[.agg #[.int .i64 t590, .int .i64 t591, .int .i64 t592, .slice Ao30 t593.length co30], .int .i64 1] ?_; (with_reducible refine (laws_markImage.calls kj11 t590 t591 t592 (fun k_ => some k_ = (.slice Ao30 t593.length co30 : Value).ownBlock) (.slice Ao30 t593.length co30) t593 1 t613 t614 w _ ?side1 ?side2 A60.out).mono ?_); (case side1 => exact qW HB.out); (case side2 => exact Kd.R_tight rfl HO_597003.out); rintro e w70 ⟨rfl, hy0, hb, hkp⟩; refine ⟨_, rfl, ?_⟩; replace HO_590003 := aM (Kd.R_mono (ok' := fun k_ => some k_ ≠ (.slice Ao30 t593.length co30 : Value).ownBlock ∧ some k_ ≠ (.slice Ao37 t600.length co37 : Value).ownBlock ∧ some k_ ≠ (.slice Ao64 t609.length co64 : Value).ownBlock) (Kd.R_keptB (HO_590003.out) hkp (fun k_ hk_ hs_ => by first | exact hk_.1.1 hs_ | (revert hk_; simp only [and_imp]; intros; contradiction))) (fun k_ hk_ => by first | exact ⟨hk_.1.1.1, hk_.1.1.2, hk_.1.2⟩ | (revert hk_; simp only [and_imp]; intros; and_intros <;> assumption))); replace HO_605003 := aM (Kd.R_mono (ok' := fun k_ => some k_ ≠ (.slice Ao23 t585.length co23 : Value).ownBlock ∧ some k_ ≠ (.slice Ao30 t593.length co30 : Value).ownBlock ∧ some k_ ≠ (.slice Ao64 t609.length co64 : Value).ownBlock) (Kd.R_keptB (HO_605003.out) hkp (fun k_ hk_ hs_ => by first | exact hk_.1.2 hs_ | (revert hk_; simp only [and_imp]; intros; contradiction))) (fun k_ hk_ => by first | exact ⟨hk_.1.1.1, hk_.1.1.2, hk_.1.2⟩ | (revert hk_; simp only [and_imp]; intros; and_intros <;> assumption))); replace BK574 := aM (blk_kept (qB BK574.out) hkp (fun hs_ => (fun e_ => (Kd.R_ne HO_597003.out BK574.out (by decide)) e_) hs_)); replace BK589 := aM (blk_kept (qB BK589.out) hkp (fun hs_ => (fun e_ => (Kd.R_ne HO_597003.out BK589.out (by decide)) e_) hs_)); replace BK596 := aM (blk_kept (qB BK596.out) hkp (fun hs_ => (fun e_ => (Kd.R_ne HO_597003.out BK596.out (by decide)) e_) hs_)); replace BK604 := aM (blk_kept (qB BK604.out) hkp (fun hs_ => (fun e_ => (Kd.R_ne HO_597003.out BK604.out (by decide)) e_) hs_)); replace HO_597003 := aM (Kd.R_reok rfl hy0 (fun k_ e_ => HO_597003.out.1 k_ e_)); replace HO611 := aM (Kd.R_mono (ok' := fun k_ => some k_ ≠ (.slice Ao23 t585.length co23 : Value).ownBlock ∧ some k_ ≠ (.slice Ao30 t593.length co30 : Value).ownBlock ∧ some k_ ≠ (.slice Ao37 t600.length co37 : Value).ownBlock) (Kd.R_keptB (HO611.out) hkp (fun k_ hk_ hs_ => by first | exact hk_.1.2 hs_ | (revert hk_; simp only [and_imp]; intros; contradiction))) (fun k_ hk_ => by first | exact ⟨hk_.1.1.1.2, hk_.1.1.2, hk_.1.2⟩ | (revert hk_; simp only [and_imp]; intros; and_intros <;> assumption))); replace HB := aM (hb); clear hb hkp hy0))
   (try simp only [Act.put, List.setIfInBounds_toArray, List.set_cons_zero, List.set_cons_succ])
   go_cut [65] (fun v65 wc => ∃ (kq : Nat) (x65_60 : Bool), v65 = .bool x65_60 ∧ Aside0 (laws_FnExactDiffuseImage.j1 kq a1 t588 x65_60 a0_0 a0_1 a0_2 l0_3 t582 t583 t584 t585 t597 t598 t599 t600 = some r) ∧ Aside0 (kq ≤ kj11) ∧ Aside0 (Kd.R (Kd.int .i64) 3 wc w.heap.size (fun k_ => some k_ ≠ ((.slice Ao30 t593.length co30) : Value).ownBlock ∧ some k_ ≠ ((.slice Ao37 t600.length co37) : Value).ownBlock) (.slice Ao23 t585.length co23) t585) ∧ Aside0 (Kd.R (Kd.int .i64) 3 wc w.heap.size (fun k_ => some k_ ≠ ((.slice Ao23 t585.length co23) : Value).ownBlock ∧ some k_ ≠ ((.slice Ao37 t600.length co37) : Value).ownBlock) (.slice Ao30 t593.length co30) t614) ∧ Aside0 (Kd.R (Kd.int .i64) 3 wc w.heap.size (fun k_ => some k_ ≠ ((.slice Ao23 t585.length co23) : Value).ownBlock ∧ some k_ ≠ ((.slice Ao30 t593.length co30) : Value).ownBlock) (.slice Ao37 t600.length co37) t600) ∧ Aside0 (wc.heap[gb574]? = some (.cells #[.int .i64 a0_0, .int .i64 a0_1, .int .i64 a0_2, (.slice A0_3 l0_3.length c0_3)] 34 (0, 0))) ∧ Aside0 (wc.heap[gb589]? = some (.cells #[.int .i64 t582, .int .i64 t583, .int .i64 t584, (.slice Ao23 t585.length co23)] 27 (0, 0))) ∧ Aside0 (wc.heap[gb596]? = some (.cells #[.int .i64 t590, .int .i64 t591, .int .i64 t592, (.slice Ao30 t593.length co30)] 27 (0, 0))) ∧ Aside0 (wc.heap[gb604]? = some (.cells #[.int .i64 t597, .int .i64 t598, .int .i64 t599, (.slice Ao37 t600.length co37)] 27 (0, 0))) ∧ Aside0 (Below w.heap.size w wc))
   case first =>
    have H := HC61.out
    clear HC61
    by_cases c71 : t613 < 0
    ·rw [if_pos c71] at H
     have c71b0 : decide (t613 < 0) = true := decide_eq_true c71
     clear c71
     (first | rw [c71b0] | (simp only [i64_w, i32_w]; rw [c71b0]) | skip)
     have H' := aM H
     clear H
     go_wp2
     go_meet
     case rel => exact ⟨_, (true), qE, H', ⟨by have := HJ11.out; first | omega | exact Nat.le_refl _⟩, ⟨by refine qR ?_; exact Kd.R_mono HO_590003.out (fun _ hk => ⟨hk.1, hk.2.1⟩)⟩, ⟨by refine qR ?_; exact Kd.R_mono HO_597003.out (fun _ hk => ⟨hk.1.1, hk.1.2⟩)⟩, ⟨by refine qR ?_; exact Kd.R_mono HO_605003.out (fun _ hk => ⟨hk.1, hk.2.1⟩)⟩, ⟨by refine qB ?_; exact BK574.out⟩, ⟨by refine qB ?_; exact BK589.out⟩, ⟨by refine qB ?_; exact BK596.out⟩, ⟨by refine qB ?_; exact BK604.out⟩, ⟨by exact qW HB.out⟩⟩
    rw [if_neg c71] at H
    have c71b0 : decide (t613 < 0) = false := decide_eq_false c71
    clear c71
    (first | rw [c71b0] | (simp only [i64_w, i32_w]; rw [c71b0]) | skip)
    replace H := Option.bind_eq_some_iff.mp H
    obtain ⟨t615, A720, H⟩ := H
    replace H : (if t615 = true then (laws_FnExactDiffuseImage.j1 kj11 a1 t588 (t603 != t588) a0_0 a0_1 a0_2 l0_3 t582 t583 t584 t585 t597 t598 t599 t600) else (laws_FnExactDiffuseImage.j1 kj11 a1 t588 true a0_0 a0_1 a0_2 l0_3 t582 t583 t584 t585 t597 t598 t599 t600)) = some r := H
    have A72 := aM A720
    clear A720
    by_cases c73 : t615 = true
    ·subst c73
     have H1 : (laws_FnExactDiffuseImage.j1 kj11 a1 t588 (t603 != t588) a0_0 a0_1 a0_2 l0_3 t582 t583 t584 t585 t597 t598 t599 t600) = some r := by rw [if_pos rfl] at H; exact H
     clear H
     have H := H1
     clear H1
     have H' := aM H
     clear H
     have hnb74 := NB604_574.out
     have hnc74 := NB574_604.out
     have hnb75 := NB604_589.out
     have hnc75 := NB589_604.out
     have hnb76 := NB604_596.out
     have hnc76 := NB596_604.out
     obtain ⟨⟨hcz77_0, hcz77_1, hcz77_2, hcz77_3⟩, hfz77_0, hfz77_1, hfz77_2, hfz77_3⟩ := cf4 BK604
     have hnb78 := NB589_574.out
     have hnc78 := NB574_589.out
     have hnb79 := NB589_596.out
     have hnc79 := NB596_589.out
     obtain ⟨⟨hcz80_0, hcz80_1, hcz80_2, hcz80_3⟩, hfz80_0, hfz80_1, hfz80_2, hfz80_3⟩ := cf4 BK589
     go_wp2_with (first | (go_at_call 22; (with_reducible refine (laws_eqImage.calls kj11 t597 t598 t599 _ _ t600 t582 t583 t584 _ _ t585 true _ ?side1 ?side2 ?side3 ?side4 A72.out).mono ?_); (case side1 => exact qC (Kd.R_reads' HO_605003.out).2.2); (case side2 => exact (Kd.R_reads' HO_605003.out).2.1); (case side3 => exact qC (Kd.R_reads' HO_590003.out).2.2); (case side4 => exact (Kd.R_reads' HO_590003.out).2.1); rintro e w81 ⟨rfl, hb⟩; replace HO_590003 := aM (Kd.R_below (qR HO_590003.out) hb); replace HO_597003 := aM (Kd.R_below (qR HO_597003.out) hb); replace HO_605003 := aM (Kd.R_below (qR HO_605003.out) hb); replace HO611 := aM (Kd.R_below (qR HO611.out) hb); replace BK574 := bB BK574 hb; replace BK589 := bB BK589 hb; replace BK596 := bB BK596 hb; replace BK604 := bB BK604 hb; replace HB := bS HB hb; clear hb))
     go_meet
     case rel => exact ⟨_, ((t603 != t588)), qE, H', ⟨by have := HJ11.out; first | omega | exact Nat.le_refl _⟩, ⟨by refine qR ?_; exact Kd.R_mono HO_590003.out (fun _ hk => ⟨hk.1, hk.2.1⟩)⟩, ⟨by refine qR ?_; exact Kd.R_mono HO_597003.out (fun _ hk => ⟨hk.1.1, hk.1.2⟩)⟩, ⟨by refine qR ?_; exact Kd.R_mono HO_605003.out (fun _ hk => ⟨hk.1, hk.2.1⟩)⟩, ⟨by refine qB ?_; exact BK574.out⟩, ⟨by refine qB ?_; exact BK589.out⟩, ⟨by refine qB ?_; exact BK596.out⟩, ⟨by refine qB ?_; exact BK604.out⟩, ⟨by exact qW HB.out⟩⟩
    replace c73 := Bool.eq_false_iff.mpr c73
    subst c73
    have H1 : (laws_FnExactDiffuseImage.j1 kj11 a1 t588 true a0_0 a0_1 a0_2 l0_3 t582 t583 t584 t585 t597 t598 t599 t600) = some r := by rw [if_neg (show ¬ (false = true) by decide)] at H; exact H
    clear H
    have H := H1
    clear H1
    have H' := aM H
    clear H
    have hnb82 := NB604_574.out
    have hnc82 := NB574_604.out
    have hnb83 := NB604_589.out
    have hnc83 := NB589_604.out
    have hnb84 := NB604_596.out
    have hnc84 := NB596_604.out
    obtain ⟨⟨hcz85_0, hcz85_1, hcz85_2, hcz85_3⟩, hfz85_0, hfz85_1, hfz85_2, hfz85_3⟩ := cf4 BK604
    have hnb86 := NB589_574.out
    have hnc86 := NB574_589.out
    have hnb87 := NB589_596.out
    have hnc87 := NB596_589.out
    obtain ⟨⟨hcz88_0, hcz88_1, hcz88_2, hcz88_3⟩, hfz88_0, hfz88_1, hfz88_2, hfz88_3⟩ := cf4 BK589
    go_wp2_with (first | (go_at_call 22; (with_reducible refine (laws_eqImage.calls kj11 t597 t598 t599 _ _ t600 t582 t583 t584 _ _ t585 false _ ?side1 ?side2 ?side3 ?side4 A72.out).mono ?_); (case side1 => exact qC (Kd.R_reads' HO_605003.out).2.2); (case side2 => exact (Kd.R_reads' HO_605003.out).2.1); (case side3 => exact qC (Kd.R_reads' HO_590003.out).2.2); (case side4 => exact (Kd.R_reads' HO_590003.out).2.1); rintro e w89 ⟨rfl, hb⟩; replace HO_590003 := aM (Kd.R_below (qR HO_590003.out) hb); replace HO_597003 := aM (Kd.R_below (qR HO_597003.out) hb); replace HO_605003 := aM (Kd.R_below (qR HO_605003.out) hb); replace HO611 := aM (Kd.R_below (qR HO611.out) hb); replace BK574 := bB BK574 hb; replace BK589 := bB BK589 hb; replace BK596 := bB BK596 hb; replace BK604 := bB BK604 hb; replace HB := bS HB hb; clear hb))
    go_meet
    case rel => exact ⟨_, (true), qE, H', ⟨by have := HJ11.out; first | omega | exact Nat.le_refl _⟩, ⟨by refine qR ?_; exact Kd.R_mono HO_590003.out (fun _ hk => ⟨hk.1, hk.2.1⟩)⟩, ⟨by refine qR ?_; exact Kd.R_mono HO_597003.out (fun _ hk => ⟨hk.1.1, hk.1.2⟩)⟩, ⟨by refine qR ?_; exact Kd.R_mono HO_605003.out (fun _ hk => ⟨hk.1, hk.2.1⟩)⟩, ⟨by refine qB ?_; exact BK574.out⟩, ⟨by refine qB ?_; exact BK589.out⟩, ⟨by refine qB ?_; exact BK596.out⟩, ⟨by refine qB ?_; exact BK604.out⟩, ⟨by exact qW HB.out⟩⟩
   case rest =>
    clear HC61
    try clear c4
    try clear c4b0
    try clear c39
    try clear c56
    try clear c59
    try clear c71
    try clear c71b0
    try clear c73
    try clear hcz14_0 hcz14_1 hcz14_2 hcz14_3 hfz14_0 hfz14_1 hfz14_2 hfz14_3
    try clear hcz16_0 hcz16_1 hcz16_2 hcz16_3 hfz16_0 hfz16_1 hfz16_2 hfz16_3
    try clear hcz22_0 hcz22_1 hcz22_2 hcz22_3 hfz22_0 hfz22_1 hfz22_2 hfz22_3
    try clear hcz24_0 hcz24_1 hcz24_2 hcz24_3 hfz24_0 hfz24_1 hfz24_2 hfz24_3
    try clear hcz29_0 hcz29_1 hcz29_2 hcz29_3 hfz29_0 hfz29_1 hfz29_2 hfz29_3
    try clear hcz36_0 hcz36_1 hcz36_2 hcz36_3 hfz36_0 hfz36_1 hfz36_2 hfz36_3
    try clear hcz43_0 hcz43_1 hcz43_2 hcz43_3 hfz43_0 hfz43_1 hfz43_2 hfz43_3
    try clear hcz46_0 hcz46_1 hcz46_2 hcz46_3 hfz46_0 hfz46_1 hfz46_2 hfz46_3
    try clear hcz51_0 hcz51_1 hcz51_2 hcz51_3 hfz51_0 hfz51_1 hfz51_2 hfz51_3
    try clear hcz54_0 hcz54_1 hcz54_2 hcz54_3 hfz54_0 hfz54_1 hfz54_2 hfz54_3
    try clear hcz69_0 hcz69_1 hcz69_2 hcz69_3 hfz69_0 hfz69_1 hfz69_2 hfz69_3
    try clear hcz6_0 hcz6_1 hcz6_2 hcz6_3 hfz6_0 hfz6_1 hfz6_2 hfz6_3
    try clear hcz77_0 hcz77_1 hcz77_2 hcz77_3 hfz77_0 hfz77_1 hfz77_2 hfz77_3
    try clear hcz80_0 hcz80_1 hcz80_2 hcz80_3 hfz80_0 hfz80_1 hfz80_2 hfz80_3
    try clear hcz85_0 hcz85_1 hcz85_2 hcz85_3 hfz85_0 hfz85_1 hfz85_2 hfz85_3
    try clear hcz88_0 hcz88_1 hcz88_2 hcz88_3 hfz88_0 hfz88_1 hfz88_2 hfz88_3
    obtain ⟨kq, x65_60, rfl, HA, HJ60, HO_590003, HO_597003, HO_605003, BK574, BK589, BK596, BK604, HB⟩ := hcut
    have hl597003_60 := (Kd.R_reads' HO_597003.out).1
    rw [hl597003_60] at HO_597003
    (try simp only [hl597003_60])
    (try simp only [hl597003_60] at BK574)
    (try simp only [hl597003_60] at BK589)
    (try simp only [hl597003_60] at BK596)
    (try simp only [hl597003_60] at BK604)
    (try simp only [hl597003_60] at HO_590003)
    (try simp only [hl597003_60] at HO_605003)
    cases kq with
    | zero => exact absurd HA.out (by simp [laws_FnExactDiffuseImage.j1])
    | succ kj60 =>
     have H := HA.out
     clear HA
     simp only [laws_FnExactDiffuseImage.j1] at H
     by_cases c90 : x65_60 = true
     ·subst c90
      have H1 : (some false) = some r := by rw [if_pos rfl] at H; exact H
      clear H
      have H := H1
      clear H1
      obtain rfl := Option.some.inj H
      exact absurd hrt (by decide)
     replace c90 := Bool.eq_false_iff.mpr c90
     subst c90
     have H1 : ((laws_markImage.f kj60 t597 t598 t599 t600 1).bind fun bt616 => ((laws_heldImage.f kj60 t597 t598 t599 bt616.2 1).bind fun t618 => (if t618 < 0 then (some false) else (if t618 = bt616.1 then ((laws_toImage.f kj60 a0_0 a0_1 a0_2 l0_3).bind fun bt619 => ((impl_DiffuseImage.f kj60 bt619.1 bt619.2.1 bt619.2.2.1 bt619.2.2.2 a1).bind fun bt625 => ((laws_eqImage.f kj60 bt625.1 bt625.2.1 bt625.2.2.1 bt625.2.2.2.1 t582 t583 t584 t585).bind fun t633 => (if t633 = true then (laws_FnExactDiffuseImage.j2 kj60 bt616.1 (bt625.2.2.2.2 != t588) t597 t598 t599 bt616.2) else (laws_FnExactDiffuseImage.j2 kj60 bt616.1 true t597 t598 t599 bt616.2))))) else (some false))))) = some r := by rw [if_neg (show ¬ (false = true) by decide)] at H; exact H
     clear H
     have H := H1
     clear H1
     replace H := Option.bind_eq_some_iff.mp H
     obtain ⟨⟨t616, t617⟩, A910, H⟩ := H
     replace H : ((laws_heldImage.f kj60 t597 t598 t599 t617 1).bind fun t618 => (if t618 < 0 then (some false) else (if t618 = t616 then ((laws_toImage.f kj60 a0_0 a0_1 a0_2 l0_3).bind fun bt619 => ((impl_DiffuseImage.f kj60 bt619.1 bt619.2.1 bt619.2.2.1 bt619.2.2.2 a1).bind fun bt625 => ((laws_eqImage.f kj60 bt625.1 bt625.2.1 bt625.2.2.1 bt625.2.2.2.1 t582 t583 t584 t585).bind fun t633 => (if t633 = true then (laws_FnExactDiffuseImage.j2 kj60 t616 (bt625.2.2.2.2 != t588) t597 t598 t599 t617) else (laws_FnExactDiffuseImage.j2 kj60 t616 true t597 t598 t599 t617))))) else (some false)))) = some r := H
     have A91 := aM A910
     clear A910
     replace H := Option.bind_eq_some_iff.mp H
     obtain ⟨t618, A920, H⟩ := H
     replace H : (if t618 < 0 then (some false) else (if t618 = t616 then ((laws_toImage.f kj60 a0_0 a0_1 a0_2 l0_3).bind fun bt619 => ((impl_DiffuseImage.f kj60 bt619.1 bt619.2.1 bt619.2.2.1 bt619.2.2.2 a1).bind fun bt625 => ((laws_eqImage.f kj60 bt625.1 bt625.2.1 bt625.2.2.1 bt625.2.2.2.1 t582 t583 t584 t585).bind fun t633 => (if t633 = true then (laws_FnExactDiffuseImage.j2 kj60 t616 (bt625.2.2.2.2 != t588) t597 t598 t599 t617) else (laws_FnExactDiffuseImage.j2 kj60 t616 true t597 t598 t599 t617))))) else (some false))) = some r := H
     have A92 := aM A920
     clear A920
     by_cases c93 : t618 < 0
     ·rw [if_pos c93] at H
      have c93b0 : decide (t618 < 0) = true := decide_eq_true c93
      clear c93
      obtain rfl := Option.some.inj H
      exact absurd hrt (by decide)
     rw [if_neg c93] at H
     have c93b0 : decide (t618 < 0) = false := decide_eq_false c93
     clear c93
     by_cases c101 : t618 = t616
     rotate_left
     ·rw [if_neg c101] at H
      have c101b0 : (t618 == t616) = false := beq_eq_false_iff_ne.mpr c101
      have c101b1 : (t618 != t616) = true := bne_iff_ne.mpr c101
      obtain rfl := Option.some.inj H
      exact absurd hrt (by decide)
     rw [if_pos c101] at H
     have c101b0 : (t618 == t616) = true := beq_iff_eq.mpr c101
     have c101b1 : (t618 != t616) = false := bne_eq_false_iff_eq.mpr c101
     clear c101
     replace H := Option.bind_eq_some_iff.mp H
     obtain ⟨⟨t619, t620, t621, t622⟩, A1020, H⟩ := H
     replace H : ((impl_DiffuseImage.f kj60 t619 t620 t621 t622 a1).bind fun bt625 => ((laws_eqImage.f kj60 bt625.1 bt625.2.1 bt625.2.2.1 bt625.2.2.2.1 t582 t583 t584 t585).bind fun t633 => (if t633 = true then (laws_FnExactDiffuseImage.j2 kj60 t616 (bt625.2.2.2.2 != t588) t597 t598 t599 t617) else (laws_FnExactDiffuseImage.j2 kj60 t616 true t597 t598 t599 t617)))) = some r := H
     have A102 := aM A1020
     clear A1020
     replace H := Option.bind_eq_some_iff.mp H
     obtain ⟨⟨t625, t626, t627, t628, t631⟩, A1030, H⟩ := H
     replace H : ((laws_eqImage.f kj60 t625 t626 t627 t628 t582 t583 t584 t585).bind fun t633 => (if t633 = true then (laws_FnExactDiffuseImage.j2 kj60 t616 (t631 != t588) t597 t598 t599 t617) else (laws_FnExactDiffuseImage.j2 kj60 t616 true t597 t598 t599 t617))) = some r := H
     have A103 := aM A1030
     clear A1030
     have HC104 := aM H
     clear H
     have hnb105 := NB604_574.out
     have hnc105 := NB574_604.out
     have hnb106 := NB604_589.out
     have hnc106 := NB589_604.out
     have hnb107 := NB604_596.out
     have hnc107 := NB596_604.out
     obtain ⟨⟨hcz108_0, hcz108_1, hcz108_2, hcz108_3⟩, hfz108_0, hfz108_1, hfz108_2, hfz108_3⟩ := cf4 BK604
     go_upto_region 25 with (first | ((with_reducible refine gate_callee (f := 23) rfl ?_); refine gL (some 68) Try.func23 #[.agg #[.int .i64 t597, .int .i64 t598, .int .i64 t599, .slice Ao37 t600.length co37], .int .i64 1] ?_; (with_reducible refine (laws_markImage.calls kj60 t597 t598 t599 (fun k_ => some k_ = (.slice Ao37 t600.length co37 : Value).ownBlock) (.slice Ao37 t600.length co37) t600 1 t616 t617 w _ ?side1 ?side2 A91.out).mono ?_); (case side1 => exact qW HB.out); (case side2 => exact Kd.R_tight rfl HO_605003.out); rintro e w109 ⟨rfl, hy0, hb, hkp⟩; refine ⟨_, rfl, ?_⟩; replace HO_590003 := aM (Kd.R_mono (ok' := fun k_ => some k_ ≠ (.slice Ao30 t614.length co30 : Value).ownBlock ∧ some k_ ≠ (.slice Ao37 t600.length co37 : Value).ownBlock) (Kd.R_keptB (HO_590003.out) hkp (fun k_ hk_ hs_ => (hk_.2) hs_)) (fun k_ hk_ => ⟨hk_.1.1, hk_.1.2⟩)); replace HO_597003 := aM (Kd.R_mono (ok' := fun k_ => some k_ ≠ (.slice Ao23 t585.length co23 : Value).ownBlock ∧ some k_ ≠ (.slice Ao37 t600.length co37 : Value).ownBlock) (Kd.R_keptB (HO_597003.out) hkp (fun k_ hk_ hs_ => (hk_.2) hs_)) (fun k_ hk_ => ⟨hk_.1.1, hk_.1.2⟩)); replace BK574 := aM (blk_kept (qB BK574.out) hkp (fun hs_ => (fun e_ => (Kd.R_ne HO_605003.out BK574.out (by decide)) e_) hs_)); replace BK589 := aM (blk_kept (qB BK589.out) hkp (fun hs_ => (fun e_ => (Kd.R_ne HO_605003.out BK589.out (by decide)) e_) hs_)); replace BK596 := aM (blk_kept (qB BK596.out) hkp (fun hs_ => (fun e_ => (Kd.R_ne HO_605003.out BK596.out (by decide)) e_) hs_)); replace BK604 := aM (blk_kept (qB BK604.out) hkp (fun hs_ => (fun e_ => (Kd.R_ne HO_605003.out BK604.out (by decide)) e_) hs_)); replace HO_605003 := aM (Kd.R_reok rfl hy0 (fun k_ e_ => HO_605003.out.1 k_ e_)); replace HB := aM (hb); clear hb hkp hy0; obtain ⟨⟨hcz110_0, hcz110_1, hcz110_2, hcz110_3⟩, hfz110_0, hfz110_1, hfz110_2, hfz110_3⟩ := cf4 BK604) | ((with_reducible refine gate_callee (f := 24) rfl ?_); refine goesL_ (some 71) rfl rfl Try.func24 (by kernel_rfl) rfl #[.agg #[.int .i64 t597, .int .i64 t598, .int .i64 t599, .slice Ao37 t617.length co37], .int .i64 1] rfl (by (try simp only [List.map_toArray, List.map_cons, List.map_nil]); first | done | (rw [show t617.length = t600.length from (Kd.R_reads' HO_605003.out).1.symm] <;> rfl) | rfl | (simp only [List.length_drop, List.length_take]; rfl)) ?_; (with_reducible refine (laws_heldImage.calls kj60 t597 t598 t599 _ _ t617 1 t618 _ ?side1 ?side2 A92.out).mono ?_); (case side1 => exact qC (Kd.R_reads' HO_605003.out).2.2); (case side2 => rw [show t617.length = t600.length from (Kd.R_reads' HO_605003.out).1.symm]; exact (Kd.R_reads' HO_605003.out).2.1); rintro e w111 ⟨rfl, hb⟩; refine ⟨_, rfl, ?_⟩; replace HO_590003 := aM (Kd.R_below (qR HO_590003.out) hb); replace HO_597003 := aM (Kd.R_below (qR HO_597003.out) hb); replace HO_605003 := aM (Kd.R_below (qR HO_605003.out) hb); replace BK574 := bB BK574 hb; replace BK589 := bB BK589 hb; replace BK596 := bB BK596 hb; replace BK604 := bB BK604 hb; replace HB := bS HB hb; clear hb; have hnb112 := NB574_589.out; have hnc112 := NB589_574.out; have hnb113 := NB574_596.out; have hnc113 := NB596_574.out; obtain ⟨⟨hcz114_0, hcz114_1, hcz114_2, hcz114_3⟩, hfz114_0, hfz114_1, hfz114_2, hfz114_3⟩ := cf4 BK574) | ((with_reducible refine gate_callee (f := 20) rfl ?_); refine gL (some 79) Try.func20 #[.agg #[.int .i64 a0_0, .int .i64 a0_1, .int .i64 a0_2, .slice A0_3 l0_3.length c0_3]] ?_; (with_reducible refine (laws_toImage.calls kj60 a0_0 a0_1 a0_2 _ _ l0_3 t619 t620 t621 t622 _ ?side1 ?side2 A102.out).mono ?_); (case side1 => exact qC (Kd.C_below HR0_3.out HB.out)); (case side2 => exact HC0_3.out); rintro e w115 ⟨v623, rfl, ho0, hb⟩; refine ⟨_, rfl, ?_⟩; have HO624 := aM (Kd.R_lower (Kd.R_new' (Kd.R_new' (Kd.R_new' ho0 (Kd.R_lt (qR HO_590003.out))) (Kd.R_lt (qR HO_597003.out))) (Kd.R_lt (qR HO_605003.out))) (below_size (qW HB.out))); replace HO_590003 := aM (Kd.R_elder' (qR HO_590003.out) (Kd.R_base ho0) hb); replace HO_597003 := aM (Kd.R_elder' (qR HO_597003.out) (Kd.R_base ho0) hb); replace HO_605003 := aM (Kd.R_elder' (qR HO_605003.out) (Kd.R_base ho0) hb); replace BK574 := bB BK574 hb; replace BK589 := bB BK589 hb; replace BK596 := bB BK596 hb; replace BK604 := bB BK604 hb; replace HB := bS HB hb; clear hb ho0; obtain ⟨Ao116, co116, rfl⟩ := sL HO624) | ((with_reducible refine gate_callee (f := 28) rfl ?_); refine gL (some 81) Try.func28 #[.agg #[.int .i64 t619, .int .i64 t620, .int .i64 t621, .slice Ao116 t622.length co116], .int .i64 a1] ?_; (with_reducible refine (impl_DiffuseImage.calls kj60 t619 t620 t621 _ _ t622 a1 t625 t626 t627 t628 t631 _ ?side1 ?side2 A103.out).mono ?_); (case side1 => exact qC (Kd.R_reads' HO624.out).2.2); (case side2 => exact (Kd.R_reads' HO624.out).2.1); rintro e w117 ⟨v629, rfl, ho0, hb⟩; refine ⟨_, rfl, ?_⟩; have HO630 := aM (Kd.R_lower (Kd.R_new' (Kd.R_new' (Kd.R_new' (Kd.R_new' ho0 (Kd.R_lt (qR HO_590003.out))) (Kd.R_lt (qR HO_597003.out))) (Kd.R_lt (qR HO_605003.out))) (Kd.R_lt (qR HO624.out))) (below_size (qW HB.out))); replace HO_590003 := aM (Kd.R_elder' (qR HO_590003.out) (Kd.R_base ho0) hb); replace HO_597003 := aM (Kd.R_elder' (qR HO_597003.out) (Kd.R_base ho0) hb); replace HO_605003 := aM (Kd.R_elder' (qR HO_605003.out) (Kd.R_base ho0) hb); replace HO624 := aM (Kd.R_elder' (qR HO624.out) (Kd.R_base ho0) hb); replace BK574 := bB BK574 hb; replace BK589 := bB BK589 hb; replace BK596 := bB BK596 hb; replace BK604 := bB BK604 hb; replace HB := bS HB hb; clear hb ho0) | ((with_reducible refine gate_dst (N := 14) rfl ?_); refine bxE (N := 14) (cs := #[.int .i64 0, .int .i64 0, .int .i64 0, .slice none 0 0]) (t := 27) ?_; intro gb632 hg w118 hbox hb; replace HO_590003 := aM (Kd.R_below (qR HO_590003.out) hb); replace HO_597003 := aM (Kd.R_below (qR HO_597003.out) hb); replace HO_605003 := aM (Kd.R_below (qR HO_605003.out) hb); replace HO624 := aM (Kd.R_below (qR HO624.out) hb); replace HO630 := aM (Kd.R_below (qR HO630.out) hb); have BK632 := aM (hbox); have GW632 := gW hg HB; have GE632 := gW hg HB; replace HB := bS HB hb; have NB574_632 := nL hg BK574; have NB632_574 := nG hg BK574; replace BK574 := bB BK574 hb; have NB589_632 := nL hg BK589; have NB632_589 := nG hg BK589; replace BK589 := bB BK589 hb; have NB596_632 := nL hg BK596; have NB632_596 := nG hg BK596; replace BK596 := bB BK596 hb; have NB604_632 := nL hg BK604; have NB632_604 := nG hg BK604; replace BK604 := bB BK604 hb; clear hb hbox hg; have hnb119 := NB632_574.out; have hnc119 := NB574_632.out; have hnb120 := NB632_589.out; have hnc120 := NB589_632.out; have hnb121 := NB632_596.out; have hnc121 := NB596_632.out; have hnb122 := NB632_604.out; have hnc122 := NB604_632.out; obtain ⟨⟨hcz123_0, hcz123_1, hcz123_2, hcz123_3⟩, hfz123_0, hfz123_1, hfz123_2, hfz123_3⟩ := cf4 BK632; obtain ⟨Ao124, co124, rfl⟩ := sL HO630))
     (try simp only [Act.put, List.setIfInBounds_toArray, List.set_cons_zero, List.set_cons_succ])
     go_cut [92] (fun v92 wc => ∃ (kq : Nat) (x92_103 : Bool), v92 = .bool x92_103 ∧ Aside0 (laws_FnExactDiffuseImage.j2 kq t616 x92_103 t597 t598 t599 t617 = some r) ∧ Aside0 (kq ≤ kj60) ∧ Aside0 (Kd.R (Kd.int .i64) 3 wc w.heap.size (fun k_ => some k_ ≠ ((.slice Ao30 t614.length co30) : Value).ownBlock ∧ some k_ ≠ ((.slice Ao37 t600.length co37) : Value).ownBlock ∧ some k_ ≠ ((.slice Ao124 t628.length co124) : Value).ownBlock) (.slice Ao23 t585.length co23) t585) ∧ Aside0 (Kd.R (Kd.int .i64) 3 wc w.heap.size (fun k_ => some k_ ≠ ((.slice Ao23 t585.length co23) : Value).ownBlock ∧ some k_ ≠ ((.slice Ao37 t600.length co37) : Value).ownBlock ∧ some k_ ≠ ((.slice Ao124 t628.length co124) : Value).ownBlock) (.slice Ao30 t614.length co30) t614) ∧ Aside0 (Kd.R (Kd.int .i64) 3 wc w.heap.size (fun k_ => some k_ ≠ ((.slice Ao23 t585.length co23) : Value).ownBlock ∧ some k_ ≠ ((.slice Ao30 t614.length co30) : Value).ownBlock ∧ some k_ ≠ ((.slice Ao124 t628.length co124) : Value).ownBlock) (.slice Ao37 t600.length co37) t617) ∧ Aside0 (Kd.R (Kd.int .i64) 3 wc w.heap.size (fun k_ => some k_ ≠ ((.slice Ao23 t585.length co23) : Value).ownBlock ∧ some k_ ≠ ((.slice Ao30 t614.length co30) : Value).ownBlock ∧ some k_ ≠ ((.slice Ao37 t600.length co37) : Value).ownBlock) (.slice Ao124 t628.length co124) t628) ∧ Aside0 (wc.heap[gb574]? = some (.cells #[.int .i64 a0_0, .int .i64 a0_1, .int .i64 a0_2, (.slice A0_3 l0_3.length c0_3)] 34 (0, 0))) ∧ Aside0 (wc.heap[gb589]? = some (.cells #[.int .i64 t582, .int .i64 t583, .int .i64 t584, (.slice Ao23 t585.length co23)] 27 (0, 0))) ∧ Aside0 (wc.heap[gb596]? = some (.cells #[.int .i64 t590, .int .i64 t591, .int .i64 t592, (.slice Ao30 t614.length co30)] 27 (0, 0))) ∧ Aside0 (wc.heap[gb604]? = some (.cells #[.int .i64 t597, .int .i64 t598, .int .i64 t599, (.slice Ao37 t600.length co37)] 27 (0, 0))) ∧ Aside0 (wc.heap[gb632]? = some (.cells #[.int .i64 t625, .int .i64 t626, .int .i64 t627, (.slice Ao124 t628.length co124)] 27 (0, 0))) ∧ Aside0 (Below w.heap.size w wc))
     case first =>
      have H := HC104.out
      clear HC104
      replace H := Option.bind_eq_some_iff.mp H
      obtain ⟨t633, A1250, H⟩ := H
      replace H : (if t633 = true then (laws_FnExactDiffuseImage.j2 kj60 t616 (t631 != t588) t597 t598 t599 t617) else (laws_FnExactDiffuseImage.j2 kj60 t616 true t597 t598 t599 t617)) = some r := H
      have A125 := aM A1250
      clear A1250
      by_cases c126 : t633 = true
      ·subst c126
       have H1 : (laws_FnExactDiffuseImage.j2 kj60 t616 (t631 != t588) t597 t598 t599 t617) = some r := by rw [if_pos rfl] at H; exact H
       clear H
       have H := H1
       clear H1
       have H' := aM H
       clear H
       have hnb127 := NB632_574.out
       have hnc127 := NB574_632.out
       have hnb128 := NB632_589.out
       have hnc128 := NB589_632.out
       have hnb129 := NB632_596.out
       have hnc129 := NB596_632.out
       have hnb130 := NB632_604.out
       have hnc130 := NB604_632.out
       obtain ⟨⟨hcz131_0, hcz131_1, hcz131_2, hcz131_3⟩, hfz131_0, hfz131_1, hfz131_2, hfz131_3⟩ := cf4 BK632
       have hnb132 := NB589_574.out
       have hnc132 := NB574_589.out
       have hnb133 := NB589_596.out
       have hnc133 := NB596_589.out
       have hnb134 := NB589_604.out
       have hnc134 := NB604_589.out
       obtain ⟨⟨hcz135_0, hcz135_1, hcz135_2, hcz135_3⟩, hfz135_0, hfz135_1, hfz135_2, hfz135_3⟩ := cf4 BK589
       go_wp2_with (first | ((with_reducible refine gate_callee (f := 22) rfl ?_); refine gL (some 86) Try.func22 #[.agg #[.int .i64 t625, .int .i64 t626, .int .i64 t627, .slice Ao124 t628.length co124], .agg #[.int .i64 t582, .int .i64 t583, .int .i64 t584, .slice Ao23 t585.length co23]] ?_; (with_reducible refine (laws_eqImage.calls kj60 t625 t626 t627 _ _ t628 t582 t583 t584 _ _ t585 true _ ?side1 ?side2 ?side3 ?side4 A125.out).mono ?_); (case side1 => refine (Kd.R_reads' (e := 3) (base := w.heap.size) (ok := fun k_ => ((((True ∧ some k_ ≠ (.slice Ao23 t585.length co23 : Value).ownBlock) ∧ some k_ ≠ (.slice Ao30 t614.length co30 : Value).ownBlock) ∧ some k_ ≠ (.slice Ao37 t600.length co37 : Value).ownBlock) ∧ some k_ ≠ (.slice Ao116 t622.length co116 : Value).ownBlock)) (n := t628.length) (c := co124) ?_).2.2; exact (by refine qR ?_; exact (fr4 HO630 BK632))); (case side2 => exact (Kd.R_reads' HO630.out).2.1); (case side3 => refine (Kd.R_reads' (e := 3) (base := w.heap.size) (ok := fun k_ => (((some k_ ≠ (.slice Ao30 t614.length co30 : Value).ownBlock ∧ some k_ ≠ (.slice Ao37 t600.length co37 : Value).ownBlock) ∧ some k_ ≠ (.slice Ao116 t622.length co116 : Value).ownBlock) ∧ some k_ ≠ (.slice Ao124 t628.length co124 : Value).ownBlock)) (n := t585.length) (c := co23) ?_).2.2; exact (by refine qR ?_; exact (fr4 HO_590003 BK632))); (case side4 => exact (Kd.R_reads' HO_590003.out).2.1); rintro e w136 ⟨rfl, hb⟩; refine ⟨_, rfl, ?_⟩; replace HO_590003 := aM (Kd.R_below (by refine qR ?_; exact (fr4 HO_590003 BK632)) hb); replace HO_597003 := aM (Kd.R_below (by refine qR ?_; exact (fr4 HO_597003 BK632)) hb); replace HO_605003 := aM (Kd.R_below (by refine qR ?_; exact (fr4 HO_605003 BK632)) hb); replace HO624 := aM (Kd.R_below (by refine qR ?_; exact (fr4 HO624 BK632)) hb); replace HO630 := aM (Kd.R_below (by refine qR ?_; exact (fr4 HO630 BK632)) hb); replace BK574 := aM (blk_below (g := gb574) (o := .cells #[.int .i64 a0_0, .int .i64 a0_1, .int .i64 a0_2, .slice A0_3 l0_3.length c0_3] 34 (0, 0)) (by refine qB ?_; refine blk_far ?_ NB574_632.out _; refine qB ?_; refine blk_far ?_ NB574_632.out _; refine qB ?_; refine blk_far ?_ NB574_632.out _; refine qB ?_; refine blk_far ?_ NB574_632.out _; refine qB ?_; exact BK574.out) hb); replace BK589 := aM (blk_below (g := gb589) (o := .cells #[.int .i64 t582, .int .i64 t583, .int .i64 t584, .slice Ao23 t585.length co23] 27 (0, 0)) (by refine qB ?_; refine blk_far ?_ NB589_632.out _; refine qB ?_; refine blk_far ?_ NB589_632.out _; refine qB ?_; refine blk_far ?_ NB589_632.out _; refine qB ?_; refine blk_far ?_ NB589_632.out _; refine qB ?_; exact BK589.out) hb); replace BK596 := aM (blk_below (g := gb596) (o := .cells #[.int .i64 t590, .int .i64 t591, .int .i64 t592, .slice Ao30 t614.length co30] 27 (0, 0)) (by refine qB ?_; refine blk_far ?_ NB596_632.out _; refine qB ?_; refine blk_far ?_ NB596_632.out _; refine qB ?_; refine blk_far ?_ NB596_632.out _; refine qB ?_; refine blk_far ?_ NB596_632.out _; refine qB ?_; exact BK596.out) hb); replace BK604 := aM (blk_below (g := gb604) (o := .cells #[.int .i64 t597, .int .i64 t598, .int .i64 t599, .slice Ao37 t600.length co37] 27 (0, 0)) (by refine qB ?_; refine blk_far ?_ NB604_632.out _; refine qB ?_; refine blk_far ?_ NB604_632.out _; refine qB ?_; refine blk_far ?_ NB604_632.out _; refine qB ?_; refine blk_far ?_ NB604_632.out _; refine qB ?_; exact BK604.out) hb); replace BK632 := aM (blk_below (g := gb632) (o := .cells #[.int .i64 t625, .int .i64 t626, .int .i64 t627, .slice Ao124 t628.length co124] 27 (0, 0)) (by exact bP BK632.out) hb); replace HB := bS HB hb; clear hb))
       go_meet
       case rel => exact ⟨_, ((t631 != t588)), qE, H', ⟨by have := HJ11.out; have := HJ60.out; first | omega | exact Nat.le_refl _⟩, ⟨by (try simp only [hl597003_60]); refine qR ?_; exact Kd.R_mono HO_590003.out (fun _ hk => ⟨hk.1.1.1, ⟨hk.1.1.2, hk.2⟩⟩)⟩, ⟨by (try simp only [hl597003_60]); refine qR ?_; exact Kd.R_mono HO_597003.out (fun _ hk => ⟨hk.1.1.1, ⟨hk.1.1.2, hk.2⟩⟩)⟩, ⟨by (try simp only [hl597003_60]); refine qR ?_; exact Kd.R_mono HO_605003.out (fun _ hk => ⟨hk.1.1.1, ⟨hk.1.1.2, hk.2⟩⟩)⟩, ⟨by (try simp only [hl597003_60]); refine qR ?_; exact Kd.R_mono HO630.out (fun _ hk => ⟨hk.1.1.1.2, ⟨hk.1.1.2, hk.1.2⟩⟩)⟩, ⟨by (try simp only [hl597003_60]); refine qB ?_; exact BK574.out⟩, ⟨by (try simp only [hl597003_60]); refine qB ?_; exact BK589.out⟩, ⟨by (try simp only [hl597003_60]); refine qB ?_; exact BK596.out⟩, ⟨by (try simp only [hl597003_60]); refine qB ?_; exact BK604.out⟩, ⟨by (try simp only [hl597003_60]); refine qB ?_; exact BK632.out⟩, ⟨by exact qW HB.out⟩⟩
      replace c126 := Bool.eq_false_iff.mpr c126
      subst c126
      have H1 : (laws_FnExactDiffuseImage.j2 kj60 t616 true t597 t598 t599 t617) = some r := by rw [if_neg (show ¬ (false = true) by decide)] at H; exact H
      clear H
      have H := H1
      clear H1
      have H' := aM H
      clear H
      have hnb137 := NB632_574.out
      have hnc137 := NB574_632.out
      have hnb138 := NB632_589.out
      have hnc138 := NB589_632.out
      have hnb139 := NB632_596.out
      have hnc139 := NB596_632.out
      have hnb140 := NB632_604.out
      have hnc140 := NB604_632.out
      obtain ⟨⟨hcz141_0, hcz141_1, hcz141_2, hcz141_3⟩, hfz141_0, hfz141_1, hfz141_2, hfz141_3⟩ := cf4 BK632
      have hnb142 := NB589_574.out
      have hnc142 := NB574_589.out
      have hnb143 := NB589_596.out
      have hnc143 := NB596_589.out
      have hnb144 := NB589_604.out
      have hnc144 := NB604_589.out
      obtain ⟨⟨hcz145_0, hcz145_1, hcz145_2, hcz145_3⟩, hfz145_0, hfz145_1, hfz145_2, hfz145_3⟩ := cf4 BK589
      go_wp2_with (first | ((with_reducible refine gate_callee (f := 22) rfl ?_); refine gL (some 86) Try.func22 #[.agg #[.int .i64 t625, .int .i64 t626, .int .i64 t627, .slice Ao124 t628.length co124], .agg #[.int .i64 t582, .int .i64 t583, .int .i64 t584, .slice Ao23 t585.length co23]] ?_; (with_reducible refine (laws_eqImage.calls kj60 t625 t626 t627 _ _ t628 t582 t583 t584 _ _ t585 false _ ?side1 ?side2 ?side3 ?side4 A125.out).mono ?_); (case side1 => refine (Kd.R_reads' (e := 3) (base := w.heap.size) (ok := fun k_ => ((((True ∧ some k_ ≠ (.slice Ao23 t585.length co23 : Value).ownBlock) ∧ some k_ ≠ (.slice Ao30 t614.length co30 : Value).ownBlock) ∧ some k_ ≠ (.slice Ao37 t600.length co37 : Value).ownBlock) ∧ some k_ ≠ (.slice Ao116 t622.length co116 : Value).ownBlock)) (n := t628.length) (c := co124) ?_).2.2; exact (by refine qR ?_; exact (fr4 HO630 BK632))); (case side2 => exact (Kd.R_reads' HO630.out).2.1); (case side3 => refine (Kd.R_reads' (e := 3) (base := w.heap.size) (ok := fun k_ => (((some k_ ≠ (.slice Ao30 t614.length co30 : Value).ownBlock ∧ some k_ ≠ (.slice Ao37 t600.length co37 : Value).ownBlock) ∧ some k_ ≠ (.slice Ao116 t622.length co116 : Value).ownBlock) ∧ some k_ ≠ (.slice Ao124 t628.length co124 : Value).ownBlock)) (n := t585.length) (c := co23) ?_).2.2; exact (by refine qR ?_; exact (fr4 HO_590003 BK632))); (case side4 => exact (Kd.R_reads' HO_590003.out).2.1); rintro e w146 ⟨rfl, hb⟩; refine ⟨_, rfl, ?_⟩; replace HO_590003 := aM (Kd.R_below (by refine qR ?_; exact (fr4 HO_590003 BK632)) hb); replace HO_597003 := aM (Kd.R_below (by refine qR ?_; exact (fr4 HO_597003 BK632)) hb); replace HO_605003 := aM (Kd.R_below (by refine qR ?_; exact (fr4 HO_605003 BK632)) hb); replace HO624 := aM (Kd.R_below (by refine qR ?_; exact (fr4 HO624 BK632)) hb); replace HO630 := aM (Kd.R_below (by refine qR ?_; exact (fr4 HO630 BK632)) hb); replace BK574 := aM (blk_below (g := gb574) (o := .cells #[.int .i64 a0_0, .int .i64 a0_1, .int .i64 a0_2, .slice A0_3 l0_3.length c0_3] 34 (0, 0)) (by refine qB ?_; refine blk_far ?_ NB574_632.out _; refine qB ?_; refine blk_far ?_ NB574_632.out _; refine qB ?_; refine blk_far ?_ NB574_632.out _; refine qB ?_; refine blk_far ?_ NB574_632.out _; refine qB ?_; exact BK574.out) hb); replace BK589 := aM (blk_below (g := gb589) (o := .cells #[.int .i64 t582, .int .i64 t583, .int .i64 t584, .slice Ao23 t585.length co23] 27 (0, 0)) (by refine qB ?_; refine blk_far ?_ NB589_632.out _; refine qB ?_; refine blk_far ?_ NB589_632.out _; refine qB ?_; refine blk_far ?_ NB589_632.out _; refine qB ?_; refine blk_far ?_ NB589_632.out _; refine qB ?_; exact BK589.out) hb); replace BK596 := aM (blk_below (g := gb596) (o := .cells #[.int .i64 t590, .int .i64 t591, .int .i64 t592, .slice Ao30 t614.length co30] 27 (0, 0)) (by refine qB ?_; refine blk_far ?_ NB596_632.out _; refine qB ?_; refine blk_far ?_ NB596_632.out _; refine qB ?_; refine blk_far ?_ NB596_632.out _; refine qB ?_; refine blk_far ?_ NB596_632.out _; refine qB ?_; exact BK596.out) hb); replace BK604 := aM (blk_below (g := gb604) (o := .cells #[.int .i64 t597, .int .i64 t598, .int .i64 t599, .slice Ao37 t600.length co37] 27 (0, 0)) (by refine qB ?_; refine blk_far ?_ NB604_632.out _; refine qB ?_; refine blk_far ?_ NB604_632.out _; refine qB ?_; refine blk_far ?_ NB604_632.out _; refine qB ?_; refine blk_far ?_ NB604_632.out _; refine qB ?_; exact BK604.out) hb); replace BK632 := aM (blk_below (g := gb632) (o := .cells #[.int .i64 t625, .int .i64 t626, .int .i64 t627, .slice Ao124 t628.length co124] 27 (0, 0)) (by exact bP BK632.out) hb); replace HB := bS HB hb; clear hb))
      go_meet
      case rel => exact ⟨_, (true), qE, H', ⟨by have := HJ11.out; have := HJ60.out; first | omega | exact Nat.le_refl _⟩, ⟨by (try simp only [hl597003_60]); refine qR ?_; exact Kd.R_mono HO_590003.out (fun _ hk => ⟨hk.1.1.1, ⟨hk.1.1.2, hk.2⟩⟩)⟩, ⟨by (try simp only [hl597003_60]); refine qR ?_; exact Kd.R_mono HO_597003.out (fun _ hk => ⟨hk.1.1.1, ⟨hk.1.1.2, hk.2⟩⟩)⟩, ⟨by (try simp only [hl597003_60]); refine qR ?_; exact Kd.R_mono HO_605003.out (fun _ hk => ⟨hk.1.1.1, ⟨hk.1.1.2, hk.2⟩⟩)⟩, ⟨by (try simp only [hl597003_60]); refine qR ?_; exact Kd.R_mono HO630.out (fun _ hk => ⟨hk.1.1.1.2, ⟨hk.1.1.2, hk.1.2⟩⟩)⟩, ⟨by (try simp only [hl597003_60]); refine qB ?_; exact BK574.out⟩, ⟨by (try simp only [hl597003_60]); refine qB ?_; exact BK589.out⟩, ⟨by (try simp only [hl597003_60]); refine qB ?_; exact BK596.out⟩, ⟨by (try simp only [hl597003_60]); refine qB ?_; exact BK604.out⟩, ⟨by (try simp only [hl597003_60]); refine qB ?_; exact BK632.out⟩, ⟨by exact qW HB.out⟩⟩
     case rest =>
      clear HC104
      try clear c4
      try clear c4b0
      try clear c39
      try clear c56
      try clear c59
      try clear c71
      try clear c71b0
      try clear c73
      try clear c90
      try clear c93
      try clear c93b0
      try clear c101
      try clear c101b0
      try clear c101b1
      try clear c126
      try clear hcz108_0 hcz108_1 hcz108_2 hcz108_3 hfz108_0 hfz108_1 hfz108_2 hfz108_3
      try clear hcz110_0 hcz110_1 hcz110_2 hcz110_3 hfz110_0 hfz110_1 hfz110_2 hfz110_3
      try clear hcz114_0 hcz114_1 hcz114_2 hcz114_3 hfz114_0 hfz114_1 hfz114_2 hfz114_3
      try clear hcz123_0 hcz123_1 hcz123_2 hcz123_3 hfz123_0 hfz123_1 hfz123_2 hfz123_3
      try clear hcz131_0 hcz131_1 hcz131_2 hcz131_3 hfz131_0 hfz131_1 hfz131_2 hfz131_3
      try clear hcz135_0 hcz135_1 hcz135_2 hcz135_3 hfz135_0 hfz135_1 hfz135_2 hfz135_3
      try clear hcz141_0 hcz141_1 hcz141_2 hcz141_3 hfz141_0 hfz141_1 hfz141_2 hfz141_3
      try clear hcz145_0 hcz145_1 hcz145_2 hcz145_3 hfz145_0 hfz145_1 hfz145_2 hfz145_3
      try clear hcz14_0 hcz14_1 hcz14_2 hcz14_3 hfz14_0 hfz14_1 hfz14_2 hfz14_3
      try clear hcz16_0 hcz16_1 hcz16_2 hcz16_3 hfz16_0 hfz16_1 hfz16_2 hfz16_3
      try clear hcz22_0 hcz22_1 hcz22_2 hcz22_3 hfz22_0 hfz22_1 hfz22_2 hfz22_3
      try clear hcz24_0 hcz24_1 hcz24_2 hcz24_3 hfz24_0 hfz24_1 hfz24_2 hfz24_3
      try clear hcz29_0 hcz29_1 hcz29_2 hcz29_3 hfz29_0 hfz29_1 hfz29_2 hfz29_3
      try clear hcz36_0 hcz36_1 hcz36_2 hcz36_3 hfz36_0 hfz36_1 hfz36_2 hfz36_3
      try clear hcz43_0 hcz43_1 hcz43_2 hcz43_3 hfz43_0 hfz43_1 hfz43_2 hfz43_3
      try clear hcz46_0 hcz46_1 hcz46_2 hcz46_3 hfz46_0 hfz46_1 hfz46_2 hfz46_3
      try clear hcz51_0 hcz51_1 hcz51_2 hcz51_3 hfz51_0 hfz51_1 hfz51_2 hfz51_3
      try clear hcz54_0 hcz54_1 hcz54_2 hcz54_3 hfz54_0 hfz54_1 hfz54_2 hfz54_3
      try clear hcz69_0 hcz69_1 hcz69_2 hcz69_3 hfz69_0 hfz69_1 hfz69_2 hfz69_3
      try clear hcz6_0 hcz6_1 hcz6_2 hcz6_3 hfz6_0 hfz6_1 hfz6_2 hfz6_3
      try clear hcz77_0 hcz77_1 hcz77_2 hcz77_3 hfz77_0 hfz77_1 hfz77_2 hfz77_3
      try clear hcz80_0 hcz80_1 hcz80_2 hcz80_3 hfz80_0 hfz80_1 hfz80_2 hfz80_3
      try clear hcz85_0 hcz85_1 hcz85_2 hcz85_3 hfz85_0 hfz85_1 hfz85_2 hfz85_3
      try clear hcz88_0 hcz88_1 hcz88_2 hcz88_3 hfz88_0 hfz88_1 hfz88_2 hfz88_3
      obtain ⟨kq, x92_103, rfl, HA, HJ103, HO_590003, HO_597003, HO_605003, HO_633003, BK574, BK589, BK596, BK604, BK632, HB⟩ := hcut
      have hl605003_103 := (Kd.R_reads' HO_605003.out).1
      rw [hl605003_103] at HO_605003
      (try simp only [hl605003_103])
      (try simp only [hl605003_103] at BK574)
      (try simp only [hl605003_103] at BK589)
      (try simp only [hl605003_103] at BK596)
      (try simp only [hl605003_103] at BK604)
      (try simp only [hl605003_103] at BK632)
      (try simp only [hl605003_103] at HO_590003)
      (try simp only [hl605003_103] at HO_597003)
      (try simp only [hl605003_103] at HO_633003)
      cases kq with
      | zero => exact absurd HA.out (by simp [laws_FnExactDiffuseImage.j2])
      | succ kj103 =>
       have H := HA.out
       clear HA
       simp only [laws_FnExactDiffuseImage.j2] at H
       by_cases c147 : x92_103 = true
       ·subst c147
        have H1 : (some false) = some r := by rw [if_pos rfl] at H; exact H
        clear H
        have H := H1
        clear H1
        obtain rfl := Option.some.inj H
        exact absurd hrt (by decide)
       replace c147 := Bool.eq_false_iff.mpr c147
       subst c147
       have H1 : ((laws_heldImage.f kj103 t597 t598 t599 t617 1).bind fun t634 => (if t634 < 0 then (some false) else (if t634 = t616 then (some true) else (some false)))) = some r := by rw [if_neg (show ¬ (false = true) by decide)] at H; exact H
       clear H
       have H := H1
       clear H1
       replace H := Option.bind_eq_some_iff.mp H
       obtain ⟨t634, A1480, H⟩ := H
       replace H : (if t634 < 0 then (some false) else (if t634 = t616 then (some true) else (some false))) = some r := H
       have A148 := aM A1480
       clear A1480
       by_cases c149 : t634 < 0
       ·rw [if_pos c149] at H
        have c149b0 : decide (t634 < 0) = true := decide_eq_true c149
        clear c149
        obtain rfl := Option.some.inj H
        exact absurd hrt (by decide)
       rw [if_neg c149] at H
       have c149b0 : decide (t634 < 0) = false := decide_eq_false c149
       clear c149
       by_cases c156 : t634 = t616
       rotate_left
       ·rw [if_neg c156] at H
        have c156b0 : (t634 == t616) = false := beq_eq_false_iff_ne.mpr c156
        have c156b1 : (t634 != t616) = true := bne_iff_ne.mpr c156
        obtain rfl := Option.some.inj H
        exact absurd hrt (by decide)
       rw [if_pos c156] at H
       have c156b0 : (t634 == t616) = true := beq_iff_eq.mpr c156
       have c156b1 : (t634 != t616) = false := bne_eq_false_iff_eq.mpr c156
       clear c156
       obtain rfl := Option.some.inj H
       have hnb157 := NB604_574.out
       have hnc157 := NB574_604.out
       have hnb158 := NB604_589.out
       have hnc158 := NB589_604.out
       have hnb159 := NB604_596.out
       have hnc159 := NB596_604.out
       have hnb160 := NB604_632.out
       have hnc160 := NB632_604.out
       obtain ⟨⟨hcz161_0, hcz161_1, hcz161_2, hcz161_3⟩, hfz161_0, hfz161_1, hfz161_2, hfz161_3⟩ := cf4 BK604
       go_wp2_with (first | ((with_reducible refine gate_callee (f := 24) rfl ?_); refine gL (some 95) Try.func24 #[.agg #[.int .i64 t597, .int .i64 t598, .int .i64 t599, .slice Ao37 t617.length co37], .int .i64 1] ?_; (with_reducible refine (laws_heldImage.calls kj103 t597 t598 t599 _ _ t617 1 t634 _ ?side1 ?side2 A148.out).mono ?_); (case side1 => exact qC (Kd.R_reads' HO_605003.out).2.2); (case side2 => exact (Kd.R_reads' HO_605003.out).2.1); rintro e w162 ⟨rfl, hb⟩; refine ⟨_, rfl, ?_⟩; replace HO_590003 := aM (Kd.R_below (qR HO_590003.out) hb); replace HO_597003 := aM (Kd.R_below (qR HO_597003.out) hb); replace HO_605003 := aM (Kd.R_below (qR HO_605003.out) hb); replace HO_633003 := aM (Kd.R_below (qR HO_633003.out) hb); replace BK574 := bB BK574 hb; replace BK589 := bB BK589 hb; replace BK596 := bB BK596 hb; replace BK604 := bB BK604 hb; replace BK632 := bB BK632 hb; replace HB := bS HB hb; clear hb))
       go_ret
       exact ⟨qX, by exact qW HB.out⟩
def laws_FnExactDiffuseImage.Pure : Prop := ∀ (a0_0 : Int) (a0_1 : Int) (a0_2 : Int) (l0_3 : List Int) (a1 : Int), (Lit.int .i64 a0_0).wf = true → (Lit.int .i64 a0_1).wf = true → (Lit.int .i64 a0_2).wf = true → l0_3.length ≤ maxLen → (∀ x ∈ l0_3, (Lit.int .i64 x).wf = true) → (Lit.int .i64 a1).wf = true → ∃ k, laws_FnExactDiffuseImage.f k a0_0 a0_1 a0_2 l0_3 a1 = some true
theorem laws_FnExactDiffuseImage.walk (P : laws_FnExactDiffuseImage.Pure) (a0_0 : Int) (a0_1 : Int) (a0_2 : Int) (A0_3 : Option Addr) (len0_3 cap0_3 : Nat) (z0_3 : List Int) (a1 : Int) (w : World) (w0_0 : (Lit.int .i64 a0_0).wf = true) (w0_1 : (Lit.int .i64 a0_1).wf = true) (w0_2 : (Lit.int .i64 a0_2).wf = true) (w0_3 : (A0_3 = none ∧ len0_3 = 0 ∧ cap0_3 = 0 ∧ z0_3 = []) ∨ ∃ x, A0_3 = some x ∧ len0_3 ≤ cap0_3 ∧ cap0_3 ≤ maxLen ∧ z0_3.length = cap0_3 ∧ (∀ i, i < z0_3.length → w.cell? (x.add i) = some (.int .i64 (z0_3.getD i 0))) ∧ ∀ n ∈ z0_3, (Lit.int .i64 n).wf = true) (w1 : (Lit.int .i64 a1).wf = true) :
  Calls Try.prog 6 #[.agg #[.int .i64 a0_0, .int .i64 a0_1, .int .i64 a0_2, .slice A0_3 len0_3 cap0_3], .int .i64 a1] w fun e w' => e = .returned (.bool true) ∧ Below w.heap.size w w' := by
 obtain ⟨l0_3, rfl, hr0_3, hm0_3, hw0_3, hc0_3⟩ := ReadsInt.ofRowC w0_3
 obtain ⟨k, h⟩ := P a0_0 a0_1 a0_2 l0_3 a1 w0_0 w0_1 w0_2 hm0_3 hw0_3 w1
 refine (laws_FnExactDiffuseImage.calls k a0_0 a0_1 a0_2 _ _ l0_3 a1 true w (Kd.C_of_reads (d := (0 : Int)) (h1 := fun _ => rfl) hr0_3) hc0_3 h rfl).mono ?_
 rintro e w' ⟨rfl, hd⟩
 exact ⟨rfl, hd⟩
end Go.Proofs.Yteeeedmmcdlhjaa.P
