/- Contracts and row, written by a program of this place out of the translation: the call answers true and its argument reads as before, for every input; no condition. -/
import Derived.Test.YtnamhlcdlbjcfaaK0
import Derived.Test.YtnamhlcdlbjcfaaK2
import Derived.Test.YtnamhlcdlbjcfaaK3
namespace Go.Proofs.Ytnamhlcdlbjcfaa.P
open Go.RowKit Go.Proofs.YtnamhlcdlbjcfaaW.PrintWords Go.Proofs.YtnamhlcdlbjcfaaW.PrintLast Go.Proofs.YtnamhlcdlbjcfaaW.PrintMore
attribute [local go_sem] max2_int min2_int max_two min_two max_three min_three max_four min_four   -- for this text's walks alone
set_option linter.unusedVariables false
set_option linter.unusedSimpArgs false
def laws_FnExactScaleArea.j0 : Nat → Int → Int → Bool → Int → Int → Int → List Int → Int → Int → Int → List Int → Int → Int → Int → List Int → Option (Bool)
 | 0, _, _, _, _, _, _, _, _, _, _, _, _, _, _, _ => none
 | k + 1, x1, x2, x50, x700000, x700001, x700002, x700003, x714000, x714001, x714002, x714003, x728000, x728001, x728002, x728003 => if x50 = true then (some false) else ((laws_markImage.f k x728000 x728001 x728002 x728003 1).bind fun bt739 => ((laws_heldImage.f k x728000 x728001 x728002 bt739.2 1).bind fun t741 => (if t741 < 0 then (some false) else (if t741 = bt739.1 then ((laws_toImage.f k x700000 x700001 x700002 x700003).bind fun bt742 => ((impl_ScaleArea.f bt742.1 bt742.2.1 bt742.2.2.1 bt742.2.2.2 x1 x2).bind fun bt748 => ((laws_eqImage.f k bt748.1 bt748.2.1 bt748.2.2.1 bt748.2.2.2 x714000 x714001 x714002 x714003).bind fun t755 => (if t755 = true then ((laws_heldImage.f k x728000 x728001 x728002 bt739.2 1).bind fun t756 => (if t756 < 0 then (some false) else (if t756 = bt739.1 then (some true) else (some false)))) else (some false))))) else (some false)))))
def laws_FnExactScaleArea.f (k : Nat) (a0_0 : Int) (a0_1 : Int) (a0_2 : Int) (l0_3 : List Int) (a1 : Int) (a2 : Int) : Option (Bool) := (laws_szImage.f a0_0 a0_1 a0_2 l0_3 1048576).bind fun t700 => (if t700 < 0 then (some true) else ((laws_toImage.f k a0_0 a0_1 a0_2 l0_3).bind fun bt701 => ((spec_ScaleArea.f k bt701.1 bt701.2.1 bt701.2.2.1 bt701.2.2.2 a1 a2).bind fun bt707 => ((laws_toImage.f k a0_0 a0_1 a0_2 l0_3).bind fun bt714 => ((impl_ScaleArea.f bt714.1 bt714.2.1 bt714.2.2.1 bt714.2.2.2 a1 a2).bind fun bt721 => ((laws_eqImage.f k bt721.1 bt721.2.1 bt721.2.2.1 bt721.2.2.2 bt707.1 bt707.2.1 bt707.2.2.1 bt707.2.2.2).bind fun t728 => (if t728 = true then ((laws_toImage.f k a0_0 a0_1 a0_2 l0_3).bind fun bt729 => ((laws_eqImage.f k bt714.1 bt714.2.1 bt714.2.2.1 bt714.2.2.2 bt729.1 bt729.2.1 bt729.2.2.1 bt729.2.2.2).bind fun t735 => (if t735 = true then ((laws_markImage.f k bt714.1 bt714.2.1 bt714.2.2.1 bt714.2.2.2 1).bind fun bt736 => (if bt736.1 < 0 then (laws_FnExactScaleArea.j0 k a1 a2 true a0_0 a0_1 a0_2 l0_3 bt707.1 bt707.2.1 bt707.2.2.1 bt707.2.2.2 bt721.1 bt721.2.1 bt721.2.2.1 bt721.2.2.2) else ((laws_eqImage.f k bt721.1 bt721.2.1 bt721.2.2.1 bt721.2.2.2 bt707.1 bt707.2.1 bt707.2.2.1 bt707.2.2.2).bind fun t738 => (laws_FnExactScaleArea.j0 k a1 a2 (!t738) a0_0 a0_1 a0_2 l0_3 bt707.1 bt707.2.1 bt707.2.2.1 bt707.2.2.2 bt721.1 bt721.2.1 bt721.2.2.1 bt721.2.2.2)))) else (some false)))) else (some false))))))))
theorem laws_FnExactScaleArea.mono_l : ∀ k, (∀ y0 y1 y2 y3 y4 y5 y6 y7 y8 y9 y10 y11 y12 y13 y14, LeO (laws_FnExactScaleArea.j0 k y0 y1 y2 y3 y4 y5 y6 y7 y8 y9 y10 y11 y12 y13 y14) (laws_FnExactScaleArea.j0 (k + 1) y0 y1 y2 y3 y4 y5 y6 y7 y8 y9 y10 y11 y12 y13 y14))
 | 0 => fun _ _ _ _ _ _ _ _ _ _ _ _ _ _ _ r h => by simp [laws_FnExactScaleArea.j0] at h
 | k + 1 => by
  have ih0 := laws_FnExactScaleArea.mono_l k
  ·intro y0 y1 y2 y3 y4 y5 y6 y7 y8 y9 y10 y11 y12 y13 y14
   unfold laws_FnExactScaleArea.j0
   repeat' first | (with_reducible first | exact ih0 _ _ _ _ _ _ _ _ _ _ _ _ _ _ _ | exact laws_eqImage.mono _ _ _ _ _ _ _ _ _ | exact laws_heldImage.mono _ _ _ _ _ _ | exact laws_markImage.mono _ _ _ _ _ _ | exact laws_toImage.mono _ _ _ _ _ | exact spec_ScaleArea.mono _ _ _ _ _ _ _ | exact lR | exact lN | refine lI ?_ ?_ | refine lB ?_ fun _ => ?_) | exact ih0 _ _ _ _ _ _ _ _ _ _ _ _ _ _ _ | exact laws_eqImage.mono _ _ _ _ _ _ _ _ _ | exact laws_heldImage.mono _ _ _ _ _ _ | exact laws_markImage.mono _ _ _ _ _ _ | exact laws_toImage.mono _ _ _ _ _ | exact spec_ScaleArea.mono _ _ _ _ _ _ _ | exact lN | refine lI ?_ ?_ | refine lB ?_ fun _ => ?_
theorem laws_FnExactScaleArea.mono : ∀ a0 a1 a2 a3 a4 a5 k, LeO (laws_FnExactScaleArea.f k a0 a1 a2 a3 a4 a5) (laws_FnExactScaleArea.f (k + 1) a0 a1 a2 a3 a4 a5) := by
 intro a0 a1 a2 a3 a4 a5 k
 have ih0 := laws_FnExactScaleArea.mono_l k
 unfold laws_FnExactScaleArea.f
 repeat' first | (with_reducible first | exact ih0 _ _ _ _ _ _ _ _ _ _ _ _ _ _ _ | exact laws_eqImage.mono _ _ _ _ _ _ _ _ _ | exact laws_heldImage.mono _ _ _ _ _ _ | exact laws_markImage.mono _ _ _ _ _ _ | exact laws_toImage.mono _ _ _ _ _ | exact spec_ScaleArea.mono _ _ _ _ _ _ _ | exact lR | exact lN | refine lI ?_ ?_ | refine lB ?_ fun _ => ?_) | exact ih0 _ _ _ _ _ _ _ _ _ _ _ _ _ _ _ | exact laws_eqImage.mono _ _ _ _ _ _ _ _ _ | exact laws_heldImage.mono _ _ _ _ _ _ | exact laws_markImage.mono _ _ _ _ _ _ | exact laws_toImage.mono _ _ _ _ _ | exact spec_ScaleArea.mono _ _ _ _ _ _ _ | exact lN | refine lI ?_ ?_ | refine lB ?_ fun _ => ?_
set_option maxHeartbeats 8000000 in
set_option maxRecDepth 100000 in
theorem laws_FnExactScaleArea.calls (k : Nat) (a0_0 : Int) (a0_1 : Int) (a0_2 : Int) (A0_3 : Option Addr) (c0_3 : Nat) (l0_3 : List Int) (a1 : Int) (a2 : Int) (r : Bool) (w : World) (hr0_3 : Kd.C (Kd.int .i64) w A0_3 l0_3.length l0_3) (hc0_3 : l0_3.length ≤ c0_3) (h : laws_FnExactScaleArea.f k a0_0 a0_1 a0_2 l0_3 a1 a2 = some r) (hrt : r = true) :
  Calls Try.prog 9 #[.agg #[.int .i64 a0_0, .int .i64 a0_1, .int .i64 a0_2, .slice A0_3 l0_3.length c0_3], .int .i64 a1, .int .i64 a2] w fun e w' => e = .returned (.bool r) ∧ Below w.heap.size w w' := by
 have hu24 := Try.underlying24
 have hu26 := Try.underlying26
 have HR0_3 := aM hr0_3
 have HC0_3 := aM hc0_3
 clear hr0_3 hc0_3
 have HB := aM (Below.refl w.heap.size w)
 unfold laws_FnExactScaleArea.f at h
 have H := h
 clear h
 replace H := Option.bind_eq_some_iff.mp H
 obtain ⟨t700, A40, H⟩ := H
 replace H : (if t700 < 0 then (some true) else ((laws_toImage.f k a0_0 a0_1 a0_2 l0_3).bind fun bt701 => ((spec_ScaleArea.f k bt701.1 bt701.2.1 bt701.2.2.1 bt701.2.2.2 a1 a2).bind fun bt707 => ((laws_toImage.f k a0_0 a0_1 a0_2 l0_3).bind fun bt714 => ((impl_ScaleArea.f bt714.1 bt714.2.1 bt714.2.2.1 bt714.2.2.2 a1 a2).bind fun bt721 => ((laws_eqImage.f k bt721.1 bt721.2.1 bt721.2.2.1 bt721.2.2.2 bt707.1 bt707.2.1 bt707.2.2.1 bt707.2.2.2).bind fun t728 => (if t728 = true then ((laws_toImage.f k a0_0 a0_1 a0_2 l0_3).bind fun bt729 => ((laws_eqImage.f k bt714.1 bt714.2.1 bt714.2.2.1 bt714.2.2.2 bt729.1 bt729.2.1 bt729.2.2.1 bt729.2.2.2).bind fun t735 => (if t735 = true then ((laws_markImage.f k bt714.1 bt714.2.1 bt714.2.2.1 bt714.2.2.2 1).bind fun bt736 => (if bt736.1 < 0 then (laws_FnExactScaleArea.j0 k a1 a2 true a0_0 a0_1 a0_2 l0_3 bt707.1 bt707.2.1 bt707.2.2.1 bt707.2.2.2 bt721.1 bt721.2.1 bt721.2.2.1 bt721.2.2.2) else ((laws_eqImage.f k bt721.1 bt721.2.1 bt721.2.2.1 bt721.2.2.2 bt707.1 bt707.2.1 bt707.2.2.1 bt707.2.2.2).bind fun t738 => (laws_FnExactScaleArea.j0 k a1 a2 (!t738) a0_0 a0_1 a0_2 l0_3 bt707.1 bt707.2.1 bt707.2.2.1 bt707.2.2.2 bt721.1 bt721.2.1 bt721.2.2.1 bt721.2.2.2)))) else (some false)))) else (some false)))))))) = some r := H
 have A4 := aM A40
 clear A40
 by_cases c5 : t700 < 0
 ·rw [if_pos c5] at H
  have c5b0 : decide (t700 < 0) = true := decide_eq_true c5
  clear c5
  obtain rfl := Option.some.inj H
  go_enter Try.func9, Try.ntmps9
  go_wp2_with (first | ((with_reducible refine gate_dst (N := 3) rfl ?_); refine bxE (N := 3) (cs := #[.int .i64 a0_0, .int .i64 a0_1, .int .i64 a0_2, .slice A0_3 l0_3.length c0_3]) (t := 24) ?_; intro gb699 hg w6 hbox hb; have BK699 := aM (hbox); have GW699 := gW hg HB; have GE699 := gW hg HB; replace HB := bS HB hb; clear hb hbox hg; obtain ⟨⟨hcz7_0, hcz7_1, hcz7_2, hcz7_3⟩, hfz7_0, hfz7_1, hfz7_2, hfz7_3⟩ := cf4 BK699) | ((with_reducible refine gate_callee (f := 15) rfl ?_); refine gL (some 17) Try.func15 #[.agg #[.int .i64 a0_0, .int .i64 a0_1, .int .i64 a0_2, .slice A0_3 l0_3.length c0_3], .int .i64 1048576] ?_; (with_reducible refine (laws_szImage.calls a0_0 a0_1 a0_2 _ _ l0_3 1048576 t700 _ ?side1 ?side2 A4.out).mono ?_); (case side1 => exact qC (Kd.C_below HR0_3.out HB.out)); (case side2 => exact HC0_3.out); rintro e w8 ⟨rfl, hb⟩; refine ⟨_, rfl, ?_⟩; replace BK699 := bB BK699 hb; replace HB := bS HB hb; clear hb))
  go_ret
  exact ⟨qX, by exact qW HB.out⟩
 rw [if_neg c5] at H
 have c5b0 : decide (t700 < 0) = false := decide_eq_false c5
 clear c5
 replace H := Option.bind_eq_some_iff.mp H
 obtain ⟨⟨t701, t702, t703, t704⟩, A90, H⟩ := H
 replace H : ((spec_ScaleArea.f k t701 t702 t703 t704 a1 a2).bind fun bt707 => ((laws_toImage.f k a0_0 a0_1 a0_2 l0_3).bind fun bt714 => ((impl_ScaleArea.f bt714.1 bt714.2.1 bt714.2.2.1 bt714.2.2.2 a1 a2).bind fun bt721 => ((laws_eqImage.f k bt721.1 bt721.2.1 bt721.2.2.1 bt721.2.2.2 bt707.1 bt707.2.1 bt707.2.2.1 bt707.2.2.2).bind fun t728 => (if t728 = true then ((laws_toImage.f k a0_0 a0_1 a0_2 l0_3).bind fun bt729 => ((laws_eqImage.f k bt714.1 bt714.2.1 bt714.2.2.1 bt714.2.2.2 bt729.1 bt729.2.1 bt729.2.2.1 bt729.2.2.2).bind fun t735 => (if t735 = true then ((laws_markImage.f k bt714.1 bt714.2.1 bt714.2.2.1 bt714.2.2.2 1).bind fun bt736 => (if bt736.1 < 0 then (laws_FnExactScaleArea.j0 k a1 a2 true a0_0 a0_1 a0_2 l0_3 bt707.1 bt707.2.1 bt707.2.2.1 bt707.2.2.2 bt721.1 bt721.2.1 bt721.2.2.1 bt721.2.2.2) else ((laws_eqImage.f k bt721.1 bt721.2.1 bt721.2.2.1 bt721.2.2.2 bt707.1 bt707.2.1 bt707.2.2.1 bt707.2.2.2).bind fun t738 => (laws_FnExactScaleArea.j0 k a1 a2 (!t738) a0_0 a0_1 a0_2 l0_3 bt707.1 bt707.2.1 bt707.2.2.1 bt707.2.2.2 bt721.1 bt721.2.1 bt721.2.2.1 bt721.2.2.2)))) else (some false)))) else (some false)))))) = some r := H
 have A9 := aM A90
 clear A90
 replace H := Option.bind_eq_some_iff.mp H
 obtain ⟨⟨t707, t708, t709, t710⟩, A100, H⟩ := H
 replace H : ((laws_toImage.f k a0_0 a0_1 a0_2 l0_3).bind fun bt714 => ((impl_ScaleArea.f bt714.1 bt714.2.1 bt714.2.2.1 bt714.2.2.2 a1 a2).bind fun bt721 => ((laws_eqImage.f k bt721.1 bt721.2.1 bt721.2.2.1 bt721.2.2.2 t707 t708 t709 t710).bind fun t728 => (if t728 = true then ((laws_toImage.f k a0_0 a0_1 a0_2 l0_3).bind fun bt729 => ((laws_eqImage.f k bt714.1 bt714.2.1 bt714.2.2.1 bt714.2.2.2 bt729.1 bt729.2.1 bt729.2.2.1 bt729.2.2.2).bind fun t735 => (if t735 = true then ((laws_markImage.f k bt714.1 bt714.2.1 bt714.2.2.1 bt714.2.2.2 1).bind fun bt736 => (if bt736.1 < 0 then (laws_FnExactScaleArea.j0 k a1 a2 true a0_0 a0_1 a0_2 l0_3 t707 t708 t709 t710 bt721.1 bt721.2.1 bt721.2.2.1 bt721.2.2.2) else ((laws_eqImage.f k bt721.1 bt721.2.1 bt721.2.2.1 bt721.2.2.2 t707 t708 t709 t710).bind fun t738 => (laws_FnExactScaleArea.j0 k a1 a2 (!t738) a0_0 a0_1 a0_2 l0_3 t707 t708 t709 t710 bt721.1 bt721.2.1 bt721.2.2.1 bt721.2.2.2)))) else (some false)))) else (some false))))) = some r := H
 have A10 := aM A100
 clear A100
 replace H := Option.bind_eq_some_iff.mp H
 obtain ⟨⟨t714, t715, t716, t717⟩, A110, H⟩ := H
 replace H : ((impl_ScaleArea.f t714 t715 t716 t717 a1 a2).bind fun bt721 => ((laws_eqImage.f k bt721.1 bt721.2.1 bt721.2.2.1 bt721.2.2.2 t707 t708 t709 t710).bind fun t728 => (if t728 = true then ((laws_toImage.f k a0_0 a0_1 a0_2 l0_3).bind fun bt729 => ((laws_eqImage.f k t714 t715 t716 t717 bt729.1 bt729.2.1 bt729.2.2.1 bt729.2.2.2).bind fun t735 => (if t735 = true then ((laws_markImage.f k t714 t715 t716 t717 1).bind fun bt736 => (if bt736.1 < 0 then (laws_FnExactScaleArea.j0 k a1 a2 true a0_0 a0_1 a0_2 l0_3 t707 t708 t709 t710 bt721.1 bt721.2.1 bt721.2.2.1 bt721.2.2.2) else ((laws_eqImage.f k bt721.1 bt721.2.1 bt721.2.2.1 bt721.2.2.2 t707 t708 t709 t710).bind fun t738 => (laws_FnExactScaleArea.j0 k a1 a2 (!t738) a0_0 a0_1 a0_2 l0_3 t707 t708 t709 t710 bt721.1 bt721.2.1 bt721.2.2.1 bt721.2.2.2)))) else (some false)))) else (some false)))) = some r := H
 have A11 := aM A110
 clear A110
 replace H := Option.bind_eq_some_iff.mp H
 obtain ⟨⟨t721, t722, t723, t724⟩, A120, H⟩ := H
 replace H : ((laws_eqImage.f k t721 t722 t723 t724 t707 t708 t709 t710).bind fun t728 => (if t728 = true then ((laws_toImage.f k a0_0 a0_1 a0_2 l0_3).bind fun bt729 => ((laws_eqImage.f k t714 t715 t716 t717 bt729.1 bt729.2.1 bt729.2.2.1 bt729.2.2.2).bind fun t735 => (if t735 = true then ((laws_markImage.f k t714 t715 t716 t717 1).bind fun bt736 => (if bt736.1 < 0 then (laws_FnExactScaleArea.j0 k a1 a2 true a0_0 a0_1 a0_2 l0_3 t707 t708 t709 t710 t721 t722 t723 t724) else ((laws_eqImage.f k t721 t722 t723 t724 t707 t708 t709 t710).bind fun t738 => (laws_FnExactScaleArea.j0 k a1 a2 (!t738) a0_0 a0_1 a0_2 l0_3 t707 t708 t709 t710 t721 t722 t723 t724)))) else (some false)))) else (some false))) = some r := H
 have A12 := aM A120
 clear A120
 replace H := Option.bind_eq_some_iff.mp H
 obtain ⟨t728, A130, H⟩ := H
 replace H : (if t728 = true then ((laws_toImage.f k a0_0 a0_1 a0_2 l0_3).bind fun bt729 => ((laws_eqImage.f k t714 t715 t716 t717 bt729.1 bt729.2.1 bt729.2.2.1 bt729.2.2.2).bind fun t735 => (if t735 = true then ((laws_markImage.f k t714 t715 t716 t717 1).bind fun bt736 => (if bt736.1 < 0 then (laws_FnExactScaleArea.j0 k a1 a2 true a0_0 a0_1 a0_2 l0_3 t707 t708 t709 t710 t721 t722 t723 t724) else ((laws_eqImage.f k t721 t722 t723 t724 t707 t708 t709 t710).bind fun t738 => (laws_FnExactScaleArea.j0 k a1 a2 (!t738) a0_0 a0_1 a0_2 l0_3 t707 t708 t709 t710 t721 t722 t723 t724)))) else (some false)))) else (some false)) = some r := H
 have A13 := aM A130
 clear A130
 by_cases c14 : t728 = true
 rotate_left
 ·replace c14 := Bool.eq_false_iff.mpr c14
  subst c14
  have H1 : (some false) = some r := by rw [if_neg (show ¬ (false = true) by decide)] at H; exact H
  clear H
  have H := H1
  clear H1
  obtain rfl := Option.some.inj H
  exact absurd hrt (by decide)
 subst c14
 have H1 : ((laws_toImage.f k a0_0 a0_1 a0_2 l0_3).bind fun bt729 => ((laws_eqImage.f k t714 t715 t716 t717 bt729.1 bt729.2.1 bt729.2.2.1 bt729.2.2.2).bind fun t735 => (if t735 = true then ((laws_markImage.f k t714 t715 t716 t717 1).bind fun bt736 => (if bt736.1 < 0 then (laws_FnExactScaleArea.j0 k a1 a2 true a0_0 a0_1 a0_2 l0_3 t707 t708 t709 t710 t721 t722 t723 t724) else ((laws_eqImage.f k t721 t722 t723 t724 t707 t708 t709 t710).bind fun t738 => (laws_FnExactScaleArea.j0 k a1 a2 (!t738) a0_0 a0_1 a0_2 l0_3 t707 t708 t709 t710 t721 t722 t723 t724)))) else (some false)))) = some r := by rw [if_pos rfl] at H; exact H
 clear H
 have H := H1
 clear H1
 replace H := Option.bind_eq_some_iff.mp H
 obtain ⟨⟨t729, t730, t731, t732⟩, A150, H⟩ := H
 replace H : ((laws_eqImage.f k t714 t715 t716 t717 t729 t730 t731 t732).bind fun t735 => (if t735 = true then ((laws_markImage.f k t714 t715 t716 t717 1).bind fun bt736 => (if bt736.1 < 0 then (laws_FnExactScaleArea.j0 k a1 a2 true a0_0 a0_1 a0_2 l0_3 t707 t708 t709 t710 t721 t722 t723 t724) else ((laws_eqImage.f k t721 t722 t723 t724 t707 t708 t709 t710).bind fun t738 => (laws_FnExactScaleArea.j0 k a1 a2 (!t738) a0_0 a0_1 a0_2 l0_3 t707 t708 t709 t710 t721 t722 t723 t724)))) else (some false))) = some r := H
 have A15 := aM A150
 clear A150
 replace H := Option.bind_eq_some_iff.mp H
 obtain ⟨t735, A160, H⟩ := H
 replace H : (if t735 = true then ((laws_markImage.f k t714 t715 t716 t717 1).bind fun bt736 => (if bt736.1 < 0 then (laws_FnExactScaleArea.j0 k a1 a2 true a0_0 a0_1 a0_2 l0_3 t707 t708 t709 t710 t721 t722 t723 t724) else ((laws_eqImage.f k t721 t722 t723 t724 t707 t708 t709 t710).bind fun t738 => (laws_FnExactScaleArea.j0 k a1 a2 (!t738) a0_0 a0_1 a0_2 l0_3 t707 t708 t709 t710 t721 t722 t723 t724)))) else (some false)) = some r := H
 have A16 := aM A160
 clear A160
 by_cases c17 : t735 = true
 rotate_left
 ·replace c17 := Bool.eq_false_iff.mpr c17
  subst c17
  have H1 : (some false) = some r := by rw [if_neg (show ¬ (false = true) by decide)] at H; exact H
  clear H
  have H := H1
  clear H1
  obtain rfl := Option.some.inj H
  exact absurd hrt (by decide)
 subst c17
 have H1 : ((laws_markImage.f k t714 t715 t716 t717 1).bind fun bt736 => (if bt736.1 < 0 then (laws_FnExactScaleArea.j0 k a1 a2 true a0_0 a0_1 a0_2 l0_3 t707 t708 t709 t710 t721 t722 t723 t724) else ((laws_eqImage.f k t721 t722 t723 t724 t707 t708 t709 t710).bind fun t738 => (laws_FnExactScaleArea.j0 k a1 a2 (!t738) a0_0 a0_1 a0_2 l0_3 t707 t708 t709 t710 t721 t722 t723 t724)))) = some r := by rw [if_pos rfl] at H; exact H
 clear H
 have H := H1
 clear H1
 replace H := Option.bind_eq_some_iff.mp H
 obtain ⟨⟨t736, t737⟩, A180, H⟩ := H
 replace H : (if t736 < 0 then (laws_FnExactScaleArea.j0 k a1 a2 true a0_0 a0_1 a0_2 l0_3 t707 t708 t709 t710 t721 t722 t723 t724) else ((laws_eqImage.f k t721 t722 t723 t724 t707 t708 t709 t710).bind fun t738 => (laws_FnExactScaleArea.j0 k a1 a2 (!t738) a0_0 a0_1 a0_2 l0_3 t707 t708 t709 t710 t721 t722 t723 t724))) = some r := H
 have A18 := aM A180
 clear A180
 have HC19 := aM H
 clear H
 go_enter Try.func9, Try.ntmps9
 try go_wp2_with (first | ((with_reducible refine gate_dst (N := 3) rfl ?_); refine bxE (N := 3) (cs := #[.int .i64 a0_0, .int .i64 a0_1, .int .i64 a0_2, .slice A0_3 l0_3.length c0_3]) (t := 24) ?_; intro gb699 hg w20 hbox hb; have BK699 := aM (hbox); have GW699 := gW hg HB; have GE699 := gW hg HB; replace HB := bS HB hb; clear hb hbox hg; obtain ⟨⟨hcz21_0, hcz21_1, hcz21_2, hcz21_3⟩, hfz21_0, hfz21_1, hfz21_2, hfz21_3⟩ := cf4 BK699) | ((with_reducible refine gate_callee (f := 15) rfl ?_); refine gL (some 17) Try.func15 #[.agg #[.int .i64 a0_0, .int .i64 a0_1, .int .i64 a0_2, .slice A0_3 l0_3.length c0_3], .int .i64 1048576] ?_; (with_reducible refine (laws_szImage.calls a0_0 a0_1 a0_2 _ _ l0_3 1048576 t700 _ ?side1 ?side2 A4.out).mono ?_); (case side1 => exact qC (Kd.C_below HR0_3.out HB.out)); (case side2 => exact HC0_3.out); rintro e w22 ⟨rfl, hb⟩; refine ⟨_, rfl, ?_⟩; replace BK699 := bB BK699 hb; replace HB := bS HB hb; clear hb; obtain ⟨⟨hcz23_0, hcz23_1, hcz23_2, hcz23_3⟩, hfz23_0, hfz23_1, hfz23_2, hfz23_3⟩ := cf4 BK699) | ((with_reducible refine gate_callee (f := 17) rfl ?_); refine gL (some 21) Try.func17 #[.agg #[.int .i64 a0_0, .int .i64 a0_1, .int .i64 a0_2, .slice A0_3 l0_3.length c0_3]] ?_; (with_reducible refine (laws_toImage.calls k a0_0 a0_1 a0_2 _ _ l0_3 t701 t702 t703 t704 _ ?side1 ?side2 A9.out).mono ?_); (case side1 => exact qC (Kd.C_below HR0_3.out HB.out)); (case side2 => exact HC0_3.out); rintro e w24 ⟨v705, rfl, ho0, hb⟩; refine ⟨_, rfl, ?_⟩; have HO706 := oR ho0 HB; replace BK699 := bB BK699 hb; replace HB := bS HB hb; clear hb ho0; obtain ⟨Ao25, co25, rfl⟩ := sL HO706) | ((with_reducible refine gate_callee (f := 32) rfl ?_); refine gL (some 24) Try.func32 #[.agg #[.int .i64 t701, .int .i64 t702, .int .i64 t703, .slice Ao25 t704.length co25], .int .i64 a1, .int .i64 a2] ?_; (with_reducible refine (spec_ScaleArea.calls k t701 t702 t703 _ _ t704 a1 a2 t707 t708 t709 t710 _ ?side1 ?side2 A10.out).mono ?_); (case side1 => exact qC (Kd.R_reads' HO706.out).2.2); (case side2 => exact (Kd.R_reads' HO706.out).2.1); rintro e w26 ⟨v711, rfl, ho0, hb⟩; refine ⟨_, rfl, ?_⟩; have HO712 := nR ho0 HO706 HB; replace HO706 := aM (Kd.R_elder' (qR HO706.out) (Kd.R_base ho0) hb); replace BK699 := bB BK699 hb; replace HB := bS HB hb; clear hb ho0) | ((with_reducible refine gate_dst (N := 8) rfl ?_); refine bxE (N := 8) (cs := #[.int .i64 0, .int .i64 0, .int .i64 0, .slice none 0 0]) (t := 26) ?_; intro gb713 hg w27 hbox hb; replace HO706 := aM (Kd.R_below (qR HO706.out) hb); replace HO712 := aM (Kd.R_below (qR HO712.out) hb); have BK713 := aM (hbox); have GW713 := gW hg HB; have GE713 := gW hg HB; replace HB := bS HB hb; have NB699_713 := nL hg BK699; have NB713_699 := nG hg BK699; replace BK699 := bB BK699 hb; clear hb hbox hg; have hnb28 := NB713_699.out; have hnc28 := NB699_713.out; obtain ⟨⟨hcz29_0, hcz29_1, hcz29_2, hcz29_3⟩, hfz29_0, hfz29_1, hfz29_2, hfz29_3⟩ := cf4 BK713; obtain ⟨Ao30, co30, rfl⟩ := sL HO712; obtain ⟨⟨hcz31_0, hcz31_1, hcz31_2, hcz31_3⟩, hfz31_0, hfz31_1, hfz31_2, hfz31_3⟩ := cf4 BK699) | ((with_reducible refine gate_callee (f := 17) rfl ?_); refine gL (some 26) Try.func17 #[.agg #[.int .i64 a0_0, .int .i64 a0_1, .int .i64 a0_2, .slice A0_3 l0_3.length c0_3]] ?_; (with_reducible refine (laws_toImage.calls k a0_0 a0_1 a0_2 _ _ l0_3 t714 t715 t716 t717 _ ?side1 ?side2 A11.out).mono ?_); (case side1 => exact Kd.C_below HR0_3.out (qW HB.out)); (case side2 => exact HC0_3.out); rintro e w32 ⟨v718, rfl, ho0, hb⟩; refine ⟨_, rfl, ?_⟩; have HO719 := aM (Kd.R_lower (Kd.R_new' (Kd.R_new' ho0 (Kd.R_lt (by refine qR ?_; exact (fr4 HO706 BK713)))) (Kd.R_lt (by refine qR ?_; exact (fr4 HO712 BK713)))) (below_size (qW HB.out))); replace HO706 := aM (Kd.R_elder' (by refine qR ?_; exact (fr4 HO706 BK713)) (Kd.R_base ho0) hb); replace HO712 := aM (Kd.R_elder' (by refine qR ?_; exact (fr4 HO712 BK713)) (Kd.R_base ho0) hb); replace BK699 := aM (blk_below (g := gb699) (o := .cells #[.int .i64 a0_0, .int .i64 a0_1, .int .i64 a0_2, .slice A0_3 l0_3.length c0_3] 24 (0, 0)) (by refine qB ?_; refine blk_far ?_ NB699_713.out _; refine qB ?_; refine blk_far ?_ NB699_713.out _; refine qB ?_; refine blk_far ?_ NB699_713.out _; refine qB ?_; refine blk_far ?_ NB699_713.out _; refine qB ?_; exact BK699.out) hb); replace BK713 := aM (blk_below (g := gb713) (o := .cells #[.int .i64 t707, .int .i64 t708, .int .i64 t709, .slice Ao30 t710.length co30] 26 (0, 0)) (by exact bP BK713.out) hb); replace HB := bS HB hb; clear hb ho0) | ((with_reducible refine gate_dst (N := 9) rfl ?_); refine bxE (N := 9) (cs := #[.int .i64 0, .int .i64 0, .int .i64 0, .slice none 0 0]) (t := 26) ?_; intro gb720 hg w33 hbox hb; replace HO706 := aM (Kd.R_below (qR HO706.out) hb); replace HO712 := aM (Kd.R_below (qR HO712.out) hb); replace HO719 := aM (Kd.R_below (qR HO719.out) hb); have BK720 := aM (hbox); have GW720 := gW hg HB; have GE720 := gW hg HB; replace HB := bS HB hb; have NB699_720 := nL hg BK699; have NB720_699 := nG hg BK699; replace BK699 := bB BK699 hb; have NB713_720 := nL hg BK713; have NB720_713 := nG hg BK713; replace BK713 := bB BK713 hb; clear hb hbox hg; have hnb34 := NB720_699.out; have hnc34 := NB699_720.out; have hnb35 := NB720_713.out; have hnc35 := NB713_720.out; obtain ⟨⟨hcz36_0, hcz36_1, hcz36_2, hcz36_3⟩, hfz36_0, hfz36_1, hfz36_2, hfz36_3⟩ := cf4 BK720; obtain ⟨Ao37, co37, rfl⟩ := sL HO719) | ((with_reducible refine gate_callee (f := 31) rfl ?_); refine gL (some 30) Try.func31 #[.agg #[.int .i64 t714, .int .i64 t715, .int .i64 t716, .slice Ao37 t717.length co37], .int .i64 a1, .int .i64 a2] ?_; (with_reducible refine (impl_ScaleArea.calls t714 t715 t716 _ _ t717 a1 a2 t721 t722 t723 t724 _ ?side1 ?side2 A12.out).mono ?_); (case side1 => refine (Kd.R_reads' (e := 3) (base := w.heap.size) (ok := fun k_ => ((True ∧ some k_ ≠ (.slice Ao25 t704.length co25 : Value).ownBlock) ∧ some k_ ≠ (.slice Ao30 t710.length co30 : Value).ownBlock)) (n := t717.length) (c := co37) ?_).2.2; exact (by refine qR ?_; exact (fr4 HO719 BK720))); (case side2 => exact (Kd.R_reads' HO719.out).2.1); rintro e w38 ⟨v725, rfl, ho0, hb⟩; refine ⟨_, rfl, ?_⟩; have HO726 := aM (Kd.R_lower (Kd.R_new' (Kd.R_new' (Kd.R_new' ho0 (Kd.R_lt (by refine qR ?_; exact (fr4 HO706 BK720)))) (Kd.R_lt (by refine qR ?_; exact (fr4 HO712 BK720)))) (Kd.R_lt (by refine qR ?_; exact (fr4 HO719 BK720)))) (below_size (qW HB.out))); replace HO706 := aM (Kd.R_elder' (by refine qR ?_; exact (fr4 HO706 BK720)) (Kd.R_base ho0) hb); replace HO712 := aM (Kd.R_elder' (by refine qR ?_; exact (fr4 HO712 BK720)) (Kd.R_base ho0) hb); replace HO719 := aM (Kd.R_elder' (by refine qR ?_; exact (fr4 HO719 BK720)) (Kd.R_base ho0) hb); replace BK699 := aM (blk_below (g := gb699) (o := .cells #[.int .i64 a0_0, .int .i64 a0_1, .int .i64 a0_2, .slice A0_3 l0_3.length c0_3] 24 (0, 0)) (by refine qB ?_; refine blk_far ?_ NB699_720.out _; refine qB ?_; refine blk_far ?_ NB699_720.out _; refine qB ?_; refine blk_far ?_ NB699_720.out _; refine qB ?_; refine blk_far ?_ NB699_720.out _; refine qB ?_; exact BK699.out) hb); replace BK713 := aM (blk_below (g := gb713) (o := .cells #[.int .i64 t707, .int .i64 t708, .int .i64 t709, .slice Ao30 t710.length co30] 26 (0, 0)) (by refine qB ?_; refine blk_far ?_ NB713_720.out _; refine qB ?_; refine blk_far ?_ NB713_720.out _; refine qB ?_; refine blk_far ?_ NB713_720.out _; refine qB ?_; refine blk_far ?_ NB713_720.out _; refine qB ?_; exact BK713.out) hb); replace BK720 := aM (blk_below (g := gb720) (o := .cells #[.int .i64 t714, .int .i64 t715, .int .i64 t716, .slice Ao37 t717.length co37] 26 (0, 0)) (by exact bP BK720.out) hb); replace HB := bS HB hb; clear hb ho0) | ((with_reducible refine gate_dst (N := 10) rfl ?_); refine bxE (N := 10) (cs := #[.int .i64 0, .int .i64 0, .int .i64 0, .slice none 0 0]) (t := 26) ?_; intro gb727 hg w39 hbox hb; replace HO706 := aM (Kd.R_below (qR HO706.out) hb); replace HO712 := aM (Kd.R_below (qR HO712.out) hb); replace HO719 := aM (Kd.R_below (qR HO719.out) hb); replace HO726 := aM (Kd.R_below (qR HO726.out) hb); have BK727 := aM (hbox); have GW727 := gW hg HB; have GE727 := gW hg HB; replace HB := bS HB hb; have NB699_727 := nL hg BK699; have NB727_699 := nG hg BK699; replace BK699 := bB BK699 hb; have NB713_727 := nL hg BK713; have NB727_713 := nG hg BK713; replace BK713 := bB BK713 hb; have NB720_727 := nL hg BK720; have NB727_720 := nG hg BK720; replace BK720 := bB BK720 hb; clear hb hbox hg; have hnb40 := NB727_699.out; have hnc40 := NB699_727.out; have hnb41 := NB727_713.out; have hnc41 := NB713_727.out; have hnb42 := NB727_720.out; have hnc42 := NB720_727.out; obtain ⟨⟨hcz43_0, hcz43_1, hcz43_2, hcz43_3⟩, hfz43_0, hfz43_1, hfz43_2, hfz43_3⟩ := cf4 BK727; obtain ⟨Ao44, co44, rfl⟩ := sL HO726; obtain ⟨⟨hcz45_0, hcz45_1, hcz45_2, hcz45_3⟩, hfz45_0, hfz45_1, hfz45_2, hfz45_3⟩ := cf4 BK713) | ((with_reducible refine gate_callee (f := 19) rfl ?_); refine gL (some 33) Try.func19 #[.agg #[.int .i64 t721, .int .i64 t722, .int .i64 t723, .slice Ao44 t724.length co44], .agg #[.int .i64 t707, .int .i64 t708, .int .i64 t709, .slice Ao30 t710.length co30]] ?_; (with_reducible refine (laws_eqImage.calls k t721 t722 t723 _ _ t724 t707 t708 t709 _ _ t710 true _ ?side1 ?side2 ?side3 ?side4 A13.out).mono ?_); (case side1 => refine (Kd.R_reads' (e := 3) (base := w.heap.size) (ok := fun k_ => (((True ∧ some k_ ≠ (.slice Ao25 t704.length co25 : Value).ownBlock) ∧ some k_ ≠ (.slice Ao30 t710.length co30 : Value).ownBlock) ∧ some k_ ≠ (.slice Ao37 t717.length co37 : Value).ownBlock)) (n := t724.length) (c := co44) ?_).2.2; exact (by refine qR ?_; exact (fr4 HO726 BK727))); (case side2 => exact (Kd.R_reads' HO726.out).2.1); (case side3 => refine (Kd.R_reads' (e := 3) (base := w.heap.size) (ok := fun k_ => (((True ∧ some k_ ≠ (.slice Ao25 t704.length co25 : Value).ownBlock) ∧ some k_ ≠ (.slice Ao37 t717.length co37 : Value).ownBlock) ∧ some k_ ≠ (.slice Ao44 t724.length co44 : Value).ownBlock)) (n := t710.length) (c := co30) ?_).2.2; exact (by refine qR ?_; exact (fr4 HO712 BK727))); (case side4 => exact (Kd.R_reads' HO712.out).2.1); rintro e w46 ⟨rfl, hb⟩; refine ⟨_, rfl, ?_⟩; replace HO706 := aM (Kd.R_below (by refine qR ?_; exact (fr4 HO706 BK727)) hb); replace HO712 := aM (Kd.R_below (by refine qR ?_; exact (fr4 HO712 BK727)) hb); replace HO719 := aM (Kd.R_below (by refine qR ?_; exact (fr4 HO719 BK727)) hb); replace HO726 := aM (Kd.R_below (by refine qR ?_; exact (fr4 HO726 BK727)) hb); replace BK699 := aM (blk_below (g := gb699) (o := .cells #[.int .i64 a0_0, .int .i64 a0_1, .int .i64 a0_2, .slice A0_3 l0_3.length c0_3] 24 (0, 0)) (by refine qB ?_; refine blk_far ?_ NB699_727.out _; refine qB ?_; refine blk_far ?_ NB699_727.out _; refine qB ?_; refine blk_far ?_ NB699_727.out _; refine qB ?_; refine blk_far ?_ NB699_727.out _; refine qB ?_; exact BK699.out) hb); replace BK713 := aM (blk_below (g := gb713) (o := .cells #[.int .i64 t707, .int .i64 t708, .int .i64 t709, .slice Ao30 t710.length co30] 26 (0, 0)) (by refine qB ?_; refine blk_far ?_ NB713_727.out _; refine qB ?_; refine blk_far ?_ NB713_727.out _; refine qB ?_; refine blk_far ?_ NB713_727.out _; refine qB ?_; refine blk_far ?_ NB713_727.out _; refine qB ?_; exact BK713.out) hb); replace BK720 := aM (blk_below (g := gb720) (o := .cells #[.int .i64 t714, .int .i64 t715, .int .i64 t716, .slice Ao37 t717.length co37] 26 (0, 0)) (by refine qB ?_; refine blk_far ?_ NB720_727.out _; refine qB ?_; refine blk_far ?_ NB720_727.out _; refine qB ?_; refine blk_far ?_ NB720_727.out _; refine qB ?_; refine blk_far ?_ NB720_727.out _; refine qB ?_; exact BK720.out) hb); replace BK727 := aM (blk_below (g := gb727) (o := .cells #[.int .i64 t721, .int .i64 t722, .int .i64 t723, .slice Ao44 t724.length co44] 26 (0, 0)) (by exact bP BK727.out) hb); replace HB := bS HB hb; clear hb))
 replace HO706 := aM (Kd.R_drew HO706.out)
 replace HO712 := aM (Kd.R_drew HO712.out)
 replace HO719 := aM (Kd.R_drew HO719.out)
 replace HO726 := aM (Kd.R_drew HO726.out)
 replace BK699 := aM (blk_drew BK699.out)
 replace BK713 := aM (blk_drew BK713.out)
 replace BK720 := aM (blk_drew BK720.out)
 replace BK727 := aM (blk_drew BK727.out)
 replace HB := aM (below_drew1 HB.out)
 refine start_ (n := 5) (S := fun w' => w'.cell? ⟨gb720, 0, none⟩ = some (.int .i64 t714) ∧ w'.cell? ⟨gb720, 1, none⟩ = some (.int .i64 t715) ∧ w'.cell? ⟨gb720, 2, none⟩ = some (.int .i64 t716) ∧ w'.cell? ⟨gb720, 3, none⟩ = some (.slice Ao37 t717.length co37) ∧ w'.cell? ⟨gb699, 0, none⟩ = some (.int .i64 a0_0) ∧ w'.cell? ⟨gb699, 1, none⟩ = some (.int .i64 a0_1) ∧ w'.cell? ⟨gb699, 2, none⟩ = some (.int .i64 a0_2) ∧ w'.cell? ⟨gb699, 3, none⟩ = some (.slice A0_3 l0_3.length c0_3)) (ds := []) (bA 5 0) (by kernel_rfl) rfl rfl ⟨(blk_cell BK720.out 0).trans rfl, (blk_cell BK720.out 1).trans rfl, (blk_cell BK720.out 2).trans rfl, (blk_cell BK720.out 3).trans rfl, (blk_cell BK699.out 0).trans rfl, (blk_cell BK699.out 1).trans rfl, (blk_cell BK699.out 2).trans rfl, (blk_cell BK699.out 3).trans rfl⟩ (fun hHeld => ?_)
 generalize w46.drew = w47 at HO706 HO712 HO719 HO726 BK699 BK713 BK720 BK727 HB hHeld ⊢
 refine take_ (i := 0) (N := some 35) (v := ?_) (a' := ?_) (bA 5 1) rfl rfl (by kernel_rfl) (fun _ _ _ h => h) (Or.inl ⟨by rfl, ?_⟩) hHeld ?_ ?_
 rotate_left
 ·rintro w' ⟨s0, s1, s2, s3, s4, s5, s6, s7⟩
  go_simp
  with_reducible rfl
 rotate_left
 ·refine pZ ?_
  rfl
 refine take_ (i := 1) (N := some 36) (v := ?_) (a' := ?_) (bA 5 3) rfl rfl (by kernel_rfl) (fun _ _ _ h => h) (Or.inl ⟨by rfl, ?_⟩) hHeld ?_ ?_
 rotate_left
 ·rintro w' ⟨s0, s1, s2, s3, s4, s5, s6, s7⟩
  go_simp
  with_reducible rfl
 rotate_left
 ·refine pZ ?_
  rfl
 refine one_ (i := 2) (N := some 37) (bA 5 7) rfl rfl (by kernel_rfl) (by decide) (fun K hK => ?_)
 refine goes_ Try.func17 (by kernel_rfl) rfl #[.agg #[.int .i64 a0_0, .int .i64 a0_1, .int .i64 a0_2, .slice A0_3 l0_3.length c0_3]] (by rfl) rfl rfl qM ?_
 with_reducible refine (laws_toImage.calls k a0_0 a0_1 a0_2 _ _ l0_3 t729 t730 t731 t732 _ ?side1 ?side2 A15.out).mono ?_
 (case side1 => exact qC (Kd.C_below HR0_3.out HB.out))
 (case side2 => exact HC0_3.out)
 rintro e w48 ⟨v733, rfl, ho0, hb⟩
 refine ⟨_, rfl, ?_⟩
 have HO734 := aM (Kd.R_lower (Kd.R_new' (Kd.R_new' (Kd.R_new' (Kd.R_new' ho0 (Kd.R_lt (qR HO706.out))) (Kd.R_lt (qR HO712.out))) (Kd.R_lt (qR HO719.out))) (Kd.R_lt (qR HO726.out))) (below_size (qW HB.out)))
 replace HO706 := aM (Kd.R_elder' (qR HO706.out) (Kd.R_base ho0) hb)
 replace HO712 := aM (Kd.R_elder' (qR HO712.out) (Kd.R_base ho0) hb)
 replace HO719 := aM (Kd.R_elder' (qR HO719.out) (Kd.R_base ho0) hb)
 replace HO726 := aM (Kd.R_elder' (qR HO726.out) (Kd.R_base ho0) hb)
 replace BK699 := bB BK699 hb
 replace BK713 := bB BK713 hb
 replace BK720 := bB BK720 hb
 replace BK727 := bB BK727 hb
 replace HB := bS HB hb
 (try clear hb)
 (try clear hb2)
 (try clear hk)
 (try clear hi)
 (try clear ho0)
 obtain ⟨Ao49, co49, eo49⟩ := Kd.R_slice HO734.out
 (first | subst eo49 | (injection eo49 with f1_ f2_ f3_; have f4_ := f1_.symm; have f5_ := f3_.symm; clear f1_ f2_ f3_; subst f4_; subst f5_))
 refine hK.out _ _ ⟨(blk_cell BK720.out 0).trans rfl, (blk_cell BK720.out 1).trans rfl, (blk_cell BK720.out 2).trans rfl, (blk_cell BK720.out 3).trans rfl, (blk_cell BK699.out 0).trans rfl, (blk_cell BK699.out 1).trans rfl, (blk_cell BK699.out 2).trans rfl, (blk_cell BK699.out 3).trans rfl⟩ (fun hHeld => ?_)
 clear hK K
 refine norm_ (a' := ?_) ?_ ?_
 rotate_left
 ·show Act.put _ (some 37) _ = _
  refine pZ ?_
  rfl
 refine one_ (i := 3) (N := some 38) (bA 5 15) rfl rfl (by kernel_rfl) (by decide) (fun K hK => ?_)
 refine goes_ Try.func19 (by kernel_rfl) rfl #[.agg #[.int .i64 t714, .int .i64 t715, .int .i64 t716, .slice Ao37 t717.length co37], .agg #[.int .i64 t729, .int .i64 t730, .int .i64 t731, .slice Ao49 t732.length co49]] (by rfl) rfl rfl qM ?_
 with_reducible refine (laws_eqImage.calls k t714 t715 t716 _ _ t717 t729 t730 t731 _ _ t732 true _ ?side1 ?side2 ?side3 ?side4 A16.out).mono ?_
 (case side1 => exact qC (Kd.R_reads' HO719.out).2.2)
 (case side2 => exact (Kd.R_reads' HO719.out).2.1)
 (case side3 => exact qC (Kd.R_reads' HO734.out).2.2)
 (case side4 => exact (Kd.R_reads' HO734.out).2.1)
 rintro e w50 ⟨rfl, hb⟩
 refine ⟨_, rfl, ?_⟩
 replace HO706 := aM (Kd.R_below (qR HO706.out) hb)
 replace HO712 := aM (Kd.R_below (qR HO712.out) hb)
 replace HO719 := aM (Kd.R_below (qR HO719.out) hb)
 replace HO726 := aM (Kd.R_below (qR HO726.out) hb)
 replace HO734 := aM (Kd.R_below (qR HO734.out) hb)
 replace BK699 := bB BK699 hb
 replace BK713 := bB BK713 hb
 replace BK720 := bB BK720 hb
 replace BK727 := bB BK727 hb
 replace HB := bS HB hb
 (try clear hb)
 (try clear hb2)
 (try clear hk)
 (try clear hi)
 refine hK.out _ _ ⟨(blk_cell BK720.out 0).trans rfl, (blk_cell BK720.out 1).trans rfl, (blk_cell BK720.out 2).trans rfl, (blk_cell BK720.out 3).trans rfl, (blk_cell BK699.out 0).trans rfl, (blk_cell BK699.out 1).trans rfl, (blk_cell BK699.out 2).trans rfl, (blk_cell BK699.out 3).trans rfl⟩ (fun hHeld => ?_)
 clear hK K
 refine norm_ (a' := ?_) ?_ ?_
 rotate_left
 ·show Act.put _ (some 38) _ = _
  refine pZ ?_
  rfl
 refine pure_ (i := 4) (N := some 39) (v := ?_) (a' := ?_) (bA 5 31) rfl rfl (by kernel_rfl) (fun _ _ _ h => h) (Or.inl ⟨by rfl, ?_⟩) ?_ ?_
 rotate_left
 ·intro w'
  go_simp
  with_reducible rfl
 rotate_left
 ·refine pZ ?_
  rfl
 refine done_ (by kernel_rfl) ?_
 obtain ⟨⟨hcz51_0, hcz51_1, hcz51_2, hcz51_3⟩, hfz51_0, hfz51_1, hfz51_2, hfz51_3⟩ := cf4 BK720
 go_upto_region 14 with (first | ((with_reducible refine gate_callee (f := 20) rfl ?_); refine gL (some 42) Try.func20 #[.agg #[.int .i64 t714, .int .i64 t715, .int .i64 t716, .slice Ao37 t717.length co37], .int .i64 1] ?_; (with_reducible refine (laws_markImage.calls k t714 t715 t716 (fun k_ => some k_ = (.slice Ao37 t717.length co37 : Value).ownBlock) (.slice Ao37 t717.length co37) t717 1 t736 t737 w _ ?side1 ?side2 A18.out).mono ?_); (case side1 => exact qW HB.out); (case side2 => exact Kd.R_tight rfl HO719.out); rintro e w52 ⟨rfl, hy0, hb, hkp⟩; refine ⟨_, rfl, ?_⟩; replace BK699 := aM (blk_kept (qB BK699.out) hkp (fun hs_ => (fun e_ => (Kd.R_ne HO719.out BK699.out (by decide)) e_) hs_)); replace HO706 := aM (Kd.R_mono (ok' := fun k_ => some k_ ≠ (.slice Ao30 t710.length co30 : Value).ownBlock ∧ some k_ ≠ (.slice Ao37 t717.length co37 : Value).ownBlock ∧ some k_ ≠ (.slice Ao44 t724.length co44 : Value).ownBlock ∧ some k_ ≠ (.slice Ao49 t732.length co49 : Value).ownBlock) (Kd.R_keptB (HO706.out) hkp (fun k_ hk_ hs_ => by first | exact hk_.1.1.2 hs_ | (revert hk_; simp only [and_imp]; intros; contradiction))) (fun k_ hk_ => by first | exact ⟨hk_.1.1.1.1.2, hk_.1.1.1.2, hk_.1.1.2, hk_.1.2⟩ | (revert hk_; simp only [and_imp]; intros; and_intros <;> assumption))); replace HO712 := aM (Kd.R_mono (ok' := fun k_ => some k_ ≠ (.slice Ao25 t704.length co25 : Value).ownBlock ∧ some k_ ≠ (.slice Ao37 t717.length co37 : Value).ownBlock ∧ some k_ ≠ (.slice Ao44 t724.length co44 : Value).ownBlock ∧ some k_ ≠ (.slice Ao49 t732.length co49 : Value).ownBlock) (Kd.R_keptB (HO712.out) hkp (fun k_ hk_ hs_ => by first | exact hk_.1.1.2 hs_ | (revert hk_; simp only [and_imp]; intros; contradiction))) (fun k_ hk_ => by first | exact ⟨hk_.1.1.1.1.2, hk_.1.1.1.2, hk_.1.1.2, hk_.1.2⟩ | (revert hk_; simp only [and_imp]; intros; and_intros <;> assumption))); replace BK713 := aM (blk_kept (qB BK713.out) hkp (fun hs_ => (fun e_ => (Kd.R_ne HO719.out BK713.out (by decide)) e_) hs_)); replace BK720 := aM (blk_kept (qB BK720.out) hkp (fun hs_ => (fun e_ => (Kd.R_ne HO719.out BK720.out (by decide)) e_) hs_)); replace HO726 := aM (Kd.R_mono (ok' := fun k_ => some k_ ≠ (.slice Ao25 t704.length co25 : Value).ownBlock ∧ some k_ ≠ (.slice Ao30 t710.length co30 : Value).ownBlock ∧ some k_ ≠ (.slice Ao37 t717.length co37 : Value).ownBlock ∧ some k_ ≠ (.slice Ao49 t732.length co49 : Value).ownBlock) (Kd.R_keptB (HO726.out) hkp (fun k_ hk_ hs_ => by first | exact hk_.1.2 hs_ | (revert hk_; simp only [and_imp]; intros; contradiction))) (fun k_ hk_ => by first | exact ⟨hk_.1.1.1.1.2, hk_.1.1.1.2, hk_.1.1.2, hk_.1.2⟩ | (revert hk_; simp only [and_imp]; intros; and_intros <;> assumption))); replace BK727 := aM (blk_kept (qB BK727.out) hkp (fun hs_ => (fun e_ => (Kd.R_ne HO719.out BK727.out (by decide)) e_) hs_)); replace HO719 := aM (Kd.R_reok rfl hy0 (fun k_ e_ => HO719.out.1 k_ e_)); replace HO734 := aM (Kd.R_mono (ok' := fun k_ => some k_ ≠ (.slice Ao25 t704.length co25 : Value).ownBlock ∧ some k_ ≠ (.slice Ao30 t710.length co30 : Value).ownBlock ∧ some k_ ≠ (.slice Ao37 t717.length co37 : Value).ownBlock ∧ some k_ ≠ (.slice Ao44 t724.length co44 : Value).ownBlock) (Kd.R_keptB (HO734.out) hkp (fun k_ hk_ hs_ => by first | exact hk_.1.2 hs_ | (revert hk_; simp only [and_imp]; intros; contradiction))) (fun k_ hk_ => by first | exact ⟨hk_.1.1.1.1.2, hk_.1.1.1.2, hk_.1.1.2, hk_.1.2⟩ | (revert hk_; simp only [and_imp]; intros; and_intros <;> assumption))); replace HB := aM (hb); clear hb hkp hy0))
 (try simp only [Act.put, List.setIfInBounds_toArray, List.set_cons_zero, List.set_cons_succ])
 go_cut [50] (fun v50 wc => ∃ (kq : Nat) (x50_18 : Bool), v50 = .bool x50_18 ∧ Aside0 (laws_FnExactScaleArea.j0 kq a1 a2 x50_18 a0_0 a0_1 a0_2 l0_3 t707 t708 t709 t710 t721 t722 t723 t724 = some r) ∧ Aside0 (kq ≤ k) ∧ Aside0 (Kd.R (Kd.int .i64) 3 wc w.heap.size (fun k_ => some k_ ≠ ((.slice Ao37 t717.length co37) : Value).ownBlock ∧ some k_ ≠ ((.slice Ao44 t724.length co44) : Value).ownBlock) (.slice Ao30 t710.length co30) t710) ∧ Aside0 (Kd.R (Kd.int .i64) 3 wc w.heap.size (fun k_ => some k_ ≠ ((.slice Ao30 t710.length co30) : Value).ownBlock ∧ some k_ ≠ ((.slice Ao44 t724.length co44) : Value).ownBlock) (.slice Ao37 t717.length co37) t737) ∧ Aside0 (Kd.R (Kd.int .i64) 3 wc w.heap.size (fun k_ => some k_ ≠ ((.slice Ao30 t710.length co30) : Value).ownBlock ∧ some k_ ≠ ((.slice Ao37 t717.length co37) : Value).ownBlock) (.slice Ao44 t724.length co44) t724) ∧ Aside0 (wc.heap[gb699]? = some (.cells #[.int .i64 a0_0, .int .i64 a0_1, .int .i64 a0_2, (.slice A0_3 l0_3.length c0_3)] 24 (0, 0))) ∧ Aside0 (wc.heap[gb713]? = some (.cells #[.int .i64 t707, .int .i64 t708, .int .i64 t709, (.slice Ao30 t710.length co30)] 26 (0, 0))) ∧ Aside0 (wc.heap[gb720]? = some (.cells #[.int .i64 t714, .int .i64 t715, .int .i64 t716, (.slice Ao37 t717.length co37)] 26 (0, 0))) ∧ Aside0 (wc.heap[gb727]? = some (.cells #[.int .i64 t721, .int .i64 t722, .int .i64 t723, (.slice Ao44 t724.length co44)] 26 (0, 0))) ∧ Aside0 (Below w.heap.size w wc))
 case first =>
  have H := HC19.out
  clear HC19
  by_cases c53 : t736 < 0
  ·rw [if_pos c53] at H
   have c53b0 : decide (t736 < 0) = true := decide_eq_true c53
   clear c53
   (first | rw [c53b0] | (simp only [i64_w, i32_w]; rw [c53b0]) | skip)
   have H' := aM H
   clear H
   go_wp2
   go_meet
   case rel => exact ⟨_, (true), qE, H', ⟨by first | omega | exact Nat.le_refl _⟩, ⟨by refine qR ?_; exact Kd.R_mono HO712.out (fun _ hk => by first | exact ⟨hk.2.1, hk.2.2.1⟩ | (revert hk; simp only [and_imp]; intros; and_intros <;> assumption))⟩, ⟨by refine qR ?_; exact Kd.R_mono HO719.out (fun _ hk => by first | exact ⟨hk.1.1.2, hk.1.2⟩ | (revert hk; simp only [and_imp]; intros; and_intros <;> assumption))⟩, ⟨by refine qR ?_; exact Kd.R_mono HO726.out (fun _ hk => by first | exact ⟨hk.2.1, hk.2.2.1⟩ | (revert hk; simp only [and_imp]; intros; and_intros <;> assumption))⟩, ⟨by refine qB ?_; exact BK699.out⟩, ⟨by refine qB ?_; exact BK713.out⟩, ⟨by refine qB ?_; exact BK720.out⟩, ⟨by refine qB ?_; exact BK727.out⟩, ⟨by exact qW HB.out⟩⟩
  rw [if_neg c53] at H
  have c53b0 : decide (t736 < 0) = false := decide_eq_false c53
  clear c53
  (first | rw [c53b0] | (simp only [i64_w, i32_w]; rw [c53b0]) | skip)
  replace H := Option.bind_eq_some_iff.mp H
  obtain ⟨t738, A540, H⟩ := H
  replace H : (laws_FnExactScaleArea.j0 k a1 a2 (!t738) a0_0 a0_1 a0_2 l0_3 t707 t708 t709 t710 t721 t722 t723 t724) = some r := H
  have A54 := aM A540
  clear A540
  have H' := aM H
  clear H
  have hnb55 := NB727_699.out
  have hnc55 := NB699_727.out
  have hnb56 := NB727_713.out
  have hnc56 := NB713_727.out
  have hnb57 := NB727_720.out
  have hnc57 := NB720_727.out
  obtain ⟨⟨hcz58_0, hcz58_1, hcz58_2, hcz58_3⟩, hfz58_0, hfz58_1, hfz58_2, hfz58_3⟩ := cf4 BK727
  have hnb59 := NB713_699.out
  have hnc59 := NB699_713.out
  have hnb60 := NB713_720.out
  have hnc60 := NB720_713.out
  obtain ⟨⟨hcz61_0, hcz61_1, hcz61_2, hcz61_3⟩, hfz61_0, hfz61_1, hfz61_2, hfz61_3⟩ := cf4 BK713
  go_wp2_with (first | (go_at_call 19; (with_reducible refine (laws_eqImage.calls k t721 t722 t723 _ _ t724 t707 t708 t709 _ _ t710 t738 _ ?side1 ?side2 ?side3 ?side4 A54.out).mono ?_); (case side1 => exact qC (Kd.R_reads' HO726.out).2.2); (case side2 => exact (Kd.R_reads' HO726.out).2.1); (case side3 => exact qC (Kd.R_reads' HO712.out).2.2); (case side4 => exact (Kd.R_reads' HO712.out).2.1); rintro e w62 ⟨rfl, hb⟩; replace HO706 := aM (Kd.R_below (qR HO706.out) hb); replace HO712 := aM (Kd.R_below (qR HO712.out) hb); replace HO719 := aM (Kd.R_below (qR HO719.out) hb); replace HO726 := aM (Kd.R_below (qR HO726.out) hb); replace HO734 := aM (Kd.R_below (qR HO734.out) hb); replace BK699 := bB BK699 hb; replace BK713 := bB BK713 hb; replace BK720 := bB BK720 hb; replace BK727 := bB BK727 hb; replace HB := bS HB hb; clear hb))
  go_meet
  case rel => exact ⟨_, (!t738), qE, H', ⟨by first | omega | exact Nat.le_refl _⟩, ⟨by refine qR ?_; exact Kd.R_mono HO712.out (fun _ hk => by first | exact ⟨hk.2.1, hk.2.2.1⟩ | (revert hk; simp only [and_imp]; intros; and_intros <;> assumption))⟩, ⟨by refine qR ?_; exact Kd.R_mono HO719.out (fun _ hk => by first | exact ⟨hk.1.1.2, hk.1.2⟩ | (revert hk; simp only [and_imp]; intros; and_intros <;> assumption))⟩, ⟨by refine qR ?_; exact Kd.R_mono HO726.out (fun _ hk => by first | exact ⟨hk.2.1, hk.2.2.1⟩ | (revert hk; simp only [and_imp]; intros; and_intros <;> assumption))⟩, ⟨by refine qB ?_; exact BK699.out⟩, ⟨by refine qB ?_; exact BK713.out⟩, ⟨by refine qB ?_; exact BK720.out⟩, ⟨by refine qB ?_; exact BK727.out⟩, ⟨by exact qW HB.out⟩⟩
 case rest =>
  clear HC19
  try clear c5
  try clear c5b0
  try clear c14
  try clear c17
  try clear c53
  try clear c53b0
  try clear hcz21_0 hcz21_1 hcz21_2 hcz21_3 hfz21_0 hfz21_1 hfz21_2 hfz21_3
  try clear hcz23_0 hcz23_1 hcz23_2 hcz23_3 hfz23_0 hfz23_1 hfz23_2 hfz23_3
  try clear hcz29_0 hcz29_1 hcz29_2 hcz29_3 hfz29_0 hfz29_1 hfz29_2 hfz29_3
  try clear hcz31_0 hcz31_1 hcz31_2 hcz31_3 hfz31_0 hfz31_1 hfz31_2 hfz31_3
  try clear hcz36_0 hcz36_1 hcz36_2 hcz36_3 hfz36_0 hfz36_1 hfz36_2 hfz36_3
  try clear hcz43_0 hcz43_1 hcz43_2 hcz43_3 hfz43_0 hfz43_1 hfz43_2 hfz43_3
  try clear hcz45_0 hcz45_1 hcz45_2 hcz45_3 hfz45_0 hfz45_1 hfz45_2 hfz45_3
  try clear hcz51_0 hcz51_1 hcz51_2 hcz51_3 hfz51_0 hfz51_1 hfz51_2 hfz51_3
  try clear hcz58_0 hcz58_1 hcz58_2 hcz58_3 hfz58_0 hfz58_1 hfz58_2 hfz58_3
  try clear hcz61_0 hcz61_1 hcz61_2 hcz61_3 hfz61_0 hfz61_1 hfz61_2 hfz61_3
  try clear hcz7_0 hcz7_1 hcz7_2 hcz7_3 hfz7_0 hfz7_1 hfz7_2 hfz7_3
  obtain ⟨kq, x50_18, rfl, HA, HJ18, HO_714003, HO_721003, HO_728003, BK699, BK713, BK720, BK727, HB⟩ := hcut
  have hl721003_18 := (Kd.R_reads' HO_721003.out).1
  rw [hl721003_18] at HO_721003
  (try simp only [hl721003_18])
  (try simp only [hl721003_18] at BK699)
  (try simp only [hl721003_18] at BK713)
  (try simp only [hl721003_18] at BK720)
  (try simp only [hl721003_18] at BK727)
  (try simp only [hl721003_18] at HO_714003)
  (try simp only [hl721003_18] at HO_728003)
  cases kq with
  | zero => exact absurd HA.out (by simp [laws_FnExactScaleArea.j0])
  | succ kj18 =>
   have H := HA.out
   clear HA
   simp only [laws_FnExactScaleArea.j0] at H
   by_cases c63 : x50_18 = true
   ·subst c63
    have H1 : (some false) = some r := by rw [if_pos rfl] at H; exact H
    clear H
    have H := H1
    clear H1
    obtain rfl := Option.some.inj H
    exact absurd hrt (by decide)
   replace c63 := Bool.eq_false_iff.mpr c63
   subst c63
   have H1 : ((laws_markImage.f kj18 t721 t722 t723 t724 1).bind fun bt739 => ((laws_heldImage.f kj18 t721 t722 t723 bt739.2 1).bind fun t741 => (if t741 < 0 then (some false) else (if t741 = bt739.1 then ((laws_toImage.f kj18 a0_0 a0_1 a0_2 l0_3).bind fun bt742 => ((impl_ScaleArea.f bt742.1 bt742.2.1 bt742.2.2.1 bt742.2.2.2 a1 a2).bind fun bt748 => ((laws_eqImage.f kj18 bt748.1 bt748.2.1 bt748.2.2.1 bt748.2.2.2 t707 t708 t709 t710).bind fun t755 => (if t755 = true then ((laws_heldImage.f kj18 t721 t722 t723 bt739.2 1).bind fun t756 => (if t756 < 0 then (some false) else (if t756 = bt739.1 then (some true) else (some false)))) else (some false))))) else (some false))))) = some r := by rw [if_neg (show ¬ (false = true) by decide)] at H; exact H
   clear H
   have H := H1
   clear H1
   replace H := Option.bind_eq_some_iff.mp H
   obtain ⟨⟨t739, t740⟩, A640, H⟩ := H
   replace H : ((laws_heldImage.f kj18 t721 t722 t723 t740 1).bind fun t741 => (if t741 < 0 then (some false) else (if t741 = t739 then ((laws_toImage.f kj18 a0_0 a0_1 a0_2 l0_3).bind fun bt742 => ((impl_ScaleArea.f bt742.1 bt742.2.1 bt742.2.2.1 bt742.2.2.2 a1 a2).bind fun bt748 => ((laws_eqImage.f kj18 bt748.1 bt748.2.1 bt748.2.2.1 bt748.2.2.2 t707 t708 t709 t710).bind fun t755 => (if t755 = true then ((laws_heldImage.f kj18 t721 t722 t723 t740 1).bind fun t756 => (if t756 < 0 then (some false) else (if t756 = t739 then (some true) else (some false)))) else (some false))))) else (some false)))) = some r := H
   have A64 := aM A640
   clear A640
   replace H := Option.bind_eq_some_iff.mp H
   obtain ⟨t741, A650, H⟩ := H
   replace H : (if t741 < 0 then (some false) else (if t741 = t739 then ((laws_toImage.f kj18 a0_0 a0_1 a0_2 l0_3).bind fun bt742 => ((impl_ScaleArea.f bt742.1 bt742.2.1 bt742.2.2.1 bt742.2.2.2 a1 a2).bind fun bt748 => ((laws_eqImage.f kj18 bt748.1 bt748.2.1 bt748.2.2.1 bt748.2.2.2 t707 t708 t709 t710).bind fun t755 => (if t755 = true then ((laws_heldImage.f kj18 t721 t722 t723 t740 1).bind fun t756 => (if t756 < 0 then (some false) else (if t756 = t739 then (some true) else (some false)))) else (some false))))) else (some false))) = some r := H
   have A65 := aM A650
   clear A650
   by_cases c66 : t741 < 0
   ·rw [if_pos c66] at H
    have c66b0 : decide (t741 < 0) = true := decide_eq_true c66
    clear c66
    obtain rfl := Option.some.inj H
    exact absurd hrt (by decide)
   rw [if_neg c66] at H
   have c66b0 : decide (t741 < 0) = false := decide_eq_false c66
   clear c66
   by_cases c74 : t741 = t739
   rotate_left
   ·rw [if_neg c74] at H
    have c74b0 : (t741 == t739) = false := beq_eq_false_iff_ne.mpr c74
    have c74b1 : (t741 != t739) = true := bne_iff_ne.mpr c74
    obtain rfl := Option.some.inj H
    exact absurd hrt (by decide)
   rw [if_pos c74] at H
   have c74b0 : (t741 == t739) = true := beq_iff_eq.mpr c74
   have c74b1 : (t741 != t739) = false := bne_eq_false_iff_eq.mpr c74
   clear c74
   replace H := Option.bind_eq_some_iff.mp H
   obtain ⟨⟨t742, t743, t744, t745⟩, A750, H⟩ := H
   replace H : ((impl_ScaleArea.f t742 t743 t744 t745 a1 a2).bind fun bt748 => ((laws_eqImage.f kj18 bt748.1 bt748.2.1 bt748.2.2.1 bt748.2.2.2 t707 t708 t709 t710).bind fun t755 => (if t755 = true then ((laws_heldImage.f kj18 t721 t722 t723 t740 1).bind fun t756 => (if t756 < 0 then (some false) else (if t756 = t739 then (some true) else (some false)))) else (some false)))) = some r := H
   have A75 := aM A750
   clear A750
   replace H := Option.bind_eq_some_iff.mp H
   obtain ⟨⟨t748, t749, t750, t751⟩, A760, H⟩ := H
   replace H : ((laws_eqImage.f kj18 t748 t749 t750 t751 t707 t708 t709 t710).bind fun t755 => (if t755 = true then ((laws_heldImage.f kj18 t721 t722 t723 t740 1).bind fun t756 => (if t756 < 0 then (some false) else (if t756 = t739 then (some true) else (some false)))) else (some false))) = some r := H
   have A76 := aM A760
   clear A760
   replace H := Option.bind_eq_some_iff.mp H
   obtain ⟨t755, A770, H⟩ := H
   replace H : (if t755 = true then ((laws_heldImage.f kj18 t721 t722 t723 t740 1).bind fun t756 => (if t756 < 0 then (some false) else (if t756 = t739 then (some true) else (some false)))) else (some false)) = some r := H
   have A77 := aM A770
   clear A770
   by_cases c78 : t755 = true
   rotate_left
   ·replace c78 := Bool.eq_false_iff.mpr c78
    subst c78
    have H1 : (some false) = some r := by rw [if_neg (show ¬ (false = true) by decide)] at H; exact H
    clear H
    have H := H1
    clear H1
    obtain rfl := Option.some.inj H
    exact absurd hrt (by decide)
   subst c78
   have H1 : ((laws_heldImage.f kj18 t721 t722 t723 t740 1).bind fun t756 => (if t756 < 0 then (some false) else (if t756 = t739 then (some true) else (some false)))) = some r := by rw [if_pos rfl] at H; exact H
   clear H
   have H := H1
   clear H1
   replace H := Option.bind_eq_some_iff.mp H
   obtain ⟨t756, A790, H⟩ := H
   replace H : (if t756 < 0 then (some false) else (if t756 = t739 then (some true) else (some false))) = some r := H
   have A79 := aM A790
   clear A790
   by_cases c80 : t756 < 0
   ·rw [if_pos c80] at H
    have c80b0 : decide (t756 < 0) = true := decide_eq_true c80
    clear c80
    obtain rfl := Option.some.inj H
    exact absurd hrt (by decide)
   rw [if_neg c80] at H
   have c80b0 : decide (t756 < 0) = false := decide_eq_false c80
   clear c80
   by_cases c106 : t756 = t739
   rotate_left
   ·rw [if_neg c106] at H
    have c106b0 : (t756 == t739) = false := beq_eq_false_iff_ne.mpr c106
    have c106b1 : (t756 != t739) = true := bne_iff_ne.mpr c106
    obtain rfl := Option.some.inj H
    exact absurd hrt (by decide)
   rw [if_pos c106] at H
   have c106b0 : (t756 == t739) = true := beq_iff_eq.mpr c106
   have c106b1 : (t756 != t739) = false := bne_eq_false_iff_eq.mpr c106
   clear c106
   obtain rfl := Option.some.inj H
   have hnb107 := NB727_699.out
   have hnc107 := NB699_727.out
   have hnb108 := NB727_713.out
   have hnc108 := NB713_727.out
   have hnb109 := NB727_720.out
   have hnc109 := NB720_727.out
   obtain ⟨⟨hcz110_0, hcz110_1, hcz110_2, hcz110_3⟩, hfz110_0, hfz110_1, hfz110_2, hfz110_3⟩ := cf4 BK727
   go_wp2_with (first | ((with_reducible refine gate_callee (f := 20) rfl ?_); refine gL (some 53) Try.func20 #[.agg #[.int .i64 t721, .int .i64 t722, .int .i64 t723, .slice Ao44 t724.length co44], .int .i64 1] ?_; (with_reducible refine (laws_markImage.calls kj18 t721 t722 t723 (fun k_ => some k_ = (.slice Ao44 t724.length co44 : Value).ownBlock) (.slice Ao44 t724.length co44) t724 1 t739 t740 w _ ?side1 ?side2 A64.out).mono ?_); (case side1 => exact qW HB.out); (case side2 => exact Kd.R_tight rfl HO_728003.out); rintro e w111 ⟨rfl, hy0, hb, hkp⟩; refine ⟨_, rfl, ?_⟩; replace HO_714003 := aM (Kd.R_mono (ok' := fun k_ => some k_ ≠ (.slice Ao37 t737.length co37 : Value).ownBlock ∧ some k_ ≠ (.slice Ao44 t724.length co44 : Value).ownBlock) (Kd.R_keptB (HO_714003.out) hkp (fun k_ hk_ hs_ => (hk_.2) hs_)) (fun k_ hk_ => ⟨hk_.1.1, hk_.1.2⟩)); replace HO_721003 := aM (Kd.R_mono (ok' := fun k_ => some k_ ≠ (.slice Ao30 t710.length co30 : Value).ownBlock ∧ some k_ ≠ (.slice Ao44 t724.length co44 : Value).ownBlock) (Kd.R_keptB (HO_721003.out) hkp (fun k_ hk_ hs_ => (hk_.2) hs_)) (fun k_ hk_ => ⟨hk_.1.1, hk_.1.2⟩)); replace BK699 := aM (blk_kept (qB BK699.out) hkp (fun hs_ => (fun e_ => (Kd.R_ne HO_728003.out BK699.out (by decide)) e_) hs_)); replace BK713 := aM (blk_kept (qB BK713.out) hkp (fun hs_ => (fun e_ => (Kd.R_ne HO_728003.out BK713.out (by decide)) e_) hs_)); replace BK720 := aM (blk_kept (qB BK720.out) hkp (fun hs_ => (fun e_ => (Kd.R_ne HO_728003.out BK720.out (by decide)) e_) hs_)); replace BK727 := aM (blk_kept (qB BK727.out) hkp (fun hs_ => (fun e_ => (Kd.R_ne HO_728003.out BK727.out (by decide)) e_) hs_)); replace HO_728003 := aM (Kd.R_reok rfl hy0 (fun k_ e_ => HO_728003.out.1 k_ e_)); replace HB := aM (hb); clear hb hkp hy0; obtain ⟨⟨hcz112_0, hcz112_1, hcz112_2, hcz112_3⟩, hfz112_0, hfz112_1, hfz112_2, hfz112_3⟩ := cf4 BK727) | ((with_reducible refine gate_callee (f := 21) rfl ?_); refine goesL_ (some 56) rfl rfl Try.func21 (by kernel_rfl) rfl #[.agg #[.int .i64 t721, .int .i64 t722, .int .i64 t723, .slice Ao44 t740.length co44], .int .i64 1] rfl (by (try simp only [List.map_toArray, List.map_cons, List.map_nil]); first | done | (rw [show t740.length = t724.length from (Kd.R_reads' HO_728003.out).1.symm] <;> rfl) | rfl | (simp only [List.length_drop, List.length_take]; rfl)) ?_; (with_reducible refine (laws_heldImage.calls kj18 t721 t722 t723 _ _ t740 1 t741 _ ?side1 ?side2 A65.out).mono ?_); (case side1 => exact qC (Kd.R_reads' HO_728003.out).2.2); (case side2 => rw [show t740.length = t724.length from (Kd.R_reads' HO_728003.out).1.symm]; exact (Kd.R_reads' HO_728003.out).2.1); rintro e w113 ⟨rfl, hb⟩; refine ⟨_, rfl, ?_⟩; replace HO_714003 := aM (Kd.R_below (qR HO_714003.out) hb); replace HO_721003 := aM (Kd.R_below (qR HO_721003.out) hb); replace HO_728003 := aM (Kd.R_below (qR HO_728003.out) hb); replace BK699 := bB BK699 hb; replace BK713 := bB BK713 hb; replace BK720 := bB BK720 hb; replace BK727 := bB BK727 hb; replace HB := bS HB hb; clear hb; have hnb114 := NB699_713.out; have hnc114 := NB713_699.out; have hnb115 := NB699_720.out; have hnc115 := NB720_699.out; obtain ⟨⟨hcz116_0, hcz116_1, hcz116_2, hcz116_3⟩, hfz116_0, hfz116_1, hfz116_2, hfz116_3⟩ := cf4 BK699) | ((with_reducible refine gate_callee (f := 17) rfl ?_); refine gL (some 63) Try.func17 #[.agg #[.int .i64 a0_0, .int .i64 a0_1, .int .i64 a0_2, .slice A0_3 l0_3.length c0_3]] ?_; (with_reducible refine (laws_toImage.calls kj18 a0_0 a0_1 a0_2 _ _ l0_3 t742 t743 t744 t745 _ ?side1 ?side2 A75.out).mono ?_); (case side1 => exact qC (Kd.C_below HR0_3.out HB.out)); (case side2 => exact HC0_3.out); rintro e w117 ⟨v746, rfl, ho0, hb⟩; refine ⟨_, rfl, ?_⟩; have HO747 := aM (Kd.R_lower (Kd.R_new' (Kd.R_new' (Kd.R_new' ho0 (Kd.R_lt (qR HO_714003.out))) (Kd.R_lt (qR HO_721003.out))) (Kd.R_lt (qR HO_728003.out))) (below_size (qW HB.out))); replace HO_714003 := aM (Kd.R_elder' (qR HO_714003.out) (Kd.R_base ho0) hb); replace HO_721003 := aM (Kd.R_elder' (qR HO_721003.out) (Kd.R_base ho0) hb); replace HO_728003 := aM (Kd.R_elder' (qR HO_728003.out) (Kd.R_base ho0) hb); replace BK699 := bB BK699 hb; replace BK713 := bB BK713 hb; replace BK720 := bB BK720 hb; replace BK727 := bB BK727 hb; replace HB := bS HB hb; clear hb ho0; obtain ⟨Ao118, co118, rfl⟩ := sL HO747) | ((with_reducible refine gate_callee (f := 31) rfl ?_); refine gL (some 66) Try.func31 #[.agg #[.int .i64 t742, .int .i64 t743, .int .i64 t744, .slice Ao118 t745.length co118], .int .i64 a1, .int .i64 a2] ?_; (with_reducible refine (impl_ScaleArea.calls t742 t743 t744 _ _ t745 a1 a2 t748 t749 t750 t751 _ ?side1 ?side2 A76.out).mono ?_); (case side1 => exact qC (Kd.R_reads' HO747.out).2.2); (case side2 => exact (Kd.R_reads' HO747.out).2.1); rintro e w119 ⟨v752, rfl, ho0, hb⟩; refine ⟨_, rfl, ?_⟩; have HO753 := aM (Kd.R_lower (Kd.R_new' (Kd.R_new' (Kd.R_new' (Kd.R_new' ho0 (Kd.R_lt (qR HO_714003.out))) (Kd.R_lt (qR HO_721003.out))) (Kd.R_lt (qR HO_728003.out))) (Kd.R_lt (qR HO747.out))) (below_size (qW HB.out))); replace HO_714003 := aM (Kd.R_elder' (qR HO_714003.out) (Kd.R_base ho0) hb); replace HO_721003 := aM (Kd.R_elder' (qR HO_721003.out) (Kd.R_base ho0) hb); replace HO_728003 := aM (Kd.R_elder' (qR HO_728003.out) (Kd.R_base ho0) hb); replace HO747 := aM (Kd.R_elder' (qR HO747.out) (Kd.R_base ho0) hb); replace BK699 := bB BK699 hb; replace BK713 := bB BK713 hb; replace BK720 := bB BK720 hb; replace BK727 := bB BK727 hb; replace HB := bS HB hb; clear hb ho0) | ((with_reducible refine gate_dst (N := 14) rfl ?_); refine bxE (N := 14) (cs := #[.int .i64 0, .int .i64 0, .int .i64 0, .slice none 0 0]) (t := 26) ?_; intro gb754 hg w120 hbox hb; replace HO_714003 := aM (Kd.R_below (qR HO_714003.out) hb); replace HO_721003 := aM (Kd.R_below (qR HO_721003.out) hb); replace HO_728003 := aM (Kd.R_below (qR HO_728003.out) hb); replace HO747 := aM (Kd.R_below (qR HO747.out) hb); replace HO753 := aM (Kd.R_below (qR HO753.out) hb); have BK754 := aM (hbox); have GW754 := gW hg HB; have GE754 := gW hg HB; replace HB := bS HB hb; have NB699_754 := nL hg BK699; have NB754_699 := nG hg BK699; replace BK699 := bB BK699 hb; have NB713_754 := nL hg BK713; have NB754_713 := nG hg BK713; replace BK713 := bB BK713 hb; have NB720_754 := nL hg BK720; have NB754_720 := nG hg BK720; replace BK720 := bB BK720 hb; have NB727_754 := nL hg BK727; have NB754_727 := nG hg BK727; replace BK727 := bB BK727 hb; clear hb hbox hg; have hnb121 := NB754_699.out; have hnc121 := NB699_754.out; have hnb122 := NB754_713.out; have hnc122 := NB713_754.out; have hnb123 := NB754_720.out; have hnc123 := NB720_754.out; have hnb124 := NB754_727.out; have hnc124 := NB727_754.out; obtain ⟨⟨hcz125_0, hcz125_1, hcz125_2, hcz125_3⟩, hfz125_0, hfz125_1, hfz125_2, hfz125_3⟩ := cf4 BK754; obtain ⟨Ao126, co126, rfl⟩ := sL HO753; have hnb127 := NB713_720.out; have hnc127 := NB720_713.out; obtain ⟨⟨hcz128_0, hcz128_1, hcz128_2, hcz128_3⟩, hfz128_0, hfz128_1, hfz128_2, hfz128_3⟩ := cf4 BK713) | ((with_reducible refine gate_callee (f := 19) rfl ?_); refine gL (some 69) Try.func19 #[.agg #[.int .i64 t748, .int .i64 t749, .int .i64 t750, .slice Ao126 t751.length co126], .agg #[.int .i64 t707, .int .i64 t708, .int .i64 t709, .slice Ao30 t710.length co30]] ?_; (with_reducible refine (laws_eqImage.calls kj18 t748 t749 t750 _ _ t751 t707 t708 t709 _ _ t710 true _ ?side1 ?side2 ?side3 ?side4 A77.out).mono ?_); (case side1 => refine (Kd.R_reads' (e := 3) (base := w.heap.size) (ok := fun k_ => ((((True ∧ some k_ ≠ (.slice Ao30 t710.length co30 : Value).ownBlock) ∧ some k_ ≠ (.slice Ao37 t737.length co37 : Value).ownBlock) ∧ some k_ ≠ (.slice Ao44 t724.length co44 : Value).ownBlock) ∧ some k_ ≠ (.slice Ao118 t745.length co118 : Value).ownBlock)) (n := t751.length) (c := co126) ?_).2.2; exact (by refine qR ?_; exact (fr4 HO753 BK754))); (case side2 => exact (Kd.R_reads' HO753.out).2.1); (case side3 => refine (Kd.R_reads' (e := 3) (base := w.heap.size) (ok := fun k_ => (((some k_ ≠ (.slice Ao37 t737.length co37 : Value).ownBlock ∧ some k_ ≠ (.slice Ao44 t724.length co44 : Value).ownBlock) ∧ some k_ ≠ (.slice Ao118 t745.length co118 : Value).ownBlock) ∧ some k_ ≠ (.slice Ao126 t751.length co126 : Value).ownBlock)) (n := t710.length) (c := co30) ?_).2.2; exact (by refine qR ?_; exact (fr4 HO_714003 BK754))); (case side4 => exact (Kd.R_reads' HO_714003.out).2.1); rintro e w129 ⟨rfl, hb⟩; refine ⟨_, rfl, ?_⟩; replace HO_714003 := aM (Kd.R_below (by refine qR ?_; exact (fr4 HO_714003 BK754)) hb); replace HO_721003 := aM (Kd.R_below (by refine qR ?_; exact (fr4 HO_721003 BK754)) hb); replace HO_728003 := aM (Kd.R_below (by refine qR ?_; exact (fr4 HO_728003 BK754)) hb); replace HO747 := aM (Kd.R_below (by refine qR ?_; exact (fr4 HO747 BK754)) hb); replace HO753 := aM (Kd.R_below (by refine qR ?_; exact (fr4 HO753 BK754)) hb); replace BK699 := aM (blk_below (g := gb699) (o := .cells #[.int .i64 a0_0, .int .i64 a0_1, .int .i64 a0_2, .slice A0_3 l0_3.length c0_3] 24 (0, 0)) (by refine qB ?_; refine blk_far ?_ NB699_754.out _; refine qB ?_; refine blk_far ?_ NB699_754.out _; refine qB ?_; refine blk_far ?_ NB699_754.out _; refine qB ?_; refine blk_far ?_ NB699_754.out _; refine qB ?_; exact BK699.out) hb); replace BK713 := aM (blk_below (g := gb713) (o := .cells #[.int .i64 t707, .int .i64 t708, .int .i64 t709, .slice Ao30 t710.length co30] 26 (0, 0)) (by refine qB ?_; refine blk_far ?_ NB713_754.out _; refine qB ?_; refine blk_far ?_ NB713_754.out _; refine qB ?_; refine blk_far ?_ NB713_754.out _; refine qB ?_; refine blk_far ?_ NB713_754.out _; refine qB ?_; exact BK713.out) hb); replace BK720 := aM (blk_below (g := gb720) (o := .cells #[.int .i64 t714, .int .i64 t715, .int .i64 t716, .slice Ao37 t737.length co37] 26 (0, 0)) (by refine qB ?_; refine blk_far ?_ NB720_754.out _; refine qB ?_; refine blk_far ?_ NB720_754.out _; refine qB ?_; refine blk_far ?_ NB720_754.out _; refine qB ?_; refine blk_far ?_ NB720_754.out _; refine qB ?_; exact BK720.out) hb); replace BK727 := aM (blk_below (g := gb727) (o := .cells #[.int .i64 t721, .int .i64 t722, .int .i64 t723, .slice Ao44 t724.length co44] 26 (0, 0)) (by refine qB ?_; refine blk_far ?_ NB727_754.out _; refine qB ?_; refine blk_far ?_ NB727_754.out _; refine qB ?_; refine blk_far ?_ NB727_754.out _; refine qB ?_; refine blk_far ?_ NB727_754.out _; refine qB ?_; exact BK727.out) hb); replace BK754 := aM (blk_below (g := gb754) (o := .cells #[.int .i64 t748, .int .i64 t749, .int .i64 t750, .slice Ao126 t751.length co126] 26 (0, 0)) (by exact bP BK754.out) hb); replace HB := bS HB hb; clear hb; obtain ⟨⟨hcz130_0, hcz130_1, hcz130_2, hcz130_3⟩, hfz130_0, hfz130_1, hfz130_2, hfz130_3⟩ := cf4 BK727) | ((with_reducible refine gate_callee (f := 21) rfl ?_); refine goesL_ (some 73) rfl rfl Try.func21 (by kernel_rfl) rfl #[.agg #[.int .i64 t721, .int .i64 t722, .int .i64 t723, .slice Ao44 t740.length co44], .int .i64 1] rfl (by (try simp only [List.map_toArray, List.map_cons, List.map_nil]); first | done | (rw [show t740.length = t724.length from (Kd.R_reads' HO_728003.out).1.symm] <;> rfl) | rfl | (simp only [List.length_drop, List.length_take]; rfl)) ?_; (with_reducible refine (laws_heldImage.calls kj18 t721 t722 t723 _ _ t740 1 t756 _ ?side1 ?side2 A79.out).mono ?_); (case side1 => exact qC (Kd.R_reads' HO_728003.out).2.2); (case side2 => rw [show t740.length = t724.length from (Kd.R_reads' HO_728003.out).1.symm]; exact (Kd.R_reads' HO_728003.out).2.1); rintro e w131 ⟨rfl, hb⟩; refine ⟨_, rfl, ?_⟩; replace HO_714003 := aM (Kd.R_below (qR HO_714003.out) hb); replace HO_721003 := aM (Kd.R_below (qR HO_721003.out) hb); replace HO_728003 := aM (Kd.R_below (qR HO_728003.out) hb); replace HO747 := aM (Kd.R_below (qR HO747.out) hb); replace HO753 := aM (Kd.R_below (qR HO753.out) hb); replace BK699 := bB BK699 hb; replace BK713 := bB BK713 hb; replace BK720 := bB BK720 hb; replace BK727 := bB BK727 hb; replace BK754 := bB BK754 hb; replace HB := bS HB hb; clear hb))
   go_ret
   exact ⟨qX, by exact qW HB.out⟩
def laws_FnExactScaleArea.Pure : Prop := ∀ (a0_0 : Int) (a0_1 : Int) (a0_2 : Int) (l0_3 : List Int) (a1 : Int) (a2 : Int), (Lit.int .i64 a0_0).wf = true → (Lit.int .i64 a0_1).wf = true → (Lit.int .i64 a0_2).wf = true → l0_3.length ≤ maxLen → (∀ x ∈ l0_3, (Lit.int .i64 x).wf = true) → (Lit.int .i64 a1).wf = true → (Lit.int .i64 a2).wf = true → ∃ k, laws_FnExactScaleArea.f k a0_0 a0_1 a0_2 l0_3 a1 a2 = some true
theorem laws_FnExactScaleArea.walk (P : laws_FnExactScaleArea.Pure) (a0_0 : Int) (a0_1 : Int) (a0_2 : Int) (A0_3 : Option Addr) (len0_3 cap0_3 : Nat) (z0_3 : List Int) (a1 : Int) (a2 : Int) (w : World) (w0_0 : (Lit.int .i64 a0_0).wf = true) (w0_1 : (Lit.int .i64 a0_1).wf = true) (w0_2 : (Lit.int .i64 a0_2).wf = true) (w0_3 : (A0_3 = none ∧ len0_3 = 0 ∧ cap0_3 = 0 ∧ z0_3 = []) ∨ ∃ x, A0_3 = some x ∧ len0_3 ≤ cap0_3 ∧ cap0_3 ≤ maxLen ∧ z0_3.length = cap0_3 ∧ (∀ i, i < z0_3.length → w.cell? (x.add i) = some (.int .i64 (z0_3.getD i 0))) ∧ ∀ n ∈ z0_3, (Lit.int .i64 n).wf = true) (w1 : (Lit.int .i64 a1).wf = true) (w2 : (Lit.int .i64 a2).wf = true) :
  Calls Try.prog 9 #[.agg #[.int .i64 a0_0, .int .i64 a0_1, .int .i64 a0_2, .slice A0_3 len0_3 cap0_3], .int .i64 a1, .int .i64 a2] w fun e w' => e = .returned (.bool true) ∧ Below w.heap.size w w' := by
 obtain ⟨l0_3, rfl, hr0_3, hm0_3, hw0_3, hc0_3⟩ := ReadsInt.ofRowC w0_3
 obtain ⟨k, h⟩ := P a0_0 a0_1 a0_2 l0_3 a1 a2 w0_0 w0_1 w0_2 hm0_3 hw0_3 w1 w2
 refine (laws_FnExactScaleArea.calls k a0_0 a0_1 a0_2 _ _ l0_3 a1 a2 true w (Kd.C_of_reads (d := (0 : Int)) (h1 := fun _ => rfl) hr0_3) hc0_3 h rfl).mono ?_
 rintro e w' ⟨rfl, hd⟩
 exact ⟨rfl, hd⟩
end Go.Proofs.Ytnamhlcdlbjcfaa.P
