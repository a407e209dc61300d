/- Contracts and row, written by a program of this place out of the translation: the call answers true and its argument reads as before, for every input; no condition. -/
import Derived.Test.YtohbpilokmppbaaK0
import Derived.Test.YtohbpilokmppbaaK1
import Derived.Test.YtohbpilokmppbaaK3
import Derived.Test.YtohbpilokmppbaaK5
import Derived.Test.YtohbpilokmppbaaK6
namespace Go.Proofs.Ytohbpilokmppbaa.P
open Go.RowKit Go.Proofs.YtohbpilokmppbaaW.PrintWords Go.Proofs.YtohbpilokmppbaaW.PrintLast Go.Proofs.YtohbpilokmppbaaW.PrintMore
attribute [local go_sem] max2_int min2_int max_two min_two max_three min_three max_four min_four   -- for this text's walks alone
set_option linter.unusedVariables false
set_option linter.unusedSimpArgs false
mutual
def laws_FnExactIndexImage.j0 : Nat → List (List Int) → Bool → List (List Int) → Bool → Bool → Int → Int → Int → List Int → Int → Int → Int → List Int → Int → Int → Int → List Int → Int → Int → Int → List Int → Option (Bool)
 | 0, _, _, _, _, _, _, _, _, _, _, _, _, _, _, _, _, _, _, _, _, _ => none
 | k + 1, x1, x7, x9, x11, x53, x663000, x663001, x663002, x663003, x682000, x682001, x682002, x682003, x689000, x689001, x689002, x689003, x700000, x700001, x700002, x700003 => if x53 = true then (some false) else ((laws_toImage.f k x663000 x663001 x663002 x663003).bind fun bt701 => ((laws_eqImage.f k x689000 x689001 x689002 x689003 bt701.1 bt701.2.1 bt701.2.2.1 bt701.2.2.2).bind fun t707 => (if t707 = true then ((laws_toIntSS.f k x1).bind fun t708 => ((laws_eqIntSS.f k x9 t708).bind fun t711 => (if t711 = true then ((laws_markImage.f k x689000 x689001 x689002 x689003 1).bind fun bt712 => ((laws_markIntSS.f k x9 bt712.1).bind fun bt714 => (if bt714.1 < 0 then (laws_FnExactIndexImage.j1 k x1 x7 true x663000 x663001 x663002 x663003 x682000 x682001 x682002 x682003 x700000 x700001 x700002 x700003) else ((laws_eqImage.f k x700000 x700001 x700002 x700003 x682000 x682001 x682002 x682003).bind fun t716 => (if t716 = true then (laws_FnExactIndexImage.j1 k x1 x7 (x11 != x7) x663000 x663001 x663002 x663003 x682000 x682001 x682002 x682003 x700000 x700001 x700002 x700003) else (laws_FnExactIndexImage.j1 k x1 x7 true x663000 x663001 x663002 x663003 x682000 x682001 x682002 x682003 x700000 x700001 x700002 x700003)))))) else (some false)))) else (some false))))
def laws_FnExactIndexImage.j1 : Nat → List (List Int) → Bool → Bool → Int → Int → Int → List Int → Int → Int → Int → List Int → Int → Int → Int → List Int → Option (Bool)
 | 0, _, _, _, _, _, _, _, _, _, _, _, _, _, _, _ => none
 | k + 1, x1, x7, x82, x663000, x663001, x663002, x663003, x682000, x682001, x682002, x682003, x700000, x700001, x700002, x700003 => if x82 = true then (some false) else ((laws_markImage.f k x700000 x700001 x700002 x700003 1).bind fun bt717 => ((laws_heldImage.f k x700000 x700001 x700002 bt717.2 1).bind fun t719 => (if t719 < 0 then (some false) else (if t719 = bt717.1 then ((laws_toImage.f k x663000 x663001 x663002 x663003).bind fun bt720 => ((laws_toIntSS.f k x1).bind fun t726 => ((impl_IndexImage.f bt720.1 bt720.2.1 bt720.2.2.1 bt720.2.2.2 t726).bind fun bt729 => ((laws_eqImage.f k bt729.1 bt729.2.1 bt729.2.2.1 bt729.2.2.2.1 x682000 x682001 x682002 x682003).bind fun t737 => (if t737 = true then (laws_FnExactIndexImage.j2 k bt717.1 (bt729.2.2.2.2 != x7) x700000 x700001 x700002 bt717.2) else (laws_FnExactIndexImage.j2 k bt717.1 true x700000 x700001 x700002 bt717.2)))))) else (some false)))))
def laws_FnExactIndexImage.j2 : Nat → Int → Bool → Int → Int → Int → List Int → Option (Bool)
 | 0, _, _, _, _, _, _ => none
 | k + 1, x13, x110, x700000, x700001, x700002, x700003 => if x110 = true then (some false) else ((laws_heldImage.f k x700000 x700001 x700002 x700003 1).bind fun t738 => (if t738 < 0 then (some false) else (if t738 = x13 then (some true) else (some false))))
end
def laws_FnExactIndexImage.f (k : Nat) (a0_0 : Int) (a0_1 : Int) (a0_2 : Int) (l0_3 : List Int) (l1 : List (List Int)) : Option (Bool) := (laws_szImage.f a0_0 a0_1 a0_2 l0_3 1048576).bind fun t663 => (if t663 < 0 then (some true) else ((laws_szIntSS.f k l1 t663).bind fun t664 => (if t664 < 0 then (some true) else ((laws_toImage.f k a0_0 a0_1 a0_2 l0_3).bind fun bt665 => ((laws_toIntSS.f k l1).bind fun t671 => ((spec_IndexImage.f k bt665.1 bt665.2.1 bt665.2.2.1 bt665.2.2.2 t671).bind fun bt674 => ((laws_toImage.f k a0_0 a0_1 a0_2 l0_3).bind fun bt682 => ((laws_toIntSS.f k l1).bind fun t689 => ((impl_IndexImage.f bt682.1 bt682.2.1 bt682.2.2.1 bt682.2.2.2 t689).bind fun bt692 => ((laws_eqImage.f k bt692.1 bt692.2.1 bt692.2.2.1 bt692.2.2.2.1 bt674.1 bt674.2.1 bt674.2.2.1 bt674.2.2.2.1).bind fun t700 => (if t700 = true then (laws_FnExactIndexImage.j0 k l1 bt674.2.2.2.2 t689 bt692.2.2.2.2 (bt692.2.2.2.2 != bt674.2.2.2.2) a0_0 a0_1 a0_2 l0_3 bt674.1 bt674.2.1 bt674.2.2.1 bt674.2.2.2.1 bt682.1 bt682.2.1 bt682.2.2.1 bt682.2.2.2 bt692.1 bt692.2.1 bt692.2.2.1 bt692.2.2.2.1) else (laws_FnExactIndexImage.j0 k l1 bt674.2.2.2.2 t689 bt692.2.2.2.2 true a0_0 a0_1 a0_2 l0_3 bt674.1 bt674.2.1 bt674.2.2.1 bt674.2.2.2.1 bt682.1 bt682.2.1 bt682.2.2.1 bt682.2.2.2 bt692.1 bt692.2.1 bt692.2.2.1 bt692.2.2.2.1))))))))))))
theorem laws_FnExactIndexImage.mono_l : ∀ k, (∀ y0 y1 y2 y3 y4 y5 y6 y7 y8 y9 y10 y11 y12 y13 y14 y15 y16 y17 y18 y19 y20, LeO (laws_FnExactIndexImage.j0 k y0 y1 y2 y3 y4 y5 y6 y7 y8 y9 y10 y11 y12 y13 y14 y15 y16 y17 y18 y19 y20) (laws_FnExactIndexImage.j0 (k + 1) y0 y1 y2 y3 y4 y5 y6 y7 y8 y9 y10 y11 y12 y13 y14 y15 y16 y17 y18 y19 y20)) ∧ (∀ y0 y1 y2 y3 y4 y5 y6 y7 y8 y9 y10 y11 y12 y13 y14, LeO (laws_FnExactIndexImage.j1 k y0 y1 y2 y3 y4 y5 y6 y7 y8 y9 y10 y11 y12 y13 y14) (laws_FnExactIndexImage.j1 (k + 1) y0 y1 y2 y3 y4 y5 y6 y7 y8 y9 y10 y11 y12 y13 y14)) ∧ (∀ y0 y1 y2 y3 y4 y5, LeO (laws_FnExactIndexImage.j2 k y0 y1 y2 y3 y4 y5) (laws_FnExactIndexImage.j2 (k + 1) y0 y1 y2 y3 y4 y5))
 | 0 => ⟨fun _ _ _ _ _ _ _ _ _ _ _ _ _ _ _ _ _ _ _ _ _ r h => by simp [laws_FnExactIndexImage.j0] at h, fun _ _ _ _ _ _ _ _ _ _ _ _ _ _ _ r h => by simp [laws_FnExactIndexImage.j1] at h, fun _ _ _ _ _ _ r h => by simp [laws_FnExactIndexImage.j2] at h⟩
 | k + 1 => by
  obtain ⟨ih0, ih1, ih2⟩ := laws_FnExactIndexImage.mono_l k
  refine ⟨?_, ?_, ?_⟩
  all_goals intros
  all_goals first | unfold laws_FnExactIndexImage.j0 | unfold laws_FnExactIndexImage.j1 | unfold laws_FnExactIndexImage.j2
  all_goals repeat' first | (with_reducible first | exact ih0 _ _ _ _ _ _ _ _ _ _ _ _ _ _ _ _ _ _ _ _ _ | exact ih1 _ _ _ _ _ _ _ _ _ _ _ _ _ _ _ | exact ih2 _ _ _ _ _ _ | exact laws_eqImage.mono _ _ _ _ _ _ _ _ _ | exact laws_eqIntSS.mono _ _ _ | exact laws_heldImage.mono _ _ _ _ _ _ | exact laws_markImage.mono _ _ _ _ _ _ | exact laws_markIntSS.mono _ _ _ | exact laws_szIntSS.mono _ _ _ | exact laws_toImage.mono _ _ _ _ _ | exact laws_toIntSS.mono _ _ | exact spec_IndexImage.mono _ _ _ _ _ _ | exact lR | exact lN | refine lI ?_ ?_ | refine lB ?_ fun _ => ?_) | exact ih0 _ _ _ _ _ _ _ _ _ _ _ _ _ _ _ _ _ _ _ _ _ | exact ih1 _ _ _ _ _ _ _ _ _ _ _ _ _ _ _ | exact ih2 _ _ _ _ _ _ | exact laws_eqImage.mono _ _ _ _ _ _ _ _ _ | exact laws_eqIntSS.mono _ _ _ | exact laws_heldImage.mono _ _ _ _ _ _ | exact laws_markImage.mono _ _ _ _ _ _ | exact laws_markIntSS.mono _ _ _ | exact laws_szIntSS.mono _ _ _ | exact laws_toImage.mono _ _ _ _ _ | exact laws_toIntSS.mono _ _ | exact spec_IndexImage.mono _ _ _ _ _ _ | exact lN | refine lI ?_ ?_ | refine lB ?_ fun _ => ?_
theorem laws_FnExactIndexImage.mono : ∀ a0 a1 a2 a3 a4 k, LeO (laws_FnExactIndexImage.f k a0 a1 a2 a3 a4) (laws_FnExactIndexImage.f (k + 1) a0 a1 a2 a3 a4) := by
 intro a0 a1 a2 a3 a4 k
 obtain ⟨ih0, ih1, ih2⟩ := laws_FnExactIndexImage.mono_l k
 unfold laws_FnExactIndexImage.f
 repeat' first | (with_reducible first | exact ih0 _ _ _ _ _ _ _ _ _ _ _ _ _ _ _ _ _ _ _ _ _ | exact ih1 _ _ _ _ _ _ _ _ _ _ _ _ _ _ _ | exact ih2 _ _ _ _ _ _ | exact laws_eqImage.mono _ _ _ _ _ _ _ _ _ | exact laws_eqIntSS.mono _ _ _ | exact laws_heldImage.mono _ _ _ _ _ _ | exact laws_markImage.mono _ _ _ _ _ _ | exact laws_markIntSS.mono _ _ _ | exact laws_szIntSS.mono _ _ _ | exact laws_toImage.mono _ _ _ _ _ | exact laws_toIntSS.mono _ _ | exact spec_IndexImage.mono _ _ _ _ _ _ | exact lR | exact lN | refine lI ?_ ?_ | refine lB ?_ fun _ => ?_) | exact ih0 _ _ _ _ _ _ _ _ _ _ _ _ _ _ _ _ _ _ _ _ _ | exact ih1 _ _ _ _ _ _ _ _ _ _ _ _ _ _ _ | exact ih2 _ _ _ _ _ _ | exact laws_eqImage.mono _ _ _ _ _ _ _ _ _ | exact laws_eqIntSS.mono _ _ _ | exact laws_heldImage.mono _ _ _ _ _ _ | exact laws_markImage.mono _ _ _ _ _ _ | exact laws_markIntSS.mono _ _ _ | exact laws_szIntSS.mono _ _ _ | exact laws_toImage.mono _ _ _ _ _ | exact laws_toIntSS.mono _ _ | exact spec_IndexImage.mono _ _ _ _ _ _ | exact lN | refine lI ?_ ?_ | refine lB ?_ fun _ => ?_
set_option maxHeartbeats 8000000 in
set_option maxRecDepth 100000 in
theorem laws_FnExactIndexImage.calls (k : Nat) (a0_0 : Int) (a0_1 : Int) (a0_2 : Int) (A0_3 : Option Addr) (c0_3 : Nat) (l0_3 : List Int) (A1 : Option Addr) (c1 : Nat) (l1 : List (List Int)) (r : Bool) (w : World) (hr0_3 : Kd.C (Kd.int .i64) w A0_3 l0_3.length l0_3) (hc0_3 : l0_3.length ≤ c0_3) (hr1 : Kd.C (Kd.slice 3 (Kd.int .i64)) w A1 l1.length l1) (hc1 : l1.length ≤ c1) (h : laws_FnExactIndexImage.f k a0_0 a0_1 a0_2 l0_3 l1 = some r) (hrt : r = true) :
  Calls Try.prog 7 #[.agg #[.int .i64 a0_0, .int .i64 a0_1, .int .i64 a0_2, .slice A0_3 l0_3.length c0_3], .slice A1 l1.length c1] w fun e w' => e = .returned (.bool r) ∧ Below w.heap.size w w' := by
 have hu24 := Try.underlying24
 have hu29 := Try.underlying29
 have HR0_3 := aM hr0_3
 have HC0_3 := aM hc0_3
 clear hr0_3 hc0_3
 have HR1 := aM hr1
 have HC1 := aM hc1
 clear hr1 hc1
 have HB := aM (Below.refl w.heap.size w)
 unfold laws_FnExactIndexImage.f at h
 have H := h
 clear h
 replace H := Option.bind_eq_some_iff.mp H
 obtain ⟨t663, A30, H⟩ := H
 replace H : (if t663 < 0 then (some true) else ((laws_szIntSS.f k l1 t663).bind fun t664 => (if t664 < 0 then (some true) else ((laws_toImage.f k a0_0 a0_1 a0_2 l0_3).bind fun bt665 => ((laws_toIntSS.f k l1).bind fun t671 => ((spec_IndexImage.f k bt665.1 bt665.2.1 bt665.2.2.1 bt665.2.2.2 t671).bind fun bt674 => ((laws_toImage.f k a0_0 a0_1 a0_2 l0_3).bind fun bt682 => ((laws_toIntSS.f k l1).bind fun t689 => ((impl_IndexImage.f bt682.1 bt682.2.1 bt682.2.2.1 bt682.2.2.2 t689).bind fun bt692 => ((laws_eqImage.f k bt692.1 bt692.2.1 bt692.2.2.1 bt692.2.2.2.1 bt674.1 bt674.2.1 bt674.2.2.1 bt674.2.2.2.1).bind fun t700 => (if t700 = true then (laws_FnExactIndexImage.j0 k l1 bt674.2.2.2.2 t689 bt692.2.2.2.2 (bt692.2.2.2.2 != bt674.2.2.2.2) a0_0 a0_1 a0_2 l0_3 bt674.1 bt674.2.1 bt674.2.2.1 bt674.2.2.2.1 bt682.1 bt682.2.1 bt682.2.2.1 bt682.2.2.2 bt692.1 bt692.2.1 bt692.2.2.1 bt692.2.2.2.1) else (laws_FnExactIndexImage.j0 k l1 bt674.2.2.2.2 t689 bt692.2.2.2.2 true a0_0 a0_1 a0_2 l0_3 bt674.1 bt674.2.1 bt674.2.2.1 bt674.2.2.2.1 bt682.1 bt682.2.1 bt682.2.2.1 bt682.2.2.2 bt692.1 bt692.2.1 bt692.2.2.1 bt692.2.2.2.1)))))))))))) = some r := H
 have A3 := aM A30
 clear A30
 by_cases c4 : t663 < 0
 ·rw [if_pos c4] at H
  have c4b0 : decide (t663 < 0) = true := decide_eq_true c4
  clear c4
  obtain rfl := Option.some.inj H
  go_enter Try.func7, Try.ntmps7
  go_wp2_with (first | ((with_reducible refine gate_dst (N := 2) rfl ?_); refine bxE (N := 2) (cs := #[.int .i64 a0_0, .int .i64 a0_1, .int .i64 a0_2, .slice A0_3 l0_3.length c0_3]) (t := 24) ?_; intro gb662 hg w5 hbox hb; have BK662 := aM (hbox); have GW662 := gW hg HB; have GE662 := gW hg HB; replace HB := bS HB hb; clear hb hbox hg; obtain ⟨⟨hcz6_0, hcz6_1, hcz6_2, hcz6_3⟩, hfz6_0, hfz6_1, hfz6_2, hfz6_3⟩ := cf4 BK662) | ((with_reducible refine gate_callee (f := 12) rfl ?_); refine gL (some 19) Try.func12 #[.agg #[.int .i64 a0_0, .int .i64 a0_1, .int .i64 a0_2, .slice A0_3 l0_3.length c0_3], .int .i64 1048576] ?_; (with_reducible refine (laws_szImage.calls a0_0 a0_1 a0_2 _ _ l0_3 1048576 t663 _ ?side1 ?side2 A3.out).mono ?_); (case side1 => exact qC (Kd.C_below HR0_3.out HB.out)); (case side2 => exact HC0_3.out); rintro e w7 ⟨rfl, hb⟩; refine ⟨_, rfl, ?_⟩; replace BK662 := bB BK662 hb; replace HB := bS HB hb; clear hb))
  go_ret
  exact ⟨qX, by exact qW HB.out⟩
 rw [if_neg c4] at H
 have c4b0 : decide (t663 < 0) = false := decide_eq_false c4
 clear c4
 replace H := Option.bind_eq_some_iff.mp H
 obtain ⟨t664, A80, H⟩ := H
 replace H : (if t664 < 0 then (some true) else ((laws_toImage.f k a0_0 a0_1 a0_2 l0_3).bind fun bt665 => ((laws_toIntSS.f k l1).bind fun t671 => ((spec_IndexImage.f k bt665.1 bt665.2.1 bt665.2.2.1 bt665.2.2.2 t671).bind fun bt674 => ((laws_toImage.f k a0_0 a0_1 a0_2 l0_3).bind fun bt682 => ((laws_toIntSS.f k l1).bind fun t689 => ((impl_IndexImage.f bt682.1 bt682.2.1 bt682.2.2.1 bt682.2.2.2 t689).bind fun bt692 => ((laws_eqImage.f k bt692.1 bt692.2.1 bt692.2.2.1 bt692.2.2.2.1 bt674.1 bt674.2.1 bt674.2.2.1 bt674.2.2.2.1).bind fun t700 => (if t700 = true then (laws_FnExactIndexImage.j0 k l1 bt674.2.2.2.2 t689 bt692.2.2.2.2 (bt692.2.2.2.2 != bt674.2.2.2.2) a0_0 a0_1 a0_2 l0_3 bt674.1 bt674.2.1 bt674.2.2.1 bt674.2.2.2.1 bt682.1 bt682.2.1 bt682.2.2.1 bt682.2.2.2 bt692.1 bt692.2.1 bt692.2.2.1 bt692.2.2.2.1) else (laws_FnExactIndexImage.j0 k l1 bt674.2.2.2.2 t689 bt692.2.2.2.2 true a0_0 a0_1 a0_2 l0_3 bt674.1 bt674.2.1 bt674.2.2.1 bt674.2.2.2.1 bt682.1 bt682.2.1 bt682.2.2.1 bt682.2.2.2 bt692.1 bt692.2.1 bt692.2.2.1 bt692.2.2.2.1)))))))))) = some r := H
 have A8 := aM A80
 clear A80
 by_cases c9 : t664 < 0
 ·rw [if_pos c9] at H
  have c9b0 : decide (t664 < 0) = true := decide_eq_true c9
  clear c9
  obtain rfl := Option.some.inj H
  go_enter Try.func7, Try.ntmps7
  go_wp2_with (first | ((with_reducible refine gate_dst (N := 2) rfl ?_); refine bxE (N := 2) (cs := #[.int .i64 a0_0, .int .i64 a0_1, .int .i64 a0_2, .slice A0_3 l0_3.length c0_3]) (t := 24) ?_; intro gb662 hg w10 hbox hb; have BK662 := aM (hbox); have GW662 := gW hg HB; have GE662 := gW hg HB; replace HB := bS HB hb; clear hb hbox hg; obtain ⟨⟨hcz11_0, hcz11_1, hcz11_2, hcz11_3⟩, hfz11_0, hfz11_1, hfz11_2, hfz11_3⟩ := cf4 BK662) | ((with_reducible refine gate_callee (f := 12) rfl ?_); refine gL (some 19) Try.func12 #[.agg #[.int .i64 a0_0, .int .i64 a0_1, .int .i64 a0_2, .slice A0_3 l0_3.length c0_3], .int .i64 1048576] ?_; (with_reducible refine (laws_szImage.calls a0_0 a0_1 a0_2 _ _ l0_3 1048576 t663 _ ?side1 ?side2 A3.out).mono ?_); (case side1 => exact qC (Kd.C_below HR0_3.out HB.out)); (case side2 => exact HC0_3.out); rintro e w12 ⟨rfl, hb⟩; refine ⟨_, rfl, ?_⟩; replace BK662 := bB BK662 hb; replace HB := bS HB hb; clear hb) | ((with_reducible refine gate_callee (f := 28) rfl ?_); refine gL (some 24) Try.func28 #[.slice A1 l1.length c1, .int .i64 t663] ?_; (with_reducible refine (laws_szIntSS.calls k _ _ l1 t663 t664 _ ?side1 ?side2 A8.out).mono ?_); (case side1 => exact qC (Kd.C_below HR1.out HB.out)); (case side2 => exact HC1.out); rintro e w' ⟨rfl, ⟨nd, rfl⟩⟩; refine ⟨_, rfl, ?_⟩))
  go_ret
  exact ⟨qX, by exact qW HB.out⟩
 rw [if_neg c9] at H
 have c9b0 : decide (t664 < 0) = false := decide_eq_false c9
 clear c9
 replace H := Option.bind_eq_some_iff.mp H
 obtain ⟨⟨t665, t666, t667, t668⟩, A130, H⟩ := H
 replace H : ((laws_toIntSS.f k l1).bind fun t671 => ((spec_IndexImage.f k t665 t666 t667 t668 t671).bind fun bt674 => ((laws_toImage.f k a0_0 a0_1 a0_2 l0_3).bind fun bt682 => ((laws_toIntSS.f k l1).bind fun t689 => ((impl_IndexImage.f bt682.1 bt682.2.1 bt682.2.2.1 bt682.2.2.2 t689).bind fun bt692 => ((laws_eqImage.f k bt692.1 bt692.2.1 bt692.2.2.1 bt692.2.2.2.1 bt674.1 bt674.2.1 bt674.2.2.1 bt674.2.2.2.1).bind fun t700 => (if t700 = true then (laws_FnExactIndexImage.j0 k l1 bt674.2.2.2.2 t689 bt692.2.2.2.2 (bt692.2.2.2.2 != bt674.2.2.2.2) a0_0 a0_1 a0_2 l0_3 bt674.1 bt674.2.1 bt674.2.2.1 bt674.2.2.2.1 bt682.1 bt682.2.1 bt682.2.2.1 bt682.2.2.2 bt692.1 bt692.2.1 bt692.2.2.1 bt692.2.2.2.1) else (laws_FnExactIndexImage.j0 k l1 bt674.2.2.2.2 t689 bt692.2.2.2.2 true a0_0 a0_1 a0_2 l0_3 bt674.1 bt674.2.1 bt674.2.2.1 bt674.2.2.2.1 bt682.1 bt682.2.1 bt682.2.2.1 bt682.2.2.2 bt692.1 bt692.2.1 bt692.2.2.1 bt692.2.2.2.1)))))))) = some r := H
 have A13 := aM A130
 clear A130
 replace H := Option.bind_eq_some_iff.mp H
 obtain ⟨t671, A140, H⟩ := H
 replace H : ((spec_IndexImage.f k t665 t666 t667 t668 t671).bind fun bt674 => ((laws_toImage.f k a0_0 a0_1 a0_2 l0_3).bind fun bt682 => ((laws_toIntSS.f k l1).bind fun t689 => ((impl_IndexImage.f bt682.1 bt682.2.1 bt682.2.2.1 bt682.2.2.2 t689).bind fun bt692 => ((laws_eqImage.f k bt692.1 bt692.2.1 bt692.2.2.1 bt692.2.2.2.1 bt674.1 bt674.2.1 bt674.2.2.1 bt674.2.2.2.1).bind fun t700 => (if t700 = true then (laws_FnExactIndexImage.j0 k l1 bt674.2.2.2.2 t689 bt692.2.2.2.2 (bt692.2.2.2.2 != bt674.2.2.2.2) a0_0 a0_1 a0_2 l0_3 bt674.1 bt674.2.1 bt674.2.2.1 bt674.2.2.2.1 bt682.1 bt682.2.1 bt682.2.2.1 bt682.2.2.2 bt692.1 bt692.2.1 bt692.2.2.1 bt692.2.2.2.1) else (laws_FnExactIndexImage.j0 k l1 bt674.2.2.2.2 t689 bt692.2.2.2.2 true a0_0 a0_1 a0_2 l0_3 bt674.1 bt674.2.1 bt674.2.2.1 bt674.2.2.2.1 bt682.1 bt682.2.1 bt682.2.2.1 bt682.2.2.2 bt692.1 bt692.2.1 bt692.2.2.1 bt692.2.2.2.1))))))) = some r := H
 have A14 := aM A140
 clear A140
 replace H := Option.bind_eq_some_iff.mp H
 obtain ⟨⟨t674, t675, t676, t677, t680⟩, A150, H⟩ := H
 replace H : ((laws_toImage.f k a0_0 a0_1 a0_2 l0_3).bind fun bt682 => ((laws_toIntSS.f k l1).bind fun t689 => ((impl_IndexImage.f bt682.1 bt682.2.1 bt682.2.2.1 bt682.2.2.2 t689).bind fun bt692 => ((laws_eqImage.f k bt692.1 bt692.2.1 bt692.2.2.1 bt692.2.2.2.1 t674 t675 t676 t677).bind fun t700 => (if t700 = true then (laws_FnExactIndexImage.j0 k l1 t680 t689 bt692.2.2.2.2 (bt692.2.2.2.2 != t680) a0_0 a0_1 a0_2 l0_3 t674 t675 t676 t677 bt682.1 bt682.2.1 bt682.2.2.1 bt682.2.2.2 bt692.1 bt692.2.1 bt692.2.2.1 bt692.2.2.2.1) else (laws_FnExactIndexImage.j0 k l1 t680 t689 bt692.2.2.2.2 true a0_0 a0_1 a0_2 l0_3 t674 t675 t676 t677 bt682.1 bt682.2.1 bt682.2.2.1 bt682.2.2.2 bt692.1 bt692.2.1 bt692.2.2.1 bt692.2.2.2.1)))))) = some r := H
 have A15 := aM A150
 clear A150
 replace H := Option.bind_eq_some_iff.mp H
 obtain ⟨⟨t682, t683, t684, t685⟩, A160, H⟩ := H
 replace H : ((laws_toIntSS.f k l1).bind fun t689 => ((impl_IndexImage.f t682 t683 t684 t685 t689).bind fun bt692 => ((laws_eqImage.f k bt692.1 bt692.2.1 bt692.2.2.1 bt692.2.2.2.1 t674 t675 t676 t677).bind fun t700 => (if t700 = true then (laws_FnExactIndexImage.j0 k l1 t680 t689 bt692.2.2.2.2 (bt692.2.2.2.2 != t680) a0_0 a0_1 a0_2 l0_3 t674 t675 t676 t677 t682 t683 t684 t685 bt692.1 bt692.2.1 bt692.2.2.1 bt692.2.2.2.1) else (laws_FnExactIndexImage.j0 k l1 t680 t689 bt692.2.2.2.2 true a0_0 a0_1 a0_2 l0_3 t674 t675 t676 t677 t682 t683 t684 t685 bt692.1 bt692.2.1 bt692.2.2.1 bt692.2.2.2.1))))) = some r := H
 have A16 := aM A160
 clear A160
 replace H := Option.bind_eq_some_iff.mp H
 obtain ⟨t689, A170, H⟩ := H
 replace H : ((impl_IndexImage.f t682 t683 t684 t685 t689).bind fun bt692 => ((laws_eqImage.f k bt692.1 bt692.2.1 bt692.2.2.1 bt692.2.2.2.1 t674 t675 t676 t677).bind fun t700 => (if t700 = true then (laws_FnExactIndexImage.j0 k l1 t680 t689 bt692.2.2.2.2 (bt692.2.2.2.2 != t680) a0_0 a0_1 a0_2 l0_3 t674 t675 t676 t677 t682 t683 t684 t685 bt692.1 bt692.2.1 bt692.2.2.1 bt692.2.2.2.1) else (laws_FnExactIndexImage.j0 k l1 t680 t689 bt692.2.2.2.2 true a0_0 a0_1 a0_2 l0_3 t674 t675 t676 t677 t682 t683 t684 t685 bt692.1 bt692.2.1 bt692.2.2.1 bt692.2.2.2.1)))) = some r := H
 have A17 := aM A170
 clear A170
 replace H := Option.bind_eq_some_iff.mp H
 obtain ⟨⟨t692, t693, t694, t695, t698⟩, A180, H⟩ := H
 replace H : ((laws_eqImage.f k t692 t693 t694 t695 t674 t675 t676 t677).bind fun t700 => (if t700 = true then (laws_FnExactIndexImage.j0 k l1 t680 t689 t698 (t698 != t680) a0_0 a0_1 a0_2 l0_3 t674 t675 t676 t677 t682 t683 t684 t685 t692 t693 t694 t695) else (laws_FnExactIndexImage.j0 k l1 t680 t689 t698 true a0_0 a0_1 a0_2 l0_3 t674 t675 t676 t677 t682 t683 t684 t685 t692 t693 t694 t695))) = some r := H
 have A18 := aM A180
 clear A180
 have HC19 := aM H
 clear H
 go_enter Try.func7, Try.ntmps7
 go_upto_region 12 with (first | ((with_reducible refine gate_dst (N := 2) rfl ?_); refine bxE (N := 2) (cs := #[.int .i64 a0_0, .int .i64 a0_1, .int .i64 a0_2, .slice A0_3 l0_3.length c0_3]) (t := 24) ?_; intro gb662 hg w20 hbox hb; have BK662 := aM (hbox); have GW662 := gW hg HB; have GE662 := gW hg HB; replace HB := bS HB hb; clear hb hbox hg; obtain ⟨⟨hcz21_0, hcz21_1, hcz21_2, hcz21_3⟩, hfz21_0, hfz21_1, hfz21_2, hfz21_3⟩ := cf4 BK662) | ((with_reducible refine gate_callee (f := 12) rfl ?_); refine gL (some 19) Try.func12 #[.agg #[.int .i64 a0_0, .int .i64 a0_1, .int .i64 a0_2, .slice A0_3 l0_3.length c0_3], .int .i64 1048576] ?_; (with_reducible refine (laws_szImage.calls a0_0 a0_1 a0_2 _ _ l0_3 1048576 t663 _ ?side1 ?side2 A3.out).mono ?_); (case side1 => exact qC (Kd.C_below HR0_3.out HB.out)); (case side2 => exact HC0_3.out); rintro e w22 ⟨rfl, hb⟩; refine ⟨_, rfl, ?_⟩; replace BK662 := bB BK662 hb; replace HB := bS HB hb; clear hb) | ((with_reducible refine gate_callee (f := 28) rfl ?_); refine gL (some 24) Try.func28 #[.slice A1 l1.length c1, .int .i64 t663] ?_; (with_reducible refine (laws_szIntSS.calls k _ _ l1 t663 t664 _ ?side1 ?side2 A8.out).mono ?_); (case side1 => exact qC (Kd.C_below HR1.out HB.out)); (case side2 => exact HC1.out); rintro e w' ⟨rfl, ⟨nd, rfl⟩⟩; refine ⟨_, rfl, ?_⟩; (try (rw [drewN_self w22]; generalize hq_ : World.drewN w22 _ = w22; replace BK662 : Aside0 (w22.heap[gb662]? = some (.cells #[.int .i64 a0_0, .int .i64 a0_1, .int .i64 a0_2, .slice A0_3 l0_3.length c0_3] 24 (0, 0))) := ⟨by rw [← hq_]; exact (qB BK662.out)⟩; replace HB : Aside0 (Below w.heap.size w w22) := ⟨by rw [← hq_]; exact (qW HB.out)⟩; clear hq_)); obtain ⟨⟨hcz23_0, hcz23_1, hcz23_2, hcz23_3⟩, hfz23_0, hfz23_1, hfz23_2, hfz23_3⟩ := cf4 BK662) | ((with_reducible refine gate_callee (f := 14) rfl ?_); refine gL (some 29) Try.func14 #[.agg #[.int .i64 a0_0, .int .i64 a0_1, .int .i64 a0_2, .slice A0_3 l0_3.length c0_3]] ?_; (with_reducible refine (laws_toImage.calls k a0_0 a0_1 a0_2 _ _ l0_3 t665 t666 t667 t668 _ ?side1 ?side2 A13.out).mono ?_); (case side1 => exact qC (Kd.C_below HR0_3.out HB.out)); (case side2 => exact HC0_3.out); rintro e w24 ⟨v669, rfl, ho0, hb⟩; refine ⟨_, rfl, ?_⟩; have HO670 := oR ho0 HB; replace BK662 := bB BK662 hb; replace HB := bS HB hb; clear hb ho0) | ((with_reducible refine gate_callee (f := 30) rfl ?_); refine gL (some 31) Try.func30 #[.slice A1 l1.length c1] ?_; (with_reducible refine (laws_toIntSS.calls k _ _ l1 t671 _ ?side1 ?side2 A14.out).mono ?_); (case side1 => exact qC (Kd.C_below HR1.out HB.out)); (case side2 => exact HC1.out); rintro e w25 ⟨v672, rfl, ho0, hb⟩; refine ⟨_, rfl, ?_⟩; have HO673 := aM (Kd.S_lower (Kd.S_new' ho0 (Kd.R_lt (qR HO670.out))) (below_size (qW HB.out))); replace HO670 := aM (Kd.R_below (qR HO670.out) hb); replace BK662 := bB BK662 hb; replace HB := bS HB hb; clear hb ho0; obtain ⟨Ao26, co26, rfl⟩ := sL HO670; obtain ⟨Ao27, co27, eo27⟩ := Kd.S_slice HO673.out; subst eo27) | ((with_reducible refine gate_callee (f := 33) rfl ?_); refine gL (some 32) Try.func33 #[.agg #[.int .i64 t665, .int .i64 t666, .int .i64 t667, .slice Ao26 t668.length co26], .slice Ao27 t671.length co27] ?_; (with_reducible refine (spec_IndexImage.calls k t665 t666 t667 _ _ t668 _ _ t671 t674 t675 t676 t677 t680 _ ?side1 ?side2 ?side3 ?side4 A15.out).mono ?_); (case side1 => exact qC (Kd.R_reads' HO670.out).2.2); (case side2 => exact (Kd.R_reads' HO670.out).2.1); (case side3 => exact qC (Kd.S_reads' HO673.out).2.2); (case side4 => exact (Kd.S_reads' HO673.out).2.1); rintro e w28 ⟨v678, rfl, ho0, hb⟩; refine ⟨_, rfl, ?_⟩; replace HO673 := aM (Kd.S_elder' (by (with_reducible repeat (first | apply Kd.S_alloc | apply Kd.S_drewN | apply Kd.S_drew)); exact HO673.out) (Kd.R_base ho0) hb); have HO679 := nR ho0 HO670 HB; replace HO670 := aM (Kd.R_elder' (qR HO670.out) (Kd.R_base ho0) hb); replace BK662 := bB BK662 hb; replace HB := bS HB hb; clear hb ho0) | ((with_reducible refine gate_dst (N := 6) rfl ?_); refine bxE (N := 6) (cs := #[.int .i64 0, .int .i64 0, .int .i64 0, .slice none 0 0]) (t := 29) ?_; intro gb681 hg w29 hbox hb; replace HO670 := aM (Kd.R_below (qR HO670.out) hb); replace HO673 := aM (Kd.S_below (by (with_reducible repeat (first | apply Kd.S_alloc | apply Kd.S_drewN | apply Kd.S_drew)); exact HO673.out) hb); replace HO679 := aM (Kd.R_below (qR HO679.out) hb); have BK681 := aM (hbox); have GW681 := gW hg HB; have GE681 := gW hg HB; replace HB := bS HB hb; have NB662_681 := nL hg BK662; have NB681_662 := nG hg BK662; replace BK662 := bB BK662 hb; clear hb hbox hg; have hnb30 := NB681_662.out; have hnc30 := NB662_681.out; obtain ⟨⟨hcz31_0, hcz31_1, hcz31_2, hcz31_3⟩, hfz31_0, hfz31_1, hfz31_2, hfz31_3⟩ := cf4 BK681; obtain ⟨Ao32, co32, rfl⟩ := sL HO679; obtain ⟨⟨hcz33_0, hcz33_1, hcz33_2, hcz33_3⟩, hfz33_0, hfz33_1, hfz33_2, hfz33_3⟩ := cf4 BK662) | ((with_reducible refine gate_callee (f := 14) rfl ?_); refine gL (some 36) Try.func14 #[.agg #[.int .i64 a0_0, .int .i64 a0_1, .int .i64 a0_2, .slice A0_3 l0_3.length c0_3]] ?_; (with_reducible refine (laws_toImage.calls k a0_0 a0_1 a0_2 _ _ l0_3 t682 t683 t684 t685 _ ?side1 ?side2 A16.out).mono ?_); (case side1 => exact Kd.C_below HR0_3.out (qW HB.out)); (case side2 => exact HC0_3.out); rintro e w34 ⟨v686, rfl, ho0, hb⟩; refine ⟨_, rfl, ?_⟩; replace HO673 := aM (Kd.S_elder' (by (with_reducible repeat (first | apply Kd.S_alloc | apply Kd.S_drewN | apply Kd.S_drew)); exact (Kd.S_mono (Kd.S_far (p := ⟨gb681, 3, none⟩) (Kd.S_far (p := ⟨gb681, 2, none⟩) (Kd.S_far (p := ⟨gb681, 1, none⟩) (Kd.S_far (p := ⟨gb681, 0, none⟩) (Kd.S_types HO673.out BK681.out (by decide)) (fun _ hk => hk.2) (.int .i64 t674)) (fun _ hk => hk.2) (.int .i64 t675)) (fun _ hk => hk.2) (.int .i64 t676)) (fun _ hk => hk.2) (.slice Ao32 t677.length co32)) (fun _ h_ => h_.1))) (Kd.R_base ho0) hb); have HO687 := aM (Kd.R_lower (Kd.R_new' (Kd.R_new' ho0 (Kd.R_lt (by refine qR ?_; exact (fr4 HO670 BK681)))) (Kd.R_lt (by refine qR ?_; exact (fr4 HO679 BK681)))) (below_size (qW HB.out))); replace HO670 := aM (Kd.R_elder' (by refine qR ?_; exact (fr4 HO670 BK681)) (Kd.R_base ho0) hb); replace HO679 := aM (Kd.R_elder' (by refine qR ?_; exact (fr4 HO679 BK681)) (Kd.R_base ho0) hb); replace BK662 := aM (blk_below (g := gb662) (o := .cells #[.int .i64 a0_0, .int .i64 a0_1, .int .i64 a0_2, .slice A0_3 l0_3.length c0_3] 24 (0, 0)) (by refine qB ?_; refine blk_far ?_ NB662_681.out _; refine qB ?_; refine blk_far ?_ NB662_681.out _; refine qB ?_; refine blk_far ?_ NB662_681.out _; refine qB ?_; refine blk_far ?_ NB662_681.out _; refine qB ?_; exact BK662.out) hb); replace BK681 := aM (blk_below (g := gb681) (o := .cells #[.int .i64 t674, .int .i64 t675, .int .i64 t676, .slice Ao32 t677.length co32] 29 (0, 0)) (by exact bP BK681.out) hb); replace HB := bS HB hb; clear hb ho0) | ((with_reducible refine gate_dst (N := 8) rfl ?_); refine bxE (N := 8) (cs := #[.int .i64 0, .int .i64 0, .int .i64 0, .slice none 0 0]) (t := 29) ?_; intro gb688 hg w35 hbox hb; replace HO670 := aM (Kd.R_below (qR HO670.out) hb); replace HO673 := aM (Kd.S_below (by (with_reducible repeat (first | apply Kd.S_alloc | apply Kd.S_drewN | apply Kd.S_drew)); exact HO673.out) hb); replace HO679 := aM (Kd.R_below (qR HO679.out) hb); replace HO687 := aM (Kd.R_below (qR HO687.out) hb); have BK688 := aM (hbox); have GW688 := gW hg HB; have GE688 := gW hg HB; replace HB := bS HB hb; have NB662_688 := nL hg BK662; have NB688_662 := nG hg BK662; replace BK662 := bB BK662 hb; have NB681_688 := nL hg BK681; have NB688_681 := nG hg BK681; replace BK681 := bB BK681 hb; clear hb hbox hg; have hnb36 := NB688_662.out; have hnc36 := NB662_688.out; have hnb37 := NB688_681.out; have hnc37 := NB681_688.out; obtain ⟨⟨hcz38_0, hcz38_1, hcz38_2, hcz38_3⟩, hfz38_0, hfz38_1, hfz38_2, hfz38_3⟩ := cf4 BK688; obtain ⟨Ao39, co39, rfl⟩ := sL HO687) | ((with_reducible refine gate_callee (f := 30) rfl ?_); refine gL (some 38) Try.func30 #[.slice A1 l1.length c1] ?_; (with_reducible refine (laws_toIntSS.calls k _ _ l1 t689 _ ?side1 ?side2 A17.out).mono ?_); (case side1 => exact Kd.C_below HR1.out (qW HB.out)); (case side2 => exact HC1.out); rintro e w40 ⟨v690, rfl, ho0, hb⟩; refine ⟨_, rfl, ?_⟩; have HO691 := aM (Kd.S_lower (Kd.S_new' (Kd.S_new' (Kd.S_new' (Kd.S_new' ho0 (Kd.R_lt (by refine qR ?_; exact (fr4 HO670 BK688)))) (Kd.S_lt (by (with_reducible repeat (first | apply Kd.S_alloc | apply Kd.S_drewN | apply Kd.S_drew)); exact (Kd.S_mono (Kd.S_far (p := ⟨gb688, 3, none⟩) (Kd.S_far (p := ⟨gb688, 2, none⟩) (Kd.S_far (p := ⟨gb688, 1, none⟩) (Kd.S_far (p := ⟨gb688, 0, none⟩) (Kd.S_types HO673.out BK688.out (by decide)) (fun _ hk => hk.2) (.int .i64 t682)) (fun _ hk => hk.2) (.int .i64 t683)) (fun _ hk => hk.2) (.int .i64 t684)) (fun _ hk => hk.2) (.slice Ao39 t685.length co39)) (fun _ h_ => h_.1))))) (Kd.R_lt (by refine qR ?_; exact (fr4 HO679 BK688)))) (Kd.R_lt (by refine qR ?_; exact (fr4 HO687 BK688)))) (below_size (qW HB.out))); replace HO670 := aM (Kd.R_below (by refine qR ?_; exact (fr4 HO670 BK688)) hb); replace HO673 := aM (Kd.S_elder' (by (with_reducible repeat (first | apply Kd.S_alloc | apply Kd.S_drewN | apply Kd.S_drew)); exact (Kd.S_mono (Kd.S_far (p := ⟨gb688, 3, none⟩) (Kd.S_far (p := ⟨gb688, 2, none⟩) (Kd.S_far (p := ⟨gb688, 1, none⟩) (Kd.S_far (p := ⟨gb688, 0, none⟩) (Kd.S_types HO673.out BK688.out (by decide)) (fun _ hk => hk.2) (.int .i64 t682)) (fun _ hk => hk.2) (.int .i64 t683)) (fun _ hk => hk.2) (.int .i64 t684)) (fun _ hk => hk.2) (.slice Ao39 t685.length co39)) (fun _ h_ => h_.1))) (Kd.S_base ho0) hb); replace HO679 := aM (Kd.R_below (by refine qR ?_; exact (fr4 HO679 BK688)) hb); replace HO687 := aM (Kd.R_below (by refine qR ?_; exact (fr4 HO687 BK688)) hb); replace BK662 := aM (blk_below (g := gb662) (o := .cells #[.int .i64 a0_0, .int .i64 a0_1, .int .i64 a0_2, .slice A0_3 l0_3.length c0_3] 24 (0, 0)) (by refine qB ?_; refine blk_far ?_ NB662_688.out _; refine qB ?_; refine blk_far ?_ NB662_688.out _; refine qB ?_; refine blk_far ?_ NB662_688.out _; refine qB ?_; refine blk_far ?_ NB662_688.out _; refine qB ?_; exact BK662.out) hb); replace BK681 := aM (blk_below (g := gb681) (o := .cells #[.int .i64 t674, .int .i64 t675, .int .i64 t676, .slice Ao32 t677.length co32] 29 (0, 0)) (by refine qB ?_; refine blk_far ?_ NB681_688.out _; refine qB ?_; refine blk_far ?_ NB681_688.out _; refine qB ?_; refine blk_far ?_ NB681_688.out _; refine qB ?_; refine blk_far ?_ NB681_688.out _; refine qB ?_; exact BK681.out) hb); replace BK688 := aM (blk_below (g := gb688) (o := .cells #[.int .i64 t682, .int .i64 t683, .int .i64 t684, .slice Ao39 t685.length co39] 29 (0, 0)) (by exact bP BK688.out) hb); replace HB := bS HB hb; clear hb ho0; obtain ⟨⟨hcz41_0, hcz41_1, hcz41_2, hcz41_3⟩, hfz41_0, hfz41_1, hfz41_2, hfz41_3⟩ := cf4 BK688; obtain ⟨Ao42, co42, eo42⟩ := Kd.S_slice HO691.out; subst eo42) | ((with_reducible refine gate_callee (f := 24) rfl ?_); refine gL (some 42) Try.func24 #[.agg #[.int .i64 t682, .int .i64 t683, .int .i64 t684, .slice Ao39 t685.length co39], .slice Ao42 t689.length co42] ?_; (with_reducible refine (impl_IndexImage.calls t682 t683 t684 _ _ t685 _ _ t689 t692 t693 t694 t695 t698 _ ?side1 ?side2 ?side3 ?side4 A18.out).mono ?_); (case side1 => exact qC (Kd.R_reads' HO687.out).2.2); (case side2 => exact (Kd.R_reads' HO687.out).2.1); (case side3 => exact qC (Kd.S_reads' HO691.out).2.2); (case side4 => exact (Kd.S_reads' HO691.out).2.1); rintro e w43 ⟨v696, rfl, ho0, hb⟩; refine ⟨_, rfl, ?_⟩; replace HO673 := aM (Kd.S_elder' (by (with_reducible repeat (first | apply Kd.S_alloc | apply Kd.S_drewN | apply Kd.S_drew)); exact HO673.out) (Kd.R_base ho0) hb); replace HO691 := aM (Kd.S_elder' (by (with_reducible repeat (first | apply Kd.S_alloc | apply Kd.S_drewN | apply Kd.S_drew)); exact HO691.out) (Kd.R_base ho0) hb); have HO697 := aM (Kd.R_lower (Kd.R_new' (Kd.R_new' (Kd.R_new' ho0 (Kd.R_lt (qR HO670.out))) (Kd.R_lt (qR HO679.out))) (Kd.R_lt (qR HO687.out))) (below_size (qW HB.out))); replace HO670 := aM (Kd.R_elder' (qR HO670.out) (Kd.R_base ho0) hb); replace HO679 := aM (Kd.R_elder' (qR HO679.out) (Kd.R_base ho0) hb); replace HO687 := aM (Kd.R_elder' (qR HO687.out) (Kd.R_base ho0) hb); replace BK662 := bB BK662 hb; replace BK681 := bB BK681 hb; replace BK688 := bB BK688 hb; replace HB := bS HB hb; clear hb ho0) | ((with_reducible refine gate_dst (N := 10) rfl ?_); refine bxE (N := 10) (cs := #[.int .i64 0, .int .i64 0, .int .i64 0, .slice none 0 0]) (t := 29) ?_; intro gb699 hg w44 hbox hb; replace HO670 := aM (Kd.R_below (qR HO670.out) hb); replace HO673 := aM (Kd.S_below (by (with_reducible repeat (first | apply Kd.S_alloc | apply Kd.S_drewN | apply Kd.S_drew)); exact HO673.out) hb); replace HO679 := aM (Kd.R_below (qR HO679.out) hb); replace HO687 := aM (Kd.R_below (qR HO687.out) hb); replace HO691 := aM (Kd.S_below (by (with_reducible repeat (first | apply Kd.S_alloc | apply Kd.S_drewN | apply Kd.S_drew)); exact HO691.out) hb); replace HO697 := aM (Kd.R_below (qR HO697.out) hb); have BK699 := aM (hbox); have GW699 := gW hg HB; have GE699 := gW hg HB; replace HB := bS HB hb; have NB662_699 := nL hg BK662; have NB699_662 := nG hg BK662; replace BK662 := bB BK662 hb; have NB681_699 := nL hg BK681; have NB699_681 := nG hg BK681; replace BK681 := bB BK681 hb; have NB688_699 := nL hg BK688; have NB699_688 := nG hg BK688; replace BK688 := bB BK688 hb; clear hb hbox hg; have hnb45 := NB699_662.out; have hnc45 := NB662_699.out; have hnb46 := NB699_681.out; have hnc46 := NB681_699.out; have hnb47 := NB699_688.out; have hnc47 := NB688_699.out; obtain ⟨⟨hcz48_0, hcz48_1, hcz48_2, hcz48_3⟩, hfz48_0, hfz48_1, hfz48_2, hfz48_3⟩ := cf4 BK699; obtain ⟨Ao49, co49, rfl⟩ := sL HO697))
 (try simp only [Act.put, List.setIfInBounds_toArray, List.set_cons_zero, List.set_cons_succ])
 go_cut [53] (fun v53 wc => ∃ (kq : Nat) (x53_18 : Bool), v53 = .bool x53_18 ∧ Aside0 (laws_FnExactIndexImage.j0 kq l1 t680 t689 t698 x53_18 a0_0 a0_1 a0_2 l0_3 t674 t675 t676 t677 t682 t683 t684 t685 t692 t693 t694 t695 = some r) ∧ Aside0 (kq ≤ k) ∧ Aside0 (Kd.S (Kd.slice 3 (Kd.int .i64)) 22 wc w.heap.size (fun k_ => some k_ ≠ ((.slice Ao32 t677.length co32) : Value).ownBlock ∧ some k_ ≠ ((.slice Ao39 t685.length co39) : Value).ownBlock ∧ some k_ ≠ ((.slice Ao49 t695.length co49) : Value).ownBlock) (.slice Ao42 t689.length co42) t689) ∧ Aside0 (Kd.R (Kd.int .i64) 3 wc w.heap.size (fun k_ => some k_ ≠ ((.slice Ao39 t685.length co39) : Value).ownBlock ∧ some k_ ≠ ((.slice Ao49 t695.length co49) : Value).ownBlock) (.slice Ao32 t677.length co32) t677) ∧ Aside0 (Kd.R (Kd.int .i64) 3 wc w.heap.size (fun k_ => some k_ ≠ ((.slice Ao32 t677.length co32) : Value).ownBlock ∧ some k_ ≠ ((.slice Ao49 t695.length co49) : Value).ownBlock) (.slice Ao39 t685.length co39) t685) ∧ Aside0 (Kd.R (Kd.int .i64) 3 wc w.heap.size (fun k_ => some k_ ≠ ((.slice Ao32 t677.length co32) : Value).ownBlock ∧ some k_ ≠ ((.slice Ao39 t685.length co39) : Value).ownBlock) (.slice Ao49 t695.length co49) t695) ∧ Aside0 (wc.heap[gb662]? = some (.cells #[.int .i64 a0_0, .int .i64 a0_1, .int .i64 a0_2, (.slice A0_3 l0_3.length c0_3)] 24 (0, 0))) ∧ Aside0 (wc.heap[gb681]? = some (.cells #[.int .i64 t674, .int .i64 t675, .int .i64 t676, (.slice Ao32 t677.length co32)] 29 (0, 0))) ∧ Aside0 (wc.heap[gb688]? = some (.cells #[.int .i64 t682, .int .i64 t683, .int .i64 t684, (.slice Ao39 t685.length co39)] 29 (0, 0))) ∧ Aside0 (wc.heap[gb699]? = some (.cells #[.int .i64 t692, .int .i64 t693, .int .i64 t694, (.slice Ao49 t695.length co49)] 29 (0, 0))) ∧ Aside0 (Below w.heap.size w wc))
 case first =>
  have H := HC19.out
  clear HC19
  replace H := Option.bind_eq_some_iff.mp H
  obtain ⟨t700, A500, H⟩ := H
  replace H : (if t700 = true then (laws_FnExactIndexImage.j0 k l1 t680 t689 t698 (t698 != t680) a0_0 a0_1 a0_2 l0_3 t674 t675 t676 t677 t682 t683 t684 t685 t692 t693 t694 t695) else (laws_FnExactIndexImage.j0 k l1 t680 t689 t698 true a0_0 a0_1 a0_2 l0_3 t674 t675 t676 t677 t682 t683 t684 t685 t692 t693 t694 t695)) = some r := H
  have A50 := aM A500
  clear A500
  by_cases c51 : t700 = true
  ·subst c51
   have H1 : (laws_FnExactIndexImage.j0 k l1 t680 t689 t698 (t698 != t680) a0_0 a0_1 a0_2 l0_3 t674 t675 t676 t677 t682 t683 t684 t685 t692 t693 t694 t695) = some r := by rw [if_pos rfl] at H; exact H
   clear H
   have H := H1
   clear H1
   have H' := aM H
   clear H
   have hnb52 := NB699_662.out
   have hnc52 := NB662_699.out
   have hnb53 := NB699_681.out
   have hnc53 := NB681_699.out
   have hnb54 := NB699_688.out
   have hnc54 := NB688_699.out
   obtain ⟨⟨hcz55_0, hcz55_1, hcz55_2, hcz55_3⟩, hfz55_0, hfz55_1, hfz55_2, hfz55_3⟩ := cf4 BK699
   have hnb56 := NB681_662.out
   have hnc56 := NB662_681.out
   have hnb57 := NB681_688.out
   have hnc57 := NB688_681.out
   obtain ⟨⟨hcz58_0, hcz58_1, hcz58_2, hcz58_3⟩, hfz58_0, hfz58_1, hfz58_2, hfz58_3⟩ := cf4 BK681
   go_wp2_with (first | ((with_reducible refine gate_callee (f := 17) rfl ?_); refine gL (some 47) Try.func17 #[.agg #[.int .i64 t692, .int .i64 t693, .int .i64 t694, .slice Ao49 t695.length co49], .agg #[.int .i64 t674, .int .i64 t675, .int .i64 t676, .slice Ao32 t677.length co32]] ?_; (with_reducible refine (laws_eqImage.calls k t692 t693 t694 _ _ t695 t674 t675 t676 _ _ t677 true _ ?side1 ?side2 ?side3 ?side4 A50.out).mono ?_); (case side1 => refine (Kd.R_reads' (e := 3) (base := w.heap.size) (ok := fun k_ => (((True ∧ some k_ ≠ (.slice Ao26 t668.length co26 : Value).ownBlock) ∧ some k_ ≠ (.slice Ao32 t677.length co32 : Value).ownBlock) ∧ some k_ ≠ (.slice Ao39 t685.length co39 : Value).ownBlock)) (n := t695.length) (c := co49) ?_).2.2; exact (by refine qR ?_; exact (fr4 HO697 BK699))); (case side2 => exact (Kd.R_reads' HO697.out).2.1); (case side3 => refine (Kd.R_reads' (e := 3) (base := w.heap.size) (ok := fun k_ => (((True ∧ some k_ ≠ (.slice Ao26 t668.length co26 : Value).ownBlock) ∧ some k_ ≠ (.slice Ao39 t685.length co39 : Value).ownBlock) ∧ some k_ ≠ (.slice Ao49 t695.length co49 : Value).ownBlock)) (n := t677.length) (c := co32) ?_).2.2; exact (by refine qR ?_; exact (fr4 HO679 BK699))); (case side4 => exact (Kd.R_reads' HO679.out).2.1); rintro e w59 ⟨rfl, hb⟩; refine ⟨_, rfl, ?_⟩; replace HO670 := aM (Kd.R_below (by refine qR ?_; exact (fr4 HO670 BK699)) hb); replace HO673 := aM (Kd.S_below (by (with_reducible repeat (first | apply Kd.S_alloc | apply Kd.S_drewN | apply Kd.S_drew)); exact (Kd.S_mono (Kd.S_far (p := ⟨gb699, 3, none⟩) (Kd.S_far (p := ⟨gb699, 2, none⟩) (Kd.S_far (p := ⟨gb699, 1, none⟩) (Kd.S_far (p := ⟨gb699, 0, none⟩) (Kd.S_types HO673.out BK699.out (by decide)) (fun _ hk => hk.2) (.int .i64 t692)) (fun _ hk => hk.2) (.int .i64 t693)) (fun _ hk => hk.2) (.int .i64 t694)) (fun _ hk => hk.2) (.slice Ao49 t695.length co49)) (fun _ h_ => h_.1))) hb); replace HO679 := aM (Kd.R_below (by refine qR ?_; exact (fr4 HO679 BK699)) hb); replace HO687 := aM (Kd.R_below (by refine qR ?_; exact (fr4 HO687 BK699)) hb); replace HO691 := aM (Kd.S_below (by (with_reducible repeat (first | apply Kd.S_alloc | apply Kd.S_drewN | apply Kd.S_drew)); exact (Kd.S_mono (Kd.S_far (p := ⟨gb699, 3, none⟩) (Kd.S_far (p := ⟨gb699, 2, none⟩) (Kd.S_far (p := ⟨gb699, 1, none⟩) (Kd.S_far (p := ⟨gb699, 0, none⟩) (Kd.S_types HO691.out BK699.out (by decide)) (fun _ hk => hk.2) (.int .i64 t692)) (fun _ hk => hk.2) (.int .i64 t693)) (fun _ hk => hk.2) (.int .i64 t694)) (fun _ hk => hk.2) (.slice Ao49 t695.length co49)) (fun _ h_ => h_.1))) hb); replace HO697 := aM (Kd.R_below (by refine qR ?_; exact (fr4 HO697 BK699)) hb); replace BK662 := aM (blk_below (g := gb662) (o := .cells #[.int .i64 a0_0, .int .i64 a0_1, .int .i64 a0_2, .slice A0_3 l0_3.length c0_3] 24 (0, 0)) (by refine qB ?_; refine blk_far ?_ NB662_699.out _; refine qB ?_; refine blk_far ?_ NB662_699.out _; refine qB ?_; refine blk_far ?_ NB662_699.out _; refine qB ?_; refine blk_far ?_ NB662_699.out _; refine qB ?_; exact BK662.out) hb); replace BK681 := aM (blk_below (g := gb681) (o := .cells #[.int .i64 t674, .int .i64 t675, .int .i64 t676, .slice Ao32 t677.length co32] 29 (0, 0)) (by refine qB ?_; refine blk_far ?_ NB681_699.out _; refine qB ?_; refine blk_far ?_ NB681_699.out _; refine qB ?_; refine blk_far ?_ NB681_699.out _; refine qB ?_; refine blk_far ?_ NB681_699.out _; refine qB ?_; exact BK681.out) hb); replace BK688 := aM (blk_below (g := gb688) (o := .cells #[.int .i64 t682, .int .i64 t683, .int .i64 t684, .slice Ao39 t685.length co39] 29 (0, 0)) (by refine qB ?_; refine blk_far ?_ NB688_699.out _; refine qB ?_; refine blk_far ?_ NB688_699.out _; refine qB ?_; refine blk_far ?_ NB688_699.out _; refine qB ?_; refine blk_far ?_ NB688_699.out _; refine qB ?_; exact BK688.out) hb); replace BK699 := aM (blk_below (g := gb699) (o := .cells #[.int .i64 t692, .int .i64 t693, .int .i64 t694, .slice Ao49 t695.length co49] 29 (0, 0)) (by exact bP BK699.out) hb); replace HB := bS HB hb; clear hb))
   go_meet
   case rel => exact ⟨_, ((t698 != t680)), qE, H', ⟨by first | omega | exact Nat.le_refl _⟩, ⟨by (with_reducible repeat (first | apply Kd.S_alloc | apply Kd.S_drewN | apply Kd.S_drew)); exact Kd.S_mono HO691.out (fun _ hk => ⟨hk.1.1.2, ⟨hk.1.2, hk.2⟩⟩)⟩, ⟨by refine qR ?_; exact Kd.R_mono HO679.out (fun _ hk => ⟨hk.1.2, hk.2⟩)⟩, ⟨by refine qR ?_; exact Kd.R_mono HO687.out (fun _ hk => ⟨hk.1.2, hk.2⟩)⟩, ⟨by refine qR ?_; exact Kd.R_mono HO697.out (fun _ hk => ⟨hk.1.2, hk.2⟩)⟩, ⟨by refine qB ?_; exact BK662.out⟩, ⟨by refine qB ?_; exact BK681.out⟩, ⟨by refine qB ?_; exact BK688.out⟩, ⟨by refine qB ?_; exact BK699.out⟩, ⟨by exact qW HB.out⟩⟩
  replace c51 := Bool.eq_false_iff.mpr c51
  subst c51
  have H1 : (laws_FnExactIndexImage.j0 k l1 t680 t689 t698 true a0_0 a0_1 a0_2 l0_3 t674 t675 t676 t677 t682 t683 t684 t685 t692 t693 t694 t695) = some r := by rw [if_neg (show ¬ (false = true) by decide)] at H; exact H
  clear H
  have H := H1
  clear H1
  have H' := aM H
  clear H
  have hnb60 := NB699_662.out
  have hnc60 := NB662_699.out
  have hnb61 := NB699_681.out
  have hnc61 := NB681_699.out
  have hnb62 := NB699_688.out
  have hnc62 := NB688_699.out
  obtain ⟨⟨hcz63_0, hcz63_1, hcz63_2, hcz63_3⟩, hfz63_0, hfz63_1, hfz63_2, hfz63_3⟩ := cf4 BK699
  have hnb64 := NB681_662.out
  have hnc64 := NB662_681.out
  have hnb65 := NB681_688.out
  have hnc65 := NB688_681.out
  obtain ⟨⟨hcz66_0, hcz66_1, hcz66_2, hcz66_3⟩, hfz66_0, hfz66_1, hfz66_2, hfz66_3⟩ := cf4 BK681
  go_wp2_with (first | ((with_reducible refine gate_callee (f := 17) rfl ?_); refine gL (some 47) Try.func17 #[.agg #[.int .i64 t692, .int .i64 t693, .int .i64 t694, .slice Ao49 t695.length co49], .agg #[.int .i64 t674, .int .i64 t675, .int .i64 t676, .slice Ao32 t677.length co32]] ?_; (with_reducible refine (laws_eqImage.calls k t692 t693 t694 _ _ t695 t674 t675 t676 _ _ t677 false _ ?side1 ?side2 ?side3 ?side4 A50.out).mono ?_); (case side1 => refine (Kd.R_reads' (e := 3) (base := w.heap.size) (ok := fun k_ => (((True ∧ some k_ ≠ (.slice Ao26 t668.length co26 : Value).ownBlock) ∧ some k_ ≠ (.slice Ao32 t677.length co32 : Value).ownBlock) ∧ some k_ ≠ (.slice Ao39 t685.length co39 : Value).ownBlock)) (n := t695.length) (c := co49) ?_).2.2; exact (by refine qR ?_; exact (fr4 HO697 BK699))); (case side2 => exact (Kd.R_reads' HO697.out).2.1); (case side3 => refine (Kd.R_reads' (e := 3) (base := w.heap.size) (ok := fun k_ => (((True ∧ some k_ ≠ (.slice Ao26 t668.length co26 : Value).ownBlock) ∧ some k_ ≠ (.slice Ao39 t685.length co39 : Value).ownBlock) ∧ some k_ ≠ (.slice Ao49 t695.length co49 : Value).ownBlock)) (n := t677.length) (c := co32) ?_).2.2; exact (by refine qR ?_; exact (fr4 HO679 BK699))); (case side4 => exact (Kd.R_reads' HO679.out).2.1); rintro e w67 ⟨rfl, hb⟩; refine ⟨_, rfl, ?_⟩; replace HO670 := aM (Kd.R_below (by refine qR ?_; exact (fr4 HO670 BK699)) hb); replace HO673 := aM (Kd.S_below (by (with_reducible repeat (first | apply Kd.S_alloc | apply Kd.S_drewN | apply Kd.S_drew)); exact (Kd.S_mono (Kd.S_far (p := ⟨gb699, 3, none⟩) (Kd.S_far (p := ⟨gb699, 2, none⟩) (Kd.S_far (p := ⟨gb699, 1, none⟩) (Kd.S_far (p := ⟨gb699, 0, none⟩) (Kd.S_types HO673.out BK699.out (by decide)) (fun _ hk => hk.2) (.int .i64 t692)) (fun _ hk => hk.2) (.int .i64 t693)) (fun _ hk => hk.2) (.int .i64 t694)) (fun _ hk => hk.2) (.slice Ao49 t695.length co49)) (fun _ h_ => h_.1))) hb); replace HO679 := aM (Kd.R_below (by refine qR ?_; exact (fr4 HO679 BK699)) hb); replace HO687 := aM (Kd.R_below (by refine qR ?_; exact (fr4 HO687 BK699)) hb); replace HO691 := aM (Kd.S_below (by (with_reducible repeat (first | apply Kd.S_alloc | apply Kd.S_drewN | apply Kd.S_drew)); exact (Kd.S_mono (Kd.S_far (p := ⟨gb699, 3, none⟩) (Kd.S_far (p := ⟨gb699, 2, none⟩) (Kd.S_far (p := ⟨gb699, 1, none⟩) (Kd.S_far (p := ⟨gb699, 0, none⟩) (Kd.S_types HO691.out BK699.out (by decide)) (fun _ hk => hk.2) (.int .i64 t692)) (fun _ hk => hk.2) (.int .i64 t693)) (fun _ hk => hk.2) (.int .i64 t694)) (fun _ hk => hk.2) (.slice Ao49 t695.length co49)) (fun _ h_ => h_.1))) hb); replace HO697 := aM (Kd.R_below (by refine qR ?_; exact (fr4 HO697 BK699)) hb); replace BK662 := aM (blk_below (g := gb662) (o := .cells #[.int .i64 a0_0, .int .i64 a0_1, .int .i64 a0_2, .slice A0_3 l0_3.length c0_3] 24 (0, 0)) (by refine qB ?_; refine blk_far ?_ NB662_699.out _; refine qB ?_; refine blk_far ?_ NB662_699.out _; refine qB ?_; refine blk_far ?_ NB662_699.out _; refine qB ?_; refine blk_far ?_ NB662_699.out _; refine qB ?_; exact BK662.out) hb); replace BK681 := aM (blk_below (g := gb681) (o := .cells #[.int .i64 t674, .int .i64 t675, .int .i64 t676, .slice Ao32 t677.length co32] 29 (0, 0)) (by refine qB ?_; refine blk_far ?_ NB681_699.out _; refine qB ?_; refine blk_far ?_ NB681_699.out _; refine qB ?_; refine blk_far ?_ NB681_699.out _; refine qB ?_; refine blk_far ?_ NB681_699.out _; refine qB ?_; exact BK681.out) hb); replace BK688 := aM (blk_below (g := gb688) (o := .cells #[.int .i64 t682, .int .i64 t683, .int .i64 t684, .slice Ao39 t685.length co39] 29 (0, 0)) (by refine qB ?_; refine blk_far ?_ NB688_699.out _; refine qB ?_; refine blk_far ?_ NB688_699.out _; refine qB ?_; refine blk_far ?_ NB688_699.out _; refine qB ?_; refine blk_far ?_ NB688_699.out _; refine qB ?_; exact BK688.out) hb); replace BK699 := aM (blk_below (g := gb699) (o := .cells #[.int .i64 t692, .int .i64 t693, .int .i64 t694, .slice Ao49 t695.length co49] 29 (0, 0)) (by exact bP BK699.out) hb); replace HB := bS HB hb; clear hb))
  go_meet
  case rel => exact ⟨_, (true), qE, H', ⟨by first | omega | exact Nat.le_refl _⟩, ⟨by (with_reducible repeat (first | apply Kd.S_alloc | apply Kd.S_drewN | apply Kd.S_drew)); exact Kd.S_mono HO691.out (fun _ hk => ⟨hk.1.1.2, ⟨hk.1.2, hk.2⟩⟩)⟩, ⟨by refine qR ?_; exact Kd.R_mono HO679.out (fun _ hk => ⟨hk.1.2, hk.2⟩)⟩, ⟨by refine qR ?_; exact Kd.R_mono HO687.out (fun _ hk => ⟨hk.1.2, hk.2⟩)⟩, ⟨by refine qR ?_; exact Kd.R_mono HO697.out (fun _ hk => ⟨hk.1.2, hk.2⟩)⟩, ⟨by refine qB ?_; exact BK662.out⟩, ⟨by refine qB ?_; exact BK681.out⟩, ⟨by refine qB ?_; exact BK688.out⟩, ⟨by refine qB ?_; exact BK699.out⟩, ⟨by exact qW HB.out⟩⟩
 case rest =>
  clear HC19
  try clear c1
  try clear c4
  try clear c4b0
  try clear c9
  try clear c9b0
  try clear c51
  try clear hcz11_0 hcz11_1 hcz11_2 hcz11_3 hfz11_0 hfz11_1 hfz11_2 hfz11_3
  try clear hcz21_0 hcz21_1 hcz21_2 hcz21_3 hfz21_0 hfz21_1 hfz21_2 hfz21_3
  try clear hcz23_0 hcz23_1 hcz23_2 hcz23_3 hfz23_0 hfz23_1 hfz23_2 hfz23_3
  try clear hcz31_0 hcz31_1 hcz31_2 hcz31_3 hfz31_0 hfz31_1 hfz31_2 hfz31_3
  try clear hcz33_0 hcz33_1 hcz33_2 hcz33_3 hfz33_0 hfz33_1 hfz33_2 hfz33_3
  try clear hcz38_0 hcz38_1 hcz38_2 hcz38_3 hfz38_0 hfz38_1 hfz38_2 hfz38_3
  try clear hcz41_0 hcz41_1 hcz41_2 hcz41_3 hfz41_0 hfz41_1 hfz41_2 hfz41_3
  try clear hcz48_0 hcz48_1 hcz48_2 hcz48_3 hfz48_0 hfz48_1 hfz48_2 hfz48_3
  try clear hcz55_0 hcz55_1 hcz55_2 hcz55_3 hfz55_0 hfz55_1 hfz55_2 hfz55_3
  try clear hcz58_0 hcz58_1 hcz58_2 hcz58_3 hfz58_0 hfz58_1 hfz58_2 hfz58_3
  try clear hcz63_0 hcz63_1 hcz63_2 hcz63_3 hfz63_0 hfz63_1 hfz63_2 hfz63_3
  try clear hcz66_0 hcz66_1 hcz66_2 hcz66_3 hfz66_0 hfz66_1 hfz66_2 hfz66_3
  try clear hcz6_0 hcz6_1 hcz6_2 hcz6_3 hfz6_0 hfz6_1 hfz6_2 hfz6_3
  obtain ⟨kq, x53_18, rfl, HA, HJ18, HO_9, HO_682003, HO_689003, HO_700003, BK662, BK681, BK688, BK699, HB⟩ := hcut
  cases kq with
  | zero => exact absurd HA.out (by simp [laws_FnExactIndexImage.j0])
  | succ kj18 =>
   have H := HA.out
   clear HA
   simp only [laws_FnExactIndexImage.j0] at H
   by_cases c68 : x53_18 = true
   ·subst c68
    have H1 : (some false) = some r := by rw [if_pos rfl] at H; exact H
    clear H
    have H := H1
    clear H1
    obtain rfl := Option.some.inj H
    exact absurd hrt (by decide)
   replace c68 := Bool.eq_false_iff.mpr c68
   subst c68
   have H1 : ((laws_toImage.f kj18 a0_0 a0_1 a0_2 l0_3).bind fun bt701 => ((laws_eqImage.f kj18 t682 t683 t684 t685 bt701.1 bt701.2.1 bt701.2.2.1 bt701.2.2.2).bind fun t707 => (if t707 = true then ((laws_toIntSS.f kj18 l1).bind fun t708 => ((laws_eqIntSS.f kj18 t689 t708).bind fun t711 => (if t711 = true then ((laws_markImage.f kj18 t682 t683 t684 t685 1).bind fun bt712 => ((laws_markIntSS.f kj18 t689 bt712.1).bind fun bt714 => (if bt714.1 < 0 then (laws_FnExactIndexImage.j1 kj18 l1 t680 true a0_0 a0_1 a0_2 l0_3 t674 t675 t676 t677 t692 t693 t694 t695) else ((laws_eqImage.f kj18 t692 t693 t694 t695 t674 t675 t676 t677).bind fun t716 => (if t716 = true then (laws_FnExactIndexImage.j1 kj18 l1 t680 (t698 != t680) a0_0 a0_1 a0_2 l0_3 t674 t675 t676 t677 t692 t693 t694 t695) else (laws_FnExactIndexImage.j1 kj18 l1 t680 true a0_0 a0_1 a0_2 l0_3 t674 t675 t676 t677 t692 t693 t694 t695)))))) else (some false)))) else (some false)))) = some r := by rw [if_neg (show ¬ (false = true) by decide)] at H; exact H
   clear H
   have H := H1
   clear H1
   replace H := Option.bind_eq_some_iff.mp H
   obtain ⟨⟨t701, t702, t703, t704⟩, A690, H⟩ := H
   replace H : ((laws_eqImage.f kj18 t682 t683 t684 t685 t701 t702 t703 t704).bind fun t707 => (if t707 = true then ((laws_toIntSS.f kj18 l1).bind fun t708 => ((laws_eqIntSS.f kj18 t689 t708).bind fun t711 => (if t711 = true then ((laws_markImage.f kj18 t682 t683 t684 t685 1).bind fun bt712 => ((laws_markIntSS.f kj18 t689 bt712.1).bind fun bt714 => (if bt714.1 < 0 then (laws_FnExactIndexImage.j1 kj18 l1 t680 true a0_0 a0_1 a0_2 l0_3 t674 t675 t676 t677 t692 t693 t694 t695) else ((laws_eqImage.f kj18 t692 t693 t694 t695 t674 t675 t676 t677).bind fun t716 => (if t716 = true then (laws_FnExactIndexImage.j1 kj18 l1 t680 (t698 != t680) a0_0 a0_1 a0_2 l0_3 t674 t675 t676 t677 t692 t693 t694 t695) else (laws_FnExactIndexImage.j1 kj18 l1 t680 true a0_0 a0_1 a0_2 l0_3 t674 t675 t676 t677 t692 t693 t694 t695)))))) else (some false)))) else (some false))) = some r := H
   have A69 := aM A690
   clear A690
   replace H := Option.bind_eq_some_iff.mp H
   obtain ⟨t707, A700, H⟩ := H
   replace H : (if t707 = true then ((laws_toIntSS.f kj18 l1).bind fun t708 => ((laws_eqIntSS.f kj18 t689 t708).bind fun t711 => (if t711 = true then ((laws_markImage.f kj18 t682 t683 t684 t685 1).bind fun bt712 => ((laws_markIntSS.f kj18 t689 bt712.1).bind fun bt714 => (if bt714.1 < 0 then (laws_FnExactIndexImage.j1 kj18 l1 t680 true a0_0 a0_1 a0_2 l0_3 t674 t675 t676 t677 t692 t693 t694 t695) else ((laws_eqImage.f kj18 t692 t693 t694 t695 t674 t675 t676 t677).bind fun t716 => (if t716 = true then (laws_FnExactIndexImage.j1 kj18 l1 t680 (t698 != t680) a0_0 a0_1 a0_2 l0_3 t674 t675 t676 t677 t692 t693 t694 t695) else (laws_FnExactIndexImage.j1 kj18 l1 t680 true a0_0 a0_1 a0_2 l0_3 t674 t675 t676 t677 t692 t693 t694 t695)))))) else (some false)))) else (some false)) = some r := H
   have A70 := aM A700
   clear A700
   by_cases c71 : t707 = true
   rotate_left
   ·replace c71 := Bool.eq_false_iff.mpr c71
    subst c71
    have H1 : (some false) = some r := by rw [if_neg (show ¬ (false = true) by decide)] at H; exact H
    clear H
    have H := H1
    clear H1
    obtain rfl := Option.some.inj H
    exact absurd hrt (by decide)
   subst c71
   have H1 : ((laws_toIntSS.f kj18 l1).bind fun t708 => ((laws_eqIntSS.f kj18 t689 t708).bind fun t711 => (if t711 = true then ((laws_markImage.f kj18 t682 t683 t684 t685 1).bind fun bt712 => ((laws_markIntSS.f kj18 t689 bt712.1).bind fun bt714 => (if bt714.1 < 0 then (laws_FnExactIndexImage.j1 kj18 l1 t680 true a0_0 a0_1 a0_2 l0_3 t674 t675 t676 t677 t692 t693 t694 t695) else ((laws_eqImage.f kj18 t692 t693 t694 t695 t674 t675 t676 t677).bind fun t716 => (if t716 = true then (laws_FnExactIndexImage.j1 kj18 l1 t680 (t698 != t680) a0_0 a0_1 a0_2 l0_3 t674 t675 t676 t677 t692 t693 t694 t695) else (laws_FnExactIndexImage.j1 kj18 l1 t680 true a0_0 a0_1 a0_2 l0_3 t674 t675 t676 t677 t692 t693 t694 t695)))))) else (some false)))) = some r := by rw [if_pos rfl] at H; exact H
   clear H
   have H := H1
   clear H1
   replace H := Option.bind_eq_some_iff.mp H
   obtain ⟨t708, A720, H⟩ := H
   replace H : ((laws_eqIntSS.f kj18 t689 t708).bind fun t711 => (if t711 = true then ((laws_markImage.f kj18 t682 t683 t684 t685 1).bind fun bt712 => ((laws_markIntSS.f kj18 t689 bt712.1).bind fun bt714 => (if bt714.1 < 0 then (laws_FnExactIndexImage.j1 kj18 l1 t680 true a0_0 a0_1 a0_2 l0_3 t674 t675 t676 t677 t692 t693 t694 t695) else ((laws_eqImage.f kj18 t692 t693 t694 t695 t674 t675 t676 t677).bind fun t716 => (if t716 = true then (laws_FnExactIndexImage.j1 kj18 l1 t680 (t698 != t680) a0_0 a0_1 a0_2 l0_3 t674 t675 t676 t677 t692 t693 t694 t695) else (laws_FnExactIndexImage.j1 kj18 l1 t680 true a0_0 a0_1 a0_2 l0_3 t674 t675 t676 t677 t692 t693 t694 t695)))))) else (some false))) = some r := H
   have A72 := aM A720
   clear A720
   replace H := Option.bind_eq_some_iff.mp H
   obtain ⟨t711, A730, H⟩ := H
   replace H : (if t711 = true then ((laws_markImage.f kj18 t682 t683 t684 t685 1).bind fun bt712 => ((laws_markIntSS.f kj18 t689 bt712.1).bind fun bt714 => (if bt714.1 < 0 then (laws_FnExactIndexImage.j1 kj18 l1 t680 true a0_0 a0_1 a0_2 l0_3 t674 t675 t676 t677 t692 t693 t694 t695) else ((laws_eqImage.f kj18 t692 t693 t694 t695 t674 t675 t676 t677).bind fun t716 => (if t716 = true then (laws_FnExactIndexImage.j1 kj18 l1 t680 (t698 != t680) a0_0 a0_1 a0_2 l0_3 t674 t675 t676 t677 t692 t693 t694 t695) else (laws_FnExactIndexImage.j1 kj18 l1 t680 true a0_0 a0_1 a0_2 l0_3 t674 t675 t676 t677 t692 t693 t694 t695)))))) else (some false)) = some r := H
   have A73 := aM A730
   clear A730
   by_cases c74 : t711 = true
   rotate_left
   ·replace c74 := Bool.eq_false_iff.mpr c74
    subst c74
    have H1 : (some false) = some r := by rw [if_neg (show ¬ (false = true) by decide)] at H; exact H
    clear H
    have H := H1
    clear H1
    obtain rfl := Option.some.inj H
    exact absurd hrt (by decide)
   subst c74
   have H1 : ((laws_markImage.f kj18 t682 t683 t684 t685 1).bind fun bt712 => ((laws_markIntSS.f kj18 t689 bt712.1).bind fun bt714 => (if bt714.1 < 0 then (laws_FnExactIndexImage.j1 kj18 l1 t680 true a0_0 a0_1 a0_2 l0_3 t674 t675 t676 t677 t692 t693 t694 t695) else ((laws_eqImage.f kj18 t692 t693 t694 t695 t674 t675 t676 t677).bind fun t716 => (if t716 = true then (laws_FnExactIndexImage.j1 kj18 l1 t680 (t698 != t680) a0_0 a0_1 a0_2 l0_3 t674 t675 t676 t677 t692 t693 t694 t695) else (laws_FnExactIndexImage.j1 kj18 l1 t680 true a0_0 a0_1 a0_2 l0_3 t674 t675 t676 t677 t692 t693 t694 t695)))))) = some r := by rw [if_pos rfl] at H; exact H
   clear H
   have H := H1
   clear H1
   replace H := Option.bind_eq_some_iff.mp H
   obtain ⟨⟨t712, t713⟩, A750, H⟩ := H
   replace H : ((laws_markIntSS.f kj18 t689 t712).bind fun bt714 => (if bt714.1 < 0 then (laws_FnExactIndexImage.j1 kj18 l1 t680 true a0_0 a0_1 a0_2 l0_3 t674 t675 t676 t677 t692 t693 t694 t695) else ((laws_eqImage.f kj18 t692 t693 t694 t695 t674 t675 t676 t677).bind fun t716 => (if t716 = true then (laws_FnExactIndexImage.j1 kj18 l1 t680 (t698 != t680) a0_0 a0_1 a0_2 l0_3 t674 t675 t676 t677 t692 t693 t694 t695) else (laws_FnExactIndexImage.j1 kj18 l1 t680 true a0_0 a0_1 a0_2 l0_3 t674 t675 t676 t677 t692 t693 t694 t695))))) = some r := H
   have A75 := aM A750
   clear A750
   replace H := Option.bind_eq_some_iff.mp H
   obtain ⟨⟨t714, t715⟩, A760, H⟩ := H
   replace H : (if t714 < 0 then (laws_FnExactIndexImage.j1 kj18 l1 t680 true a0_0 a0_1 a0_2 l0_3 t674 t675 t676 t677 t692 t693 t694 t695) else ((laws_eqImage.f kj18 t692 t693 t694 t695 t674 t675 t676 t677).bind fun t716 => (if t716 = true then (laws_FnExactIndexImage.j1 kj18 l1 t680 (t698 != t680) a0_0 a0_1 a0_2 l0_3 t674 t675 t676 t677 t692 t693 t694 t695) else (laws_FnExactIndexImage.j1 kj18 l1 t680 true a0_0 a0_1 a0_2 l0_3 t674 t675 t676 t677 t692 t693 t694 t695)))) = some r := H
   have A76 := aM A760
   clear A760
   have HC77 := aM H
   clear H
   try go_wp2
   replace HO_9 := aM (Kd.S_drew HO_9.out)
   replace HO_682003 := aM (Kd.R_drew HO_682003.out)
   replace HO_689003 := aM (Kd.R_drew HO_689003.out)
   replace HO_700003 := aM (Kd.R_drew HO_700003.out)
   replace BK662 := aM (blk_drew BK662.out)
   replace BK681 := aM (blk_drew BK681.out)
   replace BK688 := aM (blk_drew BK688.out)
   replace BK699 := aM (blk_drew BK699.out)
   replace HB := aM (below_drew1 HB.out)
   refine start_ (n := 5) (S := fun w' => w'.cell? ⟨gb688, 0, none⟩ = some (.int .i64 t682) ∧ w'.cell? ⟨gb688, 1, none⟩ = some (.int .i64 t683) ∧ w'.cell? ⟨gb688, 2, none⟩ = some (.int .i64 t684) ∧ w'.cell? ⟨gb688, 3, none⟩ = some (.slice Ao39 t685.length co39) ∧ w'.cell? ⟨gb662, 0, none⟩ = some (.int .i64 a0_0) ∧ w'.cell? ⟨gb662, 1, none⟩ = some (.int .i64 a0_1) ∧ w'.cell? ⟨gb662, 2, none⟩ = some (.int .i64 a0_2) ∧ w'.cell? ⟨gb662, 3, none⟩ = some (.slice A0_3 l0_3.length c0_3)) (ds := []) (bA 5 0) (by kernel_rfl) rfl rfl ⟨(blk_cell BK688.out 0).trans rfl, (blk_cell BK688.out 1).trans rfl, (blk_cell BK688.out 2).trans rfl, (blk_cell BK688.out 3).trans rfl, (blk_cell BK662.out 0).trans rfl, (blk_cell BK662.out 1).trans rfl, (blk_cell BK662.out 2).trans rfl, (blk_cell BK662.out 3).trans rfl⟩ (fun hHeld => ?_)
   generalize wc.drew = w78 at HO_9 HO_682003 HO_689003 HO_700003 BK662 BK681 BK688 BK699 HB hHeld ⊢
   refine take_ (i := 0) (N := some 54) (v := ?_) (a' := ?_) (bA 5 1) rfl rfl (by kernel_rfl) (fun _ _ _ h => h) (Or.inl ⟨by rfl, ?_⟩) hHeld ?_ ?_
   rotate_left
   ·rintro w' ⟨s0, s1, s2, s3, s4, s5, s6, s7⟩
    go_simp
    with_reducible rfl
   rotate_left
   ·refine pZ ?_
    rfl
   refine take_ (i := 1) (N := some 55) (v := ?_) (a' := ?_) (bA 5 3) rfl rfl (by kernel_rfl) (fun _ _ _ h => h) (Or.inl ⟨by rfl, ?_⟩) hHeld ?_ ?_
   rotate_left
   ·rintro w' ⟨s0, s1, s2, s3, s4, s5, s6, s7⟩
    go_simp
    with_reducible rfl
   rotate_left
   ·refine pZ ?_
    rfl
   refine one_ (i := 2) (N := some 56) (bA 5 7) rfl rfl (by kernel_rfl) (by decide) (fun K hK => ?_)
   refine goes_ Try.func14 (by kernel_rfl) rfl #[.agg #[.int .i64 a0_0, .int .i64 a0_1, .int .i64 a0_2, .slice A0_3 l0_3.length c0_3]] (by rfl) rfl rfl qM ?_
   with_reducible refine (laws_toImage.calls kj18 a0_0 a0_1 a0_2 _ _ l0_3 t701 t702 t703 t704 _ ?side1 ?side2 A69.out).mono ?_
   (case side1 => exact qC (Kd.C_below HR0_3.out HB.out))
   (case side2 => exact HC0_3.out)
   rintro e w79 ⟨v705, rfl, ho0, hb⟩
   refine ⟨_, rfl, ?_⟩
   replace HO_9 := aM (Kd.S_elder' (by (with_reducible repeat (first | apply Kd.S_alloc | apply Kd.S_drewN | apply Kd.S_drew)); exact HO_9.out) (Kd.R_base ho0) hb)
   have HO706 := aM (Kd.R_lower (Kd.R_new' (Kd.R_new' (Kd.R_new' ho0 (Kd.R_lt (qR HO_682003.out))) (Kd.R_lt (qR HO_689003.out))) (Kd.R_lt (qR HO_700003.out))) (below_size (qW HB.out)))
   replace HO_682003 := aM (Kd.R_elder' (qR HO_682003.out) (Kd.R_base ho0) hb)
   replace HO_689003 := aM (Kd.R_elder' (qR HO_689003.out) (Kd.R_base ho0) hb)
   replace HO_700003 := aM (Kd.R_elder' (qR HO_700003.out) (Kd.R_base ho0) hb)
   replace BK662 := bB BK662 hb
   replace BK681 := bB BK681 hb
   replace BK688 := bB BK688 hb
   replace BK699 := bB BK699 hb
   replace HB := bS HB hb
   (try clear hb)
   (try clear hb2)
   (try clear hk)
   (try clear hi)
   (try clear ho0)
   obtain ⟨Ao80, co80, eo80⟩ := Kd.R_slice HO706.out
   (first | subst eo80 | (injection eo80 with f1_ f2_ f3_; have f4_ := f1_.symm; have f5_ := f3_.symm; clear f1_ f2_ f3_; subst f4_; subst f5_))
   refine hK.out _ _ ⟨(blk_cell BK688.out 0).trans rfl, (blk_cell BK688.out 1).trans rfl, (blk_cell BK688.out 2).trans rfl, (blk_cell BK688.out 3).trans rfl, (blk_cell BK662.out 0).trans rfl, (blk_cell BK662.out 1).trans rfl, (blk_cell BK662.out 2).trans rfl, (blk_cell BK662.out 3).trans rfl⟩ (fun hHeld => ?_)
   clear hK K
   refine norm_ (a' := ?_) ?_ ?_
   rotate_left
   ·show Act.put _ (some 56) _ = _
    refine pZ ?_
    rfl
   refine one_ (i := 3) (N := some 57) (bA 5 15) rfl rfl (by kernel_rfl) (by decide) (fun K hK => ?_)
   refine goes_ Try.func17 (by kernel_rfl) rfl #[.agg #[.int .i64 t682, .int .i64 t683, .int .i64 t684, .slice Ao39 t685.length co39], .agg #[.int .i64 t701, .int .i64 t702, .int .i64 t703, .slice Ao80 t704.length co80]] (by rfl) rfl rfl qM ?_
   with_reducible refine (laws_eqImage.calls kj18 t682 t683 t684 _ _ t685 t701 t702 t703 _ _ t704 true _ ?side1 ?side2 ?side3 ?side4 A70.out).mono ?_
   (case side1 => exact qC (Kd.R_reads' HO_689003.out).2.2)
   (case side2 => exact (Kd.R_reads' HO_689003.out).2.1)
   (case side3 => exact qC (Kd.R_reads' HO706.out).2.2)
   (case side4 => exact (Kd.R_reads' HO706.out).2.1)
   rintro e w81 ⟨rfl, hb⟩
   refine ⟨_, rfl, ?_⟩
   replace HO_9 := aM (Kd.S_below (by (with_reducible repeat (first | apply Kd.S_alloc | apply Kd.S_drewN | apply Kd.S_drew)); exact HO_9.out) hb)
   replace HO_682003 := aM (Kd.R_below (qR HO_682003.out) hb)
   replace HO_689003 := aM (Kd.R_below (qR HO_689003.out) hb)
   replace HO_700003 := aM (Kd.R_below (qR HO_700003.out) hb)
   replace HO706 := aM (Kd.R_below (qR HO706.out) hb)
   replace BK662 := bB BK662 hb
   replace BK681 := bB BK681 hb
   replace BK688 := bB BK688 hb
   replace BK699 := bB BK699 hb
   replace HB := bS HB hb
   (try clear hb)
   (try clear hb2)
   (try clear hk)
   (try clear hi)
   refine hK.out _ _ ⟨(blk_cell BK688.out 0).trans rfl, (blk_cell BK688.out 1).trans rfl, (blk_cell BK688.out 2).trans rfl, (blk_cell BK688.out 3).trans rfl, (blk_cell BK662.out 0).trans rfl, (blk_cell BK662.out 1).trans rfl, (blk_cell BK662.out 2).trans rfl, (blk_cell BK662.out 3).trans rfl⟩ (fun hHeld => ?_)
   clear hK K
   refine norm_ (a' := ?_) ?_ ?_
   rotate_left
   ·show Act.put _ (some 57) _ = _
    refine pZ ?_
    rfl
   refine pure_ (i := 4) (N := some 58) (v := ?_) (a' := ?_) (bA 5 31) rfl rfl (by kernel_rfl) (fun _ _ _ h => h) (Or.inl ⟨by rfl, ?_⟩) ?_ ?_
   rotate_left
   ·intro w'
    go_simp
    with_reducible rfl
   rotate_left
   ·refine pZ ?_
    rfl
   refine done_ (by kernel_rfl) ?_
   go_upto_region 21 with (first | ((with_reducible refine gate_callee (f := 30) rfl ?_); refine gL (some 61) Try.func30 #[.slice A1 l1.length c1] ?_; (with_reducible refine (laws_toIntSS.calls kj18 _ _ l1 t708 _ ?side1 ?side2 A72.out).mono ?_); (case side1 => exact qC (Kd.C_below HR1.out HB.out)); (case side2 => exact HC1.out); rintro e w82 ⟨v709, rfl, ho0, hb⟩; refine ⟨_, rfl, ?_⟩; have HO710 := aM (Kd.S_lower (Kd.S_new' (Kd.S_new' (Kd.S_new' (Kd.S_new' (Kd.S_new' ho0 (Kd.S_lt (by (with_reducible repeat (first | apply Kd.S_alloc | apply Kd.S_drewN | apply Kd.S_drew)); exact HO_9.out))) (Kd.R_lt (qR HO_682003.out))) (Kd.R_lt (qR HO_689003.out))) (Kd.R_lt (qR HO_700003.out))) (Kd.R_lt (qR HO706.out))) (below_size (qW HB.out))); replace HO_9 := aM (Kd.S_elder' (by (with_reducible repeat (first | apply Kd.S_alloc | apply Kd.S_drewN | apply Kd.S_drew)); exact HO_9.out) (Kd.S_base ho0) hb); replace HO_682003 := aM (Kd.R_below (qR HO_682003.out) hb); replace HO_689003 := aM (Kd.R_below (qR HO_689003.out) hb); replace HO_700003 := aM (Kd.R_below (qR HO_700003.out) hb); replace HO706 := aM (Kd.R_below (qR HO706.out) hb); replace BK662 := bB BK662 hb; replace BK681 := bB BK681 hb; replace BK688 := bB BK688 hb; replace BK699 := bB BK699 hb; replace HB := bS HB hb; clear hb ho0; obtain ⟨Ao83, co83, eo83⟩ := Kd.S_slice HO710.out; subst eo83) | ((with_reducible refine gate_callee (f := 16) rfl ?_); refine gL (some 62) Try.func16 #[.slice Ao42 t689.length co42, .slice Ao83 t708.length co83] ?_; (with_reducible refine (laws_eqIntSS.calls kj18 _ _ t689 _ _ t708 true _ ?side1 ?side2 ?side3 ?side4 A73.out).mono ?_); (case side1 => exact qC (Kd.S_reads' HO_9.out).2.2); (case side2 => exact (Kd.S_reads' HO_9.out).2.1); (case side3 => exact qC (Kd.S_reads' HO710.out).2.2); (case side4 => exact (Kd.S_reads' HO710.out).2.1); rintro e w' ⟨rfl, ⟨nd, rfl⟩⟩; refine ⟨_, rfl, ?_⟩; have hnb84 := NB688_662.out; have hnc84 := NB662_688.out; have hnb85 := NB688_681.out; have hnc85 := NB681_688.out; have hnb86 := NB688_699.out; have hnc86 := NB699_688.out; obtain ⟨⟨hcz87_0, hcz87_1, hcz87_2, hcz87_3⟩, hfz87_0, hfz87_1, hfz87_2, hfz87_3⟩ := cf4 BK688) | ((with_reducible refine gate_callee (f := 18) rfl ?_); refine gL (some 66) Try.func18 #[.agg #[.int .i64 t682, .int .i64 t683, .int .i64 t684, .slice Ao39 t685.length co39], .int .i64 1] ?_; (with_reducible refine (laws_markImage.calls kj18 t682 t683 t684 (fun k_ => some k_ = (.slice Ao39 t685.length co39 : Value).ownBlock) (.slice Ao39 t685.length co39) t685 1 t712 t713 w _ ?side1 ?side2 A75.out).mono ?_); (case side1 => exact qW HB.out); (case side2 => exact Kd.R_tight rfl HO_689003.out); rintro e w88 ⟨rfl, hy0, hb, hkp⟩; refine ⟨_, rfl, ?_⟩; replace HO_9 := aM (Kd.S_mono (ok' := fun k_ => some k_ ≠ (.slice Ao32 t677.length co32 : Value).ownBlock ∧ some k_ ≠ (.slice Ao39 t685.length co39 : Value).ownBlock ∧ some k_ ≠ (.slice Ao49 t695.length co49 : Value).ownBlock ∧ some k_ ≠ (.slice Ao80 t704.length co80 : Value).ownBlock ∧ some k_ ≠ (.slice Ao83 t708.length co83 : Value).ownBlock) (Kd.S_keptB (HO_9.out) hkp (fun k_ hk_ hs_ => by first | exact hk_.1.1.2.1 hs_ | (revert hk_; simp only [and_imp]; intros; contradiction))) (fun k_ hk_ => by first | exact ⟨hk_.1.1.1.1, hk_.1.1.1.2.1, hk_.1.1.1.2.2, hk_.1.1.2, hk_.1.2⟩ | (revert hk_; simp only [and_imp]; intros; and_intros <;> assumption))); replace HO_682003 := aM (Kd.R_mono (ok' := fun k_ => some k_ ≠ (.slice Ao39 t685.length co39 : Value).ownBlock ∧ some k_ ≠ (.slice Ao49 t695.length co49 : Value).ownBlock ∧ some k_ ≠ (.slice Ao80 t704.length co80 : Value).ownBlock) (Kd.R_keptB (HO_682003.out) hkp (fun k_ hk_ hs_ => by first | exact hk_.1.1 hs_ | (revert hk_; simp only [and_imp]; intros; contradiction))) (fun k_ hk_ => by first | exact ⟨hk_.1.1.1, hk_.1.1.2, hk_.1.2⟩ | (revert hk_; simp only [and_imp]; intros; and_intros <;> assumption))); replace HO_700003 := aM (Kd.R_mono (ok' := fun k_ => some k_ ≠ (.slice Ao32 t677.length co32 : Value).ownBlock ∧ some k_ ≠ (.slice Ao39 t685.length co39 : Value).ownBlock ∧ some k_ ≠ (.slice Ao80 t704.length co80 : Value).ownBlock) (Kd.R_keptB (HO_700003.out) hkp (fun k_ hk_ hs_ => by first | exact hk_.1.2 hs_ | (revert hk_; simp only [and_imp]; intros; contradiction))) (fun k_ hk_ => by first | exact ⟨hk_.1.1.1, hk_.1.1.2, hk_.1.2⟩ | (revert hk_; simp only [and_imp]; intros; and_intros <;> assumption))); replace BK662 := aM (blk_kept (qB BK662.out) hkp (fun hs_ => (fun e_ => (Kd.R_ne HO_689003.out BK662.out (by decide)) e_) hs_)); replace BK681 := aM (blk_kept (qB BK681.out) hkp (fun hs_ => (fun e_ => (Kd.R_ne HO_689003.out BK681.out (by decide)) e_) hs_)); replace BK688 := aM (blk_kept (qB BK688.out) hkp (fun hs_ => (fun e_ => (Kd.R_ne HO_689003.out BK688.out (by decide)) e_) hs_)); replace BK699 := aM (blk_kept (qB BK699.out) hkp (fun hs_ => (fun e_ => (Kd.R_ne HO_689003.out BK699.out (by decide)) e_) hs_)); replace HO_689003 := aM (Kd.R_reok rfl hy0 (fun k_ e_ => HO_689003.out.1 k_ e_)); replace HO706 := aM (Kd.R_mono (ok' := fun k_ => some k_ ≠ (.slice Ao32 t677.length co32 : Value).ownBlock ∧ some k_ ≠ (.slice Ao39 t685.length co39 : Value).ownBlock ∧ some k_ ≠ (.slice Ao49 t695.length co49 : Value).ownBlock) (Kd.R_keptB (HO706.out) hkp (fun k_ hk_ hs_ => by first | exact hk_.1.2 hs_ | (revert hk_; simp only [and_imp]; intros; contradiction))) (fun k_ hk_ => by first | exact ⟨hk_.1.1.1.2, hk_.1.1.2, hk_.1.2⟩ | (revert hk_; simp only [and_imp]; intros; and_intros <;> assumption))); replace HO710 := aM (Kd.S_mono (ok' := fun k_ => some k_ ≠ (.slice Ao42 t689.length co42 : Value).ownBlock ∧ some k_ ≠ (.slice Ao32 t677.length co32 : Value).ownBlock ∧ some k_ ≠ (.slice Ao39 t685.length co39 : Value).ownBlock ∧ some k_ ≠ (.slice Ao49 t695.length co49 : Value).ownBlock ∧ some k_ ≠ (.slice Ao80 t704.length co80 : Value).ownBlock) (Kd.S_keptB (HO710.out) hkp (fun k_ hk_ hs_ => by first | exact hk_.1.1.2 hs_ | (revert hk_; simp only [and_imp]; intros; contradiction))) (fun k_ hk_ => by first | exact ⟨hk_.1.1.1.1.1.2, hk_.1.1.1.1.2, hk_.1.1.1.2, hk_.1.1.2, hk_.1.2⟩ | (revert hk_; simp only [and_imp]; intros; and_intros <;> assumption))); replace HB := aM (hb); clear hb hkp hy0) | ((with_reducible refine gate_callee (f := 19) rfl ?_); refine gL (some 69) Try.func19 #[.slice Ao42 t689.length co42, .int .i64 t712] ?_; (with_reducible refine (laws_markIntSS.calls kj18 (fun k_ => (((((some k_ ≠ (.slice Ao32 t677.length co32 : Value).ownBlock ∧ (some k_ ≠ (.slice Ao39 t685.length co39 : Value).ownBlock ∧ (some k_ ≠ (.slice Ao49 t695.length co49 : Value).ownBlock ∧ (some k_ ≠ (.slice Ao80 t704.length co80 : Value).ownBlock ∧ some k_ ≠ (.slice Ao83 t708.length co83 : Value).ownBlock)))) ∧ k_ ≠ gb662) ∧ k_ ≠ gb681) ∧ k_ ≠ gb688) ∧ k_ ≠ gb699)) (.slice Ao42 t689.length co42) t689 t712 t714 t715 w _ ?side1 ?side2 A76.out).mono ?_); (case side1 => exact qW HB.out); (case side2 => exact (Kd.S_types (Kd.S_types (Kd.S_types (Kd.S_types HO_9.out BK662.out (by decide)) BK681.out (by decide)) BK688.out (by decide)) BK699.out (by decide))); rintro e w89 ⟨rfl, hy0, hb, hkp⟩; refine ⟨_, rfl, ?_⟩; replace HO_9 := aM (hy0); replace HO_682003 := aM (Kd.R_mono (Kd.R_kept (Kd.R_tight2 rfl HO_682003.out) hkp (fun k_ hk_ hs_ => (hs_.1.1.1.1.1) hk_.1)) (fun _ h_ => h_.2)); replace HO_689003 := aM (Kd.R_mono (Kd.R_kept (Kd.R_tight2 rfl HO_689003.out) hkp (fun k_ hk_ hs_ => (hs_.1.1.1.1.2.1) hk_.1)) (fun _ h_ => h_.2)); replace HO_700003 := aM (Kd.R_mono (Kd.R_kept (Kd.R_tight2 rfl HO_700003.out) hkp (fun k_ hk_ hs_ => (hs_.1.1.1.1.2.2.1) hk_.1)) (fun _ h_ => h_.2)); replace BK662 := aM (blk_kept (qB BK662.out) hkp (fun hs_ => (hs_.1.1.1.2) rfl)); replace BK681 := aM (blk_kept (qB BK681.out) hkp (fun hs_ => (hs_.1.1.2) rfl)); replace BK688 := aM (blk_kept (qB BK688.out) hkp (fun hs_ => (hs_.1.2) rfl)); replace BK699 := aM (blk_kept (qB BK699.out) hkp (fun hs_ => (hs_.2) rfl)); replace HO706 := aM (Kd.R_mono (Kd.R_kept (Kd.R_tight2 rfl HO706.out) hkp (fun k_ hk_ hs_ => (hs_.1.1.1.1.2.2.2.1) hk_.1)) (fun _ h_ => h_.2)); replace HB := aM (hb); clear HO710; clear hb hkp hy0))
   (try simp only [Act.put, List.setIfInBounds_toArray, List.set_cons_zero, List.set_cons_succ])
   go_cut [82] (fun v82 wc => ∃ (kq : Nat) (x82_76 : Bool), v82 = .bool x82_76 ∧ Aside0 (laws_FnExactIndexImage.j1 kq l1 t680 x82_76 a0_0 a0_1 a0_2 l0_3 t674 t675 t676 t677 t692 t693 t694 t695 = some r) ∧ Aside0 (kq ≤ kj18) ∧ Aside0 (Kd.R (Kd.int .i64) 3 wc w.heap.size (fun k_ => some k_ ≠ ((.slice Ao39 t685.length co39) : Value).ownBlock ∧ some k_ ≠ ((.slice Ao49 t695.length co49) : Value).ownBlock) (.slice Ao32 t677.length co32) t677) ∧ Aside0 (Kd.R (Kd.int .i64) 3 wc w.heap.size (fun k_ => some k_ ≠ ((.slice Ao32 t677.length co32) : Value).ownBlock ∧ some k_ ≠ ((.slice Ao49 t695.length co49) : Value).ownBlock) (.slice Ao39 t685.length co39) t713) ∧ Aside0 (Kd.R (Kd.int .i64) 3 wc w.heap.size (fun k_ => some k_ ≠ ((.slice Ao32 t677.length co32) : Value).ownBlock ∧ some k_ ≠ ((.slice Ao39 t685.length co39) : Value).ownBlock) (.slice Ao49 t695.length co49) t695) ∧ Aside0 (wc.heap[gb662]? = some (.cells #[.int .i64 a0_0, .int .i64 a0_1, .int .i64 a0_2, (.slice A0_3 l0_3.length c0_3)] 24 (0, 0))) ∧ Aside0 (wc.heap[gb681]? = some (.cells #[.int .i64 t674, .int .i64 t675, .int .i64 t676, (.slice Ao32 t677.length co32)] 29 (0, 0))) ∧ Aside0 (wc.heap[gb688]? = some (.cells #[.int .i64 t682, .int .i64 t683, .int .i64 t684, (.slice Ao39 t685.length co39)] 29 (0, 0))) ∧ Aside0 (wc.heap[gb699]? = some (.cells #[.int .i64 t692, .int .i64 t693, .int .i64 t694, (.slice Ao49 t695.length co49)] 29 (0, 0))) ∧ Aside0 (Below w.heap.size w wc))
   case first =>
    have H := HC77.out
    clear HC77
    by_cases c90 : t714 < 0
    ·rw [if_pos c90] at H
     have c90b0 : decide (t714 < 0) = true := decide_eq_true c90
     clear c90
     (first | rw [c90b0] | (simp only [i64_w, i32_w]; rw [c90b0]) | skip)
     have H' := aM H
     clear H
     go_wp2
     go_meet
     case rel => exact ⟨_, (true), qE, H', ⟨by have := HJ18.out; first | omega | exact Nat.le_refl _⟩, ⟨by refine qR ?_; exact Kd.R_mono HO_682003.out (fun _ hk => ⟨hk.1, hk.2.1⟩)⟩, ⟨by refine qR ?_; exact Kd.R_mono HO_689003.out (fun _ hk => ⟨hk.1.1, hk.1.2⟩)⟩, ⟨by refine qR ?_; exact Kd.R_mono HO_700003.out (fun _ hk => ⟨hk.1, hk.2.1⟩)⟩, ⟨by refine qB ?_; exact BK662.out⟩, ⟨by refine qB ?_; exact BK681.out⟩, ⟨by refine qB ?_; exact BK688.out⟩, ⟨by refine qB ?_; exact BK699.out⟩, ⟨by exact qW HB.out⟩⟩
    rw [if_neg c90] at H
    have c90b0 : decide (t714 < 0) = false := decide_eq_false c90
    clear c90
    (first | rw [c90b0] | (simp only [i64_w, i32_w]; rw [c90b0]) | skip)
    replace H := Option.bind_eq_some_iff.mp H
    obtain ⟨t716, A910, H⟩ := H
    replace H : (if t716 = true then (laws_FnExactIndexImage.j1 kj18 l1 t680 (t698 != t680) a0_0 a0_1 a0_2 l0_3 t674 t675 t676 t677 t692 t693 t694 t695) else (laws_FnExactIndexImage.j1 kj18 l1 t680 true a0_0 a0_1 a0_2 l0_3 t674 t675 t676 t677 t692 t693 t694 t695)) = some r := H
    have A91 := aM A910
    clear A910
    by_cases c92 : t716 = true
    ·subst c92
     have H1 : (laws_FnExactIndexImage.j1 kj18 l1 t680 (t698 != t680) a0_0 a0_1 a0_2 l0_3 t674 t675 t676 t677 t692 t693 t694 t695) = some r := by rw [if_pos rfl] at H; exact H
     clear H
     have H := H1
     clear H1
     have H' := aM H
     clear H
     have hnb93 := NB699_662.out
     have hnc93 := NB662_699.out
     have hnb94 := NB699_681.out
     have hnc94 := NB681_699.out
     have hnb95 := NB699_688.out
     have hnc95 := NB688_699.out
     obtain ⟨⟨hcz96_0, hcz96_1, hcz96_2, hcz96_3⟩, hfz96_0, hfz96_1, hfz96_2, hfz96_3⟩ := cf4 BK699
     have hnb97 := NB681_662.out
     have hnc97 := NB662_681.out
     have hnb98 := NB681_688.out
     have hnc98 := NB688_681.out
     obtain ⟨⟨hcz99_0, hcz99_1, hcz99_2, hcz99_3⟩, hfz99_0, hfz99_1, hfz99_2, hfz99_3⟩ := cf4 BK681
     go_wp2_with (first | (go_at_call 17; (with_reducible refine (laws_eqImage.calls kj18 t692 t693 t694 _ _ t695 t674 t675 t676 _ _ t677 true _ ?side1 ?side2 ?side3 ?side4 A91.out).mono ?_); (case side1 => exact qC (Kd.R_reads' HO_700003.out).2.2); (case side2 => exact (Kd.R_reads' HO_700003.out).2.1); (case side3 => exact qC (Kd.R_reads' HO_682003.out).2.2); (case side4 => exact (Kd.R_reads' HO_682003.out).2.1); rintro e w100 ⟨rfl, hb⟩; replace HO_9 := aM (Kd.S_below (by (with_reducible repeat (first | apply Kd.S_alloc | apply Kd.S_drewN | apply Kd.S_drew)); exact HO_9.out) hb); replace HO_682003 := aM (Kd.R_below (qR HO_682003.out) hb); replace HO_689003 := aM (Kd.R_below (qR HO_689003.out) hb); replace HO_700003 := aM (Kd.R_below (qR HO_700003.out) hb); replace HO706 := aM (Kd.R_below (qR HO706.out) hb); replace BK662 := bB BK662 hb; replace BK681 := bB BK681 hb; replace BK688 := bB BK688 hb; replace BK699 := bB BK699 hb; replace HB := bS HB hb; clear hb))
     go_meet
     case rel => exact ⟨_, ((t698 != t680)), qE, H', ⟨by have := HJ18.out; first | omega | exact Nat.le_refl _⟩, ⟨by refine qR ?_; exact Kd.R_mono HO_682003.out (fun _ hk => ⟨hk.1, hk.2.1⟩)⟩, ⟨by refine qR ?_; exact Kd.R_mono HO_689003.out (fun _ hk => ⟨hk.1.1, hk.1.2⟩)⟩, ⟨by refine qR ?_; exact Kd.R_mono HO_700003.out (fun _ hk => ⟨hk.1, hk.2.1⟩)⟩, ⟨by refine qB ?_; exact BK662.out⟩, ⟨by refine qB ?_; exact BK681.out⟩, ⟨by refine qB ?_; exact BK688.out⟩, ⟨by refine qB ?_; exact BK699.out⟩, ⟨by exact qW HB.out⟩⟩
    replace c92 := Bool.eq_false_iff.mpr c92
    subst c92
    have H1 : (laws_FnExactIndexImage.j1 kj18 l1 t680 true a0_0 a0_1 a0_2 l0_3 t674 t675 t676 t677 t692 t693 t694 t695) = some r := by rw [if_neg (show ¬ (false = true) by decide)] at H; exact H
    clear H
    have H := H1
    clear H1
    have H' := aM H
    clear H
    have hnb101 := NB699_662.out
    have hnc101 := NB662_699.out
    have hnb102 := NB699_681.out
    have hnc102 := NB681_699.out
    have hnb103 := NB699_688.out
    have hnc103 := NB688_699.out
    obtain ⟨⟨hcz104_0, hcz104_1, hcz104_2, hcz104_3⟩, hfz104_0, hfz104_1, hfz104_2, hfz104_3⟩ := cf4 BK699
    have hnb105 := NB681_662.out
    have hnc105 := NB662_681.out
    have hnb106 := NB681_688.out
    have hnc106 := NB688_681.out
    obtain ⟨⟨hcz107_0, hcz107_1, hcz107_2, hcz107_3⟩, hfz107_0, hfz107_1, hfz107_2, hfz107_3⟩ := cf4 BK681
    go_wp2_with (first | (go_at_call 17; (with_reducible refine (laws_eqImage.calls kj18 t692 t693 t694 _ _ t695 t674 t675 t676 _ _ t677 false _ ?side1 ?side2 ?side3 ?side4 A91.out).mono ?_); (case side1 => exact qC (Kd.R_reads' HO_700003.out).2.2); (case side2 => exact (Kd.R_reads' HO_700003.out).2.1); (case side3 => exact qC (Kd.R_reads' HO_682003.out).2.2); (case side4 => exact (Kd.R_reads' HO_682003.out).2.1); rintro e w108 ⟨rfl, hb⟩; replace HO_9 := aM (Kd.S_below (by (with_reducible repeat (first | apply Kd.S_alloc | apply Kd.S_drewN | apply Kd.S_drew)); exact HO_9.out) hb); replace HO_682003 := aM (Kd.R_below (qR HO_682003.out) hb); replace HO_689003 := aM (Kd.R_below (qR HO_689003.out) hb); replace HO_700003 := aM (Kd.R_below (qR HO_700003.out) hb); replace HO706 := aM (Kd.R_below (qR HO706.out) hb); replace BK662 := bB BK662 hb; replace BK681 := bB BK681 hb; replace BK688 := bB BK688 hb; replace BK699 := bB BK699 hb; replace HB := bS HB hb; clear hb))
    go_meet
    case rel => exact ⟨_, (true), qE, H', ⟨by have := HJ18.out; first | omega | exact Nat.le_refl _⟩, ⟨by refine qR ?_; exact Kd.R_mono HO_682003.out (fun _ hk => ⟨hk.1, hk.2.1⟩)⟩, ⟨by refine qR ?_; exact Kd.R_mono HO_689003.out (fun _ hk => ⟨hk.1.1, hk.1.2⟩)⟩, ⟨by refine qR ?_; exact Kd.R_mono HO_700003.out (fun _ hk => ⟨hk.1, hk.2.1⟩)⟩, ⟨by refine qB ?_; exact BK662.out⟩, ⟨by refine qB ?_; exact BK681.out⟩, ⟨by refine qB ?_; exact BK688.out⟩, ⟨by refine qB ?_; exact BK699.out⟩, ⟨by exact qW HB.out⟩⟩
   case rest =>
    clear HC77
    try clear c1
    try clear c4
    try clear c4b0
    try clear c9
    try clear c9b0
    try clear c51
    try clear c68
    try clear c71
    try clear c74
    try clear c90
    try clear c90b0
    try clear c92
    try clear hcz104_0 hcz104_1 hcz104_2 hcz104_3 hfz104_0 hfz104_1 hfz104_2 hfz104_3
    try clear hcz107_0 hcz107_1 hcz107_2 hcz107_3 hfz107_0 hfz107_1 hfz107_2 hfz107_3
    try clear hcz11_0 hcz11_1 hcz11_2 hcz11_3 hfz11_0 hfz11_1 hfz11_2 hfz11_3
    try clear hcz21_0 hcz21_1 hcz21_2 hcz21_3 hfz21_0 hfz21_1 hfz21_2 hfz21_3
    try clear hcz23_0 hcz23_1 hcz23_2 hcz23_3 hfz23_0 hfz23_1 hfz23_2 hfz23_3
    try clear hcz31_0 hcz31_1 hcz31_2 hcz31_3 hfz31_0 hfz31_1 hfz31_2 hfz31_3
    try clear hcz33_0 hcz33_1 hcz33_2 hcz33_3 hfz33_0 hfz33_1 hfz33_2 hfz33_3
    try clear hcz38_0 hcz38_1 hcz38_2 hcz38_3 hfz38_0 hfz38_1 hfz38_2 hfz38_3
    try clear hcz41_0 hcz41_1 hcz41_2 hcz41_3 hfz41_0 hfz41_1 hfz41_2 hfz41_3
    try clear hcz48_0 hcz48_1 hcz48_2 hcz48_3 hfz48_0 hfz48_1 hfz48_2 hfz48_3
    try clear hcz55_0 hcz55_1 hcz55_2 hcz55_3 hfz55_0 hfz55_1 hfz55_2 hfz55_3
    try clear hcz58_0 hcz58_1 hcz58_2 hcz58_3 hfz58_0 hfz58_1 hfz58_2 hfz58_3
    try clear hcz63_0 hcz63_1 hcz63_2 hcz63_3 hfz63_0 hfz63_1 hfz63_2 hfz63_3
    try clear hcz66_0 hcz66_1 hcz66_2 hcz66_3 hfz66_0 hfz66_1 hfz66_2 hfz66_3
    try clear hcz6_0 hcz6_1 hcz6_2 hcz6_3 hfz6_0 hfz6_1 hfz6_2 hfz6_3
    try clear hcz87_0 hcz87_1 hcz87_2 hcz87_3 hfz87_0 hfz87_1 hfz87_2 hfz87_3
    try clear hcz96_0 hcz96_1 hcz96_2 hcz96_3 hfz96_0 hfz96_1 hfz96_2 hfz96_3
    try clear hcz99_0 hcz99_1 hcz99_2 hcz99_3 hfz99_0 hfz99_1 hfz99_2 hfz99_3
    obtain ⟨kq, x82_76, rfl, HA, HJ76, HO_682003, HO_689003, HO_700003, BK662, BK681, BK688, BK699, HB⟩ := hcut
    have hl689003_76 := (Kd.R_reads' HO_689003.out).1
    rw [hl689003_76] at HO_689003
    (try simp only [hl689003_76])
    (try simp only [hl689003_76] at BK662)
    (try simp only [hl689003_76] at BK681)
    (try simp only [hl689003_76] at BK688)
    (try simp only [hl689003_76] at BK699)
    (try simp only [hl689003_76] at HO_682003)
    (try simp only [hl689003_76] at HO_700003)
    cases kq with
    | zero => exact absurd HA.out (by simp [laws_FnExactIndexImage.j1])
    | succ kj76 =>
     have H := HA.out
     clear HA
     simp only [laws_FnExactIndexImage.j1] at H
     by_cases c109 : x82_76 = true
     ·subst c109
      have H1 : (some false) = some r := by rw [if_pos rfl] at H; exact H
      clear H
      have H := H1
      clear H1
      obtain rfl := Option.some.inj H
      exact absurd hrt (by decide)
     replace c109 := Bool.eq_false_iff.mpr c109
     subst c109
     have H1 : ((laws_markImage.f kj76 t692 t693 t694 t695 1).bind fun bt717 => ((laws_heldImage.f kj76 t692 t693 t694 bt717.2 1).bind fun t719 => (if t719 < 0 then (some false) else (if t719 = bt717.1 then ((laws_toImage.f kj76 a0_0 a0_1 a0_2 l0_3).bind fun bt720 => ((laws_toIntSS.f kj76 l1).bind fun t726 => ((impl_IndexImage.f bt720.1 bt720.2.1 bt720.2.2.1 bt720.2.2.2 t726).bind fun bt729 => ((laws_eqImage.f kj76 bt729.1 bt729.2.1 bt729.2.2.1 bt729.2.2.2.1 t674 t675 t676 t677).bind fun t737 => (if t737 = true then (laws_FnExactIndexImage.j2 kj76 bt717.1 (bt729.2.2.2.2 != t680) t692 t693 t694 bt717.2) else (laws_FnExactIndexImage.j2 kj76 bt717.1 true t692 t693 t694 bt717.2)))))) else (some false))))) = some r := by rw [if_neg (show ¬ (false = true) by decide)] at H; exact H
     clear H
     have H := H1
     clear H1
     replace H := Option.bind_eq_some_iff.mp H
     obtain ⟨⟨t717, t718⟩, A1100, H⟩ := H
     replace H : ((laws_heldImage.f kj76 t692 t693 t694 t718 1).bind fun t719 => (if t719 < 0 then (some false) else (if t719 = t717 then ((laws_toImage.f kj76 a0_0 a0_1 a0_2 l0_3).bind fun bt720 => ((laws_toIntSS.f kj76 l1).bind fun t726 => ((impl_IndexImage.f bt720.1 bt720.2.1 bt720.2.2.1 bt720.2.2.2 t726).bind fun bt729 => ((laws_eqImage.f kj76 bt729.1 bt729.2.1 bt729.2.2.1 bt729.2.2.2.1 t674 t675 t676 t677).bind fun t737 => (if t737 = true then (laws_FnExactIndexImage.j2 kj76 t717 (bt729.2.2.2.2 != t680) t692 t693 t694 t718) else (laws_FnExactIndexImage.j2 kj76 t717 true t692 t693 t694 t718)))))) else (some false)))) = some r := H
     have A110 := aM A1100
     clear A1100
     replace H := Option.bind_eq_some_iff.mp H
     obtain ⟨t719, A1110, H⟩ := H
     replace H : (if t719 < 0 then (some false) else (if t719 = t717 then ((laws_toImage.f kj76 a0_0 a0_1 a0_2 l0_3).bind fun bt720 => ((laws_toIntSS.f kj76 l1).bind fun t726 => ((impl_IndexImage.f bt720.1 bt720.2.1 bt720.2.2.1 bt720.2.2.2 t726).bind fun bt729 => ((laws_eqImage.f kj76 bt729.1 bt729.2.1 bt729.2.2.1 bt729.2.2.2.1 t674 t675 t676 t677).bind fun t737 => (if t737 = true then (laws_FnExactIndexImage.j2 kj76 t717 (bt729.2.2.2.2 != t680) t692 t693 t694 t718) else (laws_FnExactIndexImage.j2 kj76 t717 true t692 t693 t694 t718)))))) else (some false))) = some r := H
     have A111 := aM A1110
     clear A1110
     by_cases c112 : t719 < 0
     ·rw [if_pos c112] at H
      have c112b0 : decide (t719 < 0) = true := decide_eq_true c112
      clear c112
      obtain rfl := Option.some.inj H
      exact absurd hrt (by decide)
     rw [if_neg c112] at H
     have c112b0 : decide (t719 < 0) = false := decide_eq_false c112
     clear c112
     by_cases c120 : t719 = t717
     rotate_left
     ·rw [if_neg c120] at H
      have c120b0 : (t719 == t717) = false := beq_eq_false_iff_ne.mpr c120
      have c120b1 : (t719 != t717) = true := bne_iff_ne.mpr c120
      obtain rfl := Option.some.inj H
      exact absurd hrt (by decide)
     rw [if_pos c120] at H
     have c120b0 : (t719 == t717) = true := beq_iff_eq.mpr c120
     have c120b1 : (t719 != t717) = false := bne_eq_false_iff_eq.mpr c120
     clear c120
     replace H := Option.bind_eq_some_iff.mp H
     obtain ⟨⟨t720, t721, t722, t723⟩, A1210, H⟩ := H
     replace H : ((laws_toIntSS.f kj76 l1).bind fun t726 => ((impl_IndexImage.f t720 t721 t722 t723 t726).bind fun bt729 => ((laws_eqImage.f kj76 bt729.1 bt729.2.1 bt729.2.2.1 bt729.2.2.2.1 t674 t675 t676 t677).bind fun t737 => (if t737 = true then (laws_FnExactIndexImage.j2 kj76 t717 (bt729.2.2.2.2 != t680) t692 t693 t694 t718) else (laws_FnExactIndexImage.j2 kj76 t717 true t692 t693 t694 t718))))) = some r := H
     have A121 := aM A1210
     clear A1210
     replace H := Option.bind_eq_some_iff.mp H
     obtain ⟨t726, A1220, H⟩ := H
     replace H : ((impl_IndexImage.f t720 t721 t722 t723 t726).bind fun bt729 => ((laws_eqImage.f kj76 bt729.1 bt729.2.1 bt729.2.2.1 bt729.2.2.2.1 t674 t675 t676 t677).bind fun t737 => (if t737 = true then (laws_FnExactIndexImage.j2 kj76 t717 (bt729.2.2.2.2 != t680) t692 t693 t694 t718) else (laws_FnExactIndexImage.j2 kj76 t717 true t692 t693 t694 t718)))) = some r := H
     have A122 := aM A1220
     clear A1220
     replace H := Option.bind_eq_some_iff.mp H
     obtain ⟨⟨t729, t730, t731, t732, t735⟩, A1230, H⟩ := H
     replace H : ((laws_eqImage.f kj76 t729 t730 t731 t732 t674 t675 t676 t677).bind fun t737 => (if t737 = true then (laws_FnExactIndexImage.j2 kj76 t717 (t735 != t680) t692 t693 t694 t718) else (laws_FnExactIndexImage.j2 kj76 t717 true t692 t693 t694 t718))) = some r := H
     have A123 := aM A1230
     clear A1230
     have HC124 := aM H
     clear H
     have hnb125 := NB699_662.out
     have hnc125 := NB662_699.out
     have hnb126 := NB699_681.out
     have hnc126 := NB681_699.out
     have hnb127 := NB699_688.out
     have hnc127 := NB688_699.out
     obtain ⟨⟨hcz128_0, hcz128_1, hcz128_2, hcz128_3⟩, hfz128_0, hfz128_1, hfz128_2, hfz128_3⟩ := cf4 BK699
     go_upto_region 32 with (first | ((with_reducible refine gate_callee (f := 18) rfl ?_); refine gL (some 85) Try.func18 #[.agg #[.int .i64 t692, .int .i64 t693, .int .i64 t694, .slice Ao49 t695.length co49], .int .i64 1] ?_; (with_reducible refine (laws_markImage.calls kj76 t692 t693 t694 (fun k_ => some k_ = (.slice Ao49 t695.length co49 : Value).ownBlock) (.slice Ao49 t695.length co49) t695 1 t717 t718 w _ ?side1 ?side2 A110.out).mono ?_); (case side1 => exact qW HB.out); (case side2 => exact Kd.R_tight rfl HO_700003.out); rintro e w129 ⟨rfl, hy0, hb, hkp⟩; refine ⟨_, rfl, ?_⟩; replace HO_682003 := aM (Kd.R_mono (ok' := fun k_ => some k_ ≠ (.slice Ao39 t713.length co39 : Value).ownBlock ∧ some k_ ≠ (.slice Ao49 t695.length co49 : Value).ownBlock) (Kd.R_keptB (HO_682003.out) hkp (fun k_ hk_ hs_ => (hk_.2) hs_)) (fun k_ hk_ => ⟨hk_.1.1, hk_.1.2⟩)); replace HO_689003 := aM (Kd.R_mono (ok' := fun k_ => some k_ ≠ (.slice Ao32 t677.length co32 : Value).ownBlock ∧ some k_ ≠ (.slice Ao49 t695.length co49 : Value).ownBlock) (Kd.R_keptB (HO_689003.out) hkp (fun k_ hk_ hs_ => (hk_.2) hs_)) (fun k_ hk_ => ⟨hk_.1.1, hk_.1.2⟩)); replace BK662 := aM (blk_kept (qB BK662.out) hkp (fun hs_ => (fun e_ => (Kd.R_ne HO_700003.out BK662.out (by decide)) e_) hs_)); replace BK681 := aM (blk_kept (qB BK681.out) hkp (fun hs_ => (fun e_ => (Kd.R_ne HO_700003.out BK681.out (by decide)) e_) hs_)); replace BK688 := aM (blk_kept (qB BK688.out) hkp (fun hs_ => (fun e_ => (Kd.R_ne HO_700003.out BK688.out (by decide)) e_) hs_)); replace BK699 := aM (blk_kept (qB BK699.out) hkp (fun hs_ => (fun e_ => (Kd.R_ne HO_700003.out BK699.out (by decide)) e_) hs_)); replace HO_700003 := aM (Kd.R_reok rfl hy0 (fun k_ e_ => HO_700003.out.1 k_ e_)); replace HB := aM (hb); clear hb hkp hy0; obtain ⟨⟨hcz130_0, hcz130_1, hcz130_2, hcz130_3⟩, hfz130_0, hfz130_1, hfz130_2, hfz130_3⟩ := cf4 BK699) | ((with_reducible refine gate_callee (f := 31) rfl ?_); refine goesL_ (some 88) rfl rfl Try.func31 (by kernel_rfl) rfl #[.agg #[.int .i64 t692, .int .i64 t693, .int .i64 t694, .slice Ao49 t718.length co49], .int .i64 1] rfl (by (try simp only [List.map_toArray, List.map_cons, List.map_nil]); first | done | (rw [show t718.length = t695.length from (Kd.R_reads' HO_700003.out).1.symm] <;> rfl) | rfl | (simp only [List.length_drop, List.length_take]; rfl)) ?_; (with_reducible refine (laws_heldImage.calls kj76 t692 t693 t694 _ _ t718 1 t719 _ ?side1 ?side2 A111.out).mono ?_); (case side1 => exact qC (Kd.R_reads' HO_700003.out).2.2); (case side2 => rw [show t718.length = t695.length from (Kd.R_reads' HO_700003.out).1.symm]; exact (Kd.R_reads' HO_700003.out).2.1); rintro e w131 ⟨rfl, hb⟩; refine ⟨_, rfl, ?_⟩; replace HO_682003 := aM (Kd.R_below (qR HO_682003.out) hb); replace HO_689003 := aM (Kd.R_below (qR HO_689003.out) hb); replace HO_700003 := aM (Kd.R_below (qR HO_700003.out) hb); replace BK662 := bB BK662 hb; replace BK681 := bB BK681 hb; replace BK688 := bB BK688 hb; replace BK699 := bB BK699 hb; replace HB := bS HB hb; clear hb; have hnb132 := NB662_681.out; have hnc132 := NB681_662.out; have hnb133 := NB662_688.out; have hnc133 := NB688_662.out; obtain ⟨⟨hcz134_0, hcz134_1, hcz134_2, hcz134_3⟩, hfz134_0, hfz134_1, hfz134_2, hfz134_3⟩ := cf4 BK662) | ((with_reducible refine gate_callee (f := 14) rfl ?_); refine gL (some 96) Try.func14 #[.agg #[.int .i64 a0_0, .int .i64 a0_1, .int .i64 a0_2, .slice A0_3 l0_3.length c0_3]] ?_; (with_reducible refine (laws_toImage.calls kj76 a0_0 a0_1 a0_2 _ _ l0_3 t720 t721 t722 t723 _ ?side1 ?side2 A121.out).mono ?_); (case side1 => exact qC (Kd.C_below HR0_3.out HB.out)); (case side2 => exact HC0_3.out); rintro e w135 ⟨v724, rfl, ho0, hb⟩; refine ⟨_, rfl, ?_⟩; have HO725 := aM (Kd.R_lower (Kd.R_new' (Kd.R_new' (Kd.R_new' ho0 (Kd.R_lt (qR HO_682003.out))) (Kd.R_lt (qR HO_689003.out))) (Kd.R_lt (qR HO_700003.out))) (below_size (qW HB.out))); replace HO_682003 := aM (Kd.R_elder' (qR HO_682003.out) (Kd.R_base ho0) hb); replace HO_689003 := aM (Kd.R_elder' (qR HO_689003.out) (Kd.R_base ho0) hb); replace HO_700003 := aM (Kd.R_elder' (qR HO_700003.out) (Kd.R_base ho0) hb); replace BK662 := bB BK662 hb; replace BK681 := bB BK681 hb; replace BK688 := bB BK688 hb; replace BK699 := bB BK699 hb; replace HB := bS HB hb; clear hb ho0) | ((with_reducible refine gate_callee (f := 30) rfl ?_); refine gL (some 98) Try.func30 #[.slice A1 l1.length c1] ?_; (with_reducible refine (laws_toIntSS.calls kj76 _ _ l1 t726 _ ?side1 ?side2 A122.out).mono ?_); (case side1 => exact qC (Kd.C_below HR1.out HB.out)); (case side2 => exact HC1.out); rintro e w136 ⟨v727, rfl, ho0, hb⟩; refine ⟨_, rfl, ?_⟩; have HO728 := aM (Kd.S_lower (Kd.S_new' (Kd.S_new' (Kd.S_new' (Kd.S_new' ho0 (Kd.R_lt (qR HO_682003.out))) (Kd.R_lt (qR HO_689003.out))) (Kd.R_lt (qR HO_700003.out))) (Kd.R_lt (qR HO725.out))) (below_size (qW HB.out))); replace HO_682003 := aM (Kd.R_below (qR HO_682003.out) hb); replace HO_689003 := aM (Kd.R_below (qR HO_689003.out) hb); replace HO_700003 := aM (Kd.R_below (qR HO_700003.out) hb); replace HO725 := aM (Kd.R_below (qR HO725.out) hb); replace BK662 := bB BK662 hb; replace BK681 := bB BK681 hb; replace BK688 := bB BK688 hb; replace BK699 := bB BK699 hb; replace HB := bS HB hb; clear hb ho0; obtain ⟨Ao137, co137, rfl⟩ := sL HO725; obtain ⟨Ao138, co138, eo138⟩ := Kd.S_slice HO728.out; subst eo138) | ((with_reducible refine gate_callee (f := 24) rfl ?_); refine gL (some 99) Try.func24 #[.agg #[.int .i64 t720, .int .i64 t721, .int .i64 t722, .slice Ao137 t723.length co137], .slice Ao138 t726.length co138] ?_; (with_reducible refine (impl_IndexImage.calls t720 t721 t722 _ _ t723 _ _ t726 t729 t730 t731 t732 t735 _ ?side1 ?side2 ?side3 ?side4 A123.out).mono ?_); (case side1 => exact qC (Kd.R_reads' HO725.out).2.2); (case side2 => exact (Kd.R_reads' HO725.out).2.1); (case side3 => exact qC (Kd.S_reads' HO728.out).2.2); (case side4 => exact (Kd.S_reads' HO728.out).2.1); rintro e w139 ⟨v733, rfl, ho0, hb⟩; refine ⟨_, rfl, ?_⟩; replace HO728 := aM (Kd.S_elder' (by (with_reducible repeat (first | apply Kd.S_alloc | apply Kd.S_drewN | apply Kd.S_drew)); exact HO728.out) (Kd.R_base ho0) hb); have HO734 := aM (Kd.R_lower (Kd.R_new' (Kd.R_new' (Kd.R_new' (Kd.R_new' ho0 (Kd.R_lt (qR HO_682003.out))) (Kd.R_lt (qR HO_689003.out))) (Kd.R_lt (qR HO_700003.out))) (Kd.R_lt (qR HO725.out))) (below_size (qW HB.out))); replace HO_682003 := aM (Kd.R_elder' (qR HO_682003.out) (Kd.R_base ho0) hb); replace HO_689003 := aM (Kd.R_elder' (qR HO_689003.out) (Kd.R_base ho0) hb); replace HO_700003 := aM (Kd.R_elder' (qR HO_700003.out) (Kd.R_base ho0) hb); replace HO725 := aM (Kd.R_elder' (qR HO725.out) (Kd.R_base ho0) hb); replace BK662 := bB BK662 hb; replace BK681 := bB BK681 hb; replace BK688 := bB BK688 hb; replace BK699 := bB BK699 hb; replace HB := bS HB hb; clear hb ho0) | ((with_reducible refine gate_dst (N := 15) rfl ?_); refine bxE (N := 15) (cs := #[.int .i64 0, .int .i64 0, .int .i64 0, .slice none 0 0]) (t := 29) ?_; intro gb736 hg w140 hbox hb; replace HO_682003 := aM (Kd.R_below (qR HO_682003.out) hb); replace HO_689003 := aM (Kd.R_below (qR HO_689003.out) hb); replace HO_700003 := aM (Kd.R_below (qR HO_700003.out) hb); replace HO725 := aM (Kd.R_below (qR HO725.out) hb); replace HO728 := aM (Kd.S_below (by (with_reducible repeat (first | apply Kd.S_alloc | apply Kd.S_drewN | apply Kd.S_drew)); exact HO728.out) hb); replace HO734 := aM (Kd.R_below (qR HO734.out) hb); have BK736 := aM (hbox); have GW736 := gW hg HB; have GE736 := gW hg HB; replace HB := bS HB hb; have NB662_736 := nL hg BK662; have NB736_662 := nG hg BK662; replace BK662 := bB BK662 hb; have NB681_736 := nL hg BK681; have NB736_681 := nG hg BK681; replace BK681 := bB BK681 hb; have NB688_736 := nL hg BK688; have NB736_688 := nG hg BK688; replace BK688 := bB BK688 hb; have NB699_736 := nL hg BK699; have NB736_699 := nG hg BK699; replace BK699 := bB BK699 hb; clear hb hbox hg; have hnb141 := NB736_662.out; have hnc141 := NB662_736.out; have hnb142 := NB736_681.out; have hnc142 := NB681_736.out; have hnb143 := NB736_688.out; have hnc143 := NB688_736.out; have hnb144 := NB736_699.out; have hnc144 := NB699_736.out; obtain ⟨⟨hcz145_0, hcz145_1, hcz145_2, hcz145_3⟩, hfz145_0, hfz145_1, hfz145_2, hfz145_3⟩ := cf4 BK736; obtain ⟨Ao146, co146, rfl⟩ := sL HO734))
     (try simp only [Act.put, List.setIfInBounds_toArray, List.set_cons_zero, List.set_cons_succ])
     go_cut [110] (fun v110 wc => ∃ (kq : Nat) (x110_123 : Bool), v110 = .bool x110_123 ∧ Aside0 (laws_FnExactIndexImage.j2 kq t717 x110_123 t692 t693 t694 t718 = some r) ∧ Aside0 (kq ≤ kj76) ∧ Aside0 (Kd.R (Kd.int .i64) 3 wc w.heap.size (fun k_ => some k_ ≠ ((.slice Ao39 t713.length co39) : Value).ownBlock ∧ some k_ ≠ ((.slice Ao49 t695.length co49) : Value).ownBlock ∧ some k_ ≠ ((.slice Ao146 t732.length co146) : Value).ownBlock) (.slice Ao32 t677.length co32) t677) ∧ Aside0 (Kd.R (Kd.int .i64) 3 wc w.heap.size (fun k_ => some k_ ≠ ((.slice Ao32 t677.length co32) : Value).ownBlock ∧ some k_ ≠ ((.slice Ao49 t695.length co49) : Value).ownBlock ∧ some k_ ≠ ((.slice Ao146 t732.length co146) : Value).ownBlock) (.slice Ao39 t713.length co39) t713) ∧ Aside0 (Kd.R (Kd.int .i64) 3 wc w.heap.size (fun k_ => some k_ ≠ ((.slice Ao32 t677.length co32) : Value).ownBlock ∧ some k_ ≠ ((.slice Ao39 t713.length co39) : Value).ownBlock ∧ some k_ ≠ ((.slice Ao146 t732.length co146) : Value).ownBlock) (.slice Ao49 t695.length co49) t718) ∧ Aside0 (Kd.R (Kd.int .i64) 3 wc w.heap.size (fun k_ => some k_ ≠ ((.slice Ao32 t677.length co32) : Value).ownBlock ∧ some k_ ≠ ((.slice Ao39 t713.length co39) : Value).ownBlock ∧ some k_ ≠ ((.slice Ao49 t695.length co49) : Value).ownBlock) (.slice Ao146 t732.length co146) t732) ∧ Aside0 (wc.heap[gb662]? = some (.cells #[.int .i64 a0_0, .int .i64 a0_1, .int .i64 a0_2, (.slice A0_3 l0_3.length c0_3)] 24 (0, 0))) ∧ Aside0 (wc.heap[gb681]? = some (.cells #[.int .i64 t674, .int .i64 t675, .int .i64 t676, (.slice Ao32 t677.length co32)] 29 (0, 0))) ∧ Aside0 (wc.heap[gb688]? = some (.cells #[.int .i64 t682, .int .i64 t683, .int .i64 t684, (.slice Ao39 t713.length co39)] 29 (0, 0))) ∧ Aside0 (wc.heap[gb699]? = some (.cells #[.int .i64 t692, .int .i64 t693, .int .i64 t694, (.slice Ao49 t695.length co49)] 29 (0, 0))) ∧ Aside0 (wc.heap[gb736]? = some (.cells #[.int .i64 t729, .int .i64 t730, .int .i64 t731, (.slice Ao146 t732.length co146)] 29 (0, 0))) ∧ Aside0 (Below w.heap.size w wc))
     case first =>
      have H := HC124.out
      clear HC124
      replace H := Option.bind_eq_some_iff.mp H
      obtain ⟨t737, A1470, H⟩ := H
      replace H : (if t737 = true then (laws_FnExactIndexImage.j2 kj76 t717 (t735 != t680) t692 t693 t694 t718) else (laws_FnExactIndexImage.j2 kj76 t717 true t692 t693 t694 t718)) = some r := H
      have A147 := aM A1470
      clear A1470
      by_cases c148 : t737 = true
      ·subst c148
       have H1 : (laws_FnExactIndexImage.j2 kj76 t717 (t735 != t680) t692 t693 t694 t718) = some r := by rw [if_pos rfl] at H; exact H
       clear H
       have H := H1
       clear H1
       have H' := aM H
       clear H
       have hnb149 := NB736_662.out
       have hnc149 := NB662_736.out
       have hnb150 := NB736_681.out
       have hnc150 := NB681_736.out
       have hnb151 := NB736_688.out
       have hnc151 := NB688_736.out
       have hnb152 := NB736_699.out
       have hnc152 := NB699_736.out
       obtain ⟨⟨hcz153_0, hcz153_1, hcz153_2, hcz153_3⟩, hfz153_0, hfz153_1, hfz153_2, hfz153_3⟩ := cf4 BK736
       have hnb154 := NB681_662.out
       have hnc154 := NB662_681.out
       have hnb155 := NB681_688.out
       have hnc155 := NB688_681.out
       have hnb156 := NB681_699.out
       have hnc156 := NB699_681.out
       obtain ⟨⟨hcz157_0, hcz157_1, hcz157_2, hcz157_3⟩, hfz157_0, hfz157_1, hfz157_2, hfz157_3⟩ := cf4 BK681
       go_wp2_with (first | ((with_reducible refine gate_callee (f := 17) rfl ?_); refine gL (some 104) Try.func17 #[.agg #[.int .i64 t729, .int .i64 t730, .int .i64 t731, .slice Ao146 t732.length co146], .agg #[.int .i64 t674, .int .i64 t675, .int .i64 t676, .slice Ao32 t677.length co32]] ?_; (with_reducible refine (laws_eqImage.calls kj76 t729 t730 t731 _ _ t732 t674 t675 t676 _ _ t677 true _ ?side1 ?side2 ?side3 ?side4 A147.out).mono ?_); (case side1 => refine (Kd.R_reads' (e := 3) (base := w.heap.size) (ok := fun k_ => ((((True ∧ some k_ ≠ (.slice Ao32 t677.length co32 : Value).ownBlock) ∧ some k_ ≠ (.slice Ao39 t713.length co39 : Value).ownBlock) ∧ some k_ ≠ (.slice Ao49 t695.length co49 : Value).ownBlock) ∧ some k_ ≠ (.slice Ao137 t723.length co137 : Value).ownBlock)) (n := t732.length) (c := co146) ?_).2.2; exact (by refine qR ?_; exact (fr4 HO734 BK736))); (case side2 => exact (Kd.R_reads' HO734.out).2.1); (case side3 => refine (Kd.R_reads' (e := 3) (base := w.heap.size) (ok := fun k_ => (((some k_ ≠ (.slice Ao39 t713.length co39 : Value).ownBlock ∧ some k_ ≠ (.slice Ao49 t695.length co49 : Value).ownBlock) ∧ some k_ ≠ (.slice Ao137 t723.length co137 : Value).ownBlock) ∧ some k_ ≠ (.slice Ao146 t732.length co146 : Value).ownBlock)) (n := t677.length) (c := co32) ?_).2.2; exact (by refine qR ?_; exact (fr4 HO_682003 BK736))); (case side4 => exact (Kd.R_reads' HO_682003.out).2.1); rintro e w158 ⟨rfl, hb⟩; refine ⟨_, rfl, ?_⟩; replace HO_682003 := aM (Kd.R_below (by refine qR ?_; exact (fr4 HO_682003 BK736)) hb); replace HO_689003 := aM (Kd.R_below (by refine qR ?_; exact (fr4 HO_689003 BK736)) hb); replace HO_700003 := aM (Kd.R_below (by refine qR ?_; exact (fr4 HO_700003 BK736)) hb); replace HO725 := aM (Kd.R_below (by refine qR ?_; exact (fr4 HO725 BK736)) hb); replace HO728 := aM (Kd.S_below (by (with_reducible repeat (first | apply Kd.S_alloc | apply Kd.S_drewN | apply Kd.S_drew)); exact (Kd.S_mono (Kd.S_far (p := ⟨gb736, 3, none⟩) (Kd.S_far (p := ⟨gb736, 2, none⟩) (Kd.S_far (p := ⟨gb736, 1, none⟩) (Kd.S_far (p := ⟨gb736, 0, none⟩) (Kd.S_types HO728.out BK736.out (by decide)) (fun _ hk => hk.2) (.int .i64 t729)) (fun _ hk => hk.2) (.int .i64 t730)) (fun _ hk => hk.2) (.int .i64 t731)) (fun _ hk => hk.2) (.slice Ao146 t732.length co146)) (fun _ h_ => h_.1))) hb); replace HO734 := aM (Kd.R_below (by refine qR ?_; exact (fr4 HO734 BK736)) hb); replace BK662 := aM (blk_below (g := gb662) (o := .cells #[.int .i64 a0_0, .int .i64 a0_1, .int .i64 a0_2, .slice A0_3 l0_3.length c0_3] 24 (0, 0)) (by refine qB ?_; refine blk_far ?_ NB662_736.out _; refine qB ?_; refine blk_far ?_ NB662_736.out _; refine qB ?_; refine blk_far ?_ NB662_736.out _; refine qB ?_; refine blk_far ?_ NB662_736.out _; refine qB ?_; exact BK662.out) hb); replace BK681 := aM (blk_below (g := gb681) (o := .cells #[.int .i64 t674, .int .i64 t675, .int .i64 t676, .slice Ao32 t677.length co32] 29 (0, 0)) (by refine qB ?_; refine blk_far ?_ NB681_736.out _; refine qB ?_; refine blk_far ?_ NB681_736.out _; refine qB ?_; refine blk_far ?_ NB681_736.out _; refine qB ?_; refine blk_far ?_ NB681_736.out _; refine qB ?_; exact BK681.out) hb); replace BK688 := aM (blk_below (g := gb688) (o := .cells #[.int .i64 t682, .int .i64 t683, .int .i64 t684, .slice Ao39 t713.length co39] 29 (0, 0)) (by refine qB ?_; refine blk_far ?_ NB688_736.out _; refine qB ?_; refine blk_far ?_ NB688_736.out _; refine qB ?_; refine blk_far ?_ NB688_736.out _; refine qB ?_; refine blk_far ?_ NB688_736.out _; refine qB ?_; exact BK688.out) hb); replace BK699 := aM (blk_below (g := gb699) (o := .cells #[.int .i64 t692, .int .i64 t693, .int .i64 t694, .slice Ao49 t695.length co49] 29 (0, 0)) (by refine qB ?_; refine blk_far ?_ NB699_736.out _; refine qB ?_; refine blk_far ?_ NB699_736.out _; refine qB ?_; refine blk_far ?_ NB699_736.out _; refine qB ?_; refine blk_far ?_ NB699_736.out _; refine qB ?_; exact BK699.out) hb); replace BK736 := aM (blk_below (g := gb736) (o := .cells #[.int .i64 t729, .int .i64 t730, .int .i64 t731, .slice Ao146 t732.length co146] 29 (0, 0)) (by exact bP BK736.out) hb); replace HB := bS HB hb; clear hb))
       go_meet
       case rel => exact ⟨_, ((t735 != t680)), qE, H', ⟨by have := HJ18.out; have := HJ76.out; first | omega | exact Nat.le_refl _⟩, ⟨by (try simp only [hl689003_76]); refine qR ?_; exact Kd.R_mono HO_682003.out (fun _ hk => ⟨hk.1.1.1, ⟨hk.1.1.2, hk.2⟩⟩)⟩, ⟨by (try simp only [hl689003_76]); refine qR ?_; exact Kd.R_mono HO_689003.out (fun _ hk => ⟨hk.1.1.1, ⟨hk.1.1.2, hk.2⟩⟩)⟩, ⟨by (try simp only [hl689003_76]); refine qR ?_; exact Kd.R_mono HO_700003.out (fun _ hk => ⟨hk.1.1.1, ⟨hk.1.1.2, hk.2⟩⟩)⟩, ⟨by (try simp only [hl689003_76]); refine qR ?_; exact Kd.R_mono HO734.out (fun _ hk => ⟨hk.1.1.1.2, ⟨hk.1.1.2, hk.1.2⟩⟩)⟩, ⟨by (try simp only [hl689003_76]); refine qB ?_; exact BK662.out⟩, ⟨by (try simp only [hl689003_76]); refine qB ?_; exact BK681.out⟩, ⟨by (try simp only [hl689003_76]); refine qB ?_; exact BK688.out⟩, ⟨by (try simp only [hl689003_76]); refine qB ?_; exact BK699.out⟩, ⟨by (try simp only [hl689003_76]); refine qB ?_; exact BK736.out⟩, ⟨by exact qW HB.out⟩⟩
      replace c148 := Bool.eq_false_iff.mpr c148
      subst c148
      have H1 : (laws_FnExactIndexImage.j2 kj76 t717 true t692 t693 t694 t718) = some r := by rw [if_neg (show ¬ (false = true) by decide)] at H; exact H
      clear H
      have H := H1
      clear H1
      have H' := aM H
      clear H
      have hnb159 := NB736_662.out
      have hnc159 := NB662_736.out
      have hnb160 := NB736_681.out
      have hnc160 := NB681_736.out
      have hnb161 := NB736_688.out
      have hnc161 := NB688_736.out
      have hnb162 := NB736_699.out
      have hnc162 := NB699_736.out
      obtain ⟨⟨hcz163_0, hcz163_1, hcz163_2, hcz163_3⟩, hfz163_0, hfz163_1, hfz163_2, hfz163_3⟩ := cf4 BK736
      have hnb164 := NB681_662.out
      have hnc164 := NB662_681.out
      have hnb165 := NB681_688.out
      have hnc165 := NB688_681.out
      have hnb166 := NB681_699.out
      have hnc166 := NB699_681.out
      obtain ⟨⟨hcz167_0, hcz167_1, hcz167_2, hcz167_3⟩, hfz167_0, hfz167_1, hfz167_2, hfz167_3⟩ := cf4 BK681
      go_wp2_with (first | ((with_reducible refine gate_callee (f := 17) rfl ?_); refine gL (some 104) Try.func17 #[.agg #[.int .i64 t729, .int .i64 t730, .int .i64 t731, .slice Ao146 t732.length co146], .agg #[.int .i64 t674, .int .i64 t675, .int .i64 t676, .slice Ao32 t677.length co32]] ?_; (with_reducible refine (laws_eqImage.calls kj76 t729 t730 t731 _ _ t732 t674 t675 t676 _ _ t677 false _ ?side1 ?side2 ?side3 ?side4 A147.out).mono ?_); (case side1 => refine (Kd.R_reads' (e := 3) (base := w.heap.size) (ok := fun k_ => ((((True ∧ some k_ ≠ (.slice Ao32 t677.length co32 : Value).ownBlock) ∧ some k_ ≠ (.slice Ao39 t713.length co39 : Value).ownBlock) ∧ some k_ ≠ (.slice Ao49 t695.length co49 : Value).ownBlock) ∧ some k_ ≠ (.slice Ao137 t723.length co137 : Value).ownBlock)) (n := t732.length) (c := co146) ?_).2.2; exact (by refine qR ?_; exact (fr4 HO734 BK736))); (case side2 => exact (Kd.R_reads' HO734.out).2.1); (case side3 => refine (Kd.R_reads' (e := 3) (base := w.heap.size) (ok := fun k_ => (((some k_ ≠ (.slice Ao39 t713.length co39 : Value).ownBlock ∧ some k_ ≠ (.slice Ao49 t695.length co49 : Value).ownBlock) ∧ some k_ ≠ (.slice Ao137 t723.length co137 : Value).ownBlock) ∧ some k_ ≠ (.slice Ao146 t732.length co146 : Value).ownBlock)) (n := t677.length) (c := co32) ?_).2.2; exact (by refine qR ?_; exact (fr4 HO_682003 BK736))); (case side4 => exact (Kd.R_reads' HO_682003.out).2.1); rintro e w168 ⟨rfl, hb⟩; refine ⟨_, rfl, ?_⟩; replace HO_682003 := aM (Kd.R_below (by refine qR ?_; exact (fr4 HO_682003 BK736)) hb); replace HO_689003 := aM (Kd.R_below (by refine qR ?_; exact (fr4 HO_689003 BK736)) hb); replace HO_700003 := aM (Kd.R_below (by refine qR ?_; exact (fr4 HO_700003 BK736)) hb); replace HO725 := aM (Kd.R_below (by refine qR ?_; exact (fr4 HO725 BK736)) hb); replace HO728 := aM (Kd.S_below (by (with_reducible repeat (first | apply Kd.S_alloc | apply Kd.S_drewN | apply Kd.S_drew)); exact (Kd.S_mono (Kd.S_far (p := ⟨gb736, 3, none⟩) (Kd.S_far (p := ⟨gb736, 2, none⟩) (Kd.S_far (p := ⟨gb736, 1, none⟩) (Kd.S_far (p := ⟨gb736, 0, none⟩) (Kd.S_types HO728.out BK736.out (by decide)) (fun _ hk => hk.2) (.int .i64 t729)) (fun _ hk => hk.2) (.int .i64 t730)) (fun _ hk => hk.2) (.int .i64 t731)) (fun _ hk => hk.2) (.slice Ao146 t732.length co146)) (fun _ h_ => h_.1))) hb); replace HO734 := aM (Kd.R_below (by refine qR ?_; exact (fr4 HO734 BK736)) hb); replace BK662 := aM (blk_below (g := gb662) (o := .cells #[.int .i64 a0_0, .int .i64 a0_1, .int .i64 a0_2, .slice A0_3 l0_3.length c0_3] 24 (0, 0)) (by refine qB ?_; refine blk_far ?_ NB662_736.out _; refine qB ?_; refine blk_far ?_ NB662_736.out _; refine qB ?_; refine blk_far ?_ NB662_736.out _; refine qB ?_; refine blk_far ?_ NB662_736.out _; refine qB ?_; exact BK662.out) hb); replace BK681 := aM (blk_below (g := gb681) (o := .cells #[.int .i64 t674, .int .i64 t675, .int .i64 t676, .slice Ao32 t677.length co32] 29 (0, 0)) (by refine qB ?_; refine blk_far ?_ NB681_736.out _; refine qB ?_; refine blk_far ?_ NB681_736.out _; refine qB ?_; refine blk_far ?_ NB681_736.out _; refine qB ?_; refine blk_far ?_ NB681_736.out _; refine qB ?_; exact BK681.out) hb); replace BK688 := aM (blk_below (g := gb688) (o := .cells #[.int .i64 t682, .int .i64 t683, .int .i64 t684, .slice Ao39 t713.length co39] 29 (0, 0)) (by refine qB ?_; refine blk_far ?_ NB688_736.out _; refine qB ?_; refine blk_far ?_ NB688_736.out _; refine qB ?_; refine blk_far ?_ NB688_736.out _; refine qB ?_; refine blk_far ?_ NB688_736.out _; refine qB ?_; exact BK688.out) hb); replace BK699 := aM (blk_below (g := gb699) (o := .cells #[.int .i64 t692, .int .i64 t693, .int .i64 t694, .slice Ao49 t695.length co49] 29 (0, 0)) (by refine qB ?_; refine blk_far ?_ NB699_736.out _; refine qB ?_; refine blk_far ?_ NB699_736.out _; refine qB ?_; refine blk_far ?_ NB699_736.out _; refine qB ?_; refine blk_far ?_ NB699_736.out _; refine qB ?_; exact BK699.out) hb); replace BK736 := aM (blk_below (g := gb736) (o := .cells #[.int .i64 t729, .int .i64 t730, .int .i64 t731, .slice Ao146 t732.length co146] 29 (0, 0)) (by exact bP BK736.out) hb); replace HB := bS HB hb; clear hb))
      go_meet
      case rel => exact ⟨_, (true), qE, H', ⟨by have := HJ18.out; have := HJ76.out; first | omega | exact Nat.le_refl _⟩, ⟨by (try simp only [hl689003_76]); refine qR ?_; exact Kd.R_mono HO_682003.out (fun _ hk => ⟨hk.1.1.1, ⟨hk.1.1.2, hk.2⟩⟩)⟩, ⟨by (try simp only [hl689003_76]); refine qR ?_; exact Kd.R_mono HO_689003.out (fun _ hk => ⟨hk.1.1.1, ⟨hk.1.1.2, hk.2⟩⟩)⟩, ⟨by (try simp only [hl689003_76]); refine qR ?_; exact Kd.R_mono HO_700003.out (fun _ hk => ⟨hk.1.1.1, ⟨hk.1.1.2, hk.2⟩⟩)⟩, ⟨by (try simp only [hl689003_76]); refine qR ?_; exact Kd.R_mono HO734.out (fun _ hk => ⟨hk.1.1.1.2, ⟨hk.1.1.2, hk.1.2⟩⟩)⟩, ⟨by (try simp only [hl689003_76]); refine qB ?_; exact BK662.out⟩, ⟨by (try simp only [hl689003_76]); refine qB ?_; exact BK681.out⟩, ⟨by (try simp only [hl689003_76]); refine qB ?_; exact BK688.out⟩, ⟨by (try simp only [hl689003_76]); refine qB ?_; exact BK699.out⟩, ⟨by (try simp only [hl689003_76]); refine qB ?_; exact BK736.out⟩, ⟨by exact qW HB.out⟩⟩
     case rest =>
      clear HC124
      try clear c1
      try clear c4
      try clear c4b0
      try clear c9
      try clear c9b0
      try clear c51
      try clear c68
      try clear c71
      try clear c74
      try clear c90
      try clear c90b0
      try clear c92
      try clear c109
      try clear c112
      try clear c112b0
      try clear c120
      try clear c120b0
      try clear c120b1
      try clear c148
      try clear hcz104_0 hcz104_1 hcz104_2 hcz104_3 hfz104_0 hfz104_1 hfz104_2 hfz104_3
      try clear hcz107_0 hcz107_1 hcz107_2 hcz107_3 hfz107_0 hfz107_1 hfz107_2 hfz107_3
      try clear hcz11_0 hcz11_1 hcz11_2 hcz11_3 hfz11_0 hfz11_1 hfz11_2 hfz11_3
      try clear hcz128_0 hcz128_1 hcz128_2 hcz128_3 hfz128_0 hfz128_1 hfz128_2 hfz128_3
      try clear hcz130_0 hcz130_1 hcz130_2 hcz130_3 hfz130_0 hfz130_1 hfz130_2 hfz130_3
      try clear hcz134_0 hcz134_1 hcz134_2 hcz134_3 hfz134_0 hfz134_1 hfz134_2 hfz134_3
      try clear hcz145_0 hcz145_1 hcz145_2 hcz145_3 hfz145_0 hfz145_1 hfz145_2 hfz145_3
      try clear hcz153_0 hcz153_1 hcz153_2 hcz153_3 hfz153_0 hfz153_1 hfz153_2 hfz153_3
      try clear hcz157_0 hcz157_1 hcz157_2 hcz157_3 hfz157_0 hfz157_1 hfz157_2 hfz157_3
      try clear hcz163_0 hcz163_1 hcz163_2 hcz163_3 hfz163_0 hfz163_1 hfz163_2 hfz163_3
      try clear hcz167_0 hcz167_1 hcz167_2 hcz167_3 hfz167_0 hfz167_1 hfz167_2 hfz167_3
      try clear hcz21_0 hcz21_1 hcz21_2 hcz21_3 hfz21_0 hfz21_1 hfz21_2 hfz21_3
      try clear hcz23_0 hcz23_1 hcz23_2 hcz23_3 hfz23_0 hfz23_1 hfz23_2 hfz23_3
      try clear hcz31_0 hcz31_1 hcz31_2 hcz31_3 hfz31_0 hfz31_1 hfz31_2 hfz31_3
      try clear hcz33_0 hcz33_1 hcz33_2 hcz33_3 hfz33_0 hfz33_1 hfz33_2 hfz33_3
      try clear hcz38_0 hcz38_1 hcz38_2 hcz38_3 hfz38_0 hfz38_1 hfz38_2 hfz38_3
      try clear hcz41_0 hcz41_1 hcz41_2 hcz41_3 hfz41_0 hfz41_1 hfz41_2 hfz41_3
      try clear hcz48_0 hcz48_1 hcz48_2 hcz48_3 hfz48_0 hfz48_1 hfz48_2 hfz48_3
      try clear hcz55_0 hcz55_1 hcz55_2 hcz55_3 hfz55_0 hfz55_1 hfz55_2 hfz55_3
      try clear hcz58_0 hcz58_1 hcz58_2 hcz58_3 hfz58_0 hfz58_1 hfz58_2 hfz58_3
      try clear hcz63_0 hcz63_1 hcz63_2 hcz63_3 hfz63_0 hfz63_1 hfz63_2 hfz63_3
      try clear hcz66_0 hcz66_1 hcz66_2 hcz66_3 hfz66_0 hfz66_1 hfz66_2 hfz66_3
      try clear hcz6_0 hcz6_1 hcz6_2 hcz6_3 hfz6_0 hfz6_1 hfz6_2 hfz6_3
      try clear hcz87_0 hcz87_1 hcz87_2 hcz87_3 hfz87_0 hfz87_1 hfz87_2 hfz87_3
      try clear hcz96_0 hcz96_1 hcz96_2 hcz96_3 hfz96_0 hfz96_1 hfz96_2 hfz96_3
      try clear hcz99_0 hcz99_1 hcz99_2 hcz99_3 hfz99_0 hfz99_1 hfz99_2 hfz99_3
      obtain ⟨kq, x110_123, rfl, HA, HJ123, HO_682003, HO_689003, HO_700003, HO_737003, BK662, BK681, BK688, BK699, BK736, HB⟩ := hcut
      have hl700003_123 := (Kd.R_reads' HO_700003.out).1
      rw [hl700003_123] at HO_700003
      (try simp only [hl700003_123])
      (try simp only [hl700003_123] at BK662)
      (try simp only [hl700003_123] at BK681)
      (try simp only [hl700003_123] at BK688)
      (try simp only [hl700003_123] at BK699)
      (try simp only [hl700003_123] at BK736)
      (try simp only [hl700003_123] at HO_682003)
      (try simp only [hl700003_123] at HO_689003)
      (try simp only [hl700003_123] at HO_737003)
      cases kq with
      | zero => exact absurd HA.out (by simp [laws_FnExactIndexImage.j2])
      | succ kj123 =>
       have H := HA.out
       clear HA
       simp only [laws_FnExactIndexImage.j2] at H
       by_cases c169 : x110_123 = true
       ·subst c169
        have H1 : (some false) = some r := by rw [if_pos rfl] at H; exact H
        clear H
        have H := H1
        clear H1
        obtain rfl := Option.some.inj H
        exact absurd hrt (by decide)
       replace c169 := Bool.eq_false_iff.mpr c169
       subst c169
       have H1 : ((laws_heldImage.f kj123 t692 t693 t694 t718 1).bind fun t738 => (if t738 < 0 then (some false) else (if t738 = t717 then (some true) else (some false)))) = some r := by rw [if_neg (show ¬ (false = true) by decide)] at H; exact H
       clear H
       have H := H1
       clear H1
       replace H := Option.bind_eq_some_iff.mp H
       obtain ⟨t738, A1700, H⟩ := H
       replace H : (if t738 < 0 then (some false) else (if t738 = t717 then (some true) else (some false))) = some r := H
       have A170 := aM A1700
       clear A1700
       by_cases c171 : t738 < 0
       ·rw [if_pos c171] at H
        have c171b0 : decide (t738 < 0) = true := decide_eq_true c171
        clear c171
        obtain rfl := Option.some.inj H
        exact absurd hrt (by decide)
       rw [if_neg c171] at H
       have c171b0 : decide (t738 < 0) = false := decide_eq_false c171
       clear c171
       by_cases c178 : t738 = t717
       rotate_left
       ·rw [if_neg c178] at H
        have c178b0 : (t738 == t717) = false := beq_eq_false_iff_ne.mpr c178
        have c178b1 : (t738 != t717) = true := bne_iff_ne.mpr c178
        obtain rfl := Option.some.inj H
        exact absurd hrt (by decide)
       rw [if_pos c178] at H
       have c178b0 : (t738 == t717) = true := beq_iff_eq.mpr c178
       have c178b1 : (t738 != t717) = false := bne_eq_false_iff_eq.mpr c178
       clear c178
       obtain rfl := Option.some.inj H
       have hnb179 := NB699_662.out
       have hnc179 := NB662_699.out
       have hnb180 := NB699_681.out
       have hnc180 := NB681_699.out
       have hnb181 := NB699_688.out
       have hnc181 := NB688_699.out
       have hnb182 := NB699_736.out
       have hnc182 := NB736_699.out
       obtain ⟨⟨hcz183_0, hcz183_1, hcz183_2, hcz183_3⟩, hfz183_0, hfz183_1, hfz183_2, hfz183_3⟩ := cf4 BK699
       go_wp2_with (first | ((with_reducible refine gate_callee (f := 31) rfl ?_); refine gL (some 113) Try.func31 #[.agg #[.int .i64 t692, .int .i64 t693, .int .i64 t694, .slice Ao49 t718.length co49], .int .i64 1] ?_; (with_reducible refine (laws_heldImage.calls kj123 t692 t693 t694 _ _ t718 1 t738 _ ?side1 ?side2 A170.out).mono ?_); (case side1 => exact qC (Kd.R_reads' HO_700003.out).2.2); (case side2 => exact (Kd.R_reads' HO_700003.out).2.1); rintro e w184 ⟨rfl, hb⟩; refine ⟨_, rfl, ?_⟩; replace HO_682003 := aM (Kd.R_below (qR HO_682003.out) hb); replace HO_689003 := aM (Kd.R_below (qR HO_689003.out) hb); replace HO_700003 := aM (Kd.R_below (qR HO_700003.out) hb); replace HO_737003 := aM (Kd.R_below (qR HO_737003.out) hb); replace BK662 := bB BK662 hb; replace BK681 := bB BK681 hb; replace BK688 := bB BK688 hb; replace BK699 := bB BK699 hb; replace BK736 := bB BK736 hb; replace HB := bS HB hb; clear hb))
       go_ret
       exact ⟨qX, by exact qW HB.out⟩
def laws_FnExactIndexImage.Pure : Prop := ∀ (a0_0 : Int) (a0_1 : Int) (a0_2 : Int) (l0_3 : List Int) (l1 : List (List Int)), (Lit.int .i64 a0_0).wf = true → (Lit.int .i64 a0_1).wf = true → (Lit.int .i64 a0_2).wf = true → l0_3.length ≤ maxLen → (∀ x ∈ l0_3, (Lit.int .i64 x).wf = true) → l1.length ≤ maxLen → (∀ y ∈ l1, y.length ≤ maxLen) → ∃ k, laws_FnExactIndexImage.f k a0_0 a0_1 a0_2 l0_3 l1 = some true
theorem laws_FnExactIndexImage.walk (P : laws_FnExactIndexImage.Pure) (a0_0 : Int) (a0_1 : Int) (a0_2 : Int) (A0_3 : Option Addr) (len0_3 cap0_3 : Nat) (z0_3 : List Int) (A1 : Option Addr) (cap1 : Nat) (l1 : List (List Int)) (w : World) (w0_0 : (Lit.int .i64 a0_0).wf = true) (w0_1 : (Lit.int .i64 a0_1).wf = true) (w0_2 : (Lit.int .i64 a0_2).wf = true) (w0_3 : (A0_3 = none ∧ len0_3 = 0 ∧ cap0_3 = 0 ∧ z0_3 = []) ∨ ∃ x, A0_3 = some x ∧ len0_3 ≤ cap0_3 ∧ cap0_3 ≤ maxLen ∧ z0_3.length = cap0_3 ∧ (∀ i, i < z0_3.length → w.cell? (x.add i) = some (.int .i64 (z0_3.getD i 0))) ∧ ∀ n ∈ z0_3, (Lit.int .i64 n).wf = true) (hr1 : Kd.C (Kd.slice 3 (Kd.int .i64)) w A1 l1.length l1) (hc1 : l1.length ≤ cap1) (hm1 : l1.length ≤ maxLen) (hw1 : ∀ y ∈ l1, y.length ≤ maxLen) :
  Calls Try.prog 7 #[.agg #[.int .i64 a0_0, .int .i64 a0_1, .int .i64 a0_2, .slice A0_3 len0_3 cap0_3], .slice A1 l1.length cap1] w fun e w' => e = .returned (.bool true) ∧ Below w.heap.size w w' := by
 obtain ⟨l0_3, rfl, hr0_3, hm0_3, hw0_3, hc0_3⟩ := ReadsInt.ofRowC w0_3
 obtain ⟨k, h⟩ := P a0_0 a0_1 a0_2 l0_3 l1 w0_0 w0_1 w0_2 hm0_3 hw0_3 hm1 hw1
 refine (laws_FnExactIndexImage.calls k a0_0 a0_1 a0_2 _ _ l0_3 _ _ l1 true w (Kd.C_of_reads (d := (0 : Int)) (h1 := fun _ => rfl) hr0_3) hc0_3 hr1 hc1 h rfl).mono ?_
 rintro e w' ⟨rfl, hd⟩
 exact ⟨rfl, hd⟩
end Go.Proofs.Ytohbpilokmppbaa.P
