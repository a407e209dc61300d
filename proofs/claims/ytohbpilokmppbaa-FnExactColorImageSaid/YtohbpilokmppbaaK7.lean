/- Contracts and row, written by a program of this place out of the translation: the call answers true and its argument reads as before, for every input; no condition. -/
import Derived.Test.YtohbpilokmppbaaK0
import Derived.Test.YtohbpilokmppbaaK1
import Derived.Test.YtohbpilokmppbaaK4
import Derived.Test.YtohbpilokmppbaaK5
import Derived.Test.YtohbpilokmppbaaK6
namespace Go.Proofs.Ytohbpilokmppbaa.P
open Go.RowKit Go.Proofs.YtohbpilokmppbaaW.PrintWords Go.Proofs.YtohbpilokmppbaaW.PrintLast Go.Proofs.YtohbpilokmppbaaW.PrintMore
attribute [local go_sem] max2_int min2_int max_two min_two max_three min_three max_four min_four   -- for this text's walks alone
set_option linter.unusedVariables false
set_option linter.unusedSimpArgs false
mutual
def laws_FnExactColorImage.j0 : Nat → List (List Int) → Int → Bool → List (List Int) → Bool → Bool → Int → Int → Int → List Int → Int → Int → Int → List Int → Int → Int → Int → List Int → Int → Int → Int → List Int → Option (Bool)
 | 0, _, _, _, _, _, _, _, _, _, _, _, _, _, _, _, _, _, _, _, _, _, _ => none
 | k + 1, x1, x2, x9, x11, x13, x57, x413000, x413001, x413002, x413003, x432000, x432001, x432002, x432003, x439000, x439001, x439002, x439003, x450000, x450001, x450002, x450003 => if x57 = true then (some false) else ((laws_toImage.f k x413000 x413001 x413002 x413003).bind fun bt451 => ((laws_eqImage.f k x439000 x439001 x439002 x439003 bt451.1 bt451.2.1 bt451.2.2.1 bt451.2.2.2).bind fun t457 => (if t457 = true then ((laws_toIntSS.f k x1).bind fun t458 => ((laws_eqIntSS.f k x11 t458).bind fun t461 => (if t461 = true then ((laws_markImage.f k x439000 x439001 x439002 x439003 1).bind fun bt462 => ((laws_markIntSS.f k x11 bt462.1).bind fun bt464 => (if bt464.1 < 0 then (laws_FnExactColorImage.j1 k x1 x2 x9 true x413000 x413001 x413002 x413003 x432000 x432001 x432002 x432003 x450000 x450001 x450002 x450003) else ((laws_eqImage.f k x450000 x450001 x450002 x450003 x432000 x432001 x432002 x432003).bind fun t466 => (if t466 = true then (laws_FnExactColorImage.j1 k x1 x2 x9 (x13 != x9) x413000 x413001 x413002 x413003 x432000 x432001 x432002 x432003 x450000 x450001 x450002 x450003) else (laws_FnExactColorImage.j1 k x1 x2 x9 true x413000 x413001 x413002 x413003 x432000 x432001 x432002 x432003 x450000 x450001 x450002 x450003)))))) else (some false)))) else (some false))))
def laws_FnExactColorImage.j1 : Nat → List (List Int) → Int → Bool → Bool → Int → Int → Int → List Int → Int → Int → Int → List Int → Int → Int → Int → List Int → Option (Bool)
 | 0, _, _, _, _, _, _, _, _, _, _, _, _, _, _, _, _ => none
 | k + 1, x1, x2, x9, x86, x413000, x413001, x413002, x413003, x432000, x432001, x432002, x432003, x450000, x450001, x450002, x450003 => if x86 = true then (some false) else ((laws_markImage.f k x450000 x450001 x450002 x450003 1).bind fun bt467 => ((laws_heldImage.f k x450000 x450001 x450002 bt467.2 1).bind fun t469 => (if t469 < 0 then (some false) else (if t469 = bt467.1 then ((laws_toImage.f k x413000 x413001 x413002 x413003).bind fun bt470 => ((laws_toIntSS.f k x1).bind fun t476 => ((impl_ColorImage.f bt470.1 bt470.2.1 bt470.2.2.1 bt470.2.2.2 t476 x2).bind fun bt479 => ((laws_eqImage.f k bt479.1 bt479.2.1 bt479.2.2.1 bt479.2.2.2.1 x432000 x432001 x432002 x432003).bind fun t487 => (if t487 = true then (laws_FnExactColorImage.j2 k bt467.1 (bt479.2.2.2.2 != x9) x450000 x450001 x450002 bt467.2) else (laws_FnExactColorImage.j2 k bt467.1 true x450000 x450001 x450002 bt467.2)))))) else (some false)))))
def laws_FnExactColorImage.j2 : Nat → Int → Bool → Int → Int → Int → List Int → Option (Bool)
 | 0, _, _, _, _, _, _ => none
 | k + 1, x15, x115, x450000, x450001, x450002, x450003 => if x115 = true then (some false) else ((laws_heldImage.f k x450000 x450001 x450002 x450003 1).bind fun t488 => (if t488 < 0 then (some false) else (if t488 = x15 then (some true) else (some false))))
end
def laws_FnExactColorImage.f (k : Nat) (a0_0 : Int) (a0_1 : Int) (a0_2 : Int) (l0_3 : List Int) (l1 : List (List Int)) (a2 : Int) : Option (Bool) := (laws_szImage.f a0_0 a0_1 a0_2 l0_3 1048576).bind fun t413 => (if t413 < 0 then (some true) else ((laws_szIntSS.f k l1 t413).bind fun t414 => (if t414 < 0 then (some true) else ((laws_toImage.f k a0_0 a0_1 a0_2 l0_3).bind fun bt415 => ((laws_toIntSS.f k l1).bind fun t421 => ((spec_ColorImage.f k bt415.1 bt415.2.1 bt415.2.2.1 bt415.2.2.2 t421 a2).bind fun bt424 => ((laws_toImage.f k a0_0 a0_1 a0_2 l0_3).bind fun bt432 => ((laws_toIntSS.f k l1).bind fun t439 => ((impl_ColorImage.f bt432.1 bt432.2.1 bt432.2.2.1 bt432.2.2.2 t439 a2).bind fun bt442 => ((laws_eqImage.f k bt442.1 bt442.2.1 bt442.2.2.1 bt442.2.2.2.1 bt424.1 bt424.2.1 bt424.2.2.1 bt424.2.2.2.1).bind fun t450 => (if t450 = true then (laws_FnExactColorImage.j0 k l1 a2 bt424.2.2.2.2 t439 bt442.2.2.2.2 (bt442.2.2.2.2 != bt424.2.2.2.2) a0_0 a0_1 a0_2 l0_3 bt424.1 bt424.2.1 bt424.2.2.1 bt424.2.2.2.1 bt432.1 bt432.2.1 bt432.2.2.1 bt432.2.2.2 bt442.1 bt442.2.1 bt442.2.2.1 bt442.2.2.2.1) else (laws_FnExactColorImage.j0 k l1 a2 bt424.2.2.2.2 t439 bt442.2.2.2.2 true a0_0 a0_1 a0_2 l0_3 bt424.1 bt424.2.1 bt424.2.2.1 bt424.2.2.2.1 bt432.1 bt432.2.1 bt432.2.2.1 bt432.2.2.2 bt442.1 bt442.2.1 bt442.2.2.1 bt442.2.2.2.1))))))))))))
theorem laws_FnExactColorImage.mono_l : ∀ k, (∀ y0 y1 y2 y3 y4 y5 y6 y7 y8 y9 y10 y11 y12 y13 y14 y15 y16 y17 y18 y19 y20 y21, LeO (laws_FnExactColorImage.j0 k y0 y1 y2 y3 y4 y5 y6 y7 y8 y9 y10 y11 y12 y13 y14 y15 y16 y17 y18 y19 y20 y21) (laws_FnExactColorImage.j0 (k + 1) y0 y1 y2 y3 y4 y5 y6 y7 y8 y9 y10 y11 y12 y13 y14 y15 y16 y17 y18 y19 y20 y21)) ∧ (∀ y0 y1 y2 y3 y4 y5 y6 y7 y8 y9 y10 y11 y12 y13 y14 y15, LeO (laws_FnExactColorImage.j1 k y0 y1 y2 y3 y4 y5 y6 y7 y8 y9 y10 y11 y12 y13 y14 y15) (laws_FnExactColorImage.j1 (k + 1) y0 y1 y2 y3 y4 y5 y6 y7 y8 y9 y10 y11 y12 y13 y14 y15)) ∧ (∀ y0 y1 y2 y3 y4 y5, LeO (laws_FnExactColorImage.j2 k y0 y1 y2 y3 y4 y5) (laws_FnExactColorImage.j2 (k + 1) y0 y1 y2 y3 y4 y5))
 | 0 => ⟨fun _ _ _ _ _ _ _ _ _ _ _ _ _ _ _ _ _ _ _ _ _ _ r h => by simp [laws_FnExactColorImage.j0] at h, fun _ _ _ _ _ _ _ _ _ _ _ _ _ _ _ _ r h => by simp [laws_FnExactColorImage.j1] at h, fun _ _ _ _ _ _ r h => by simp [laws_FnExactColorImage.j2] at h⟩
 | k + 1 => by
  obtain ⟨ih0, ih1, ih2⟩ := laws_FnExactColorImage.mono_l k
  refine ⟨?_, ?_, ?_⟩
  all_goals intros
  all_goals first | unfold laws_FnExactColorImage.j0 | unfold laws_FnExactColorImage.j1 | unfold laws_FnExactColorImage.j2
  all_goals repeat' first | (with_reducible first | exact ih0 _ _ _ _ _ _ _ _ _ _ _ _ _ _ _ _ _ _ _ _ _ _ | exact ih1 _ _ _ _ _ _ _ _ _ _ _ _ _ _ _ _ | exact ih2 _ _ _ _ _ _ | exact laws_eqImage.mono _ _ _ _ _ _ _ _ _ | exact laws_eqIntSS.mono _ _ _ | exact laws_heldImage.mono _ _ _ _ _ _ | exact laws_markImage.mono _ _ _ _ _ _ | exact laws_markIntSS.mono _ _ _ | exact laws_szIntSS.mono _ _ _ | exact laws_toImage.mono _ _ _ _ _ | exact laws_toIntSS.mono _ _ | exact spec_ColorImage.mono _ _ _ _ _ _ _ | exact lR | exact lN | refine lI ?_ ?_ | refine lB ?_ fun _ => ?_) | exact ih0 _ _ _ _ _ _ _ _ _ _ _ _ _ _ _ _ _ _ _ _ _ _ | exact ih1 _ _ _ _ _ _ _ _ _ _ _ _ _ _ _ _ | exact ih2 _ _ _ _ _ _ | exact laws_eqImage.mono _ _ _ _ _ _ _ _ _ | exact laws_eqIntSS.mono _ _ _ | exact laws_heldImage.mono _ _ _ _ _ _ | exact laws_markImage.mono _ _ _ _ _ _ | exact laws_markIntSS.mono _ _ _ | exact laws_szIntSS.mono _ _ _ | exact laws_toImage.mono _ _ _ _ _ | exact laws_toIntSS.mono _ _ | exact spec_ColorImage.mono _ _ _ _ _ _ _ | exact lN | refine lI ?_ ?_ | refine lB ?_ fun _ => ?_
theorem laws_FnExactColorImage.mono : ∀ a0 a1 a2 a3 a4 a5 k, LeO (laws_FnExactColorImage.f k a0 a1 a2 a3 a4 a5) (laws_FnExactColorImage.f (k + 1) a0 a1 a2 a3 a4 a5) := by
 intro a0 a1 a2 a3 a4 a5 k
 obtain ⟨ih0, ih1, ih2⟩ := laws_FnExactColorImage.mono_l k
 unfold laws_FnExactColorImage.f
 repeat' first | (with_reducible first | exact ih0 _ _ _ _ _ _ _ _ _ _ _ _ _ _ _ _ _ _ _ _ _ _ | exact ih1 _ _ _ _ _ _ _ _ _ _ _ _ _ _ _ _ | exact ih2 _ _ _ _ _ _ | exact laws_eqImage.mono _ _ _ _ _ _ _ _ _ | exact laws_eqIntSS.mono _ _ _ | exact laws_heldImage.mono _ _ _ _ _ _ | exact laws_markImage.mono _ _ _ _ _ _ | exact laws_markIntSS.mono _ _ _ | exact laws_szIntSS.mono _ _ _ | exact laws_toImage.mono _ _ _ _ _ | exact laws_toIntSS.mono _ _ | exact spec_ColorImage.mono _ _ _ _ _ _ _ | exact lR | exact lN | refine lI ?_ ?_ | refine lB ?_ fun _ => ?_) | exact ih0 _ _ _ _ _ _ _ _ _ _ _ _ _ _ _ _ _ _ _ _ _ _ | exact ih1 _ _ _ _ _ _ _ _ _ _ _ _ _ _ _ _ | exact ih2 _ _ _ _ _ _ | exact laws_eqImage.mono _ _ _ _ _ _ _ _ _ | exact laws_eqIntSS.mono _ _ _ | exact laws_heldImage.mono _ _ _ _ _ _ | exact laws_markImage.mono _ _ _ _ _ _ | exact laws_markIntSS.mono _ _ _ | exact laws_szIntSS.mono _ _ _ | exact laws_toImage.mono _ _ _ _ _ | exact laws_toIntSS.mono _ _ | exact spec_ColorImage.mono _ _ _ _ _ _ _ | exact lN | refine lI ?_ ?_ | refine lB ?_ fun _ => ?_
set_option maxHeartbeats 8000000 in
set_option maxRecDepth 100000 in
theorem laws_FnExactColorImage.calls (k : Nat) (a0_0 : Int) (a0_1 : Int) (a0_2 : Int) (A0_3 : Option Addr) (c0_3 : Nat) (l0_3 : List Int) (A1 : Option Addr) (c1 : Nat) (l1 : List (List Int)) (a2 : Int) (r : Bool) (w : World) (hr0_3 : Kd.C (Kd.int .i64) w A0_3 l0_3.length l0_3) (hc0_3 : l0_3.length ≤ c0_3) (hr1 : Kd.C (Kd.slice 3 (Kd.int .i64)) w A1 l1.length l1) (hc1 : l1.length ≤ c1) (h : laws_FnExactColorImage.f k a0_0 a0_1 a0_2 l0_3 l1 a2 = some r) (hrt : r = true) :
  Calls Try.prog 5 #[.agg #[.int .i64 a0_0, .int .i64 a0_1, .int .i64 a0_2, .slice A0_3 l0_3.length c0_3], .slice A1 l1.length c1, .int .i64 a2] w fun e w' => e = .returned (.bool r) ∧ Below w.heap.size w w' := by
 have hu24 := Try.underlying24
 have hu29 := Try.underlying29
 have HR0_3 := aM hr0_3
 have HC0_3 := aM hc0_3
 clear hr0_3 hc0_3
 have HR1 := aM hr1
 have HC1 := aM hc1
 clear hr1 hc1
 have HB := aM (Below.refl w.heap.size w)
 unfold laws_FnExactColorImage.f at h
 have H := h
 clear h
 replace H := Option.bind_eq_some_iff.mp H
 obtain ⟨t413, A40, H⟩ := H
 replace H : (if t413 < 0 then (some true) else ((laws_szIntSS.f k l1 t413).bind fun t414 => (if t414 < 0 then (some true) else ((laws_toImage.f k a0_0 a0_1 a0_2 l0_3).bind fun bt415 => ((laws_toIntSS.f k l1).bind fun t421 => ((spec_ColorImage.f k bt415.1 bt415.2.1 bt415.2.2.1 bt415.2.2.2 t421 a2).bind fun bt424 => ((laws_toImage.f k a0_0 a0_1 a0_2 l0_3).bind fun bt432 => ((laws_toIntSS.f k l1).bind fun t439 => ((impl_ColorImage.f bt432.1 bt432.2.1 bt432.2.2.1 bt432.2.2.2 t439 a2).bind fun bt442 => ((laws_eqImage.f k bt442.1 bt442.2.1 bt442.2.2.1 bt442.2.2.2.1 bt424.1 bt424.2.1 bt424.2.2.1 bt424.2.2.2.1).bind fun t450 => (if t450 = true then (laws_FnExactColorImage.j0 k l1 a2 bt424.2.2.2.2 t439 bt442.2.2.2.2 (bt442.2.2.2.2 != bt424.2.2.2.2) a0_0 a0_1 a0_2 l0_3 bt424.1 bt424.2.1 bt424.2.2.1 bt424.2.2.2.1 bt432.1 bt432.2.1 bt432.2.2.1 bt432.2.2.2 bt442.1 bt442.2.1 bt442.2.2.1 bt442.2.2.2.1) else (laws_FnExactColorImage.j0 k l1 a2 bt424.2.2.2.2 t439 bt442.2.2.2.2 true a0_0 a0_1 a0_2 l0_3 bt424.1 bt424.2.1 bt424.2.2.1 bt424.2.2.2.1 bt432.1 bt432.2.1 bt432.2.2.1 bt432.2.2.2 bt442.1 bt442.2.1 bt442.2.2.1 bt442.2.2.2.1)))))))))))) = some r := H
 have A4 := aM A40
 clear A40
 by_cases c5 : t413 < 0
 ·rw [if_pos c5] at H
  have c5b0 : decide (t413 < 0) = true := decide_eq_true c5
  clear c5
  obtain rfl := Option.some.inj H
  go_enter Try.func5, Try.ntmps5
  go_wp2_with (first | ((with_reducible refine gate_dst (N := 3) rfl ?_); refine bxE (N := 3) (cs := #[.int .i64 a0_0, .int .i64 a0_1, .int .i64 a0_2, .slice A0_3 l0_3.length c0_3]) (t := 24) ?_; intro gb412 hg w6 hbox hb; have BK412 := aM (hbox); have GW412 := gW hg HB; have GE412 := gW hg HB; replace HB := bS HB hb; clear hb hbox hg; obtain ⟨⟨hcz7_0, hcz7_1, hcz7_2, hcz7_3⟩, hfz7_0, hfz7_1, hfz7_2, hfz7_3⟩ := cf4 BK412) | ((with_reducible refine gate_callee (f := 12) rfl ?_); refine gL (some 21) Try.func12 #[.agg #[.int .i64 a0_0, .int .i64 a0_1, .int .i64 a0_2, .slice A0_3 l0_3.length c0_3], .int .i64 1048576] ?_; (with_reducible refine (laws_szImage.calls a0_0 a0_1 a0_2 _ _ l0_3 1048576 t413 _ ?side1 ?side2 A4.out).mono ?_); (case side1 => exact qC (Kd.C_below HR0_3.out HB.out)); (case side2 => exact HC0_3.out); rintro e w8 ⟨rfl, hb⟩; refine ⟨_, rfl, ?_⟩; replace BK412 := bB BK412 hb; replace HB := bS HB hb; clear hb))
  go_ret
  exact ⟨qX, by exact qW HB.out⟩
 rw [if_neg c5] at H
 have c5b0 : decide (t413 < 0) = false := decide_eq_false c5
 clear c5
 replace H := Option.bind_eq_some_iff.mp H
 obtain ⟨t414, A90, H⟩ := H
 replace H : (if t414 < 0 then (some true) else ((laws_toImage.f k a0_0 a0_1 a0_2 l0_3).bind fun bt415 => ((laws_toIntSS.f k l1).bind fun t421 => ((spec_ColorImage.f k bt415.1 bt415.2.1 bt415.2.2.1 bt415.2.2.2 t421 a2).bind fun bt424 => ((laws_toImage.f k a0_0 a0_1 a0_2 l0_3).bind fun bt432 => ((laws_toIntSS.f k l1).bind fun t439 => ((impl_ColorImage.f bt432.1 bt432.2.1 bt432.2.2.1 bt432.2.2.2 t439 a2).bind fun bt442 => ((laws_eqImage.f k bt442.1 bt442.2.1 bt442.2.2.1 bt442.2.2.2.1 bt424.1 bt424.2.1 bt424.2.2.1 bt424.2.2.2.1).bind fun t450 => (if t450 = true then (laws_FnExactColorImage.j0 k l1 a2 bt424.2.2.2.2 t439 bt442.2.2.2.2 (bt442.2.2.2.2 != bt424.2.2.2.2) a0_0 a0_1 a0_2 l0_3 bt424.1 bt424.2.1 bt424.2.2.1 bt424.2.2.2.1 bt432.1 bt432.2.1 bt432.2.2.1 bt432.2.2.2 bt442.1 bt442.2.1 bt442.2.2.1 bt442.2.2.2.1) else (laws_FnExactColorImage.j0 k l1 a2 bt424.2.2.2.2 t439 bt442.2.2.2.2 true a0_0 a0_1 a0_2 l0_3 bt424.1 bt424.2.1 bt424.2.2.1 bt424.2.2.2.1 bt432.1 bt432.2.1 bt432.2.2.1 bt432.2.2.2 bt442.1 bt442.2.1 bt442.2.2.1 bt442.2.2.2.1)))))))))) = some r := H
 have A9 := aM A90
 clear A90
 by_cases c10 : t414 < 0
 ·rw [if_pos c10] at H
  have c10b0 : decide (t414 < 0) = true := decide_eq_true c10
  clear c10
  obtain rfl := Option.some.inj H
  go_enter Try.func5, Try.ntmps5
  go_wp2_with (first | ((with_reducible refine gate_dst (N := 3) rfl ?_); refine bxE (N := 3) (cs := #[.int .i64 a0_0, .int .i64 a0_1, .int .i64 a0_2, .slice A0_3 l0_3.length c0_3]) (t := 24) ?_; intro gb412 hg w11 hbox hb; have BK412 := aM (hbox); have GW412 := gW hg HB; have GE412 := gW hg HB; replace HB := bS HB hb; clear hb hbox hg; obtain ⟨⟨hcz12_0, hcz12_1, hcz12_2, hcz12_3⟩, hfz12_0, hfz12_1, hfz12_2, hfz12_3⟩ := cf4 BK412) | ((with_reducible refine gate_callee (f := 12) rfl ?_); refine gL (some 21) Try.func12 #[.agg #[.int .i64 a0_0, .int .i64 a0_1, .int .i64 a0_2, .slice A0_3 l0_3.length c0_3], .int .i64 1048576] ?_; (with_reducible refine (laws_szImage.calls a0_0 a0_1 a0_2 _ _ l0_3 1048576 t413 _ ?side1 ?side2 A4.out).mono ?_); (case side1 => exact qC (Kd.C_below HR0_3.out HB.out)); (case side2 => exact HC0_3.out); rintro e w13 ⟨rfl, hb⟩; refine ⟨_, rfl, ?_⟩; replace BK412 := bB BK412 hb; replace HB := bS HB hb; clear hb) | ((with_reducible refine gate_callee (f := 28) rfl ?_); refine gL (some 26) Try.func28 #[.slice A1 l1.length c1, .int .i64 t413] ?_; (with_reducible refine (laws_szIntSS.calls k _ _ l1 t413 t414 _ ?side1 ?side2 A9.out).mono ?_); (case side1 => exact qC (Kd.C_below HR1.out HB.out)); (case side2 => exact HC1.out); rintro e w' ⟨rfl, ⟨nd, rfl⟩⟩; refine ⟨_, rfl, ?_⟩))
  go_ret
  exact ⟨qX, by exact qW HB.out⟩
 rw [if_neg c10] at H
 have c10b0 : decide (t414 < 0) = false := decide_eq_false c10
 clear c10
 replace H := Option.bind_eq_some_iff.mp H
 obtain ⟨⟨t415, t416, t417, t418⟩, A140, H⟩ := H
 replace H : ((laws_toIntSS.f k l1).bind fun t421 => ((spec_ColorImage.f k t415 t416 t417 t418 t421 a2).bind fun bt424 => ((laws_toImage.f k a0_0 a0_1 a0_2 l0_3).bind fun bt432 => ((laws_toIntSS.f k l1).bind fun t439 => ((impl_ColorImage.f bt432.1 bt432.2.1 bt432.2.2.1 bt432.2.2.2 t439 a2).bind fun bt442 => ((laws_eqImage.f k bt442.1 bt442.2.1 bt442.2.2.1 bt442.2.2.2.1 bt424.1 bt424.2.1 bt424.2.2.1 bt424.2.2.2.1).bind fun t450 => (if t450 = true then (laws_FnExactColorImage.j0 k l1 a2 bt424.2.2.2.2 t439 bt442.2.2.2.2 (bt442.2.2.2.2 != bt424.2.2.2.2) a0_0 a0_1 a0_2 l0_3 bt424.1 bt424.2.1 bt424.2.2.1 bt424.2.2.2.1 bt432.1 bt432.2.1 bt432.2.2.1 bt432.2.2.2 bt442.1 bt442.2.1 bt442.2.2.1 bt442.2.2.2.1) else (laws_FnExactColorImage.j0 k l1 a2 bt424.2.2.2.2 t439 bt442.2.2.2.2 true a0_0 a0_1 a0_2 l0_3 bt424.1 bt424.2.1 bt424.2.2.1 bt424.2.2.2.1 bt432.1 bt432.2.1 bt432.2.2.1 bt432.2.2.2 bt442.1 bt442.2.1 bt442.2.2.1 bt442.2.2.2.1)))))))) = some r := H
 have A14 := aM A140
 clear A140
 replace H := Option.bind_eq_some_iff.mp H
 obtain ⟨t421, A150, H⟩ := H
 replace H : ((spec_ColorImage.f k t415 t416 t417 t418 t421 a2).bind fun bt424 => ((laws_toImage.f k a0_0 a0_1 a0_2 l0_3).bind fun bt432 => ((laws_toIntSS.f k l1).bind fun t439 => ((impl_ColorImage.f bt432.1 bt432.2.1 bt432.2.2.1 bt432.2.2.2 t439 a2).bind fun bt442 => ((laws_eqImage.f k bt442.1 bt442.2.1 bt442.2.2.1 bt442.2.2.2.1 bt424.1 bt424.2.1 bt424.2.2.1 bt424.2.2.2.1).bind fun t450 => (if t450 = true then (laws_FnExactColorImage.j0 k l1 a2 bt424.2.2.2.2 t439 bt442.2.2.2.2 (bt442.2.2.2.2 != bt424.2.2.2.2) a0_0 a0_1 a0_2 l0_3 bt424.1 bt424.2.1 bt424.2.2.1 bt424.2.2.2.1 bt432.1 bt432.2.1 bt432.2.2.1 bt432.2.2.2 bt442.1 bt442.2.1 bt442.2.2.1 bt442.2.2.2.1) else (laws_FnExactColorImage.j0 k l1 a2 bt424.2.2.2.2 t439 bt442.2.2.2.2 true a0_0 a0_1 a0_2 l0_3 bt424.1 bt424.2.1 bt424.2.2.1 bt424.2.2.2.1 bt432.1 bt432.2.1 bt432.2.2.1 bt432.2.2.2 bt442.1 bt442.2.1 bt442.2.2.1 bt442.2.2.2.1))))))) = some r := H
 have A15 := aM A150
 clear A150
 replace H := Option.bind_eq_some_iff.mp H
 obtain ⟨⟨t424, t425, t426, t427, t430⟩, A160, H⟩ := H
 replace H : ((laws_toImage.f k a0_0 a0_1 a0_2 l0_3).bind fun bt432 => ((laws_toIntSS.f k l1).bind fun t439 => ((impl_ColorImage.f bt432.1 bt432.2.1 bt432.2.2.1 bt432.2.2.2 t439 a2).bind fun bt442 => ((laws_eqImage.f k bt442.1 bt442.2.1 bt442.2.2.1 bt442.2.2.2.1 t424 t425 t426 t427).bind fun t450 => (if t450 = true then (laws_FnExactColorImage.j0 k l1 a2 t430 t439 bt442.2.2.2.2 (bt442.2.2.2.2 != t430) a0_0 a0_1 a0_2 l0_3 t424 t425 t426 t427 bt432.1 bt432.2.1 bt432.2.2.1 bt432.2.2.2 bt442.1 bt442.2.1 bt442.2.2.1 bt442.2.2.2.1) else (laws_FnExactColorImage.j0 k l1 a2 t430 t439 bt442.2.2.2.2 true a0_0 a0_1 a0_2 l0_3 t424 t425 t426 t427 bt432.1 bt432.2.1 bt432.2.2.1 bt432.2.2.2 bt442.1 bt442.2.1 bt442.2.2.1 bt442.2.2.2.1)))))) = some r := H
 have A16 := aM A160
 clear A160
 replace H := Option.bind_eq_some_iff.mp H
 obtain ⟨⟨t432, t433, t434, t435⟩, A170, H⟩ := H
 replace H : ((laws_toIntSS.f k l1).bind fun t439 => ((impl_ColorImage.f t432 t433 t434 t435 t439 a2).bind fun bt442 => ((laws_eqImage.f k bt442.1 bt442.2.1 bt442.2.2.1 bt442.2.2.2.1 t424 t425 t426 t427).bind fun t450 => (if t450 = true then (laws_FnExactColorImage.j0 k l1 a2 t430 t439 bt442.2.2.2.2 (bt442.2.2.2.2 != t430) a0_0 a0_1 a0_2 l0_3 t424 t425 t426 t427 t432 t433 t434 t435 bt442.1 bt442.2.1 bt442.2.2.1 bt442.2.2.2.1) else (laws_FnExactColorImage.j0 k l1 a2 t430 t439 bt442.2.2.2.2 true a0_0 a0_1 a0_2 l0_3 t424 t425 t426 t427 t432 t433 t434 t435 bt442.1 bt442.2.1 bt442.2.2.1 bt442.2.2.2.1))))) = some r := H
 have A17 := aM A170
 clear A170
 replace H := Option.bind_eq_some_iff.mp H
 obtain ⟨t439, A180, H⟩ := H
 replace H : ((impl_ColorImage.f t432 t433 t434 t435 t439 a2).bind fun bt442 => ((laws_eqImage.f k bt442.1 bt442.2.1 bt442.2.2.1 bt442.2.2.2.1 t424 t425 t426 t427).bind fun t450 => (if t450 = true then (laws_FnExactColorImage.j0 k l1 a2 t430 t439 bt442.2.2.2.2 (bt442.2.2.2.2 != t430) a0_0 a0_1 a0_2 l0_3 t424 t425 t426 t427 t432 t433 t434 t435 bt442.1 bt442.2.1 bt442.2.2.1 bt442.2.2.2.1) else (laws_FnExactColorImage.j0 k l1 a2 t430 t439 bt442.2.2.2.2 true a0_0 a0_1 a0_2 l0_3 t424 t425 t426 t427 t432 t433 t434 t435 bt442.1 bt442.2.1 bt442.2.2.1 bt442.2.2.2.1)))) = some r := H
 have A18 := aM A180
 clear A180
 replace H := Option.bind_eq_some_iff.mp H
 obtain ⟨⟨t442, t443, t444, t445, t448⟩, A190, H⟩ := H
 replace H : ((laws_eqImage.f k t442 t443 t444 t445 t424 t425 t426 t427).bind fun t450 => (if t450 = true then (laws_FnExactColorImage.j0 k l1 a2 t430 t439 t448 (t448 != t430) a0_0 a0_1 a0_2 l0_3 t424 t425 t426 t427 t432 t433 t434 t435 t442 t443 t444 t445) else (laws_FnExactColorImage.j0 k l1 a2 t430 t439 t448 true a0_0 a0_1 a0_2 l0_3 t424 t425 t426 t427 t432 t433 t434 t435 t442 t443 t444 t445))) = some r := H
 have A19 := aM A190
 clear A190
 have HC20 := aM H
 clear H
 go_enter Try.func5, Try.ntmps5
 go_upto_region 12 with (first | ((with_reducible refine gate_dst (N := 3) rfl ?_); refine bxE (N := 3) (cs := #[.int .i64 a0_0, .int .i64 a0_1, .int .i64 a0_2, .slice A0_3 l0_3.length c0_3]) (t := 24) ?_; intro gb412 hg w21 hbox hb; have BK412 := aM (hbox); have GW412 := gW hg HB; have GE412 := gW hg HB; replace HB := bS HB hb; clear hb hbox hg; obtain ⟨⟨hcz22_0, hcz22_1, hcz22_2, hcz22_3⟩, hfz22_0, hfz22_1, hfz22_2, hfz22_3⟩ := cf4 BK412) | ((with_reducible refine gate_callee (f := 12) rfl ?_); refine gL (some 21) Try.func12 #[.agg #[.int .i64 a0_0, .int .i64 a0_1, .int .i64 a0_2, .slice A0_3 l0_3.length c0_3], .int .i64 1048576] ?_; (with_reducible refine (laws_szImage.calls a0_0 a0_1 a0_2 _ _ l0_3 1048576 t413 _ ?side1 ?side2 A4.out).mono ?_); (case side1 => exact qC (Kd.C_below HR0_3.out HB.out)); (case side2 => exact HC0_3.out); rintro e w23 ⟨rfl, hb⟩; refine ⟨_, rfl, ?_⟩; replace BK412 := bB BK412 hb; replace HB := bS HB hb; clear hb) | ((with_reducible refine gate_callee (f := 28) rfl ?_); refine gL (some 26) Try.func28 #[.slice A1 l1.length c1, .int .i64 t413] ?_; (with_reducible refine (laws_szIntSS.calls k _ _ l1 t413 t414 _ ?side1 ?side2 A9.out).mono ?_); (case side1 => exact qC (Kd.C_below HR1.out HB.out)); (case side2 => exact HC1.out); rintro e w' ⟨rfl, ⟨nd, rfl⟩⟩; refine ⟨_, rfl, ?_⟩; (try (rw [drewN_self w23]; generalize hq_ : World.drewN w23 _ = w23; replace BK412 : Aside0 (w23.heap[gb412]? = some (.cells #[.int .i64 a0_0, .int .i64 a0_1, .int .i64 a0_2, .slice A0_3 l0_3.length c0_3] 24 (0, 0))) := ⟨by rw [← hq_]; exact (qB BK412.out)⟩; replace HB : Aside0 (Below w.heap.size w w23) := ⟨by rw [← hq_]; exact (qW HB.out)⟩; clear hq_)); obtain ⟨⟨hcz24_0, hcz24_1, hcz24_2, hcz24_3⟩, hfz24_0, hfz24_1, hfz24_2, hfz24_3⟩ := cf4 BK412) | ((with_reducible refine gate_callee (f := 14) rfl ?_); refine gL (some 31) Try.func14 #[.agg #[.int .i64 a0_0, .int .i64 a0_1, .int .i64 a0_2, .slice A0_3 l0_3.length c0_3]] ?_; (with_reducible refine (laws_toImage.calls k a0_0 a0_1 a0_2 _ _ l0_3 t415 t416 t417 t418 _ ?side1 ?side2 A14.out).mono ?_); (case side1 => exact qC (Kd.C_below HR0_3.out HB.out)); (case side2 => exact HC0_3.out); rintro e w25 ⟨v419, rfl, ho0, hb⟩; refine ⟨_, rfl, ?_⟩; have HO420 := oR ho0 HB; replace BK412 := bB BK412 hb; replace HB := bS HB hb; clear hb ho0) | ((with_reducible refine gate_callee (f := 30) rfl ?_); refine gL (some 33) Try.func30 #[.slice A1 l1.length c1] ?_; (with_reducible refine (laws_toIntSS.calls k _ _ l1 t421 _ ?side1 ?side2 A15.out).mono ?_); (case side1 => exact qC (Kd.C_below HR1.out HB.out)); (case side2 => exact HC1.out); rintro e w26 ⟨v422, rfl, ho0, hb⟩; refine ⟨_, rfl, ?_⟩; have HO423 := aM (Kd.S_lower (Kd.S_new' ho0 (Kd.R_lt (qR HO420.out))) (below_size (qW HB.out))); replace HO420 := aM (Kd.R_below (qR HO420.out) hb); replace BK412 := bB BK412 hb; replace HB := bS HB hb; clear hb ho0; obtain ⟨Ao27, co27, rfl⟩ := sL HO420; obtain ⟨Ao28, co28, eo28⟩ := Kd.S_slice HO423.out; subst eo28) | ((with_reducible refine gate_callee (f := 29) rfl ?_); refine gL (some 35) Try.func29 #[.agg #[.int .i64 t415, .int .i64 t416, .int .i64 t417, .slice Ao27 t418.length co27], .slice Ao28 t421.length co28, .int .i64 a2] ?_; (with_reducible refine (spec_ColorImage.calls k t415 t416 t417 _ _ t418 _ _ t421 a2 t424 t425 t426 t427 t430 _ ?side1 ?side2 ?side3 ?side4 A16.out).mono ?_); (case side1 => exact qC (Kd.R_reads' HO420.out).2.2); (case side2 => exact (Kd.R_reads' HO420.out).2.1); (case side3 => exact qC (Kd.S_reads' HO423.out).2.2); (case side4 => exact (Kd.S_reads' HO423.out).2.1); rintro e w29 ⟨v428, rfl, ho0, hb⟩; refine ⟨_, rfl, ?_⟩; replace HO423 := aM (Kd.S_elder' (by (with_reducible repeat (first | apply Kd.S_alloc | apply Kd.S_drewN | apply Kd.S_drew)); exact HO423.out) (Kd.R_base ho0) hb); have HO429 := nR ho0 HO420 HB; replace HO420 := aM (Kd.R_elder' (qR HO420.out) (Kd.R_base ho0) hb); replace BK412 := bB BK412 hb; replace HB := bS HB hb; clear hb ho0) | ((with_reducible refine gate_dst (N := 8) rfl ?_); refine bxE (N := 8) (cs := #[.int .i64 0, .int .i64 0, .int .i64 0, .slice none 0 0]) (t := 29) ?_; intro gb431 hg w30 hbox hb; replace HO420 := aM (Kd.R_below (qR HO420.out) hb); replace HO423 := aM (Kd.S_below (by (with_reducible repeat (first | apply Kd.S_alloc | apply Kd.S_drewN | apply Kd.S_drew)); exact HO423.out) hb); replace HO429 := aM (Kd.R_below (qR HO429.out) hb); have BK431 := aM (hbox); have GW431 := gW hg HB; have GE431 := gW hg HB; replace HB := bS HB hb; have NB412_431 := nL hg BK412; have NB431_412 := nG hg BK412; replace BK412 := bB BK412 hb; clear hb hbox hg; have hnb31 := NB431_412.out; have hnc31 := NB412_431.out; obtain ⟨⟨hcz32_0, hcz32_1, hcz32_2, hcz32_3⟩, hfz32_0, hfz32_1, hfz32_2, hfz32_3⟩ := cf4 BK431; obtain ⟨Ao33, co33, rfl⟩ := sL HO429; obtain ⟨⟨hcz34_0, hcz34_1, hcz34_2, hcz34_3⟩, hfz34_0, hfz34_1, hfz34_2, hfz34_3⟩ := cf4 BK412) | ((with_reducible refine gate_callee (f := 14) rfl ?_); refine gL (some 39) Try.func14 #[.agg #[.int .i64 a0_0, .int .i64 a0_1, .int .i64 a0_2, .slice A0_3 l0_3.length c0_3]] ?_; (with_reducible refine (laws_toImage.calls k a0_0 a0_1 a0_2 _ _ l0_3 t432 t433 t434 t435 _ ?side1 ?side2 A17.out).mono ?_); (case side1 => exact Kd.C_below HR0_3.out (qW HB.out)); (case side2 => exact HC0_3.out); rintro e w35 ⟨v436, rfl, ho0, hb⟩; refine ⟨_, rfl, ?_⟩; replace HO423 := aM (Kd.S_elder' (by (with_reducible repeat (first | apply Kd.S_alloc | apply Kd.S_drewN | apply Kd.S_drew)); exact (Kd.S_mono (Kd.S_far (p := ⟨gb431, 3, none⟩) (Kd.S_far (p := ⟨gb431, 2, none⟩) (Kd.S_far (p := ⟨gb431, 1, none⟩) (Kd.S_far (p := ⟨gb431, 0, none⟩) (Kd.S_types HO423.out BK431.out (by decide)) (fun _ hk => hk.2) (.int .i64 t424)) (fun _ hk => hk.2) (.int .i64 t425)) (fun _ hk => hk.2) (.int .i64 t426)) (fun _ hk => hk.2) (.slice Ao33 t427.length co33)) (fun _ h_ => h_.1))) (Kd.R_base ho0) hb); have HO437 := aM (Kd.R_lower (Kd.R_new' (Kd.R_new' ho0 (Kd.R_lt (by refine qR ?_; exact (fr4 HO420 BK431)))) (Kd.R_lt (by refine qR ?_; exact (fr4 HO429 BK431)))) (below_size (qW HB.out))); replace HO420 := aM (Kd.R_elder' (by refine qR ?_; exact (fr4 HO420 BK431)) (Kd.R_base ho0) hb); replace HO429 := aM (Kd.R_elder' (by refine qR ?_; exact (fr4 HO429 BK431)) (Kd.R_base ho0) hb); replace BK412 := aM (blk_below (g := gb412) (o := .cells #[.int .i64 a0_0, .int .i64 a0_1, .int .i64 a0_2, .slice A0_3 l0_3.length c0_3] 24 (0, 0)) (by refine qB ?_; refine blk_far ?_ NB412_431.out _; refine qB ?_; refine blk_far ?_ NB412_431.out _; refine qB ?_; refine blk_far ?_ NB412_431.out _; refine qB ?_; refine blk_far ?_ NB412_431.out _; refine qB ?_; exact BK412.out) hb); replace BK431 := aM (blk_below (g := gb431) (o := .cells #[.int .i64 t424, .int .i64 t425, .int .i64 t426, .slice Ao33 t427.length co33] 29 (0, 0)) (by exact bP BK431.out) hb); replace HB := bS HB hb; clear hb ho0) | ((with_reducible refine gate_dst (N := 10) rfl ?_); refine bxE (N := 10) (cs := #[.int .i64 0, .int .i64 0, .int .i64 0, .slice none 0 0]) (t := 29) ?_; intro gb438 hg w36 hbox hb; replace HO420 := aM (Kd.R_below (qR HO420.out) hb); replace HO423 := aM (Kd.S_below (by (with_reducible repeat (first | apply Kd.S_alloc | apply Kd.S_drewN | apply Kd.S_drew)); exact HO423.out) hb); replace HO429 := aM (Kd.R_below (qR HO429.out) hb); replace HO437 := aM (Kd.R_below (qR HO437.out) hb); have BK438 := aM (hbox); have GW438 := gW hg HB; have GE438 := gW hg HB; replace HB := bS HB hb; have NB412_438 := nL hg BK412; have NB438_412 := nG hg BK412; replace BK412 := bB BK412 hb; have NB431_438 := nL hg BK431; have NB438_431 := nG hg BK431; replace BK431 := bB BK431 hb; clear hb hbox hg; have hnb37 := NB438_412.out; have hnc37 := NB412_438.out; have hnb38 := NB438_431.out; have hnc38 := NB431_438.out; obtain ⟨⟨hcz39_0, hcz39_1, hcz39_2, hcz39_3⟩, hfz39_0, hfz39_1, hfz39_2, hfz39_3⟩ := cf4 BK438; obtain ⟨Ao40, co40, rfl⟩ := sL HO437) | ((with_reducible refine gate_callee (f := 30) rfl ?_); refine gL (some 41) Try.func30 #[.slice A1 l1.length c1] ?_; (with_reducible refine (laws_toIntSS.calls k _ _ l1 t439 _ ?side1 ?side2 A18.out).mono ?_); (case side1 => exact Kd.C_below HR1.out (qW HB.out)); (case side2 => exact HC1.out); rintro e w41 ⟨v440, rfl, ho0, hb⟩; refine ⟨_, rfl, ?_⟩; have HO441 := aM (Kd.S_lower (Kd.S_new' (Kd.S_new' (Kd.S_new' (Kd.S_new' ho0 (Kd.R_lt (by refine qR ?_; exact (fr4 HO420 BK438)))) (Kd.S_lt (by (with_reducible repeat (first | apply Kd.S_alloc | apply Kd.S_drewN | apply Kd.S_drew)); exact (Kd.S_mono (Kd.S_far (p := ⟨gb438, 3, none⟩) (Kd.S_far (p := ⟨gb438, 2, none⟩) (Kd.S_far (p := ⟨gb438, 1, none⟩) (Kd.S_far (p := ⟨gb438, 0, none⟩) (Kd.S_types HO423.out BK438.out (by decide)) (fun _ hk => hk.2) (.int .i64 t432)) (fun _ hk => hk.2) (.int .i64 t433)) (fun _ hk => hk.2) (.int .i64 t434)) (fun _ hk => hk.2) (.slice Ao40 t435.length co40)) (fun _ h_ => h_.1))))) (Kd.R_lt (by refine qR ?_; exact (fr4 HO429 BK438)))) (Kd.R_lt (by refine qR ?_; exact (fr4 HO437 BK438)))) (below_size (qW HB.out))); replace HO420 := aM (Kd.R_below (by refine qR ?_; exact (fr4 HO420 BK438)) hb); replace HO423 := aM (Kd.S_elder' (by (with_reducible repeat (first | apply Kd.S_alloc | apply Kd.S_drewN | apply Kd.S_drew)); exact (Kd.S_mono (Kd.S_far (p := ⟨gb438, 3, none⟩) (Kd.S_far (p := ⟨gb438, 2, none⟩) (Kd.S_far (p := ⟨gb438, 1, none⟩) (Kd.S_far (p := ⟨gb438, 0, none⟩) (Kd.S_types HO423.out BK438.out (by decide)) (fun _ hk => hk.2) (.int .i64 t432)) (fun _ hk => hk.2) (.int .i64 t433)) (fun _ hk => hk.2) (.int .i64 t434)) (fun _ hk => hk.2) (.slice Ao40 t435.length co40)) (fun _ h_ => h_.1))) (Kd.S_base ho0) hb); replace HO429 := aM (Kd.R_below (by refine qR ?_; exact (fr4 HO429 BK438)) hb); replace HO437 := aM (Kd.R_below (by refine qR ?_; exact (fr4 HO437 BK438)) hb); replace BK412 := aM (blk_below (g := gb412) (o := .cells #[.int .i64 a0_0, .int .i64 a0_1, .int .i64 a0_2, .slice A0_3 l0_3.length c0_3] 24 (0, 0)) (by refine qB ?_; refine blk_far ?_ NB412_438.out _; refine qB ?_; refine blk_far ?_ NB412_438.out _; refine qB ?_; refine blk_far ?_ NB412_438.out _; refine qB ?_; refine blk_far ?_ NB412_438.out _; refine qB ?_; exact BK412.out) hb); replace BK431 := aM (blk_below (g := gb431) (o := .cells #[.int .i64 t424, .int .i64 t425, .int .i64 t426, .slice Ao33 t427.length co33] 29 (0, 0)) (by refine qB ?_; refine blk_far ?_ NB431_438.out _; refine qB ?_; refine blk_far ?_ NB431_438.out _; refine qB ?_; refine blk_far ?_ NB431_438.out _; refine qB ?_; refine blk_far ?_ NB431_438.out _; refine qB ?_; exact BK431.out) hb); replace BK438 := aM (blk_below (g := gb438) (o := .cells #[.int .i64 t432, .int .i64 t433, .int .i64 t434, .slice Ao40 t435.length co40] 29 (0, 0)) (by exact bP BK438.out) hb); replace HB := bS HB hb; clear hb ho0; obtain ⟨⟨hcz42_0, hcz42_1, hcz42_2, hcz42_3⟩, hfz42_0, hfz42_1, hfz42_2, hfz42_3⟩ := cf4 BK438; obtain ⟨Ao43, co43, eo43⟩ := Kd.S_slice HO441.out; subst eo43) | ((with_reducible refine gate_callee (f := 25) rfl ?_); refine gL (some 46) Try.func25 #[.agg #[.int .i64 t432, .int .i64 t433, .int .i64 t434, .slice Ao40 t435.length co40], .slice Ao43 t439.length co43, .int .i64 a2] ?_; (with_reducible refine (impl_ColorImage.calls t432 t433 t434 _ _ t435 _ _ t439 a2 t442 t443 t444 t445 t448 _ ?side1 ?side2 ?side3 ?side4 A19.out).mono ?_); (case side1 => exact qC (Kd.R_reads' HO437.out).2.2); (case side2 => exact (Kd.R_reads' HO437.out).2.1); (case side3 => exact qC (Kd.S_reads' HO441.out).2.2); (case side4 => exact (Kd.S_reads' HO441.out).2.1); rintro e w44 ⟨v446, rfl, ho0, hb⟩; refine ⟨_, rfl, ?_⟩; replace HO423 := aM (Kd.S_elder' (by (with_reducible repeat (first | apply Kd.S_alloc | apply Kd.S_drewN | apply Kd.S_drew)); exact HO423.out) (Kd.R_base ho0) hb); replace HO441 := aM (Kd.S_elder' (by (with_reducible repeat (first | apply Kd.S_alloc | apply Kd.S_drewN | apply Kd.S_drew)); exact HO441.out) (Kd.R_base ho0) hb); have HO447 := aM (Kd.R_lower (Kd.R_new' (Kd.R_new' (Kd.R_new' ho0 (Kd.R_lt (qR HO420.out))) (Kd.R_lt (qR HO429.out))) (Kd.R_lt (qR HO437.out))) (below_size (qW HB.out))); replace HO420 := aM (Kd.R_elder' (qR HO420.out) (Kd.R_base ho0) hb); replace HO429 := aM (Kd.R_elder' (qR HO429.out) (Kd.R_base ho0) hb); replace HO437 := aM (Kd.R_elder' (qR HO437.out) (Kd.R_base ho0) hb); replace BK412 := bB BK412 hb; replace BK431 := bB BK431 hb; replace BK438 := bB BK438 hb; replace HB := bS HB hb; clear hb ho0) | ((with_reducible refine gate_dst (N := 12) rfl ?_); refine bxE (N := 12) (cs := #[.int .i64 0, .int .i64 0, .int .i64 0, .slice none 0 0]) (t := 29) ?_; intro gb449 hg w45 hbox hb; replace HO420 := aM (Kd.R_below (qR HO420.out) hb); replace HO423 := aM (Kd.S_below (by (with_reducible repeat (first | apply Kd.S_alloc | apply Kd.S_drewN | apply Kd.S_drew)); exact HO423.out) hb); replace HO429 := aM (Kd.R_below (qR HO429.out) hb); replace HO437 := aM (Kd.R_below (qR HO437.out) hb); replace HO441 := aM (Kd.S_below (by (with_reducible repeat (first | apply Kd.S_alloc | apply Kd.S_drewN | apply Kd.S_drew)); exact HO441.out) hb); replace HO447 := aM (Kd.R_below (qR HO447.out) hb); have BK449 := aM (hbox); have GW449 := gW hg HB; have GE449 := gW hg HB; replace HB := bS HB hb; have NB412_449 := nL hg BK412; have NB449_412 := nG hg BK412; replace BK412 := bB BK412 hb; have NB431_449 := nL hg BK431; have NB449_431 := nG hg BK431; replace BK431 := bB BK431 hb; have NB438_449 := nL hg BK438; have NB449_438 := nG hg BK438; replace BK438 := bB BK438 hb; clear hb hbox hg; have hnb46 := NB449_412.out; have hnc46 := NB412_449.out; have hnb47 := NB449_431.out; have hnc47 := NB431_449.out; have hnb48 := NB449_438.out; have hnc48 := NB438_449.out; obtain ⟨⟨hcz49_0, hcz49_1, hcz49_2, hcz49_3⟩, hfz49_0, hfz49_1, hfz49_2, hfz49_3⟩ := cf4 BK449; obtain ⟨Ao50, co50, rfl⟩ := sL HO447))
 (try simp only [Act.put, List.setIfInBounds_toArray, List.set_cons_zero, List.set_cons_succ])
 go_cut [57] (fun v57 wc => ∃ (kq : Nat) (x57_19 : Bool), v57 = .bool x57_19 ∧ Aside0 (laws_FnExactColorImage.j0 kq l1 a2 t430 t439 t448 x57_19 a0_0 a0_1 a0_2 l0_3 t424 t425 t426 t427 t432 t433 t434 t435 t442 t443 t444 t445 = some r) ∧ Aside0 (kq ≤ k) ∧ Aside0 (Kd.S (Kd.slice 3 (Kd.int .i64)) 22 wc w.heap.size (fun k_ => some k_ ≠ ((.slice Ao33 t427.length co33) : Value).ownBlock ∧ some k_ ≠ ((.slice Ao40 t435.length co40) : Value).ownBlock ∧ some k_ ≠ ((.slice Ao50 t445.length co50) : Value).ownBlock) (.slice Ao43 t439.length co43) t439) ∧ Aside0 (Kd.R (Kd.int .i64) 3 wc w.heap.size (fun k_ => some k_ ≠ ((.slice Ao40 t435.length co40) : Value).ownBlock ∧ some k_ ≠ ((.slice Ao50 t445.length co50) : Value).ownBlock) (.slice Ao33 t427.length co33) t427) ∧ Aside0 (Kd.R (Kd.int .i64) 3 wc w.heap.size (fun k_ => some k_ ≠ ((.slice Ao33 t427.length co33) : Value).ownBlock ∧ some k_ ≠ ((.slice Ao50 t445.length co50) : Value).ownBlock) (.slice Ao40 t435.length co40) t435) ∧ Aside0 (Kd.R (Kd.int .i64) 3 wc w.heap.size (fun k_ => some k_ ≠ ((.slice Ao33 t427.length co33) : Value).ownBlock ∧ some k_ ≠ ((.slice Ao40 t435.length co40) : Value).ownBlock) (.slice Ao50 t445.length co50) t445) ∧ Aside0 (wc.heap[gb412]? = some (.cells #[.int .i64 a0_0, .int .i64 a0_1, .int .i64 a0_2, (.slice A0_3 l0_3.length c0_3)] 24 (0, 0))) ∧ Aside0 (wc.heap[gb431]? = some (.cells #[.int .i64 t424, .int .i64 t425, .int .i64 t426, (.slice Ao33 t427.length co33)] 29 (0, 0))) ∧ Aside0 (wc.heap[gb438]? = some (.cells #[.int .i64 t432, .int .i64 t433, .int .i64 t434, (.slice Ao40 t435.length co40)] 29 (0, 0))) ∧ Aside0 (wc.heap[gb449]? = some (.cells #[.int .i64 t442, .int .i64 t443, .int .i64 t444, (.slice Ao50 t445.length co50)] 29 (0, 0))) ∧ Aside0 (Below w.heap.size w wc))
 case first =>
  have H := HC20.out
  clear HC20
  replace H := Option.bind_eq_some_iff.mp H
  obtain ⟨t450, A510, H⟩ := H
  replace H : (if t450 = true then (laws_FnExactColorImage.j0 k l1 a2 t430 t439 t448 (t448 != t430) a0_0 a0_1 a0_2 l0_3 t424 t425 t426 t427 t432 t433 t434 t435 t442 t443 t444 t445) else (laws_FnExactColorImage.j0 k l1 a2 t430 t439 t448 true a0_0 a0_1 a0_2 l0_3 t424 t425 t426 t427 t432 t433 t434 t435 t442 t443 t444 t445)) = some r := H
  have A51 := aM A510
  clear A510
  by_cases c52 : t450 = true
  ·subst c52
   have H1 : (laws_FnExactColorImage.j0 k l1 a2 t430 t439 t448 (t448 != t430) a0_0 a0_1 a0_2 l0_3 t424 t425 t426 t427 t432 t433 t434 t435 t442 t443 t444 t445) = some r := by rw [if_pos rfl] at H; exact H
   clear H
   have H := H1
   clear H1
   have H' := aM H
   clear H
   have hnb53 := NB449_412.out
   have hnc53 := NB412_449.out
   have hnb54 := NB449_431.out
   have hnc54 := NB431_449.out
   have hnb55 := NB449_438.out
   have hnc55 := NB438_449.out
   obtain ⟨⟨hcz56_0, hcz56_1, hcz56_2, hcz56_3⟩, hfz56_0, hfz56_1, hfz56_2, hfz56_3⟩ := cf4 BK449
   have hnb57 := NB431_412.out
   have hnc57 := NB412_431.out
   have hnb58 := NB431_438.out
   have hnc58 := NB438_431.out
   obtain ⟨⟨hcz59_0, hcz59_1, hcz59_2, hcz59_3⟩, hfz59_0, hfz59_1, hfz59_2, hfz59_3⟩ := cf4 BK431
   go_wp2_with (first | ((with_reducible refine gate_callee (f := 17) rfl ?_); refine gL (some 51) Try.func17 #[.agg #[.int .i64 t442, .int .i64 t443, .int .i64 t444, .slice Ao50 t445.length co50], .agg #[.int .i64 t424, .int .i64 t425, .int .i64 t426, .slice Ao33 t427.length co33]] ?_; (with_reducible refine (laws_eqImage.calls k t442 t443 t444 _ _ t445 t424 t425 t426 _ _ t427 true _ ?side1 ?side2 ?side3 ?side4 A51.out).mono ?_); (case side1 => refine (Kd.R_reads' (e := 3) (base := w.heap.size) (ok := fun k_ => (((True ∧ some k_ ≠ (.slice Ao27 t418.length co27 : Value).ownBlock) ∧ some k_ ≠ (.slice Ao33 t427.length co33 : Value).ownBlock) ∧ some k_ ≠ (.slice Ao40 t435.length co40 : Value).ownBlock)) (n := t445.length) (c := co50) ?_).2.2; exact (by refine qR ?_; exact (fr4 HO447 BK449))); (case side2 => exact (Kd.R_reads' HO447.out).2.1); (case side3 => refine (Kd.R_reads' (e := 3) (base := w.heap.size) (ok := fun k_ => (((True ∧ some k_ ≠ (.slice Ao27 t418.length co27 : Value).ownBlock) ∧ some k_ ≠ (.slice Ao40 t435.length co40 : Value).ownBlock) ∧ some k_ ≠ (.slice Ao50 t445.length co50 : Value).ownBlock)) (n := t427.length) (c := co33) ?_).2.2; exact (by refine qR ?_; exact (fr4 HO429 BK449))); (case side4 => exact (Kd.R_reads' HO429.out).2.1); rintro e w60 ⟨rfl, hb⟩; refine ⟨_, rfl, ?_⟩; replace HO420 := aM (Kd.R_below (by refine qR ?_; exact (fr4 HO420 BK449)) hb); replace HO423 := aM (Kd.S_below (by (with_reducible repeat (first | apply Kd.S_alloc | apply Kd.S_drewN | apply Kd.S_drew)); exact (Kd.S_mono (Kd.S_far (p := ⟨gb449, 3, none⟩) (Kd.S_far (p := ⟨gb449, 2, none⟩) (Kd.S_far (p := ⟨gb449, 1, none⟩) (Kd.S_far (p := ⟨gb449, 0, none⟩) (Kd.S_types HO423.out BK449.out (by decide)) (fun _ hk => hk.2) (.int .i64 t442)) (fun _ hk => hk.2) (.int .i64 t443)) (fun _ hk => hk.2) (.int .i64 t444)) (fun _ hk => hk.2) (.slice Ao50 t445.length co50)) (fun _ h_ => h_.1))) hb); replace HO429 := aM (Kd.R_below (by refine qR ?_; exact (fr4 HO429 BK449)) hb); replace HO437 := aM (Kd.R_below (by refine qR ?_; exact (fr4 HO437 BK449)) hb); replace HO441 := aM (Kd.S_below (by (with_reducible repeat (first | apply Kd.S_alloc | apply Kd.S_drewN | apply Kd.S_drew)); exact (Kd.S_mono (Kd.S_far (p := ⟨gb449, 3, none⟩) (Kd.S_far (p := ⟨gb449, 2, none⟩) (Kd.S_far (p := ⟨gb449, 1, none⟩) (Kd.S_far (p := ⟨gb449, 0, none⟩) (Kd.S_types HO441.out BK449.out (by decide)) (fun _ hk => hk.2) (.int .i64 t442)) (fun _ hk => hk.2) (.int .i64 t443)) (fun _ hk => hk.2) (.int .i64 t444)) (fun _ hk => hk.2) (.slice Ao50 t445.length co50)) (fun _ h_ => h_.1))) hb); replace HO447 := aM (Kd.R_below (by refine qR ?_; exact (fr4 HO447 BK449)) hb); replace BK412 := aM (blk_below (g := gb412) (o := .cells #[.int .i64 a0_0, .int .i64 a0_1, .int .i64 a0_2, .slice A0_3 l0_3.length c0_3] 24 (0, 0)) (by refine qB ?_; refine blk_far ?_ NB412_449.out _; refine qB ?_; refine blk_far ?_ NB412_449.out _; refine qB ?_; refine blk_far ?_ NB412_449.out _; refine qB ?_; refine blk_far ?_ NB412_449.out _; refine qB ?_; exact BK412.out) hb); replace BK431 := aM (blk_below (g := gb431) (o := .cells #[.int .i64 t424, .int .i64 t425, .int .i64 t426, .slice Ao33 t427.length co33] 29 (0, 0)) (by refine qB ?_; refine blk_far ?_ NB431_449.out _; refine qB ?_; refine blk_far ?_ NB431_449.out _; refine qB ?_; refine blk_far ?_ NB431_449.out _; refine qB ?_; refine blk_far ?_ NB431_449.out _; refine qB ?_; exact BK431.out) hb); replace BK438 := aM (blk_below (g := gb438) (o := .cells #[.int .i64 t432, .int .i64 t433, .int .i64 t434, .slice Ao40 t435.length co40] 29 (0, 0)) (by refine qB ?_; refine blk_far ?_ NB438_449.out _; refine qB ?_; refine blk_far ?_ NB438_449.out _; refine qB ?_; refine blk_far ?_ NB438_449.out _; refine qB ?_; refine blk_far ?_ NB438_449.out _; refine qB ?_; exact BK438.out) hb); replace BK449 := aM (blk_below (g := gb449) (o := .cells #[.int .i64 t442, .int .i64 t443, .int .i64 t444, .slice Ao50 t445.length co50] 29 (0, 0)) (by exact bP BK449.out) hb); replace HB := bS HB hb; clear hb))
   go_meet
   case rel => exact ⟨_, ((t448 != t430)), qE, H', ⟨by first | omega | exact Nat.le_refl _⟩, ⟨by (with_reducible repeat (first | apply Kd.S_alloc | apply Kd.S_drewN | apply Kd.S_drew)); exact Kd.S_mono HO441.out (fun _ hk => ⟨hk.1.1.2, ⟨hk.1.2, hk.2⟩⟩)⟩, ⟨by refine qR ?_; exact Kd.R_mono HO429.out (fun _ hk => ⟨hk.1.2, hk.2⟩)⟩, ⟨by refine qR ?_; exact Kd.R_mono HO437.out (fun _ hk => ⟨hk.1.2, hk.2⟩)⟩, ⟨by refine qR ?_; exact Kd.R_mono HO447.out (fun _ hk => ⟨hk.1.2, hk.2⟩)⟩, ⟨by refine qB ?_; exact BK412.out⟩, ⟨by refine qB ?_; exact BK431.out⟩, ⟨by refine qB ?_; exact BK438.out⟩, ⟨by refine qB ?_; exact BK449.out⟩, ⟨by exact qW HB.out⟩⟩
  replace c52 := Bool.eq_false_iff.mpr c52
  subst c52
  have H1 : (laws_FnExactColorImage.j0 k l1 a2 t430 t439 t448 true a0_0 a0_1 a0_2 l0_3 t424 t425 t426 t427 t432 t433 t434 t435 t442 t443 t444 t445) = some r := by rw [if_neg (show ¬ (false = true) by decide)] at H; exact H
  clear H
  have H := H1
  clear H1
  have H' := aM H
  clear H
  have hnb61 := NB449_412.out
  have hnc61 := NB412_449.out
  have hnb62 := NB449_431.out
  have hnc62 := NB431_449.out
  have hnb63 := NB449_438.out
  have hnc63 := NB438_449.out
  obtain ⟨⟨hcz64_0, hcz64_1, hcz64_2, hcz64_3⟩, hfz64_0, hfz64_1, hfz64_2, hfz64_3⟩ := cf4 BK449
  have hnb65 := NB431_412.out
  have hnc65 := NB412_431.out
  have hnb66 := NB431_438.out
  have hnc66 := NB438_431.out
  obtain ⟨⟨hcz67_0, hcz67_1, hcz67_2, hcz67_3⟩, hfz67_0, hfz67_1, hfz67_2, hfz67_3⟩ := cf4 BK431
  go_wp2_with (first | ((with_reducible refine gate_callee (f := 17) rfl ?_); refine gL (some 51) Try.func17 #[.agg #[.int .i64 t442, .int .i64 t443, .int .i64 t444, .slice Ao50 t445.length co50], .agg #[.int .i64 t424, .int .i64 t425, .int .i64 t426, .slice Ao33 t427.length co33]] ?_; (with_reducible refine (laws_eqImage.calls k t442 t443 t444 _ _ t445 t424 t425 t426 _ _ t427 false _ ?side1 ?side2 ?side3 ?side4 A51.out).mono ?_); (case side1 => refine (Kd.R_reads' (e := 3) (base := w.heap.size) (ok := fun k_ => (((True ∧ some k_ ≠ (.slice Ao27 t418.length co27 : Value).ownBlock) ∧ some k_ ≠ (.slice Ao33 t427.length co33 : Value).ownBlock) ∧ some k_ ≠ (.slice Ao40 t435.length co40 : Value).ownBlock)) (n := t445.length) (c := co50) ?_).2.2; exact (by refine qR ?_; exact (fr4 HO447 BK449))); (case side2 => exact (Kd.R_reads' HO447.out).2.1); (case side3 => refine (Kd.R_reads' (e := 3) (base := w.heap.size) (ok := fun k_ => (((True ∧ some k_ ≠ (.slice Ao27 t418.length co27 : Value).ownBlock) ∧ some k_ ≠ (.slice Ao40 t435.length co40 : Value).ownBlock) ∧ some k_ ≠ (.slice Ao50 t445.length co50 : Value).ownBlock)) (n := t427.length) (c := co33) ?_).2.2; exact (by refine qR ?_; exact (fr4 HO429 BK449))); (case side4 => exact (Kd.R_reads' HO429.out).2.1); rintro e w68 ⟨rfl, hb⟩; refine ⟨_, rfl, ?_⟩; replace HO420 := aM (Kd.R_below (by refine qR ?_; exact (fr4 HO420 BK449)) hb); replace HO423 := aM (Kd.S_below (by (with_reducible repeat (first | apply Kd.S_alloc | apply Kd.S_drewN | apply Kd.S_drew)); exact (Kd.S_mono (Kd.S_far (p := ⟨gb449, 3, none⟩) (Kd.S_far (p := ⟨gb449, 2, none⟩) (Kd.S_far (p := ⟨gb449, 1, none⟩) (Kd.S_far (p := ⟨gb449, 0, none⟩) (Kd.S_types HO423.out BK449.out (by decide)) (fun _ hk => hk.2) (.int .i64 t442)) (fun _ hk => hk.2) (.int .i64 t443)) (fun _ hk => hk.2) (.int .i64 t444)) (fun _ hk => hk.2) (.slice Ao50 t445.length co50)) (fun _ h_ => h_.1))) hb); replace HO429 := aM (Kd.R_below (by refine qR ?_; exact (fr4 HO429 BK449)) hb); replace HO437 := aM (Kd.R_below (by refine qR ?_; exact (fr4 HO437 BK449)) hb); replace HO441 := aM (Kd.S_below (by (with_reducible repeat (first | apply Kd.S_alloc | apply Kd.S_drewN | apply Kd.S_drew)); exact (Kd.S_mono (Kd.S_far (p := ⟨gb449, 3, none⟩) (Kd.S_far (p := ⟨gb449, 2, none⟩) (Kd.S_far (p := ⟨gb449, 1, none⟩) (Kd.S_far (p := ⟨gb449, 0, none⟩) (Kd.S_types HO441.out BK449.out (by decide)) (fun _ hk => hk.2) (.int .i64 t442)) (fun _ hk => hk.2) (.int .i64 t443)) (fun _ hk => hk.2) (.int .i64 t444)) (fun _ hk => hk.2) (.slice Ao50 t445.length co50)) (fun _ h_ => h_.1))) hb); replace HO447 := aM (Kd.R_below (by refine qR ?_; exact (fr4 HO447 BK449)) hb); replace BK412 := aM (blk_below (g := gb412) (o := .cells #[.int .i64 a0_0, .int .i64 a0_1, .int .i64 a0_2, .slice A0_3 l0_3.length c0_3] 24 (0, 0)) (by refine qB ?_; refine blk_far ?_ NB412_449.out _; refine qB ?_; refine blk_far ?_ NB412_449.out _; refine qB ?_; refine blk_far ?_ NB412_449.out _; refine qB ?_; refine blk_far ?_ NB412_449.out _; refine qB ?_; exact BK412.out) hb); replace BK431 := aM (blk_below (g := gb431) (o := .cells #[.int .i64 t424, .int .i64 t425, .int .i64 t426, .slice Ao33 t427.length co33] 29 (0, 0)) (by refine qB ?_; refine blk_far ?_ NB431_449.out _; refine qB ?_; refine blk_far ?_ NB431_449.out _; refine qB ?_; refine blk_far ?_ NB431_449.out _; refine qB ?_; refine blk_far ?_ NB431_449.out _; refine qB ?_; exact BK431.out) hb); replace BK438 := aM (blk_below (g := gb438) (o := .cells #[.int .i64 t432, .int .i64 t433, .int .i64 t434, .slice Ao40 t435.length co40] 29 (0, 0)) (by refine qB ?_; refine blk_far ?_ NB438_449.out _; refine qB ?_; refine blk_far ?_ NB438_449.out _; refine qB ?_; refine blk_far ?_ NB438_449.out _; refine qB ?_; refine blk_far ?_ NB438_449.out _; refine qB ?_; exact BK438.out) hb); replace BK449 := aM (blk_below (g := gb449) (o := .cells #[.int .i64 t442, .int .i64 t443, .int .i64 t444, .slice Ao50 t445.length co50] 29 (0, 0)) (by exact bP BK449.out) hb); replace HB := bS HB hb; clear hb))
  go_meet
  case rel => exact ⟨_, (true), qE, H', ⟨by first | omega | exact Nat.le_refl _⟩, ⟨by (with_reducible repeat (first | apply Kd.S_alloc | apply Kd.S_drewN | apply Kd.S_drew)); exact Kd.S_mono HO441.out (fun _ hk => ⟨hk.1.1.2, ⟨hk.1.2, hk.2⟩⟩)⟩, ⟨by refine qR ?_; exact Kd.R_mono HO429.out (fun _ hk => ⟨hk.1.2, hk.2⟩)⟩, ⟨by refine qR ?_; exact Kd.R_mono HO437.out (fun _ hk => ⟨hk.1.2, hk.2⟩)⟩, ⟨by refine qR ?_; exact Kd.R_mono HO447.out (fun _ hk => ⟨hk.1.2, hk.2⟩)⟩, ⟨by refine qB ?_; exact BK412.out⟩, ⟨by refine qB ?_; exact BK431.out⟩, ⟨by refine qB ?_; exact BK438.out⟩, ⟨by refine qB ?_; exact BK449.out⟩, ⟨by exact qW HB.out⟩⟩
 case rest =>
  clear HC20
  try clear c1
  try clear c5
  try clear c5b0
  try clear c10
  try clear c10b0
  try clear c52
  try clear hcz12_0 hcz12_1 hcz12_2 hcz12_3 hfz12_0 hfz12_1 hfz12_2 hfz12_3
  try clear hcz22_0 hcz22_1 hcz22_2 hcz22_3 hfz22_0 hfz22_1 hfz22_2 hfz22_3
  try clear hcz24_0 hcz24_1 hcz24_2 hcz24_3 hfz24_0 hfz24_1 hfz24_2 hfz24_3
  try clear hcz32_0 hcz32_1 hcz32_2 hcz32_3 hfz32_0 hfz32_1 hfz32_2 hfz32_3
  try clear hcz34_0 hcz34_1 hcz34_2 hcz34_3 hfz34_0 hfz34_1 hfz34_2 hfz34_3
  try clear hcz39_0 hcz39_1 hcz39_2 hcz39_3 hfz39_0 hfz39_1 hfz39_2 hfz39_3
  try clear hcz42_0 hcz42_1 hcz42_2 hcz42_3 hfz42_0 hfz42_1 hfz42_2 hfz42_3
  try clear hcz49_0 hcz49_1 hcz49_2 hcz49_3 hfz49_0 hfz49_1 hfz49_2 hfz49_3
  try clear hcz56_0 hcz56_1 hcz56_2 hcz56_3 hfz56_0 hfz56_1 hfz56_2 hfz56_3
  try clear hcz59_0 hcz59_1 hcz59_2 hcz59_3 hfz59_0 hfz59_1 hfz59_2 hfz59_3
  try clear hcz64_0 hcz64_1 hcz64_2 hcz64_3 hfz64_0 hfz64_1 hfz64_2 hfz64_3
  try clear hcz67_0 hcz67_1 hcz67_2 hcz67_3 hfz67_0 hfz67_1 hfz67_2 hfz67_3
  try clear hcz7_0 hcz7_1 hcz7_2 hcz7_3 hfz7_0 hfz7_1 hfz7_2 hfz7_3
  obtain ⟨kq, x57_19, rfl, HA, HJ19, HO_11, HO_432003, HO_439003, HO_450003, BK412, BK431, BK438, BK449, HB⟩ := hcut
  cases kq with
  | zero => exact absurd HA.out (by simp [laws_FnExactColorImage.j0])
  | succ kj19 =>
   have H := HA.out
   clear HA
   simp only [laws_FnExactColorImage.j0] at H
   by_cases c69 : x57_19 = true
   ·subst c69
    have H1 : (some false) = some r := by rw [if_pos rfl] at H; exact H
    clear H
    have H := H1
    clear H1
    obtain rfl := Option.some.inj H
    exact absurd hrt (by decide)
   replace c69 := Bool.eq_false_iff.mpr c69
   subst c69
   have H1 : ((laws_toImage.f kj19 a0_0 a0_1 a0_2 l0_3).bind fun bt451 => ((laws_eqImage.f kj19 t432 t433 t434 t435 bt451.1 bt451.2.1 bt451.2.2.1 bt451.2.2.2).bind fun t457 => (if t457 = true then ((laws_toIntSS.f kj19 l1).bind fun t458 => ((laws_eqIntSS.f kj19 t439 t458).bind fun t461 => (if t461 = true then ((laws_markImage.f kj19 t432 t433 t434 t435 1).bind fun bt462 => ((laws_markIntSS.f kj19 t439 bt462.1).bind fun bt464 => (if bt464.1 < 0 then (laws_FnExactColorImage.j1 kj19 l1 a2 t430 true a0_0 a0_1 a0_2 l0_3 t424 t425 t426 t427 t442 t443 t444 t445) else ((laws_eqImage.f kj19 t442 t443 t444 t445 t424 t425 t426 t427).bind fun t466 => (if t466 = true then (laws_FnExactColorImage.j1 kj19 l1 a2 t430 (t448 != t430) a0_0 a0_1 a0_2 l0_3 t424 t425 t426 t427 t442 t443 t444 t445) else (laws_FnExactColorImage.j1 kj19 l1 a2 t430 true a0_0 a0_1 a0_2 l0_3 t424 t425 t426 t427 t442 t443 t444 t445)))))) else (some false)))) else (some false)))) = some r := by rw [if_neg (show ¬ (false = true) by decide)] at H; exact H
   clear H
   have H := H1
   clear H1
   replace H := Option.bind_eq_some_iff.mp H
   obtain ⟨⟨t451, t452, t453, t454⟩, A700, H⟩ := H
   replace H : ((laws_eqImage.f kj19 t432 t433 t434 t435 t451 t452 t453 t454).bind fun t457 => (if t457 = true then ((laws_toIntSS.f kj19 l1).bind fun t458 => ((laws_eqIntSS.f kj19 t439 t458).bind fun t461 => (if t461 = true then ((laws_markImage.f kj19 t432 t433 t434 t435 1).bind fun bt462 => ((laws_markIntSS.f kj19 t439 bt462.1).bind fun bt464 => (if bt464.1 < 0 then (laws_FnExactColorImage.j1 kj19 l1 a2 t430 true a0_0 a0_1 a0_2 l0_3 t424 t425 t426 t427 t442 t443 t444 t445) else ((laws_eqImage.f kj19 t442 t443 t444 t445 t424 t425 t426 t427).bind fun t466 => (if t466 = true then (laws_FnExactColorImage.j1 kj19 l1 a2 t430 (t448 != t430) a0_0 a0_1 a0_2 l0_3 t424 t425 t426 t427 t442 t443 t444 t445) else (laws_FnExactColorImage.j1 kj19 l1 a2 t430 true a0_0 a0_1 a0_2 l0_3 t424 t425 t426 t427 t442 t443 t444 t445)))))) else (some false)))) else (some false))) = some r := H
   have A70 := aM A700
   clear A700
   replace H := Option.bind_eq_some_iff.mp H
   obtain ⟨t457, A710, H⟩ := H
   replace H : (if t457 = true then ((laws_toIntSS.f kj19 l1).bind fun t458 => ((laws_eqIntSS.f kj19 t439 t458).bind fun t461 => (if t461 = true then ((laws_markImage.f kj19 t432 t433 t434 t435 1).bind fun bt462 => ((laws_markIntSS.f kj19 t439 bt462.1).bind fun bt464 => (if bt464.1 < 0 then (laws_FnExactColorImage.j1 kj19 l1 a2 t430 true a0_0 a0_1 a0_2 l0_3 t424 t425 t426 t427 t442 t443 t444 t445) else ((laws_eqImage.f kj19 t442 t443 t444 t445 t424 t425 t426 t427).bind fun t466 => (if t466 = true then (laws_FnExactColorImage.j1 kj19 l1 a2 t430 (t448 != t430) a0_0 a0_1 a0_2 l0_3 t424 t425 t426 t427 t442 t443 t444 t445) else (laws_FnExactColorImage.j1 kj19 l1 a2 t430 true a0_0 a0_1 a0_2 l0_3 t424 t425 t426 t427 t442 t443 t444 t445)))))) else (some false)))) else (some false)) = some r := H
   have A71 := aM A710
   clear A710
   by_cases c72 : t457 = true
   rotate_left
   ·replace c72 := Bool.eq_false_iff.mpr c72
    subst c72
    have H1 : (some false) = some r := by rw [if_neg (show ¬ (false = true) by decide)] at H; exact H
    clear H
    have H := H1
    clear H1
    obtain rfl := Option.some.inj H
    exact absurd hrt (by decide)
   subst c72
   have H1 : ((laws_toIntSS.f kj19 l1).bind fun t458 => ((laws_eqIntSS.f kj19 t439 t458).bind fun t461 => (if t461 = true then ((laws_markImage.f kj19 t432 t433 t434 t435 1).bind fun bt462 => ((laws_markIntSS.f kj19 t439 bt462.1).bind fun bt464 => (if bt464.1 < 0 then (laws_FnExactColorImage.j1 kj19 l1 a2 t430 true a0_0 a0_1 a0_2 l0_3 t424 t425 t426 t427 t442 t443 t444 t445) else ((laws_eqImage.f kj19 t442 t443 t444 t445 t424 t425 t426 t427).bind fun t466 => (if t466 = true then (laws_FnExactColorImage.j1 kj19 l1 a2 t430 (t448 != t430) a0_0 a0_1 a0_2 l0_3 t424 t425 t426 t427 t442 t443 t444 t445) else (laws_FnExactColorImage.j1 kj19 l1 a2 t430 true a0_0 a0_1 a0_2 l0_3 t424 t425 t426 t427 t442 t443 t444 t445)))))) else (some false)))) = some r := by rw [if_pos rfl] at H; exact H
   clear H
   have H := H1
   clear H1
   replace H := Option.bind_eq_some_iff.mp H
   obtain ⟨t458, A730, H⟩ := H
   replace H : ((laws_eqIntSS.f kj19 t439 t458).bind fun t461 => (if t461 = true then ((laws_markImage.f kj19 t432 t433 t434 t435 1).bind fun bt462 => ((laws_markIntSS.f kj19 t439 bt462.1).bind fun bt464 => (if bt464.1 < 0 then (laws_FnExactColorImage.j1 kj19 l1 a2 t430 true a0_0 a0_1 a0_2 l0_3 t424 t425 t426 t427 t442 t443 t444 t445) else ((laws_eqImage.f kj19 t442 t443 t444 t445 t424 t425 t426 t427).bind fun t466 => (if t466 = true then (laws_FnExactColorImage.j1 kj19 l1 a2 t430 (t448 != t430) a0_0 a0_1 a0_2 l0_3 t424 t425 t426 t427 t442 t443 t444 t445) else (laws_FnExactColorImage.j1 kj19 l1 a2 t430 true a0_0 a0_1 a0_2 l0_3 t424 t425 t426 t427 t442 t443 t444 t445)))))) else (some false))) = some r := H
   have A73 := aM A730
   clear A730
   replace H := Option.bind_eq_some_iff.mp H
   obtain ⟨t461, A740, H⟩ := H
   replace H : (if t461 = true then ((laws_markImage.f kj19 t432 t433 t434 t435 1).bind fun bt462 => ((laws_markIntSS.f kj19 t439 bt462.1).bind fun bt464 => (if bt464.1 < 0 then (laws_FnExactColorImage.j1 kj19 l1 a2 t430 true a0_0 a0_1 a0_2 l0_3 t424 t425 t426 t427 t442 t443 t444 t445) else ((laws_eqImage.f kj19 t442 t443 t444 t445 t424 t425 t426 t427).bind fun t466 => (if t466 = true then (laws_FnExactColorImage.j1 kj19 l1 a2 t430 (t448 != t430) a0_0 a0_1 a0_2 l0_3 t424 t425 t426 t427 t442 t443 t444 t445) else (laws_FnExactColorImage.j1 kj19 l1 a2 t430 true a0_0 a0_1 a0_2 l0_3 t424 t425 t426 t427 t442 t443 t444 t445)))))) else (some false)) = some r := H
   have A74 := aM A740
   clear A740
   by_cases c75 : t461 = true
   rotate_left
   ·replace c75 := Bool.eq_false_iff.mpr c75
    subst c75
    have H1 : (some false) = some r := by rw [if_neg (show ¬ (false = true) by decide)] at H; exact H
    clear H
    have H := H1
    clear H1
    obtain rfl := Option.some.inj H
    exact absurd hrt (by decide)
   subst c75
   have H1 : ((laws_markImage.f kj19 t432 t433 t434 t435 1).bind fun bt462 => ((laws_markIntSS.f kj19 t439 bt462.1).bind fun bt464 => (if bt464.1 < 0 then (laws_FnExactColorImage.j1 kj19 l1 a2 t430 true a0_0 a0_1 a0_2 l0_3 t424 t425 t426 t427 t442 t443 t444 t445) else ((laws_eqImage.f kj19 t442 t443 t444 t445 t424 t425 t426 t427).bind fun t466 => (if t466 = true then (laws_FnExactColorImage.j1 kj19 l1 a2 t430 (t448 != t430) a0_0 a0_1 a0_2 l0_3 t424 t425 t426 t427 t442 t443 t444 t445) else (laws_FnExactColorImage.j1 kj19 l1 a2 t430 true a0_0 a0_1 a0_2 l0_3 t424 t425 t426 t427 t442 t443 t444 t445)))))) = some r := by rw [if_pos rfl] at H; exact H
   clear H
   have H := H1
   clear H1
   replace H := Option.bind_eq_some_iff.mp H
   obtain ⟨⟨t462, t463⟩, A760, H⟩ := H
   replace H : ((laws_markIntSS.f kj19 t439 t462).bind fun bt464 => (if bt464.1 < 0 then (laws_FnExactColorImage.j1 kj19 l1 a2 t430 true a0_0 a0_1 a0_2 l0_3 t424 t425 t426 t427 t442 t443 t444 t445) else ((laws_eqImage.f kj19 t442 t443 t444 t445 t424 t425 t426 t427).bind fun t466 => (if t466 = true then (laws_FnExactColorImage.j1 kj19 l1 a2 t430 (t448 != t430) a0_0 a0_1 a0_2 l0_3 t424 t425 t426 t427 t442 t443 t444 t445) else (laws_FnExactColorImage.j1 kj19 l1 a2 t430 true a0_0 a0_1 a0_2 l0_3 t424 t425 t426 t427 t442 t443 t444 t445))))) = some r := H
   have A76 := aM A760
   clear A760
   replace H := Option.bind_eq_some_iff.mp H
   obtain ⟨⟨t464, t465⟩, A770, H⟩ := H
   replace H : (if t464 < 0 then (laws_FnExactColorImage.j1 kj19 l1 a2 t430 true a0_0 a0_1 a0_2 l0_3 t424 t425 t426 t427 t442 t443 t444 t445) else ((laws_eqImage.f kj19 t442 t443 t444 t445 t424 t425 t426 t427).bind fun t466 => (if t466 = true then (laws_FnExactColorImage.j1 kj19 l1 a2 t430 (t448 != t430) a0_0 a0_1 a0_2 l0_3 t424 t425 t426 t427 t442 t443 t444 t445) else (laws_FnExactColorImage.j1 kj19 l1 a2 t430 true a0_0 a0_1 a0_2 l0_3 t424 t425 t426 t427 t442 t443 t444 t445)))) = some r := H
   have A77 := aM A770
   clear A770
   have HC78 := aM H
   clear H
   try go_wp2
   replace HO_11 := aM (Kd.S_drew HO_11.out)
   replace HO_432003 := aM (Kd.R_drew HO_432003.out)
   replace HO_439003 := aM (Kd.R_drew HO_439003.out)
   replace HO_450003 := aM (Kd.R_drew HO_450003.out)
   replace BK412 := aM (blk_drew BK412.out)
   replace BK431 := aM (blk_drew BK431.out)
   replace BK438 := aM (blk_drew BK438.out)
   replace BK449 := aM (blk_drew BK449.out)
   replace HB := aM (below_drew1 HB.out)
   refine start_ (n := 5) (S := fun w' => w'.cell? ⟨gb438, 0, none⟩ = some (.int .i64 t432) ∧ w'.cell? ⟨gb438, 1, none⟩ = some (.int .i64 t433) ∧ w'.cell? ⟨gb438, 2, none⟩ = some (.int .i64 t434) ∧ w'.cell? ⟨gb438, 3, none⟩ = some (.slice Ao40 t435.length co40) ∧ w'.cell? ⟨gb412, 0, none⟩ = some (.int .i64 a0_0) ∧ w'.cell? ⟨gb412, 1, none⟩ = some (.int .i64 a0_1) ∧ w'.cell? ⟨gb412, 2, none⟩ = some (.int .i64 a0_2) ∧ w'.cell? ⟨gb412, 3, none⟩ = some (.slice A0_3 l0_3.length c0_3)) (ds := []) (bA 5 0) (by kernel_rfl) rfl rfl ⟨(blk_cell BK438.out 0).trans rfl, (blk_cell BK438.out 1).trans rfl, (blk_cell BK438.out 2).trans rfl, (blk_cell BK438.out 3).trans rfl, (blk_cell BK412.out 0).trans rfl, (blk_cell BK412.out 1).trans rfl, (blk_cell BK412.out 2).trans rfl, (blk_cell BK412.out 3).trans rfl⟩ (fun hHeld => ?_)
   generalize wc.drew = w79 at HO_11 HO_432003 HO_439003 HO_450003 BK412 BK431 BK438 BK449 HB hHeld ⊢
   refine take_ (i := 0) (N := some 58) (v := ?_) (a' := ?_) (bA 5 1) rfl rfl (by kernel_rfl) (fun _ _ _ h => h) (Or.inl ⟨by rfl, ?_⟩) hHeld ?_ ?_
   rotate_left
   ·rintro w' ⟨s0, s1, s2, s3, s4, s5, s6, s7⟩
    go_simp
    with_reducible rfl
   rotate_left
   ·refine pZ ?_
    rfl
   refine take_ (i := 1) (N := some 59) (v := ?_) (a' := ?_) (bA 5 3) rfl rfl (by kernel_rfl) (fun _ _ _ h => h) (Or.inl ⟨by rfl, ?_⟩) hHeld ?_ ?_
   rotate_left
   ·rintro w' ⟨s0, s1, s2, s3, s4, s5, s6, s7⟩
    go_simp
    with_reducible rfl
   rotate_left
   ·refine pZ ?_
    rfl
   refine one_ (i := 2) (N := some 60) (bA 5 7) rfl rfl (by kernel_rfl) (by decide) (fun K hK => ?_)
   refine goes_ Try.func14 (by kernel_rfl) rfl #[.agg #[.int .i64 a0_0, .int .i64 a0_1, .int .i64 a0_2, .slice A0_3 l0_3.length c0_3]] (by rfl) rfl rfl qM ?_
   with_reducible refine (laws_toImage.calls kj19 a0_0 a0_1 a0_2 _ _ l0_3 t451 t452 t453 t454 _ ?side1 ?side2 A70.out).mono ?_
   (case side1 => exact qC (Kd.C_below HR0_3.out HB.out))
   (case side2 => exact HC0_3.out)
   rintro e w80 ⟨v455, rfl, ho0, hb⟩
   refine ⟨_, rfl, ?_⟩
   replace HO_11 := aM (Kd.S_elder' (by (with_reducible repeat (first | apply Kd.S_alloc | apply Kd.S_drewN | apply Kd.S_drew)); exact HO_11.out) (Kd.R_base ho0) hb)
   have HO456 := aM (Kd.R_lower (Kd.R_new' (Kd.R_new' (Kd.R_new' ho0 (Kd.R_lt (qR HO_432003.out))) (Kd.R_lt (qR HO_439003.out))) (Kd.R_lt (qR HO_450003.out))) (below_size (qW HB.out)))
   replace HO_432003 := aM (Kd.R_elder' (qR HO_432003.out) (Kd.R_base ho0) hb)
   replace HO_439003 := aM (Kd.R_elder' (qR HO_439003.out) (Kd.R_base ho0) hb)
   replace HO_450003 := aM (Kd.R_elder' (qR HO_450003.out) (Kd.R_base ho0) hb)
   replace BK412 := bB BK412 hb
   replace BK431 := bB BK431 hb
   replace BK438 := bB BK438 hb
   replace BK449 := bB BK449 hb
   replace HB := bS HB hb
   (try clear hb)
   (try clear hb2)
   (try clear hk)
   (try clear hi)
   (try clear ho0)
   obtain ⟨Ao81, co81, eo81⟩ := Kd.R_slice HO456.out
   (first | subst eo81 | (injection eo81 with f1_ f2_ f3_; have f4_ := f1_.symm; have f5_ := f3_.symm; clear f1_ f2_ f3_; subst f4_; subst f5_))
   refine hK.out _ _ ⟨(blk_cell BK438.out 0).trans rfl, (blk_cell BK438.out 1).trans rfl, (blk_cell BK438.out 2).trans rfl, (blk_cell BK438.out 3).trans rfl, (blk_cell BK412.out 0).trans rfl, (blk_cell BK412.out 1).trans rfl, (blk_cell BK412.out 2).trans rfl, (blk_cell BK412.out 3).trans rfl⟩ (fun hHeld => ?_)
   clear hK K
   refine norm_ (a' := ?_) ?_ ?_
   rotate_left
   ·show Act.put _ (some 60) _ = _
    refine pZ ?_
    rfl
   refine one_ (i := 3) (N := some 61) (bA 5 15) rfl rfl (by kernel_rfl) (by decide) (fun K hK => ?_)
   refine goes_ Try.func17 (by kernel_rfl) rfl #[.agg #[.int .i64 t432, .int .i64 t433, .int .i64 t434, .slice Ao40 t435.length co40], .agg #[.int .i64 t451, .int .i64 t452, .int .i64 t453, .slice Ao81 t454.length co81]] (by rfl) rfl rfl qM ?_
   with_reducible refine (laws_eqImage.calls kj19 t432 t433 t434 _ _ t435 t451 t452 t453 _ _ t454 true _ ?side1 ?side2 ?side3 ?side4 A71.out).mono ?_
   (case side1 => exact qC (Kd.R_reads' HO_439003.out).2.2)
   (case side2 => exact (Kd.R_reads' HO_439003.out).2.1)
   (case side3 => exact qC (Kd.R_reads' HO456.out).2.2)
   (case side4 => exact (Kd.R_reads' HO456.out).2.1)
   rintro e w82 ⟨rfl, hb⟩
   refine ⟨_, rfl, ?_⟩
   replace HO_11 := aM (Kd.S_below (by (with_reducible repeat (first | apply Kd.S_alloc | apply Kd.S_drewN | apply Kd.S_drew)); exact HO_11.out) hb)
   replace HO_432003 := aM (Kd.R_below (qR HO_432003.out) hb)
   replace HO_439003 := aM (Kd.R_below (qR HO_439003.out) hb)
   replace HO_450003 := aM (Kd.R_below (qR HO_450003.out) hb)
   replace HO456 := aM (Kd.R_below (qR HO456.out) hb)
   replace BK412 := bB BK412 hb
   replace BK431 := bB BK431 hb
   replace BK438 := bB BK438 hb
   replace BK449 := bB BK449 hb
   replace HB := bS HB hb
   (try clear hb)
   (try clear hb2)
   (try clear hk)
   (try clear hi)
   refine hK.out _ _ ⟨(blk_cell BK438.out 0).trans rfl, (blk_cell BK438.out 1).trans rfl, (blk_cell BK438.out 2).trans rfl, (blk_cell BK438.out 3).trans rfl, (blk_cell BK412.out 0).trans rfl, (blk_cell BK412.out 1).trans rfl, (blk_cell BK412.out 2).trans rfl, (blk_cell BK412.out 3).trans rfl⟩ (fun hHeld => ?_)
   clear hK K
   refine norm_ (a' := ?_) ?_ ?_
   rotate_left
   ·show Act.put _ (some 61) _ = _
    refine pZ ?_
    rfl
   refine pure_ (i := 4) (N := some 62) (v := ?_) (a' := ?_) (bA 5 31) rfl rfl (by kernel_rfl) (fun _ _ _ h => h) (Or.inl ⟨by rfl, ?_⟩) ?_ ?_
   rotate_left
   ·intro w'
    go_simp
    with_reducible rfl
   rotate_left
   ·refine pZ ?_
    rfl
   refine done_ (by kernel_rfl) ?_
   go_upto_region 21 with (first | ((with_reducible refine gate_callee (f := 30) rfl ?_); refine gL (some 65) Try.func30 #[.slice A1 l1.length c1] ?_; (with_reducible refine (laws_toIntSS.calls kj19 _ _ l1 t458 _ ?side1 ?side2 A73.out).mono ?_); (case side1 => exact qC (Kd.C_below HR1.out HB.out)); (case side2 => exact HC1.out); rintro e w83 ⟨v459, rfl, ho0, hb⟩; refine ⟨_, rfl, ?_⟩; have HO460 := aM (Kd.S_lower (Kd.S_new' (Kd.S_new' (Kd.S_new' (Kd.S_new' (Kd.S_new' ho0 (Kd.S_lt (by (with_reducible repeat (first | apply Kd.S_alloc | apply Kd.S_drewN | apply Kd.S_drew)); exact HO_11.out))) (Kd.R_lt (qR HO_432003.out))) (Kd.R_lt (qR HO_439003.out))) (Kd.R_lt (qR HO_450003.out))) (Kd.R_lt (qR HO456.out))) (below_size (qW HB.out))); replace HO_11 := aM (Kd.S_elder' (by (with_reducible repeat (first | apply Kd.S_alloc | apply Kd.S_drewN | apply Kd.S_drew)); exact HO_11.out) (Kd.S_base ho0) hb); replace HO_432003 := aM (Kd.R_below (qR HO_432003.out) hb); replace HO_439003 := aM (Kd.R_below (qR HO_439003.out) hb); replace HO_450003 := aM (Kd.R_below (qR HO_450003.out) hb); replace HO456 := aM (Kd.R_below (qR HO456.out) hb); replace BK412 := bB BK412 hb; replace BK431 := bB BK431 hb; replace BK438 := bB BK438 hb; replace BK449 := bB BK449 hb; replace HB := bS HB hb; clear hb ho0; obtain ⟨Ao84, co84, eo84⟩ := Kd.S_slice HO460.out; subst eo84) | ((with_reducible refine gate_callee (f := 16) rfl ?_); refine gL (some 66) Try.func16 #[.slice Ao43 t439.length co43, .slice Ao84 t458.length co84] ?_; (with_reducible refine (laws_eqIntSS.calls kj19 _ _ t439 _ _ t458 true _ ?side1 ?side2 ?side3 ?side4 A74.out).mono ?_); (case side1 => exact qC (Kd.S_reads' HO_11.out).2.2); (case side2 => exact (Kd.S_reads' HO_11.out).2.1); (case side3 => exact qC (Kd.S_reads' HO460.out).2.2); (case side4 => exact (Kd.S_reads' HO460.out).2.1); rintro e w' ⟨rfl, ⟨nd, rfl⟩⟩; refine ⟨_, rfl, ?_⟩; have hnb85 := NB438_412.out; have hnc85 := NB412_438.out; have hnb86 := NB438_431.out; have hnc86 := NB431_438.out; have hnb87 := NB438_449.out; have hnc87 := NB449_438.out; obtain ⟨⟨hcz88_0, hcz88_1, hcz88_2, hcz88_3⟩, hfz88_0, hfz88_1, hfz88_2, hfz88_3⟩ := cf4 BK438) | ((with_reducible refine gate_callee (f := 18) rfl ?_); refine gL (some 70) Try.func18 #[.agg #[.int .i64 t432, .int .i64 t433, .int .i64 t434, .slice Ao40 t435.length co40], .int .i64 1] ?_; (with_reducible refine (laws_markImage.calls kj19 t432 t433 t434 (fun k_ => some k_ = (.slice Ao40 t435.length co40 : Value).ownBlock) (.slice Ao40 t435.length co40) t435 1 t462 t463 w _ ?side1 ?side2 A76.out).mono ?_); (case side1 => exact qW HB.out); (case side2 => exact Kd.R_tight rfl HO_439003.out); rintro e w89 ⟨rfl, hy0, hb, hkp⟩; refine ⟨_, rfl, ?_⟩; replace HO_11 := aM (Kd.S_mono (ok' := fun k_ => some k_ ≠ (.slice Ao33 t427.length co33 : Value).ownBlock ∧ some k_ ≠ (.slice Ao40 t435.length co40 : Value).ownBlock ∧ some k_ ≠ (.slice Ao50 t445.length co50 : Value).ownBlock ∧ some k_ ≠ (.slice Ao81 t454.length co81 : Value).ownBlock ∧ some k_ ≠ (.slice Ao84 t458.length co84 : Value).ownBlock) (Kd.S_keptB (HO_11.out) hkp (fun k_ hk_ hs_ => by first | exact hk_.1.1.2.1 hs_ | (revert hk_; simp only [and_imp]; intros; contradiction))) (fun k_ hk_ => by first | exact ⟨hk_.1.1.1.1, hk_.1.1.1.2.1, hk_.1.1.1.2.2, hk_.1.1.2, hk_.1.2⟩ | (revert hk_; simp only [and_imp]; intros; and_intros <;> assumption))); replace HO_432003 := aM (Kd.R_mono (ok' := fun k_ => some k_ ≠ (.slice Ao40 t435.length co40 : Value).ownBlock ∧ some k_ ≠ (.slice Ao50 t445.length co50 : Value).ownBlock ∧ some k_ ≠ (.slice Ao81 t454.length co81 : Value).ownBlock) (Kd.R_keptB (HO_432003.out) hkp (fun k_ hk_ hs_ => by first | exact hk_.1.1 hs_ | (revert hk_; simp only [and_imp]; intros; contradiction))) (fun k_ hk_ => by first | exact ⟨hk_.1.1.1, hk_.1.1.2, hk_.1.2⟩ | (revert hk_; simp only [and_imp]; intros; and_intros <;> assumption))); replace HO_450003 := aM (Kd.R_mono (ok' := fun k_ => some k_ ≠ (.slice Ao33 t427.length co33 : Value).ownBlock ∧ some k_ ≠ (.slice Ao40 t435.length co40 : Value).ownBlock ∧ some k_ ≠ (.slice Ao81 t454.length co81 : Value).ownBlock) (Kd.R_keptB (HO_450003.out) hkp (fun k_ hk_ hs_ => by first | exact hk_.1.2 hs_ | (revert hk_; simp only [and_imp]; intros; contradiction))) (fun k_ hk_ => by first | exact ⟨hk_.1.1.1, hk_.1.1.2, hk_.1.2⟩ | (revert hk_; simp only [and_imp]; intros; and_intros <;> assumption))); replace BK412 := aM (blk_kept (qB BK412.out) hkp (fun hs_ => (fun e_ => (Kd.R_ne HO_439003.out BK412.out (by decide)) e_) hs_)); replace BK431 := aM (blk_kept (qB BK431.out) hkp (fun hs_ => (fun e_ => (Kd.R_ne HO_439003.out BK431.out (by decide)) e_) hs_)); replace BK438 := aM (blk_kept (qB BK438.out) hkp (fun hs_ => (fun e_ => (Kd.R_ne HO_439003.out BK438.out (by decide)) e_) hs_)); replace BK449 := aM (blk_kept (qB BK449.out) hkp (fun hs_ => (fun e_ => (Kd.R_ne HO_439003.out BK449.out (by decide)) e_) hs_)); replace HO_439003 := aM (Kd.R_reok rfl hy0 (fun k_ e_ => HO_439003.out.1 k_ e_)); replace HO456 := aM (Kd.R_mono (ok' := fun k_ => some k_ ≠ (.slice Ao33 t427.length co33 : Value).ownBlock ∧ some k_ ≠ (.slice Ao40 t435.length co40 : Value).ownBlock ∧ some k_ ≠ (.slice Ao50 t445.length co50 : Value).ownBlock) (Kd.R_keptB (HO456.out) hkp (fun k_ hk_ hs_ => by first | exact hk_.1.2 hs_ | (revert hk_; simp only [and_imp]; intros; contradiction))) (fun k_ hk_ => by first | exact ⟨hk_.1.1.1.2, hk_.1.1.2, hk_.1.2⟩ | (revert hk_; simp only [and_imp]; intros; and_intros <;> assumption))); replace HO460 := aM (Kd.S_mono (ok' := fun k_ => some k_ ≠ (.slice Ao43 t439.length co43 : Value).ownBlock ∧ some k_ ≠ (.slice Ao33 t427.length co33 : Value).ownBlock ∧ some k_ ≠ (.slice Ao40 t435.length co40 : Value).ownBlock ∧ some k_ ≠ (.slice Ao50 t445.length co50 : Value).ownBlock ∧ some k_ ≠ (.slice Ao81 t454.length co81 : Value).ownBlock) (Kd.S_keptB (HO460.out) hkp (fun k_ hk_ hs_ => by first | exact hk_.1.1.2 hs_ | (revert hk_; simp only [and_imp]; intros; contradiction))) (fun k_ hk_ => by first | exact ⟨hk_.1.1.1.1.1.2, hk_.1.1.1.1.2, hk_.1.1.1.2, hk_.1.1.2, hk_.1.2⟩ | (revert hk_; simp only [and_imp]; intros; and_intros <;> assumption))); replace HB := aM (hb); clear hb hkp hy0) | ((with_reducible refine gate_callee (f := 19) rfl ?_); refine gL (some 73) Try.func19 #[.slice Ao43 t439.length co43, .int .i64 t462] ?_; (with_reducible refine (laws_markIntSS.calls kj19 (fun k_ => (((((some k_ ≠ (.slice Ao33 t427.length co33 : Value).ownBlock ∧ (some k_ ≠ (.slice Ao40 t435.length co40 : Value).ownBlock ∧ (some k_ ≠ (.slice Ao50 t445.length co50 : Value).ownBlock ∧ (some k_ ≠ (.slice Ao81 t454.length co81 : Value).ownBlock ∧ some k_ ≠ (.slice Ao84 t458.length co84 : Value).ownBlock)))) ∧ k_ ≠ gb412) ∧ k_ ≠ gb431) ∧ k_ ≠ gb438) ∧ k_ ≠ gb449)) (.slice Ao43 t439.length co43) t439 t462 t464 t465 w _ ?side1 ?side2 A77.out).mono ?_); (case side1 => exact qW HB.out); (case side2 => exact (Kd.S_types (Kd.S_types (Kd.S_types (Kd.S_types HO_11.out BK412.out (by decide)) BK431.out (by decide)) BK438.out (by decide)) BK449.out (by decide))); rintro e w90 ⟨rfl, hy0, hb, hkp⟩; refine ⟨_, rfl, ?_⟩; replace HO_11 := aM (hy0); replace HO_432003 := aM (Kd.R_mono (Kd.R_kept (Kd.R_tight2 rfl HO_432003.out) hkp (fun k_ hk_ hs_ => (hs_.1.1.1.1.1) hk_.1)) (fun _ h_ => h_.2)); replace HO_439003 := aM (Kd.R_mono (Kd.R_kept (Kd.R_tight2 rfl HO_439003.out) hkp (fun k_ hk_ hs_ => (hs_.1.1.1.1.2.1) hk_.1)) (fun _ h_ => h_.2)); replace HO_450003 := aM (Kd.R_mono (Kd.R_kept (Kd.R_tight2 rfl HO_450003.out) hkp (fun k_ hk_ hs_ => (hs_.1.1.1.1.2.2.1) hk_.1)) (fun _ h_ => h_.2)); replace BK412 := aM (blk_kept (qB BK412.out) hkp (fun hs_ => (hs_.1.1.1.2) rfl)); replace BK431 := aM (blk_kept (qB BK431.out) hkp (fun hs_ => (hs_.1.1.2) rfl)); replace BK438 := aM (blk_kept (qB BK438.out) hkp (fun hs_ => (hs_.1.2) rfl)); replace BK449 := aM (blk_kept (qB BK449.out) hkp (fun hs_ => (hs_.2) rfl)); replace HO456 := aM (Kd.R_mono (Kd.R_kept (Kd.R_tight2 rfl HO456.out) hkp (fun k_ hk_ hs_ => (hs_.1.1.1.1.2.2.2.1) hk_.1)) (fun _ h_ => h_.2)); replace HB := aM (hb); clear HO460; clear hb hkp hy0))
   (try simp only [Act.put, List.setIfInBounds_toArray, List.set_cons_zero, List.set_cons_succ])
   go_cut [86] (fun v86 wc => ∃ (kq : Nat) (x86_77 : Bool), v86 = .bool x86_77 ∧ Aside0 (laws_FnExactColorImage.j1 kq l1 a2 t430 x86_77 a0_0 a0_1 a0_2 l0_3 t424 t425 t426 t427 t442 t443 t444 t445 = some r) ∧ Aside0 (kq ≤ kj19) ∧ Aside0 (Kd.R (Kd.int .i64) 3 wc w.heap.size (fun k_ => some k_ ≠ ((.slice Ao40 t435.length co40) : Value).ownBlock ∧ some k_ ≠ ((.slice Ao50 t445.length co50) : Value).ownBlock) (.slice Ao33 t427.length co33) t427) ∧ Aside0 (Kd.R (Kd.int .i64) 3 wc w.heap.size (fun k_ => some k_ ≠ ((.slice Ao33 t427.length co33) : Value).ownBlock ∧ some k_ ≠ ((.slice Ao50 t445.length co50) : Value).ownBlock) (.slice Ao40 t435.length co40) t463) ∧ Aside0 (Kd.R (Kd.int .i64) 3 wc w.heap.size (fun k_ => some k_ ≠ ((.slice Ao33 t427.length co33) : Value).ownBlock ∧ some k_ ≠ ((.slice Ao40 t435.length co40) : Value).ownBlock) (.slice Ao50 t445.length co50) t445) ∧ Aside0 (wc.heap[gb412]? = some (.cells #[.int .i64 a0_0, .int .i64 a0_1, .int .i64 a0_2, (.slice A0_3 l0_3.length c0_3)] 24 (0, 0))) ∧ Aside0 (wc.heap[gb431]? = some (.cells #[.int .i64 t424, .int .i64 t425, .int .i64 t426, (.slice Ao33 t427.length co33)] 29 (0, 0))) ∧ Aside0 (wc.heap[gb438]? = some (.cells #[.int .i64 t432, .int .i64 t433, .int .i64 t434, (.slice Ao40 t435.length co40)] 29 (0, 0))) ∧ Aside0 (wc.heap[gb449]? = some (.cells #[.int .i64 t442, .int .i64 t443, .int .i64 t444, (.slice Ao50 t445.length co50)] 29 (0, 0))) ∧ Aside0 (Below w.heap.size w wc))
   case first =>
    have H := HC78.out
    clear HC78
    by_cases c91 : t464 < 0
    ·rw [if_pos c91] at H
     have c91b0 : decide (t464 < 0) = true := decide_eq_true c91
     clear c91
     (first | rw [c91b0] | (simp only [i64_w, i32_w]; rw [c91b0]) | skip)
     have H' := aM H
     clear H
     go_wp2
     go_meet
     case rel => exact ⟨_, (true), qE, H', ⟨by have := HJ19.out; first | omega | exact Nat.le_refl _⟩, ⟨by refine qR ?_; exact Kd.R_mono HO_432003.out (fun _ hk => ⟨hk.1, hk.2.1⟩)⟩, ⟨by refine qR ?_; exact Kd.R_mono HO_439003.out (fun _ hk => ⟨hk.1.1, hk.1.2⟩)⟩, ⟨by refine qR ?_; exact Kd.R_mono HO_450003.out (fun _ hk => ⟨hk.1, hk.2.1⟩)⟩, ⟨by refine qB ?_; exact BK412.out⟩, ⟨by refine qB ?_; exact BK431.out⟩, ⟨by refine qB ?_; exact BK438.out⟩, ⟨by refine qB ?_; exact BK449.out⟩, ⟨by exact qW HB.out⟩⟩
    rw [if_neg c91] at H
    have c91b0 : decide (t464 < 0) = false := decide_eq_false c91
    clear c91
    (first | rw [c91b0] | (simp only [i64_w, i32_w]; rw [c91b0]) | skip)
    replace H := Option.bind_eq_some_iff.mp H
    obtain ⟨t466, A920, H⟩ := H
    replace H : (if t466 = true then (laws_FnExactColorImage.j1 kj19 l1 a2 t430 (t448 != t430) a0_0 a0_1 a0_2 l0_3 t424 t425 t426 t427 t442 t443 t444 t445) else (laws_FnExactColorImage.j1 kj19 l1 a2 t430 true a0_0 a0_1 a0_2 l0_3 t424 t425 t426 t427 t442 t443 t444 t445)) = some r := H
    have A92 := aM A920
    clear A920
    by_cases c93 : t466 = true
    ·subst c93
     have H1 : (laws_FnExactColorImage.j1 kj19 l1 a2 t430 (t448 != t430) a0_0 a0_1 a0_2 l0_3 t424 t425 t426 t427 t442 t443 t444 t445) = some r := by rw [if_pos rfl] at H; exact H
     clear H
     have H := H1
     clear H1
     have H' := aM H
     clear H
     have hnb94 := NB449_412.out
     have hnc94 := NB412_449.out
     have hnb95 := NB449_431.out
     have hnc95 := NB431_449.out
     have hnb96 := NB449_438.out
     have hnc96 := NB438_449.out
     obtain ⟨⟨hcz97_0, hcz97_1, hcz97_2, hcz97_3⟩, hfz97_0, hfz97_1, hfz97_2, hfz97_3⟩ := cf4 BK449
     have hnb98 := NB431_412.out
     have hnc98 := NB412_431.out
     have hnb99 := NB431_438.out
     have hnc99 := NB438_431.out
     obtain ⟨⟨hcz100_0, hcz100_1, hcz100_2, hcz100_3⟩, hfz100_0, hfz100_1, hfz100_2, hfz100_3⟩ := cf4 BK431
     go_wp2_with (first | (go_at_call 17; (with_reducible refine (laws_eqImage.calls kj19 t442 t443 t444 _ _ t445 t424 t425 t426 _ _ t427 true _ ?side1 ?side2 ?side3 ?side4 A92.out).mono ?_); (case side1 => exact qC (Kd.R_reads' HO_450003.out).2.2); (case side2 => exact (Kd.R_reads' HO_450003.out).2.1); (case side3 => exact qC (Kd.R_reads' HO_432003.out).2.2); (case side4 => exact (Kd.R_reads' HO_432003.out).2.1); rintro e w101 ⟨rfl, hb⟩; replace HO_11 := aM (Kd.S_below (by (with_reducible repeat (first | apply Kd.S_alloc | apply Kd.S_drewN | apply Kd.S_drew)); exact HO_11.out) hb); replace HO_432003 := aM (Kd.R_below (qR HO_432003.out) hb); replace HO_439003 := aM (Kd.R_below (qR HO_439003.out) hb); replace HO_450003 := aM (Kd.R_below (qR HO_450003.out) hb); replace HO456 := aM (Kd.R_below (qR HO456.out) hb); replace BK412 := bB BK412 hb; replace BK431 := bB BK431 hb; replace BK438 := bB BK438 hb; replace BK449 := bB BK449 hb; replace HB := bS HB hb; clear hb))
     go_meet
     case rel => exact ⟨_, ((t448 != t430)), qE, H', ⟨by have := HJ19.out; first | omega | exact Nat.le_refl _⟩, ⟨by refine qR ?_; exact Kd.R_mono HO_432003.out (fun _ hk => ⟨hk.1, hk.2.1⟩)⟩, ⟨by refine qR ?_; exact Kd.R_mono HO_439003.out (fun _ hk => ⟨hk.1.1, hk.1.2⟩)⟩, ⟨by refine qR ?_; exact Kd.R_mono HO_450003.out (fun _ hk => ⟨hk.1, hk.2.1⟩)⟩, ⟨by refine qB ?_; exact BK412.out⟩, ⟨by refine qB ?_; exact BK431.out⟩, ⟨by refine qB ?_; exact BK438.out⟩, ⟨by refine qB ?_; exact BK449.out⟩, ⟨by exact qW HB.out⟩⟩
    replace c93 := Bool.eq_false_iff.mpr c93
    subst c93
    have H1 : (laws_FnExactColorImage.j1 kj19 l1 a2 t430 true a0_0 a0_1 a0_2 l0_3 t424 t425 t426 t427 t442 t443 t444 t445) = some r := by rw [if_neg (show ¬ (false = true) by decide)] at H; exact H
    clear H
    have H := H1
    clear H1
    have H' := aM H
    clear H
    have hnb102 := NB449_412.out
    have hnc102 := NB412_449.out
    have hnb103 := NB449_431.out
    have hnc103 := NB431_449.out
    have hnb104 := NB449_438.out
    have hnc104 := NB438_449.out
    obtain ⟨⟨hcz105_0, hcz105_1, hcz105_2, hcz105_3⟩, hfz105_0, hfz105_1, hfz105_2, hfz105_3⟩ := cf4 BK449
    have hnb106 := NB431_412.out
    have hnc106 := NB412_431.out
    have hnb107 := NB431_438.out
    have hnc107 := NB438_431.out
    obtain ⟨⟨hcz108_0, hcz108_1, hcz108_2, hcz108_3⟩, hfz108_0, hfz108_1, hfz108_2, hfz108_3⟩ := cf4 BK431
    go_wp2_with (first | (go_at_call 17; (with_reducible refine (laws_eqImage.calls kj19 t442 t443 t444 _ _ t445 t424 t425 t426 _ _ t427 false _ ?side1 ?side2 ?side3 ?side4 A92.out).mono ?_); (case side1 => exact qC (Kd.R_reads' HO_450003.out).2.2); (case side2 => exact (Kd.R_reads' HO_450003.out).2.1); (case side3 => exact qC (Kd.R_reads' HO_432003.out).2.2); (case side4 => exact (Kd.R_reads' HO_432003.out).2.1); rintro e w109 ⟨rfl, hb⟩; replace HO_11 := aM (Kd.S_below (by (with_reducible repeat (first | apply Kd.S_alloc | apply Kd.S_drewN | apply Kd.S_drew)); exact HO_11.out) hb); replace HO_432003 := aM (Kd.R_below (qR HO_432003.out) hb); replace HO_439003 := aM (Kd.R_below (qR HO_439003.out) hb); replace HO_450003 := aM (Kd.R_below (qR HO_450003.out) hb); replace HO456 := aM (Kd.R_below (qR HO456.out) hb); replace BK412 := bB BK412 hb; replace BK431 := bB BK431 hb; replace BK438 := bB BK438 hb; replace BK449 := bB BK449 hb; replace HB := bS HB hb; clear hb))
    go_meet
    case rel => exact ⟨_, (true), qE, H', ⟨by have := HJ19.out; first | omega | exact Nat.le_refl _⟩, ⟨by refine qR ?_; exact Kd.R_mono HO_432003.out (fun _ hk => ⟨hk.1, hk.2.1⟩)⟩, ⟨by refine qR ?_; exact Kd.R_mono HO_439003.out (fun _ hk => ⟨hk.1.1, hk.1.2⟩)⟩, ⟨by refine qR ?_; exact Kd.R_mono HO_450003.out (fun _ hk => ⟨hk.1, hk.2.1⟩)⟩, ⟨by refine qB ?_; exact BK412.out⟩, ⟨by refine qB ?_; exact BK431.out⟩, ⟨by refine qB ?_; exact BK438.out⟩, ⟨by refine qB ?_; exact BK449.out⟩, ⟨by exact qW HB.out⟩⟩
   case rest =>
    clear HC78
    try clear c1
    try clear c5
    try clear c5b0
    try clear c10
    try clear c10b0
    try clear c52
    try clear c69
    try clear c72
    try clear c75
    try clear c91
    try clear c91b0
    try clear c93
    try clear hcz100_0 hcz100_1 hcz100_2 hcz100_3 hfz100_0 hfz100_1 hfz100_2 hfz100_3
    try clear hcz105_0 hcz105_1 hcz105_2 hcz105_3 hfz105_0 hfz105_1 hfz105_2 hfz105_3
    try clear hcz108_0 hcz108_1 hcz108_2 hcz108_3 hfz108_0 hfz108_1 hfz108_2 hfz108_3
    try clear hcz12_0 hcz12_1 hcz12_2 hcz12_3 hfz12_0 hfz12_1 hfz12_2 hfz12_3
    try clear hcz22_0 hcz22_1 hcz22_2 hcz22_3 hfz22_0 hfz22_1 hfz22_2 hfz22_3
    try clear hcz24_0 hcz24_1 hcz24_2 hcz24_3 hfz24_0 hfz24_1 hfz24_2 hfz24_3
    try clear hcz32_0 hcz32_1 hcz32_2 hcz32_3 hfz32_0 hfz32_1 hfz32_2 hfz32_3
    try clear hcz34_0 hcz34_1 hcz34_2 hcz34_3 hfz34_0 hfz34_1 hfz34_2 hfz34_3
    try clear hcz39_0 hcz39_1 hcz39_2 hcz39_3 hfz39_0 hfz39_1 hfz39_2 hfz39_3
    try clear hcz42_0 hcz42_1 hcz42_2 hcz42_3 hfz42_0 hfz42_1 hfz42_2 hfz42_3
    try clear hcz49_0 hcz49_1 hcz49_2 hcz49_3 hfz49_0 hfz49_1 hfz49_2 hfz49_3
    try clear hcz56_0 hcz56_1 hcz56_2 hcz56_3 hfz56_0 hfz56_1 hfz56_2 hfz56_3
    try clear hcz59_0 hcz59_1 hcz59_2 hcz59_3 hfz59_0 hfz59_1 hfz59_2 hfz59_3
    try clear hcz64_0 hcz64_1 hcz64_2 hcz64_3 hfz64_0 hfz64_1 hfz64_2 hfz64_3
    try clear hcz67_0 hcz67_1 hcz67_2 hcz67_3 hfz67_0 hfz67_1 hfz67_2 hfz67_3
    try clear hcz7_0 hcz7_1 hcz7_2 hcz7_3 hfz7_0 hfz7_1 hfz7_2 hfz7_3
    try clear hcz88_0 hcz88_1 hcz88_2 hcz88_3 hfz88_0 hfz88_1 hfz88_2 hfz88_3
    try clear hcz97_0 hcz97_1 hcz97_2 hcz97_3 hfz97_0 hfz97_1 hfz97_2 hfz97_3
    obtain ⟨kq, x86_77, rfl, HA, HJ77, HO_432003, HO_439003, HO_450003, BK412, BK431, BK438, BK449, HB⟩ := hcut
    have hl439003_77 := (Kd.R_reads' HO_439003.out).1
    rw [hl439003_77] at HO_439003
    (try simp only [hl439003_77])
    (try simp only [hl439003_77] at BK412)
    (try simp only [hl439003_77] at BK431)
    (try simp only [hl439003_77] at BK438)
    (try simp only [hl439003_77] at BK449)
    (try simp only [hl439003_77] at HO_432003)
    (try simp only [hl439003_77] at HO_450003)
    cases kq with
    | zero => exact absurd HA.out (by simp [laws_FnExactColorImage.j1])
    | succ kj77 =>
     have H := HA.out
     clear HA
     simp only [laws_FnExactColorImage.j1] at H
     by_cases c110 : x86_77 = true
     ·subst c110
      have H1 : (some false) = some r := by rw [if_pos rfl] at H; exact H
      clear H
      have H := H1
      clear H1
      obtain rfl := Option.some.inj H
      exact absurd hrt (by decide)
     replace c110 := Bool.eq_false_iff.mpr c110
     subst c110
     have H1 : ((laws_markImage.f kj77 t442 t443 t444 t445 1).bind fun bt467 => ((laws_heldImage.f kj77 t442 t443 t444 bt467.2 1).bind fun t469 => (if t469 < 0 then (some false) else (if t469 = bt467.1 then ((laws_toImage.f kj77 a0_0 a0_1 a0_2 l0_3).bind fun bt470 => ((laws_toIntSS.f kj77 l1).bind fun t476 => ((impl_ColorImage.f bt470.1 bt470.2.1 bt470.2.2.1 bt470.2.2.2 t476 a2).bind fun bt479 => ((laws_eqImage.f kj77 bt479.1 bt479.2.1 bt479.2.2.1 bt479.2.2.2.1 t424 t425 t426 t427).bind fun t487 => (if t487 = true then (laws_FnExactColorImage.j2 kj77 bt467.1 (bt479.2.2.2.2 != t430) t442 t443 t444 bt467.2) else (laws_FnExactColorImage.j2 kj77 bt467.1 true t442 t443 t444 bt467.2)))))) else (some false))))) = some r := by rw [if_neg (show ¬ (false = true) by decide)] at H; exact H
     clear H
     have H := H1
     clear H1
     replace H := Option.bind_eq_some_iff.mp H
     obtain ⟨⟨t467, t468⟩, A1110, H⟩ := H
     replace H : ((laws_heldImage.f kj77 t442 t443 t444 t468 1).bind fun t469 => (if t469 < 0 then (some false) else (if t469 = t467 then ((laws_toImage.f kj77 a0_0 a0_1 a0_2 l0_3).bind fun bt470 => ((laws_toIntSS.f kj77 l1).bind fun t476 => ((impl_ColorImage.f bt470.1 bt470.2.1 bt470.2.2.1 bt470.2.2.2 t476 a2).bind fun bt479 => ((laws_eqImage.f kj77 bt479.1 bt479.2.1 bt479.2.2.1 bt479.2.2.2.1 t424 t425 t426 t427).bind fun t487 => (if t487 = true then (laws_FnExactColorImage.j2 kj77 t467 (bt479.2.2.2.2 != t430) t442 t443 t444 t468) else (laws_FnExactColorImage.j2 kj77 t467 true t442 t443 t444 t468)))))) else (some false)))) = some r := H
     have A111 := aM A1110
     clear A1110
     replace H := Option.bind_eq_some_iff.mp H
     obtain ⟨t469, A1120, H⟩ := H
     replace H : (if t469 < 0 then (some false) else (if t469 = t467 then ((laws_toImage.f kj77 a0_0 a0_1 a0_2 l0_3).bind fun bt470 => ((laws_toIntSS.f kj77 l1).bind fun t476 => ((impl_ColorImage.f bt470.1 bt470.2.1 bt470.2.2.1 bt470.2.2.2 t476 a2).bind fun bt479 => ((laws_eqImage.f kj77 bt479.1 bt479.2.1 bt479.2.2.1 bt479.2.2.2.1 t424 t425 t426 t427).bind fun t487 => (if t487 = true then (laws_FnExactColorImage.j2 kj77 t467 (bt479.2.2.2.2 != t430) t442 t443 t444 t468) else (laws_FnExactColorImage.j2 kj77 t467 true t442 t443 t444 t468)))))) else (some false))) = some r := H
     have A112 := aM A1120
     clear A1120
     by_cases c113 : t469 < 0
     ·rw [if_pos c113] at H
      have c113b0 : decide (t469 < 0) = true := decide_eq_true c113
      clear c113
      obtain rfl := Option.some.inj H
      exact absurd hrt (by decide)
     rw [if_neg c113] at H
     have c113b0 : decide (t469 < 0) = false := decide_eq_false c113
     clear c113
     by_cases c121 : t469 = t467
     rotate_left
     ·rw [if_neg c121] at H
      have c121b0 : (t469 == t467) = false := beq_eq_false_iff_ne.mpr c121
      have c121b1 : (t469 != t467) = true := bne_iff_ne.mpr c121
      obtain rfl := Option.some.inj H
      exact absurd hrt (by decide)
     rw [if_pos c121] at H
     have c121b0 : (t469 == t467) = true := beq_iff_eq.mpr c121
     have c121b1 : (t469 != t467) = false := bne_eq_false_iff_eq.mpr c121
     clear c121
     replace H := Option.bind_eq_some_iff.mp H
     obtain ⟨⟨t470, t471, t472, t473⟩, A1220, H⟩ := H
     replace H : ((laws_toIntSS.f kj77 l1).bind fun t476 => ((impl_ColorImage.f t470 t471 t472 t473 t476 a2).bind fun bt479 => ((laws_eqImage.f kj77 bt479.1 bt479.2.1 bt479.2.2.1 bt479.2.2.2.1 t424 t425 t426 t427).bind fun t487 => (if t487 = true then (laws_FnExactColorImage.j2 kj77 t467 (bt479.2.2.2.2 != t430) t442 t443 t444 t468) else (laws_FnExactColorImage.j2 kj77 t467 true t442 t443 t444 t468))))) = some r := H
     have A122 := aM A1220
     clear A1220
     replace H := Option.bind_eq_some_iff.mp H
     obtain ⟨t476, A1230, H⟩ := H
     replace H : ((impl_ColorImage.f t470 t471 t472 t473 t476 a2).bind fun bt479 => ((laws_eqImage.f kj77 bt479.1 bt479.2.1 bt479.2.2.1 bt479.2.2.2.1 t424 t425 t426 t427).bind fun t487 => (if t487 = true then (laws_FnExactColorImage.j2 kj77 t467 (bt479.2.2.2.2 != t430) t442 t443 t444 t468) else (laws_FnExactColorImage.j2 kj77 t467 true t442 t443 t444 t468)))) = some r := H
     have A123 := aM A1230
     clear A1230
     replace H := Option.bind_eq_some_iff.mp H
     obtain ⟨⟨t479, t480, t481, t482, t485⟩, A1240, H⟩ := H
     replace H : ((laws_eqImage.f kj77 t479 t480 t481 t482 t424 t425 t426 t427).bind fun t487 => (if t487 = true then (laws_FnExactColorImage.j2 kj77 t467 (t485 != t430) t442 t443 t444 t468) else (laws_FnExactColorImage.j2 kj77 t467 true t442 t443 t444 t468))) = some r := H
     have A124 := aM A1240
     clear A1240
     have HC125 := aM H
     clear H
     have hnb126 := NB449_412.out
     have hnc126 := NB412_449.out
     have hnb127 := NB449_431.out
     have hnc127 := NB431_449.out
     have hnb128 := NB449_438.out
     have hnc128 := NB438_449.out
     obtain ⟨⟨hcz129_0, hcz129_1, hcz129_2, hcz129_3⟩, hfz129_0, hfz129_1, hfz129_2, hfz129_3⟩ := cf4 BK449
     go_upto_region 32 with (first | ((with_reducible refine gate_callee (f := 18) rfl ?_); refine gL (some 89) Try.func18 #[.agg #[.int .i64 t442, .int .i64 t443, .int .i64 t444, .slice Ao50 t445.length co50], .int .i64 1] ?_; (with_reducible refine (laws_markImage.calls kj77 t442 t443 t444 (fun k_ => some k_ = (.slice Ao50 t445.length co50 : Value).ownBlock) (.slice Ao50 t445.length co50) t445 1 t467 t468 w _ ?side1 ?side2 A111.out).mono ?_); (case side1 => exact qW HB.out); (case side2 => exact Kd.R_tight rfl HO_450003.out); rintro e w130 ⟨rfl, hy0, hb, hkp⟩; refine ⟨_, rfl, ?_⟩; replace HO_432003 := aM (Kd.R_mono (ok' := fun k_ => some k_ ≠ (.slice Ao40 t463.length co40 : Value).ownBlock ∧ some k_ ≠ (.slice Ao50 t445.length co50 : Value).ownBlock) (Kd.R_keptB (HO_432003.out) hkp (fun k_ hk_ hs_ => (hk_.2) hs_)) (fun k_ hk_ => ⟨hk_.1.1, hk_.1.2⟩)); replace HO_439003 := aM (Kd.R_mono (ok' := fun k_ => some k_ ≠ (.slice Ao33 t427.length co33 : Value).ownBlock ∧ some k_ ≠ (.slice Ao50 t445.length co50 : Value).ownBlock) (Kd.R_keptB (HO_439003.out) hkp (fun k_ hk_ hs_ => (hk_.2) hs_)) (fun k_ hk_ => ⟨hk_.1.1, hk_.1.2⟩)); replace BK412 := aM (blk_kept (qB BK412.out) hkp (fun hs_ => (fun e_ => (Kd.R_ne HO_450003.out BK412.out (by decide)) e_) hs_)); replace BK431 := aM (blk_kept (qB BK431.out) hkp (fun hs_ => (fun e_ => (Kd.R_ne HO_450003.out BK431.out (by decide)) e_) hs_)); replace BK438 := aM (blk_kept (qB BK438.out) hkp (fun hs_ => (fun e_ => (Kd.R_ne HO_450003.out BK438.out (by decide)) e_) hs_)); replace BK449 := aM (blk_kept (qB BK449.out) hkp (fun hs_ => (fun e_ => (Kd.R_ne HO_450003.out BK449.out (by decide)) e_) hs_)); replace HO_450003 := aM (Kd.R_reok rfl hy0 (fun k_ e_ => HO_450003.out.1 k_ e_)); replace HB := aM (hb); clear hb hkp hy0; obtain ⟨⟨hcz131_0, hcz131_1, hcz131_2, hcz131_3⟩, hfz131_0, hfz131_1, hfz131_2, hfz131_3⟩ := cf4 BK449) | ((with_reducible refine gate_callee (f := 31) rfl ?_); refine goesL_ (some 92) rfl rfl Try.func31 (by kernel_rfl) rfl #[.agg #[.int .i64 t442, .int .i64 t443, .int .i64 t444, .slice Ao50 t468.length co50], .int .i64 1] rfl (by (try simp only [List.map_toArray, List.map_cons, List.map_nil]); first | done | (rw [show t468.length = t445.length from (Kd.R_reads' HO_450003.out).1.symm] <;> rfl) | rfl | (simp only [List.length_drop, List.length_take]; rfl)) ?_; (with_reducible refine (laws_heldImage.calls kj77 t442 t443 t444 _ _ t468 1 t469 _ ?side1 ?side2 A112.out).mono ?_); (case side1 => exact qC (Kd.R_reads' HO_450003.out).2.2); (case side2 => rw [show t468.length = t445.length from (Kd.R_reads' HO_450003.out).1.symm]; exact (Kd.R_reads' HO_450003.out).2.1); rintro e w132 ⟨rfl, hb⟩; refine ⟨_, rfl, ?_⟩; replace HO_432003 := aM (Kd.R_below (qR HO_432003.out) hb); replace HO_439003 := aM (Kd.R_below (qR HO_439003.out) hb); replace HO_450003 := aM (Kd.R_below (qR HO_450003.out) hb); replace BK412 := bB BK412 hb; replace BK431 := bB BK431 hb; replace BK438 := bB BK438 hb; replace BK449 := bB BK449 hb; replace HB := bS HB hb; clear hb; have hnb133 := NB412_431.out; have hnc133 := NB431_412.out; have hnb134 := NB412_438.out; have hnc134 := NB438_412.out; obtain ⟨⟨hcz135_0, hcz135_1, hcz135_2, hcz135_3⟩, hfz135_0, hfz135_1, hfz135_2, hfz135_3⟩ := cf4 BK412) | ((with_reducible refine gate_callee (f := 14) rfl ?_); refine gL (some 100) Try.func14 #[.agg #[.int .i64 a0_0, .int .i64 a0_1, .int .i64 a0_2, .slice A0_3 l0_3.length c0_3]] ?_; (with_reducible refine (laws_toImage.calls kj77 a0_0 a0_1 a0_2 _ _ l0_3 t470 t471 t472 t473 _ ?side1 ?side2 A122.out).mono ?_); (case side1 => exact qC (Kd.C_below HR0_3.out HB.out)); (case side2 => exact HC0_3.out); rintro e w136 ⟨v474, rfl, ho0, hb⟩; refine ⟨_, rfl, ?_⟩; have HO475 := aM (Kd.R_lower (Kd.R_new' (Kd.R_new' (Kd.R_new' ho0 (Kd.R_lt (qR HO_432003.out))) (Kd.R_lt (qR HO_439003.out))) (Kd.R_lt (qR HO_450003.out))) (below_size (qW HB.out))); replace HO_432003 := aM (Kd.R_elder' (qR HO_432003.out) (Kd.R_base ho0) hb); replace HO_439003 := aM (Kd.R_elder' (qR HO_439003.out) (Kd.R_base ho0) hb); replace HO_450003 := aM (Kd.R_elder' (qR HO_450003.out) (Kd.R_base ho0) hb); replace BK412 := bB BK412 hb; replace BK431 := bB BK431 hb; replace BK438 := bB BK438 hb; replace BK449 := bB BK449 hb; replace HB := bS HB hb; clear hb ho0) | ((with_reducible refine gate_callee (f := 30) rfl ?_); refine gL (some 102) Try.func30 #[.slice A1 l1.length c1] ?_; (with_reducible refine (laws_toIntSS.calls kj77 _ _ l1 t476 _ ?side1 ?side2 A123.out).mono ?_); (case side1 => exact qC (Kd.C_below HR1.out HB.out)); (case side2 => exact HC1.out); rintro e w137 ⟨v477, rfl, ho0, hb⟩; refine ⟨_, rfl, ?_⟩; have HO478 := aM (Kd.S_lower (Kd.S_new' (Kd.S_new' (Kd.S_new' (Kd.S_new' ho0 (Kd.R_lt (qR HO_432003.out))) (Kd.R_lt (qR HO_439003.out))) (Kd.R_lt (qR HO_450003.out))) (Kd.R_lt (qR HO475.out))) (below_size (qW HB.out))); replace HO_432003 := aM (Kd.R_below (qR HO_432003.out) hb); replace HO_439003 := aM (Kd.R_below (qR HO_439003.out) hb); replace HO_450003 := aM (Kd.R_below (qR HO_450003.out) hb); replace HO475 := aM (Kd.R_below (qR HO475.out) hb); replace BK412 := bB BK412 hb; replace BK431 := bB BK431 hb; replace BK438 := bB BK438 hb; replace BK449 := bB BK449 hb; replace HB := bS HB hb; clear hb ho0; obtain ⟨Ao138, co138, rfl⟩ := sL HO475; obtain ⟨Ao139, co139, eo139⟩ := Kd.S_slice HO478.out; subst eo139) | ((with_reducible refine gate_callee (f := 25) rfl ?_); refine gL (some 104) Try.func25 #[.agg #[.int .i64 t470, .int .i64 t471, .int .i64 t472, .slice Ao138 t473.length co138], .slice Ao139 t476.length co139, .int .i64 a2] ?_; (with_reducible refine (impl_ColorImage.calls t470 t471 t472 _ _ t473 _ _ t476 a2 t479 t480 t481 t482 t485 _ ?side1 ?side2 ?side3 ?side4 A124.out).mono ?_); (case side1 => exact qC (Kd.R_reads' HO475.out).2.2); (case side2 => exact (Kd.R_reads' HO475.out).2.1); (case side3 => exact qC (Kd.S_reads' HO478.out).2.2); (case side4 => exact (Kd.S_reads' HO478.out).2.1); rintro e w140 ⟨v483, rfl, ho0, hb⟩; refine ⟨_, rfl, ?_⟩; replace HO478 := aM (Kd.S_elder' (by (with_reducible repeat (first | apply Kd.S_alloc | apply Kd.S_drewN | apply Kd.S_drew)); exact HO478.out) (Kd.R_base ho0) hb); have HO484 := aM (Kd.R_lower (Kd.R_new' (Kd.R_new' (Kd.R_new' (Kd.R_new' ho0 (Kd.R_lt (qR HO_432003.out))) (Kd.R_lt (qR HO_439003.out))) (Kd.R_lt (qR HO_450003.out))) (Kd.R_lt (qR HO475.out))) (below_size (qW HB.out))); replace HO_432003 := aM (Kd.R_elder' (qR HO_432003.out) (Kd.R_base ho0) hb); replace HO_439003 := aM (Kd.R_elder' (qR HO_439003.out) (Kd.R_base ho0) hb); replace HO_450003 := aM (Kd.R_elder' (qR HO_450003.out) (Kd.R_base ho0) hb); replace HO475 := aM (Kd.R_elder' (qR HO475.out) (Kd.R_base ho0) hb); replace BK412 := bB BK412 hb; replace BK431 := bB BK431 hb; replace BK438 := bB BK438 hb; replace BK449 := bB BK449 hb; replace HB := bS HB hb; clear hb ho0) | ((with_reducible refine gate_dst (N := 17) rfl ?_); refine bxE (N := 17) (cs := #[.int .i64 0, .int .i64 0, .int .i64 0, .slice none 0 0]) (t := 29) ?_; intro gb486 hg w141 hbox hb; replace HO_432003 := aM (Kd.R_below (qR HO_432003.out) hb); replace HO_439003 := aM (Kd.R_below (qR HO_439003.out) hb); replace HO_450003 := aM (Kd.R_below (qR HO_450003.out) hb); replace HO475 := aM (Kd.R_below (qR HO475.out) hb); replace HO478 := aM (Kd.S_below (by (with_reducible repeat (first | apply Kd.S_alloc | apply Kd.S_drewN | apply Kd.S_drew)); exact HO478.out) hb); replace HO484 := aM (Kd.R_below (qR HO484.out) hb); have BK486 := aM (hbox); have GW486 := gW hg HB; have GE486 := gW hg HB; replace HB := bS HB hb; have NB412_486 := nL hg BK412; have NB486_412 := nG hg BK412; replace BK412 := bB BK412 hb; have NB431_486 := nL hg BK431; have NB486_431 := nG hg BK431; replace BK431 := bB BK431 hb; have NB438_486 := nL hg BK438; have NB486_438 := nG hg BK438; replace BK438 := bB BK438 hb; have NB449_486 := nL hg BK449; have NB486_449 := nG hg BK449; replace BK449 := bB BK449 hb; clear hb hbox hg; have hnb142 := NB486_412.out; have hnc142 := NB412_486.out; have hnb143 := NB486_431.out; have hnc143 := NB431_486.out; have hnb144 := NB486_438.out; have hnc144 := NB438_486.out; have hnb145 := NB486_449.out; have hnc145 := NB449_486.out; obtain ⟨⟨hcz146_0, hcz146_1, hcz146_2, hcz146_3⟩, hfz146_0, hfz146_1, hfz146_2, hfz146_3⟩ := cf4 BK486; obtain ⟨Ao147, co147, rfl⟩ := sL HO484))
     (try simp only [Act.put, List.setIfInBounds_toArray, List.set_cons_zero, List.set_cons_succ])
     go_cut [115] (fun v115 wc => ∃ (kq : Nat) (x115_124 : Bool), v115 = .bool x115_124 ∧ Aside0 (laws_FnExactColorImage.j2 kq t467 x115_124 t442 t443 t444 t468 = some r) ∧ Aside0 (kq ≤ kj77) ∧ Aside0 (Kd.R (Kd.int .i64) 3 wc w.heap.size (fun k_ => some k_ ≠ ((.slice Ao40 t463.length co40) : Value).ownBlock ∧ some k_ ≠ ((.slice Ao50 t445.length co50) : Value).ownBlock ∧ some k_ ≠ ((.slice Ao147 t482.length co147) : Value).ownBlock) (.slice Ao33 t427.length co33) t427) ∧ Aside0 (Kd.R (Kd.int .i64) 3 wc w.heap.size (fun k_ => some k_ ≠ ((.slice Ao33 t427.length co33) : Value).ownBlock ∧ some k_ ≠ ((.slice Ao50 t445.length co50) : Value).ownBlock ∧ some k_ ≠ ((.slice Ao147 t482.length co147) : Value).ownBlock) (.slice Ao40 t463.length co40) t463) ∧ Aside0 (Kd.R (Kd.int .i64) 3 wc w.heap.size (fun k_ => some k_ ≠ ((.slice Ao33 t427.length co33) : Value).ownBlock ∧ some k_ ≠ ((.slice Ao40 t463.length co40) : Value).ownBlock ∧ some k_ ≠ ((.slice Ao147 t482.length co147) : Value).ownBlock) (.slice Ao50 t445.length co50) t468) ∧ Aside0 (Kd.R (Kd.int .i64) 3 wc w.heap.size (fun k_ => some k_ ≠ ((.slice Ao33 t427.length co33) : Value).ownBlock ∧ some k_ ≠ ((.slice Ao40 t463.length co40) : Value).ownBlock ∧ some k_ ≠ ((.slice Ao50 t445.length co50) : Value).ownBlock) (.slice Ao147 t482.length co147) t482) ∧ Aside0 (wc.heap[gb412]? = some (.cells #[.int .i64 a0_0, .int .i64 a0_1, .int .i64 a0_2, (.slice A0_3 l0_3.length c0_3)] 24 (0, 0))) ∧ Aside0 (wc.heap[gb431]? = some (.cells #[.int .i64 t424, .int .i64 t425, .int .i64 t426, (.slice Ao33 t427.length co33)] 29 (0, 0))) ∧ Aside0 (wc.heap[gb438]? = some (.cells #[.int .i64 t432, .int .i64 t433, .int .i64 t434, (.slice Ao40 t463.length co40)] 29 (0, 0))) ∧ Aside0 (wc.heap[gb449]? = some (.cells #[.int .i64 t442, .int .i64 t443, .int .i64 t444, (.slice Ao50 t445.length co50)] 29 (0, 0))) ∧ Aside0 (wc.heap[gb486]? = some (.cells #[.int .i64 t479, .int .i64 t480, .int .i64 t481, (.slice Ao147 t482.length co147)] 29 (0, 0))) ∧ Aside0 (Below w.heap.size w wc))
     case first =>
      have H := HC125.out
      clear HC125
      replace H := Option.bind_eq_some_iff.mp H
      obtain ⟨t487, A1480, H⟩ := H
      replace H : (if t487 = true then (laws_FnExactColorImage.j2 kj77 t467 (t485 != t430) t442 t443 t444 t468) else (laws_FnExactColorImage.j2 kj77 t467 true t442 t443 t444 t468)) = some r := H
      have A148 := aM A1480
      clear A1480
      by_cases c149 : t487 = true
      ·subst c149
       have H1 : (laws_FnExactColorImage.j2 kj77 t467 (t485 != t430) t442 t443 t444 t468) = some r := by rw [if_pos rfl] at H; exact H
       clear H
       have H := H1
       clear H1
       have H' := aM H
       clear H
       have hnb150 := NB486_412.out
       have hnc150 := NB412_486.out
       have hnb151 := NB486_431.out
       have hnc151 := NB431_486.out
       have hnb152 := NB486_438.out
       have hnc152 := NB438_486.out
       have hnb153 := NB486_449.out
       have hnc153 := NB449_486.out
       obtain ⟨⟨hcz154_0, hcz154_1, hcz154_2, hcz154_3⟩, hfz154_0, hfz154_1, hfz154_2, hfz154_3⟩ := cf4 BK486
       have hnb155 := NB431_412.out
       have hnc155 := NB412_431.out
       have hnb156 := NB431_438.out
       have hnc156 := NB438_431.out
       have hnb157 := NB431_449.out
       have hnc157 := NB449_431.out
       obtain ⟨⟨hcz158_0, hcz158_1, hcz158_2, hcz158_3⟩, hfz158_0, hfz158_1, hfz158_2, hfz158_3⟩ := cf4 BK431
       go_wp2_with (first | ((with_reducible refine gate_callee (f := 17) rfl ?_); refine gL (some 109) Try.func17 #[.agg #[.int .i64 t479, .int .i64 t480, .int .i64 t481, .slice Ao147 t482.length co147], .agg #[.int .i64 t424, .int .i64 t425, .int .i64 t426, .slice Ao33 t427.length co33]] ?_; (with_reducible refine (laws_eqImage.calls kj77 t479 t480 t481 _ _ t482 t424 t425 t426 _ _ t427 true _ ?side1 ?side2 ?side3 ?side4 A148.out).mono ?_); (case side1 => refine (Kd.R_reads' (e := 3) (base := w.heap.size) (ok := fun k_ => ((((True ∧ some k_ ≠ (.slice Ao33 t427.length co33 : Value).ownBlock) ∧ some k_ ≠ (.slice Ao40 t463.length co40 : Value).ownBlock) ∧ some k_ ≠ (.slice Ao50 t445.length co50 : Value).ownBlock) ∧ some k_ ≠ (.slice Ao138 t473.length co138 : Value).ownBlock)) (n := t482.length) (c := co147) ?_).2.2; exact (by refine qR ?_; exact (fr4 HO484 BK486))); (case side2 => exact (Kd.R_reads' HO484.out).2.1); (case side3 => refine (Kd.R_reads' (e := 3) (base := w.heap.size) (ok := fun k_ => (((some k_ ≠ (.slice Ao40 t463.length co40 : Value).ownBlock ∧ some k_ ≠ (.slice Ao50 t445.length co50 : Value).ownBlock) ∧ some k_ ≠ (.slice Ao138 t473.length co138 : Value).ownBlock) ∧ some k_ ≠ (.slice Ao147 t482.length co147 : Value).ownBlock)) (n := t427.length) (c := co33) ?_).2.2; exact (by refine qR ?_; exact (fr4 HO_432003 BK486))); (case side4 => exact (Kd.R_reads' HO_432003.out).2.1); rintro e w159 ⟨rfl, hb⟩; refine ⟨_, rfl, ?_⟩; replace HO_432003 := aM (Kd.R_below (by refine qR ?_; exact (fr4 HO_432003 BK486)) hb); replace HO_439003 := aM (Kd.R_below (by refine qR ?_; exact (fr4 HO_439003 BK486)) hb); replace HO_450003 := aM (Kd.R_below (by refine qR ?_; exact (fr4 HO_450003 BK486)) hb); replace HO475 := aM (Kd.R_below (by refine qR ?_; exact (fr4 HO475 BK486)) hb); replace HO478 := aM (Kd.S_below (by (with_reducible repeat (first | apply Kd.S_alloc | apply Kd.S_drewN | apply Kd.S_drew)); exact (Kd.S_mono (Kd.S_far (p := ⟨gb486, 3, none⟩) (Kd.S_far (p := ⟨gb486, 2, none⟩) (Kd.S_far (p := ⟨gb486, 1, none⟩) (Kd.S_far (p := ⟨gb486, 0, none⟩) (Kd.S_types HO478.out BK486.out (by decide)) (fun _ hk => hk.2) (.int .i64 t479)) (fun _ hk => hk.2) (.int .i64 t480)) (fun _ hk => hk.2) (.int .i64 t481)) (fun _ hk => hk.2) (.slice Ao147 t482.length co147)) (fun _ h_ => h_.1))) hb); replace HO484 := aM (Kd.R_below (by refine qR ?_; exact (fr4 HO484 BK486)) hb); replace BK412 := aM (blk_below (g := gb412) (o := .cells #[.int .i64 a0_0, .int .i64 a0_1, .int .i64 a0_2, .slice A0_3 l0_3.length c0_3] 24 (0, 0)) (by refine qB ?_; refine blk_far ?_ NB412_486.out _; refine qB ?_; refine blk_far ?_ NB412_486.out _; refine qB ?_; refine blk_far ?_ NB412_486.out _; refine qB ?_; refine blk_far ?_ NB412_486.out _; refine qB ?_; exact BK412.out) hb); replace BK431 := aM (blk_below (g := gb431) (o := .cells #[.int .i64 t424, .int .i64 t425, .int .i64 t426, .slice Ao33 t427.length co33] 29 (0, 0)) (by refine qB ?_; refine blk_far ?_ NB431_486.out _; refine qB ?_; refine blk_far ?_ NB431_486.out _; refine qB ?_; refine blk_far ?_ NB431_486.out _; refine qB ?_; refine blk_far ?_ NB431_486.out _; refine qB ?_; exact BK431.out) hb); replace BK438 := aM (blk_below (g := gb438) (o := .cells #[.int .i64 t432, .int .i64 t433, .int .i64 t434, .slice Ao40 t463.length co40] 29 (0, 0)) (by refine qB ?_; refine blk_far ?_ NB438_486.out _; refine qB ?_; refine blk_far ?_ NB438_486.out _; refine qB ?_; refine blk_far ?_ NB438_486.out _; refine qB ?_; refine blk_far ?_ NB438_486.out _; refine qB ?_; exact BK438.out) hb); replace BK449 := aM (blk_below (g := gb449) (o := .cells #[.int .i64 t442, .int .i64 t443, .int .i64 t444, .slice Ao50 t445.length co50] 29 (0, 0)) (by refine qB ?_; refine blk_far ?_ NB449_486.out _; refine qB ?_; refine blk_far ?_ NB449_486.out _; refine qB ?_; refine blk_far ?_ NB449_486.out _; refine qB ?_; refine blk_far ?_ NB449_486.out _; refine qB ?_; exact BK449.out) hb); replace BK486 := aM (blk_below (g := gb486) (o := .cells #[.int .i64 t479, .int .i64 t480, .int .i64 t481, .slice Ao147 t482.length co147] 29 (0, 0)) (by exact bP BK486.out) hb); replace HB := bS HB hb; clear hb))
       go_meet
       case rel => exact ⟨_, ((t485 != t430)), qE, H', ⟨by have := HJ19.out; have := HJ77.out; first | omega | exact Nat.le_refl _⟩, ⟨by (try simp only [hl439003_77]); refine qR ?_; exact Kd.R_mono HO_432003.out (fun _ hk => ⟨hk.1.1.1, ⟨hk.1.1.2, hk.2⟩⟩)⟩, ⟨by (try simp only [hl439003_77]); refine qR ?_; exact Kd.R_mono HO_439003.out (fun _ hk => ⟨hk.1.1.1, ⟨hk.1.1.2, hk.2⟩⟩)⟩, ⟨by (try simp only [hl439003_77]); refine qR ?_; exact Kd.R_mono HO_450003.out (fun _ hk => ⟨hk.1.1.1, ⟨hk.1.1.2, hk.2⟩⟩)⟩, ⟨by (try simp only [hl439003_77]); refine qR ?_; exact Kd.R_mono HO484.out (fun _ hk => ⟨hk.1.1.1.2, ⟨hk.1.1.2, hk.1.2⟩⟩)⟩, ⟨by (try simp only [hl439003_77]); refine qB ?_; exact BK412.out⟩, ⟨by (try simp only [hl439003_77]); refine qB ?_; exact BK431.out⟩, ⟨by (try simp only [hl439003_77]); refine qB ?_; exact BK438.out⟩, ⟨by (try simp only [hl439003_77]); refine qB ?_; exact BK449.out⟩, ⟨by (try simp only [hl439003_77]); refine qB ?_; exact BK486.out⟩, ⟨by exact qW HB.out⟩⟩
      replace c149 := Bool.eq_false_iff.mpr c149
      subst c149
      have H1 : (laws_FnExactColorImage.j2 kj77 t467 true t442 t443 t444 t468) = some r := by rw [if_neg (show ¬ (false = true) by decide)] at H; exact H
      clear H
      have H := H1
      clear H1
      have H' := aM H
      clear H
      have hnb160 := NB486_412.out
      have hnc160 := NB412_486.out
      have hnb161 := NB486_431.out
      have hnc161 := NB431_486.out
      have hnb162 := NB486_438.out
      have hnc162 := NB438_486.out
      have hnb163 := NB486_449.out
      have hnc163 := NB449_486.out
      obtain ⟨⟨hcz164_0, hcz164_1, hcz164_2, hcz164_3⟩, hfz164_0, hfz164_1, hfz164_2, hfz164_3⟩ := cf4 BK486
      have hnb165 := NB431_412.out
      have hnc165 := NB412_431.out
      have hnb166 := NB431_438.out
      have hnc166 := NB438_431.out
      have hnb167 := NB431_449.out
      have hnc167 := NB449_431.out
      obtain ⟨⟨hcz168_0, hcz168_1, hcz168_2, hcz168_3⟩, hfz168_0, hfz168_1, hfz168_2, hfz168_3⟩ := cf4 BK431
      go_wp2_with (first | ((with_reducible refine gate_callee (f := 17) rfl ?_); refine gL (some 109) Try.func17 #[.agg #[.int .i64 t479, .int .i64 t480, .int .i64 t481, .slice Ao147 t482.length co147], .agg #[.int .i64 t424, .int .i64 t425, .int .i64 t426, .slice Ao33 t427.length co33]] ?_; (with_reducible refine (laws_eqImage.calls kj77 t479 t480 t481 _ _ t482 t424 t425 t426 _ _ t427 false _ ?side1 ?side2 ?side3 ?side4 A148.out).mono ?_); (case side1 => refine (Kd.R_reads' (e := 3) (base := w.heap.size) (ok := fun k_ => ((((True ∧ some k_ ≠ (.slice Ao33 t427.length co33 : Value).ownBlock) ∧ some k_ ≠ (.slice Ao40 t463.length co40 : Value).ownBlock) ∧ some k_ ≠ (.slice Ao50 t445.length co50 : Value).ownBlock) ∧ some k_ ≠ (.slice Ao138 t473.length co138 : Value).ownBlock)) (n := t482.length) (c := co147) ?_).2.2; exact (by refine qR ?_; exact (fr4 HO484 BK486))); (case side2 => exact (Kd.R_reads' HO484.out).2.1); (case side3 => refine (Kd.R_reads' (e := 3) (base := w.heap.size) (ok := fun k_ => (((some k_ ≠ (.slice Ao40 t463.length co40 : Value).ownBlock ∧ some k_ ≠ (.slice Ao50 t445.length co50 : Value).ownBlock) ∧ some k_ ≠ (.slice Ao138 t473.length co138 : Value).ownBlock) ∧ some k_ ≠ (.slice Ao147 t482.length co147 : Value).ownBlock)) (n := t427.length) (c := co33) ?_).2.2; exact (by refine qR ?_; exact (fr4 HO_432003 BK486))); (case side4 => exact (Kd.R_reads' HO_432003.out).2.1); rintro e w169 ⟨rfl, hb⟩; refine ⟨_, rfl, ?_⟩; replace HO_432003 := aM (Kd.R_below (by refine qR ?_; exact (fr4 HO_432003 BK486)) hb); replace HO_439003 := aM (Kd.R_below (by refine qR ?_; exact (fr4 HO_439003 BK486)) hb); replace HO_450003 := aM (Kd.R_below (by refine qR ?_; exact (fr4 HO_450003 BK486)) hb); replace HO475 := aM (Kd.R_below (by refine qR ?_; exact (fr4 HO475 BK486)) hb); replace HO478 := aM (Kd.S_below (by (with_reducible repeat (first | apply Kd.S_alloc | apply Kd.S_drewN | apply Kd.S_drew)); exact (Kd.S_mono (Kd.S_far (p := ⟨gb486, 3, none⟩) (Kd.S_far (p := ⟨gb486, 2, none⟩) (Kd.S_far (p := ⟨gb486, 1, none⟩) (Kd.S_far (p := ⟨gb486, 0, none⟩) (Kd.S_types HO478.out BK486.out (by decide)) (fun _ hk => hk.2) (.int .i64 t479)) (fun _ hk => hk.2) (.int .i64 t480)) (fun _ hk => hk.2) (.int .i64 t481)) (fun _ hk => hk.2) (.slice Ao147 t482.length co147)) (fun _ h_ => h_.1))) hb); replace HO484 := aM (Kd.R_below (by refine qR ?_; exact (fr4 HO484 BK486)) hb); replace BK412 := aM (blk_below (g := gb412) (o := .cells #[.int .i64 a0_0, .int .i64 a0_1, .int .i64 a0_2, .slice A0_3 l0_3.length c0_3] 24 (0, 0)) (by refine qB ?_; refine blk_far ?_ NB412_486.out _; refine qB ?_; refine blk_far ?_ NB412_486.out _; refine qB ?_; refine blk_far ?_ NB412_486.out _; refine qB ?_; refine blk_far ?_ NB412_486.out _; refine qB ?_; exact BK412.out) hb); replace BK431 := aM (blk_below (g := gb431) (o := .cells #[.int .i64 t424, .int .i64 t425, .int .i64 t426, .slice Ao33 t427.length co33] 29 (0, 0)) (by refine qB ?_; refine blk_far ?_ NB431_486.out _; refine qB ?_; refine blk_far ?_ NB431_486.out _; refine qB ?_; refine blk_far ?_ NB431_486.out _; refine qB ?_; refine blk_far ?_ NB431_486.out _; refine qB ?_; exact BK431.out) hb); replace BK438 := aM (blk_below (g := gb438) (o := .cells #[.int .i64 t432, .int .i64 t433, .int .i64 t434, .slice Ao40 t463.length co40] 29 (0, 0)) (by refine qB ?_; refine blk_far ?_ NB438_486.out _; refine qB ?_; refine blk_far ?_ NB438_486.out _; refine qB ?_; refine blk_far ?_ NB438_486.out _; refine qB ?_; refine blk_far ?_ NB438_486.out _; refine qB ?_; exact BK438.out) hb); replace BK449 := aM (blk_below (g := gb449) (o := .cells #[.int .i64 t442, .int .i64 t443, .int .i64 t444, .slice Ao50 t445.length co50] 29 (0, 0)) (by refine qB ?_; refine blk_far ?_ NB449_486.out _; refine qB ?_; refine blk_far ?_ NB449_486.out _; refine qB ?_; refine blk_far ?_ NB449_486.out _; refine qB ?_; refine blk_far ?_ NB449_486.out _; refine qB ?_; exact BK449.out) hb); replace BK486 := aM (blk_below (g := gb486) (o := .cells #[.int .i64 t479, .int .i64 t480, .int .i64 t481, .slice Ao147 t482.length co147] 29 (0, 0)) (by exact bP BK486.out) hb); replace HB := bS HB hb; clear hb))
      go_meet
      case rel => exact ⟨_, (true), qE, H', ⟨by have := HJ19.out; have := HJ77.out; first | omega | exact Nat.le_refl _⟩, ⟨by (try simp only [hl439003_77]); refine qR ?_; exact Kd.R_mono HO_432003.out (fun _ hk => ⟨hk.1.1.1, ⟨hk.1.1.2, hk.2⟩⟩)⟩, ⟨by (try simp only [hl439003_77]); refine qR ?_; exact Kd.R_mono HO_439003.out (fun _ hk => ⟨hk.1.1.1, ⟨hk.1.1.2, hk.2⟩⟩)⟩, ⟨by (try simp only [hl439003_77]); refine qR ?_; exact Kd.R_mono HO_450003.out (fun _ hk => ⟨hk.1.1.1, ⟨hk.1.1.2, hk.2⟩⟩)⟩, ⟨by (try simp only [hl439003_77]); refine qR ?_; exact Kd.R_mono HO484.out (fun _ hk => ⟨hk.1.1.1.2, ⟨hk.1.1.2, hk.1.2⟩⟩)⟩, ⟨by (try simp only [hl439003_77]); refine qB ?_; exact BK412.out⟩, ⟨by (try simp only [hl439003_77]); refine qB ?_; exact BK431.out⟩, ⟨by (try simp only [hl439003_77]); refine qB ?_; exact BK438.out⟩, ⟨by (try simp only [hl439003_77]); refine qB ?_; exact BK449.out⟩, ⟨by (try simp only [hl439003_77]); refine qB ?_; exact BK486.out⟩, ⟨by exact qW HB.out⟩⟩
     case rest =>
      clear HC125
      try clear c1
      try clear c5
      try clear c5b0
      try clear c10
      try clear c10b0
      try clear c52
      try clear c69
      try clear c72
      try clear c75
      try clear c91
      try clear c91b0
      try clear c93
      try clear c110
      try clear c113
      try clear c113b0
      try clear c121
      try clear c121b0
      try clear c121b1
      try clear c149
      try clear hcz100_0 hcz100_1 hcz100_2 hcz100_3 hfz100_0 hfz100_1 hfz100_2 hfz100_3
      try clear hcz105_0 hcz105_1 hcz105_2 hcz105_3 hfz105_0 hfz105_1 hfz105_2 hfz105_3
      try clear hcz108_0 hcz108_1 hcz108_2 hcz108_3 hfz108_0 hfz108_1 hfz108_2 hfz108_3
      try clear hcz129_0 hcz129_1 hcz129_2 hcz129_3 hfz129_0 hfz129_1 hfz129_2 hfz129_3
      try clear hcz12_0 hcz12_1 hcz12_2 hcz12_3 hfz12_0 hfz12_1 hfz12_2 hfz12_3
      try clear hcz131_0 hcz131_1 hcz131_2 hcz131_3 hfz131_0 hfz131_1 hfz131_2 hfz131_3
      try clear hcz135_0 hcz135_1 hcz135_2 hcz135_3 hfz135_0 hfz135_1 hfz135_2 hfz135_3
      try clear hcz146_0 hcz146_1 hcz146_2 hcz146_3 hfz146_0 hfz146_1 hfz146_2 hfz146_3
      try clear hcz154_0 hcz154_1 hcz154_2 hcz154_3 hfz154_0 hfz154_1 hfz154_2 hfz154_3
      try clear hcz158_0 hcz158_1 hcz158_2 hcz158_3 hfz158_0 hfz158_1 hfz158_2 hfz158_3
      try clear hcz164_0 hcz164_1 hcz164_2 hcz164_3 hfz164_0 hfz164_1 hfz164_2 hfz164_3
      try clear hcz168_0 hcz168_1 hcz168_2 hcz168_3 hfz168_0 hfz168_1 hfz168_2 hfz168_3
      try clear hcz22_0 hcz22_1 hcz22_2 hcz22_3 hfz22_0 hfz22_1 hfz22_2 hfz22_3
      try clear hcz24_0 hcz24_1 hcz24_2 hcz24_3 hfz24_0 hfz24_1 hfz24_2 hfz24_3
      try clear hcz32_0 hcz32_1 hcz32_2 hcz32_3 hfz32_0 hfz32_1 hfz32_2 hfz32_3
      try clear hcz34_0 hcz34_1 hcz34_2 hcz34_3 hfz34_0 hfz34_1 hfz34_2 hfz34_3
      try clear hcz39_0 hcz39_1 hcz39_2 hcz39_3 hfz39_0 hfz39_1 hfz39_2 hfz39_3
      try clear hcz42_0 hcz42_1 hcz42_2 hcz42_3 hfz42_0 hfz42_1 hfz42_2 hfz42_3
      try clear hcz49_0 hcz49_1 hcz49_2 hcz49_3 hfz49_0 hfz49_1 hfz49_2 hfz49_3
      try clear hcz56_0 hcz56_1 hcz56_2 hcz56_3 hfz56_0 hfz56_1 hfz56_2 hfz56_3
      try clear hcz59_0 hcz59_1 hcz59_2 hcz59_3 hfz59_0 hfz59_1 hfz59_2 hfz59_3
      try clear hcz64_0 hcz64_1 hcz64_2 hcz64_3 hfz64_0 hfz64_1 hfz64_2 hfz64_3
      try clear hcz67_0 hcz67_1 hcz67_2 hcz67_3 hfz67_0 hfz67_1 hfz67_2 hfz67_3
      try clear hcz7_0 hcz7_1 hcz7_2 hcz7_3 hfz7_0 hfz7_1 hfz7_2 hfz7_3
      try clear hcz88_0 hcz88_1 hcz88_2 hcz88_3 hfz88_0 hfz88_1 hfz88_2 hfz88_3
      try clear hcz97_0 hcz97_1 hcz97_2 hcz97_3 hfz97_0 hfz97_1 hfz97_2 hfz97_3
      obtain ⟨kq, x115_124, rfl, HA, HJ124, HO_432003, HO_439003, HO_450003, HO_487003, BK412, BK431, BK438, BK449, BK486, HB⟩ := hcut
      have hl450003_124 := (Kd.R_reads' HO_450003.out).1
      rw [hl450003_124] at HO_450003
      (try simp only [hl450003_124])
      (try simp only [hl450003_124] at BK412)
      (try simp only [hl450003_124] at BK431)
      (try simp only [hl450003_124] at BK438)
      (try simp only [hl450003_124] at BK449)
      (try simp only [hl450003_124] at BK486)
      (try simp only [hl450003_124] at HO_432003)
      (try simp only [hl450003_124] at HO_439003)
      (try simp only [hl450003_124] at HO_487003)
      cases kq with
      | zero => exact absurd HA.out (by simp [laws_FnExactColorImage.j2])
      | succ kj124 =>
       have H := HA.out
       clear HA
       simp only [laws_FnExactColorImage.j2] at H
       by_cases c170 : x115_124 = true
       ·subst c170
        have H1 : (some false) = some r := by rw [if_pos rfl] at H; exact H
        clear H
        have H := H1
        clear H1
        obtain rfl := Option.some.inj H
        exact absurd hrt (by decide)
       replace c170 := Bool.eq_false_iff.mpr c170
       subst c170
       have H1 : ((laws_heldImage.f kj124 t442 t443 t444 t468 1).bind fun t488 => (if t488 < 0 then (some false) else (if t488 = t467 then (some true) else (some false)))) = some r := by rw [if_neg (show ¬ (false = true) by decide)] at H; exact H
       clear H
       have H := H1
       clear H1
       replace H := Option.bind_eq_some_iff.mp H
       obtain ⟨t488, A1710, H⟩ := H
       replace H : (if t488 < 0 then (some false) else (if t488 = t467 then (some true) else (some false))) = some r := H
       have A171 := aM A1710
       clear A1710
       by_cases c172 : t488 < 0
       ·rw [if_pos c172] at H
        have c172b0 : decide (t488 < 0) = true := decide_eq_true c172
        clear c172
        obtain rfl := Option.some.inj H
        exact absurd hrt (by decide)
       rw [if_neg c172] at H
       have c172b0 : decide (t488 < 0) = false := decide_eq_false c172
       clear c172
       by_cases c179 : t488 = t467
       rotate_left
       ·rw [if_neg c179] at H
        have c179b0 : (t488 == t467) = false := beq_eq_false_iff_ne.mpr c179
        have c179b1 : (t488 != t467) = true := bne_iff_ne.mpr c179
        obtain rfl := Option.some.inj H
        exact absurd hrt (by decide)
       rw [if_pos c179] at H
       have c179b0 : (t488 == t467) = true := beq_iff_eq.mpr c179
       have c179b1 : (t488 != t467) = false := bne_eq_false_iff_eq.mpr c179
       clear c179
       obtain rfl := Option.some.inj H
       have hnb180 := NB449_412.out
       have hnc180 := NB412_449.out
       have hnb181 := NB449_431.out
       have hnc181 := NB431_449.out
       have hnb182 := NB449_438.out
       have hnc182 := NB438_449.out
       have hnb183 := NB449_486.out
       have hnc183 := NB486_449.out
       obtain ⟨⟨hcz184_0, hcz184_1, hcz184_2, hcz184_3⟩, hfz184_0, hfz184_1, hfz184_2, hfz184_3⟩ := cf4 BK449
       go_wp2_with (first | ((with_reducible refine gate_callee (f := 31) rfl ?_); refine gL (some 118) Try.func31 #[.agg #[.int .i64 t442, .int .i64 t443, .int .i64 t444, .slice Ao50 t468.length co50], .int .i64 1] ?_; (with_reducible refine (laws_heldImage.calls kj124 t442 t443 t444 _ _ t468 1 t488 _ ?side1 ?side2 A171.out).mono ?_); (case side1 => exact qC (Kd.R_reads' HO_450003.out).2.2); (case side2 => exact (Kd.R_reads' HO_450003.out).2.1); rintro e w185 ⟨rfl, hb⟩; refine ⟨_, rfl, ?_⟩; replace HO_432003 := aM (Kd.R_below (qR HO_432003.out) hb); replace HO_439003 := aM (Kd.R_below (qR HO_439003.out) hb); replace HO_450003 := aM (Kd.R_below (qR HO_450003.out) hb); replace HO_487003 := aM (Kd.R_below (qR HO_487003.out) hb); replace BK412 := bB BK412 hb; replace BK431 := bB BK431 hb; replace BK438 := bB BK438 hb; replace BK449 := bB BK449 hb; replace BK486 := bB BK486 hb; replace HB := bS HB hb; clear hb))
       go_ret
       exact ⟨qX, by exact qW HB.out⟩
def laws_FnExactColorImage.Pure : Prop := ∀ (a0_0 : Int) (a0_1 : Int) (a0_2 : Int) (l0_3 : List Int) (l1 : List (List Int)) (a2 : Int), (Lit.int .i64 a0_0).wf = true → (Lit.int .i64 a0_1).wf = true → (Lit.int .i64 a0_2).wf = true → l0_3.length ≤ maxLen → (∀ x ∈ l0_3, (Lit.int .i64 x).wf = true) → l1.length ≤ maxLen → (∀ y ∈ l1, y.length ≤ maxLen) → (Lit.int .i64 a2).wf = true → ∃ k, laws_FnExactColorImage.f k a0_0 a0_1 a0_2 l0_3 l1 a2 = some true
theorem laws_FnExactColorImage.walk (P : laws_FnExactColorImage.Pure) (a0_0 : Int) (a0_1 : Int) (a0_2 : Int) (A0_3 : Option Addr) (len0_3 cap0_3 : Nat) (z0_3 : List Int) (A1 : Option Addr) (cap1 : Nat) (l1 : List (List Int)) (a2 : Int) (w : World) (w0_0 : (Lit.int .i64 a0_0).wf = true) (w0_1 : (Lit.int .i64 a0_1).wf = true) (w0_2 : (Lit.int .i64 a0_2).wf = true) (w0_3 : (A0_3 = none ∧ len0_3 = 0 ∧ cap0_3 = 0 ∧ z0_3 = []) ∨ ∃ x, A0_3 = some x ∧ len0_3 ≤ cap0_3 ∧ cap0_3 ≤ maxLen ∧ z0_3.length = cap0_3 ∧ (∀ i, i < z0_3.length → w.cell? (x.add i) = some (.int .i64 (z0_3.getD i 0))) ∧ ∀ n ∈ z0_3, (Lit.int .i64 n).wf = true) (hr1 : Kd.C (Kd.slice 3 (Kd.int .i64)) w A1 l1.length l1) (hc1 : l1.length ≤ cap1) (hm1 : l1.length ≤ maxLen) (hw1 : ∀ y ∈ l1, y.length ≤ maxLen) (w2 : (Lit.int .i64 a2).wf = true) :
  Calls Try.prog 5 #[.agg #[.int .i64 a0_0, .int .i64 a0_1, .int .i64 a0_2, .slice A0_3 len0_3 cap0_3], .slice A1 l1.length cap1, .int .i64 a2] w fun e w' => e = .returned (.bool true) ∧ Below w.heap.size w w' := by
 obtain ⟨l0_3, rfl, hr0_3, hm0_3, hw0_3, hc0_3⟩ := ReadsInt.ofRowC w0_3
 obtain ⟨k, h⟩ := P a0_0 a0_1 a0_2 l0_3 l1 a2 w0_0 w0_1 w0_2 hm0_3 hw0_3 hm1 hw1 w2
 refine (laws_FnExactColorImage.calls k a0_0 a0_1 a0_2 _ _ l0_3 _ _ l1 a2 true w (Kd.C_of_reads (d := (0 : Int)) (h1 := fun _ => rfl) hr0_3) hc0_3 hr1 hc1 h rfl).mono ?_
 rintro e w' ⟨rfl, hd⟩
 exact ⟨rfl, hd⟩
end Go.Proofs.Ytohbpilokmppbaa.P
