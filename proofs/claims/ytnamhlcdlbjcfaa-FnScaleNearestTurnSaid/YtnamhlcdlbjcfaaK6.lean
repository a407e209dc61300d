/- Contracts and row, written by a program of this place out of the translation: the call answers true and its argument reads as before, for every input; no condition. -/
import Derived.Test.YtnamhlcdlbjcfaaK0
import Derived.Test.YtnamhlcdlbjcfaaK1
import Derived.Test.YtnamhlcdlbjcfaaK2
import Derived.Test.YtnamhlcdlbjcfaaK3
import Derived.Test.YtnamhlcdlbjcfaaK4
import Derived.Test.YtnamhlcdlbjcfaaK5
namespace Go.Proofs.Ytnamhlcdlbjcfaa.P
open Go.RowKit Go.Proofs.YtnamhlcdlbjcfaaW.PrintWords Go.Proofs.YtnamhlcdlbjcfaaW.PrintLast Go.Proofs.YtnamhlcdlbjcfaaW.PrintMore
attribute [local go_sem] max2_int min2_int max_two min_two max_three min_three max_four min_four   -- for this text's walks alone
set_option linter.unusedVariables false
set_option linter.unusedSimpArgs false
def spec_DrawScaleArea.f (k : Nat) (l0 : List Int) : Option (Int × Int × Int × List Int × Int × Int) := (spec_DrawScaleNearest.f k l0).bind fun bt758 => (some (bt758.1, bt758.2.1, bt758.2.2.1, bt758.2.2.2.1, bt758.2.2.2.2.1, bt758.2.2.2.2.2))
theorem spec_DrawScaleArea.mono : ∀ a0 k, LeO (spec_DrawScaleArea.f k a0) (spec_DrawScaleArea.f (k + 1) a0) := by
 intro a0 k
 unfold spec_DrawScaleArea.f
 repeat' first | (with_reducible first | exact spec_DrawScaleNearest.mono _ _ | exact lR | exact lN | refine lI ?_ ?_ | refine lB ?_ fun _ => ?_) | exact spec_DrawScaleNearest.mono _ _ | exact lN | refine lI ?_ ?_ | refine lB ?_ fun _ => ?_
set_option maxHeartbeats 8000000 in
set_option maxRecDepth 100000 in
theorem spec_DrawScaleArea.calls (k : Nat) (A0 : Option Addr) (c0 : Nat) (l0 : List Int) (r1 : Int) (r2 : Int) (r3 : Int) (r4 : List Int) (r5 : Int) (r6 : Int) (w : World) (hr0 : Kd.C (Kd.int .u8) w A0 l0.length l0) (hc0 : l0.length ≤ c0) (h : spec_DrawScaleArea.f k l0 = some (r1, r2, r3, r4, r5, r6)) :
  Calls Try.prog 33 #[.slice A0 l0.length c0] w fun e w' => ∃ v3_ : Value, e = .returned (.tuple #[.agg #[.int .i64 r1, .int .i64 r2, .int .i64 r3, v3_], .int .i64 r5, .int .i64 r6]) ∧ Kd.Q (Kd.int .i64) 3 w' w.heap.size (fun _ => True) v3_ r4 ∧ Below w.heap.size w w' := by
 have hu26 := Try.underlying26
 have HR0 := aM hr0
 have HC0 := aM hc0
 clear hr0 hc0
 have HB := aM (Below.refl w.heap.size w)
 unfold spec_DrawScaleArea.f at h
 have H := h
 clear h
 replace H := Option.bind_eq_some_iff.mp H
 obtain ⟨⟨t758, t759, t760, t761, t764, t765⟩, A20, H⟩ := H
 replace H : (some (t758, t759, t760, t761, t764, t765)) = some (r1, r2, r3, r4, r5, r6) := H
 have A2 := aM A20
 clear A20
 simp only [Option.some.injEq, Prod.mk.injEq] at H
 obtain ⟨rfl, rfl, rfl, rfl, rfl, rfl⟩ := H
 go_enter Try.func33, Try.ntmps33
 go_wp2_with (first | ((with_reducible refine gate_dst (N := 2) rfl ?_); refine bxE (N := 2) (cs := #[.int .i64 0, .int .i64 0, .int .i64 0, .slice none 0 0]) (t := 26) ?_; intro gb757 hg w3 hbox hb; have BK757 := aM (hbox); have GW757 := gW hg HB; have GE757 := gW hg HB; replace HB := bS HB hb; clear hb hbox hg) | ((with_reducible refine gate_callee (f := 29) rfl ?_); refine gL (some 6) Try.func29 #[.slice A0 l0.length c0] ?_; (with_reducible refine (spec_DrawScaleNearest.calls k _ _ l0 t758 t759 t760 t761 t764 t765 _ ?side1 ?side2 A2.out).mono ?_); (case side1 => exact qC (Kd.C_below HR0.out HB.out)); (case side2 => exact HC0.out); rintro e w4 ⟨v762, rfl, ho0, hb⟩; refine ⟨_, rfl, ?_⟩; have HO763 := aM (Kd.Q_lower ho0 (below_size (qW HB.out))); replace BK757 := bB BK757 hb; replace HB := bS HB hb; clear hb ho0; obtain ⟨⟨hcz5_0, hcz5_1, hcz5_2, hcz5_3⟩, hfz5_0, hfz5_1, hfz5_2, hfz5_3⟩ := cf4 BK757; obtain ⟨Ao6, co6, eo6, _⟩ := Kd.Q_slice HO763.out; subst eo6))
 refine bodyPost_ret (results_ctt rfl _ _ gb757 26 #[.int .i64 t758, .int .i64 t759, .int .i64 t760, .slice Ao6 t761.length co6] (0, 0) _ rfl (by exact bP BK757.out) Try.underlying26 rfl (by kernel_rfl)) rfl ?_
 exact ⟨_, qX, by (with_reducible repeat (first | apply Kd.Q_alloc | apply Kd.Q_drewN | apply Kd.Q_drew)); exact Kd.Q_mono (qT HO763 BK757) (fun _ hk => trivial), by exact qW HB.out⟩
def laws_equalImage.f (k : Nat) (a0_0 : Int) (a0_1 : Int) (a0_2 : Int) (l0_3 : List Int) (a1_0 : Int) (a1_1 : Int) (a1_2 : Int) (l1_3 : List Int) : Option (Bool) := if a0_0 = a1_0 then (if a0_1 = a1_1 then (if a0_2 = a1_2 then ((laws_equalInts.f k l0_3 l1_3).bind fun t335 => (some t335)) else (some false)) else (some false)) else (some false)
theorem laws_equalImage.mono : ∀ a0 a1 a2 a3 a4 a5 a6 a7 k, LeO (laws_equalImage.f k a0 a1 a2 a3 a4 a5 a6 a7) (laws_equalImage.f (k + 1) a0 a1 a2 a3 a4 a5 a6 a7) := by
 intro a0 a1 a2 a3 a4 a5 a6 a7 k
 unfold laws_equalImage.f
 repeat' first | (with_reducible first | exact laws_equalInts.mono _ _ _ | exact lR | exact lN | refine lI ?_ ?_ | refine lB ?_ fun _ => ?_) | exact laws_equalInts.mono _ _ _ | exact lN | refine lI ?_ ?_ | refine lB ?_ fun _ => ?_
set_option maxHeartbeats 8000000 in
set_option maxRecDepth 100000 in
theorem laws_equalImage.calls (k : Nat) (a0_0 : Int) (a0_1 : Int) (a0_2 : Int) (A0_3 : Option Addr) (c0_3 : Nat) (l0_3 : List Int) (a1_0 : Int) (a1_1 : Int) (a1_2 : Int) (A1_3 : Option Addr) (c1_3 : Nat) (l1_3 : List Int) (r : Bool) (w : World) (hr0_3 : Kd.C (Kd.int .i64) w A0_3 l0_3.length l0_3) (hc0_3 : l0_3.length ≤ c0_3) (hr1_3 : Kd.C (Kd.int .i64) w A1_3 l1_3.length l1_3) (hc1_3 : l1_3.length ≤ c1_3) (h : laws_equalImage.f k a0_0 a0_1 a0_2 l0_3 a1_0 a1_1 a1_2 l1_3 = some r) :
  Calls Try.prog 23 #[.agg #[.int .i64 a0_0, .int .i64 a0_1, .int .i64 a0_2, .slice A0_3 l0_3.length c0_3], .agg #[.int .i64 a1_0, .int .i64 a1_1, .int .i64 a1_2, .slice A1_3 l1_3.length c1_3]] w fun e w' => e = .returned (.bool r) ∧ Below w.heap.size w w' := by
 have hu26 := Try.underlying26
 have HR0_3 := aM hr0_3
 have HC0_3 := aM hc0_3
 clear hr0_3 hc0_3
 have HR1_3 := aM hr1_3
 have HC1_3 := aM hc1_3
 clear hr1_3 hc1_3
 have HB := aM (Below.refl w.heap.size w)
 unfold laws_equalImage.f at h
 have H := h
 clear h
 by_cases c3 : a0_0 = a1_0
 rotate_left
 ·rw [if_neg c3] at H
  have c3b0 : (a0_0 == a1_0) = false := beq_eq_false_iff_ne.mpr c3
  have c3b1 : (a0_0 != a1_0) = true := bne_iff_ne.mpr c3
  obtain rfl := Option.some.inj H
  go_enter Try.func23, Try.ntmps23
  go_wp2_with (first | ((with_reducible refine gate_dst (N := 2) rfl ?_); refine bxE (N := 2) (cs := #[.int .i64 a0_0, .int .i64 a0_1, .int .i64 a0_2, .slice A0_3 l0_3.length c0_3]) (t := 26) ?_; intro gb333 hg w22 hbox hb; have BK333 := aM (hbox); have GW333 := gW hg HB; have GE333 := gW hg HB; replace HB := bS HB hb; clear hb hbox hg) | ((with_reducible refine gate_dst (N := 3) rfl ?_); refine bxE (N := 3) (cs := #[.int .i64 a1_0, .int .i64 a1_1, .int .i64 a1_2, .slice A1_3 l1_3.length c1_3]) (t := 26) ?_; intro gb334 hg w23 hbox hb; have BK334 := aM (hbox); have GW334 := gW hg HB; have GE334 := gW hg HB; replace HB := bS HB hb; have NB333_334 := nL hg BK333; have NB334_333 := nG hg BK333; replace BK333 := bB BK333 hb; clear hb hbox hg; have hnb24 := NB333_334.out; have hnc24 := NB334_333.out; obtain ⟨⟨hcz25_0, hcz25_1, hcz25_2, hcz25_3⟩, hfz25_0, hfz25_1, hfz25_2, hfz25_3⟩ := cf4 BK333; obtain ⟨⟨hcz26_0, hcz26_1, hcz26_2, hcz26_3⟩, hfz26_0, hfz26_1, hfz26_2, hfz26_3⟩ := cf4 BK334))
  go_ret
  exact ⟨qX, by exact qW HB.out⟩
 rw [if_pos c3] at H
 have c3b0 : (a0_0 == a1_0) = true := beq_iff_eq.mpr c3
 have c3b1 : (a0_0 != a1_0) = false := bne_eq_false_iff_eq.mpr c3
 clear c3
 by_cases c4 : a0_1 = a1_1
 rotate_left
 ·rw [if_neg c4] at H
  have c4b0 : (a0_1 == a1_1) = false := beq_eq_false_iff_ne.mpr c4
  have c4b1 : (a0_1 != a1_1) = true := bne_iff_ne.mpr c4
  obtain rfl := Option.some.inj H
  go_enter Try.func23, Try.ntmps23
  go_wp2_with (first | ((with_reducible refine gate_dst (N := 2) rfl ?_); refine bxE (N := 2) (cs := #[.int .i64 a0_0, .int .i64 a0_1, .int .i64 a0_2, .slice A0_3 l0_3.length c0_3]) (t := 26) ?_; intro gb333 hg w17 hbox hb; have BK333 := aM (hbox); have GW333 := gW hg HB; have GE333 := gW hg HB; replace HB := bS HB hb; clear hb hbox hg) | ((with_reducible refine gate_dst (N := 3) rfl ?_); refine bxE (N := 3) (cs := #[.int .i64 a1_0, .int .i64 a1_1, .int .i64 a1_2, .slice A1_3 l1_3.length c1_3]) (t := 26) ?_; intro gb334 hg w18 hbox hb; have BK334 := aM (hbox); have GW334 := gW hg HB; have GE334 := gW hg HB; replace HB := bS HB hb; have NB333_334 := nL hg BK333; have NB334_333 := nG hg BK333; replace BK333 := bB BK333 hb; clear hb hbox hg; have hnb19 := NB333_334.out; have hnc19 := NB334_333.out; obtain ⟨⟨hcz20_0, hcz20_1, hcz20_2, hcz20_3⟩, hfz20_0, hfz20_1, hfz20_2, hfz20_3⟩ := cf4 BK333; obtain ⟨⟨hcz21_0, hcz21_1, hcz21_2, hcz21_3⟩, hfz21_0, hfz21_1, hfz21_2, hfz21_3⟩ := cf4 BK334))
  go_ret
  exact ⟨qX, by exact qW HB.out⟩
 rw [if_pos c4] at H
 have c4b0 : (a0_1 == a1_1) = true := beq_iff_eq.mpr c4
 have c4b1 : (a0_1 != a1_1) = false := bne_eq_false_iff_eq.mpr c4
 clear c4
 by_cases c5 : a0_2 = a1_2
 rotate_left
 ·rw [if_neg c5] at H
  have c5b0 : (a0_2 == a1_2) = false := beq_eq_false_iff_ne.mpr c5
  have c5b1 : (a0_2 != a1_2) = true := bne_iff_ne.mpr c5
  obtain rfl := Option.some.inj H
  go_enter Try.func23, Try.ntmps23
  go_wp2_with (first | ((with_reducible refine gate_dst (N := 2) rfl ?_); refine bxE (N := 2) (cs := #[.int .i64 a0_0, .int .i64 a0_1, .int .i64 a0_2, .slice A0_3 l0_3.length c0_3]) (t := 26) ?_; intro gb333 hg w12 hbox hb; have BK333 := aM (hbox); have GW333 := gW hg HB; have GE333 := gW hg HB; replace HB := bS HB hb; clear hb hbox hg) | ((with_reducible refine gate_dst (N := 3) rfl ?_); refine bxE (N := 3) (cs := #[.int .i64 a1_0, .int .i64 a1_1, .int .i64 a1_2, .slice A1_3 l1_3.length c1_3]) (t := 26) ?_; intro gb334 hg w13 hbox hb; have BK334 := aM (hbox); have GW334 := gW hg HB; have GE334 := gW hg HB; replace HB := bS HB hb; have NB333_334 := nL hg BK333; have NB334_333 := nG hg BK333; replace BK333 := bB BK333 hb; clear hb hbox hg; have hnb14 := NB333_334.out; have hnc14 := NB334_333.out; obtain ⟨⟨hcz15_0, hcz15_1, hcz15_2, hcz15_3⟩, hfz15_0, hfz15_1, hfz15_2, hfz15_3⟩ := cf4 BK333; obtain ⟨⟨hcz16_0, hcz16_1, hcz16_2, hcz16_3⟩, hfz16_0, hfz16_1, hfz16_2, hfz16_3⟩ := cf4 BK334))
  go_ret
  exact ⟨qX, by exact qW HB.out⟩
 rw [if_pos c5] at H
 have c5b0 : (a0_2 == a1_2) = true := beq_iff_eq.mpr c5
 have c5b1 : (a0_2 != a1_2) = false := bne_eq_false_iff_eq.mpr c5
 clear c5
 replace H := Option.bind_eq_some_iff.mp H
 obtain ⟨t335, A60, H⟩ := H
 replace H : (some t335) = some r := H
 have A6 := aM A60
 clear A60
 obtain rfl := Option.some.inj H
 go_enter Try.func23, Try.ntmps23
 go_wp2_with (first | ((with_reducible refine gate_dst (N := 2) rfl ?_); refine bxE (N := 2) (cs := #[.int .i64 a0_0, .int .i64 a0_1, .int .i64 a0_2, .slice A0_3 l0_3.length c0_3]) (t := 26) ?_; intro gb333 hg w7 hbox hb; have BK333 := aM (hbox); have GW333 := gW hg HB; have GE333 := gW hg HB; replace HB := bS HB hb; clear hb hbox hg) | ((with_reducible refine gate_dst (N := 3) rfl ?_); refine bxE (N := 3) (cs := #[.int .i64 a1_0, .int .i64 a1_1, .int .i64 a1_2, .slice A1_3 l1_3.length c1_3]) (t := 26) ?_; intro gb334 hg w8 hbox hb; have BK334 := aM (hbox); have GW334 := gW hg HB; have GE334 := gW hg HB; replace HB := bS HB hb; have NB333_334 := nL hg BK333; have NB334_333 := nG hg BK333; replace BK333 := bB BK333 hb; clear hb hbox hg; have hnb9 := NB333_334.out; have hnc9 := NB334_333.out; obtain ⟨⟨hcz10_0, hcz10_1, hcz10_2, hcz10_3⟩, hfz10_0, hfz10_1, hfz10_2, hfz10_3⟩ := cf4 BK333; obtain ⟨⟨hcz11_0, hcz11_1, hcz11_2, hcz11_3⟩, hfz11_0, hfz11_1, hfz11_2, hfz11_3⟩ := cf4 BK334) | (go_at_call 26; (with_reducible refine (laws_equalInts.calls k _ _ l0_3 _ _ l1_3 t335 _ ?side1 ?side2 ?side3 ?side4 A6.out).mono ?_); (case side1 => exact qC (Kd.C_below HR0_3.out HB.out)); (case side2 => exact HC0_3.out); (case side3 => exact qC (Kd.C_below HR1_3.out HB.out)); (case side4 => exact HC1_3.out); rintro e w' ⟨rfl, ⟨nd, rfl⟩⟩))
 go_ret
 exact ⟨qX, by exact qW HB.out⟩
def laws_FnScaleNearestTurn.j0 : Nat → Int → Int → Bool → Int → Int → Int → List Int → Int → Int → Int → List Int → Option (Bool)
 | 0, _, _, _, _, _, _, _, _, _, _, _ => none
 | k + 1, x4, x5, x32, x622000, x622001, x622002, x622003, x629000, x629001, x629002, x629003 => if x32 = true then ((spec_ScaleNearest.f k x622000 x622001 x622002 x622003 x4 x5).bind fun bt636 => ((laws_equalImage.f k x629000 x629001 x629002 x629003 bt636.1 bt636.2.1 bt636.2.2.1 bt636.2.2.2).bind fun t642 => (some t642))) else ((impl_TransposeImage.f x622000 x622001 x622002 x622003).bind fun bt643 => ((impl_ScaleNearest.f bt643.1 bt643.2.1 bt643.2.2.1 bt643.2.2.2 x5 x4).bind fun bt650 => ((impl_TransposeImage.f x629000 x629001 x629002 x629003).bind fun bt656 => ((laws_equalImage.f k bt650.1 bt650.2.1 bt650.2.2.1 bt650.2.2.2 bt656.1 bt656.2.1 bt656.2.2.1 bt656.2.2.2).bind fun t662 => (if t662 = true then ((impl_ScaleArea.f bt643.1 bt643.2.1 bt643.2.2.1 bt643.2.2.2 x5 x4).bind fun bt663 => ((impl_ScaleArea.f x622000 x622001 x622002 x622003 x4 x5).bind fun bt669 => ((impl_TransposeImage.f bt669.1 bt669.2.1 bt669.2.2.1 bt669.2.2.2).bind fun bt675 => ((laws_equalImage.f k bt663.1 bt663.2.1 bt663.2.2.1 bt663.2.2.2 bt675.1 bt675.2.1 bt675.2.2.1 bt675.2.2.2).bind fun t681 => (some t681))))) else (some false))))))
def laws_FnScaleNearestTurn.f (k : Nat) (l0 : List Int) : Option (Bool) := if (l0.length : Int) > 1048576 then (some true) else ((spec_DrawScaleNearest.f k l0).bind fun bt613 => ((impl_ScaleNearest.f bt613.1 bt613.2.1 bt613.2.2.1 bt613.2.2.2.1 bt613.2.2.2.2.1 bt613.2.2.2.2.2).bind fun bt622 => ((spec_ScaleNearest.f k bt613.1 bt613.2.1 bt613.2.2.1 bt613.2.2.2.1 bt613.2.2.2.2.1 bt613.2.2.2.2.2).bind fun bt629 => ((laws_equalImage.f k bt622.1 bt622.2.1 bt622.2.2.1 bt622.2.2.2 bt629.1 bt629.2.1 bt629.2.2.1 bt629.2.2.2).bind fun t635 => (if t635 = true then (laws_FnScaleNearestTurn.j0 k bt613.2.2.2.2.1 bt613.2.2.2.2.2 (bt622.1 == 0) bt613.1 bt613.2.1 bt613.2.2.1 bt613.2.2.2.1 bt622.1 bt622.2.1 bt622.2.2.1 bt622.2.2.2) else (laws_FnScaleNearestTurn.j0 k bt613.2.2.2.2.1 bt613.2.2.2.2.2 true bt613.1 bt613.2.1 bt613.2.2.1 bt613.2.2.2.1 bt622.1 bt622.2.1 bt622.2.2.1 bt622.2.2.2))))))
theorem laws_FnScaleNearestTurn.mono_l : ∀ k, (∀ y0 y1 y2 y3 y4 y5 y6 y7 y8 y9 y10, LeO (laws_FnScaleNearestTurn.j0 k y0 y1 y2 y3 y4 y5 y6 y7 y8 y9 y10) (laws_FnScaleNearestTurn.j0 (k + 1) y0 y1 y2 y3 y4 y5 y6 y7 y8 y9 y10))
 | 0 => fun _ _ _ _ _ _ _ _ _ _ _ r h => by simp [laws_FnScaleNearestTurn.j0] at h
 | k + 1 => by
  have ih0 := laws_FnScaleNearestTurn.mono_l k
  ·intro y0 y1 y2 y3 y4 y5 y6 y7 y8 y9 y10
   unfold laws_FnScaleNearestTurn.j0
   repeat' first | (with_reducible first | exact ih0 _ _ _ _ _ _ _ _ _ _ _ | exact laws_equalImage.mono _ _ _ _ _ _ _ _ _ | exact spec_DrawScaleNearest.mono _ _ | exact spec_ScaleNearest.mono _ _ _ _ _ _ _ | exact lR | exact lN | refine lI ?_ ?_ | refine lB ?_ fun _ => ?_) | exact ih0 _ _ _ _ _ _ _ _ _ _ _ | exact laws_equalImage.mono _ _ _ _ _ _ _ _ _ | exact spec_DrawScaleNearest.mono _ _ | exact spec_ScaleNearest.mono _ _ _ _ _ _ _ | exact lN | refine lI ?_ ?_ | refine lB ?_ fun _ => ?_
theorem laws_FnScaleNearestTurn.mono : ∀ a0 k, LeO (laws_FnScaleNearestTurn.f k a0) (laws_FnScaleNearestTurn.f (k + 1) a0) := by
 intro a0 k
 have ih0 := laws_FnScaleNearestTurn.mono_l k
 unfold laws_FnScaleNearestTurn.f
 repeat' first | (with_reducible first | exact ih0 _ _ _ _ _ _ _ _ _ _ _ | exact laws_equalImage.mono _ _ _ _ _ _ _ _ _ | exact spec_DrawScaleNearest.mono _ _ | exact spec_ScaleNearest.mono _ _ _ _ _ _ _ | exact lR | exact lN | refine lI ?_ ?_ | refine lB ?_ fun _ => ?_) | exact ih0 _ _ _ _ _ _ _ _ _ _ _ | exact laws_equalImage.mono _ _ _ _ _ _ _ _ _ | exact spec_DrawScaleNearest.mono _ _ | exact spec_ScaleNearest.mono _ _ _ _ _ _ _ | exact lN | refine lI ?_ ?_ | refine lB ?_ fun _ => ?_
def laws_FnScaleNearestTurn.T5 : Bool × List (List Nat × List Nat) := (true, [([], []), ([], []), ([], []), ([], []), ([1, 2, 3], [1, 2, 3]), ([0, 4, 4], [0, 4]), ([5], [5]), ([6, 5], [6]), ([7], [7]), ([8, 7], [7, 8]), ([9, 7], [7, 9]), ([7, 10], [7, 10])])
def laws_FnScaleNearestTurn.B5 : List Nat := [0, 0, 0, 0, 14, 31, 63, 127, 255, 511, 1023, 2047]
theorem laws_FnScaleNearestTurn.tab5 : rtab .any (opsOf Try.f8 5) = laws_FnScaleNearestTurn.T5 := by kernel_rfl
theorem laws_FnScaleNearestTurn.bits5 : waitsOk laws_FnScaleNearestTurn.T5.2 laws_FnScaleNearestTurn.B5 = true := by kernel_rfl
def laws_FnScaleNearestTurn.T8 : Bool × List (List Nat × List Nat) := (true, [([], []), ([], []), ([], []), ([0, 1, 2], [0, 1, 2]), ([], []), ([4, 3], [4]), ([3, 5, 5], [3, 5]), ([6, 6], [6]), ([7], [7]), ([7], [7]), ([7], [7]), ([8, 9, 10, 7, 7], [7, 8, 9, 10]), ([7], [7]), ([7], [7]), ([7], [7]), ([12, 13, 14, 11, 7], [7, 12, 13, 14]), ([15, 15, 7], [7, 15]), ([11, 16, 16, 7], [7, 11, 16]), ([7, 17], [7, 17]), ([18, 17, 0, 1, 2, 3, 4, 5, 6, 7, 8, 9, 10, 11, 12, 13, 14, 15, 16, 17, 18], [18])])
def laws_FnScaleNearestTurn.B8 : List Nat := [0, 0, 0, 7, 0, 31, 63, 127, 255, 255, 255, 2047, 255, 255, 255, 32767, 65535, 131071, 262143, 524287]
theorem laws_FnScaleNearestTurn.tab8 : rtab .any (opsOf Try.f8 8) = laws_FnScaleNearestTurn.T8 := by kernel_rfl
theorem laws_FnScaleNearestTurn.bits8 : waitsOk laws_FnScaleNearestTurn.T8.2 laws_FnScaleNearestTurn.B8 = true := by kernel_rfl
set_option maxHeartbeats 8000000 in
set_option maxRecDepth 100000 in
theorem laws_FnScaleNearestTurn.calls (k : Nat) (A0 : Option Addr) (c0 : Nat) (l0 : List Int) (r : Bool) (w : World) (hr0 : Kd.C (Kd.int .u8) w A0 l0.length l0) (hc0 : l0.length ≤ c0) (h : laws_FnScaleNearestTurn.f k l0 = some r) (hrt : r = true) :
  Calls Try.prog 8 #[.slice A0 l0.length c0] w fun e w' => e = .returned (.bool r) ∧ Below w.heap.size w w' := by
 have hu26 := Try.underlying26
 have HR0 := aM hr0
 have HC0 := aM hc0
 clear hr0 hc0
 have HB := aM (Below.refl w.heap.size w)
 unfold laws_FnScaleNearestTurn.f at h
 have H := h
 clear h
 by_cases c2 : (l0.length : Int) > 1048576
 ·rw [if_pos c2] at H
  have c2b0 : decide (1048576 < (l0.length : Int)) = true := decide_eq_true c2
  have c2b1 : decide (1048576 < l0.length) = true := decide_eq_true (by omega)
  clear c2
  obtain rfl := Option.some.inj H
  go_enter Try.func8, Try.ntmps8
  go_wp2
  go_ret
  exact ⟨qX, by exact qW HB.out⟩
 rw [if_neg c2] at H
 have c2b0 : decide (1048576 < (l0.length : Int)) = false := decide_eq_false c2
 have c2b1 : decide (1048576 < l0.length) = false := decide_eq_false (by omega)
 clear c2
 replace H := Option.bind_eq_some_iff.mp H
 obtain ⟨⟨t613, t614, t615, t616, t619, t620⟩, A30, H⟩ := H
 replace H : ((impl_ScaleNearest.f t613 t614 t615 t616 t619 t620).bind fun bt622 => ((spec_ScaleNearest.f k t613 t614 t615 t616 t619 t620).bind fun bt629 => ((laws_equalImage.f k bt622.1 bt622.2.1 bt622.2.2.1 bt622.2.2.2 bt629.1 bt629.2.1 bt629.2.2.1 bt629.2.2.2).bind fun t635 => (if t635 = true then (laws_FnScaleNearestTurn.j0 k t619 t620 (bt622.1 == 0) t613 t614 t615 t616 bt622.1 bt622.2.1 bt622.2.2.1 bt622.2.2.2) else (laws_FnScaleNearestTurn.j0 k t619 t620 true t613 t614 t615 t616 bt622.1 bt622.2.1 bt622.2.2.1 bt622.2.2.2))))) = some r := H
 have A3 := aM A30
 clear A30
 replace H := Option.bind_eq_some_iff.mp H
 obtain ⟨⟨t622, t623, t624, t625⟩, A40, H⟩ := H
 replace H : ((spec_ScaleNearest.f k t613 t614 t615 t616 t619 t620).bind fun bt629 => ((laws_equalImage.f k t622 t623 t624 t625 bt629.1 bt629.2.1 bt629.2.2.1 bt629.2.2.2).bind fun t635 => (if t635 = true then (laws_FnScaleNearestTurn.j0 k t619 t620 (t622 == 0) t613 t614 t615 t616 t622 t623 t624 t625) else (laws_FnScaleNearestTurn.j0 k t619 t620 true t613 t614 t615 t616 t622 t623 t624 t625)))) = some r := H
 have A4 := aM A40
 clear A40
 have HC5 := aM H
 clear H
 go_enter Try.func8, Try.ntmps8
 go_upto_region 5 with (first | ((with_reducible refine gate_callee (f := 29) rfl ?_); refine gL (some 13) Try.func29 #[.slice A0 l0.length c0] ?_; (with_reducible refine (spec_DrawScaleNearest.calls k _ _ l0 t613 t614 t615 t616 t619 t620 _ ?side1 ?side2 A3.out).mono ?_); (case side1 => exact qC HR0.out); (case side2 => exact HC0.out); rintro e w6 ⟨v617, rfl, ho0, hb⟩; refine ⟨_, rfl, ?_⟩; have HO618 := aM (Kd.Q_lower ho0 (below_size (qW HB.out))); replace HB := bS HB hb; clear hb ho0) | ((with_reducible refine gate_dst (N := 3) rfl ?_); refine bxE (N := 3) (cs := #[.int .i64 0, .int .i64 0, .int .i64 0, .slice none 0 0]) (t := 26) ?_; intro gb621 hg w7 hbox hb; replace HO618 := aM (Kd.Q_below (qQ HO618.out) hb); have BK621 := aM (hbox); have GW621 := gW hg HB; have GE621 := gW hg HB; replace HB := bS HB hb; clear hb hbox hg; obtain ⟨⟨hcz8_0, hcz8_1, hcz8_2, hcz8_3⟩, hfz8_0, hfz8_1, hfz8_2, hfz8_3⟩ := cf4 BK621; obtain ⟨Ao9, co9, eo9, _⟩ := Kd.Q_slice HO618.out; subst eo9) | ((with_reducible refine gate_callee (f := 28) rfl ?_); refine gL (some 20) Try.func28 #[.agg #[.int .i64 t613, .int .i64 t614, .int .i64 t615, .slice Ao9 t616.length co9], .int .i64 t619, .int .i64 t620] ?_; (with_reducible refine (impl_ScaleNearest.calls t613 t614 t615 _ _ t616 t619 t620 t622 t623 t624 t625 _ ?side1 ?side2 A4.out).mono ?_); (case side1 => refine (Kd.Q_reads' (e := 3) (base := w.heap.size) (ok := fun k_ => True) (n := t616.length) (c := co9) ?_).2.2; exact (by (with_reducible repeat (first | apply Kd.Q_alloc | apply Kd.Q_drewN | apply Kd.Q_drew)); exact (Kd.Q_mono (qT HO618 BK621) (fun _ h_ => h_.1)))); (case side2 => exact (Kd.Q_reads' HO618.out).2.1); rintro e w10 ⟨v626, rfl, ho0, hb⟩; refine ⟨_, rfl, ?_⟩; have HO627 := aM (Kd.R_lower (Kd.R_new' ho0 (Kd.Q_lt (by (with_reducible repeat (first | apply Kd.Q_alloc | apply Kd.Q_drewN | apply Kd.Q_drew)); exact (Kd.Q_mono (qT HO618 BK621) (fun _ h_ => h_.1))))) (below_size (qW HB.out))); replace HO618 := aM (Kd.Q_elder' (by (with_reducible repeat (first | apply Kd.Q_alloc | apply Kd.Q_drewN | apply Kd.Q_drew)); exact (Kd.Q_mono (qT HO618 BK621) (fun _ h_ => h_.1))) (Kd.R_base ho0) hb); replace BK621 := aM (blk_below (g := gb621) (o := .cells #[.int .i64 t613, .int .i64 t614, .int .i64 t615, .slice Ao9 t616.length co9] 26 (0, 0)) (by exact bP BK621.out) hb); replace HB := bS HB hb; clear hb ho0) | ((with_reducible refine gate_dst (N := 6) rfl ?_); refine bxE (N := 6) (cs := #[.int .i64 0, .int .i64 0, .int .i64 0, .slice none 0 0]) (t := 26) ?_; intro gb628 hg w11 hbox hb; replace HO618 := aM (Kd.Q_below (qQ HO618.out) hb); replace HO627 := aM (Kd.R_below (qR HO627.out) hb); have BK628 := aM (hbox); have GW628 := gW hg HB; have GE628 := gW hg HB; replace HB := bS HB hb; have NB621_628 := nL hg BK621; have NB628_621 := nG hg BK621; replace BK621 := bB BK621 hb; clear hb hbox hg; have hnb12 := NB628_621.out; have hnc12 := NB621_628.out; obtain ⟨⟨hcz13_0, hcz13_1, hcz13_2, hcz13_3⟩, hfz13_0, hfz13_1, hfz13_2, hfz13_3⟩ := cf4 BK628; obtain ⟨Ao14, co14, rfl⟩ := sL HO627))
 (try simp only [Act.put, List.setIfInBounds_toArray, List.set_cons_zero, List.set_cons_succ])
 go_cut [32] (fun v32 wc => ∃ (kq : Nat) (x32_4 : Bool), v32 = .bool x32_4 ∧ Aside0 (laws_FnScaleNearestTurn.j0 kq t619 t620 x32_4 t613 t614 t615 t616 t622 t623 t624 t625 = some r) ∧ Aside0 (kq ≤ k) ∧ Aside0 (Kd.Q (Kd.int .i64) 3 wc w.heap.size (fun k_ => some k_ ≠ ((.slice Ao14 t625.length co14) : Value).ownBlock) (.slice Ao9 t616.length co9) t616) ∧ Aside0 (Kd.Q (Kd.int .i64) 3 wc w.heap.size (fun k_ => some k_ ≠ ((.slice Ao9 t616.length co9) : Value).ownBlock) (.slice Ao14 t625.length co14) t625) ∧ Aside0 (wc.heap[gb621]? = some (.cells #[.int .i64 t613, .int .i64 t614, .int .i64 t615, (.slice Ao9 t616.length co9)] 26 (0, 0))) ∧ Aside0 (wc.heap[gb628]? = some (.cells #[.int .i64 t622, .int .i64 t623, .int .i64 t624, (.slice Ao14 t625.length co14)] 26 (0, 0))) ∧ Aside0 (Below w.heap.size w wc))
 case first =>
  have H := HC5.out
  clear HC5
  replace H := Option.bind_eq_some_iff.mp H
  obtain ⟨⟨t629, t630, t631, t632⟩, A150, H⟩ := H
  replace H : ((laws_equalImage.f k t622 t623 t624 t625 t629 t630 t631 t632).bind fun t635 => (if t635 = true then (laws_FnScaleNearestTurn.j0 k t619 t620 (t622 == 0) t613 t614 t615 t616 t622 t623 t624 t625) else (laws_FnScaleNearestTurn.j0 k t619 t620 true t613 t614 t615 t616 t622 t623 t624 t625))) = some r := H
  have A15 := aM A150
  clear A150
  replace H := Option.bind_eq_some_iff.mp H
  obtain ⟨t635, A160, H⟩ := H
  replace H : (if t635 = true then (laws_FnScaleNearestTurn.j0 k t619 t620 (t622 == 0) t613 t614 t615 t616 t622 t623 t624 t625) else (laws_FnScaleNearestTurn.j0 k t619 t620 true t613 t614 t615 t616 t622 t623 t624 t625)) = some r := H
  have A16 := aM A160
  clear A160
  by_cases c17 : t635 = true
  rotate_left
  ·replace c17 := Bool.eq_false_iff.mpr c17
   subst c17
   have H1 : (laws_FnScaleNearestTurn.j0 k t619 t620 true t613 t614 t615 t616 t622 t623 t624 t625) = some r := by rw [if_neg (show ¬ (false = true) by decide)] at H; exact H
   clear H
   have H := H1
   clear H1
   have H' := aM H
   clear H
   try go_wp2
   have n0_ : Aside0 (Kd.Q (Kd.int .i64) 3 ((((w11.setCell ⟨gb628, 0, none⟩ (.int .i64 t622)).setCell ⟨gb628, 1, none⟩ (.int .i64 t623)).setCell ⟨gb628, 2, none⟩ (.int .i64 t624)).setCell ⟨gb628, 3, none⟩ (.slice Ao14 t625.length co14)) w.heap.size (fun k_ => some k_ ≠ (.slice Ao14 t625.length co14 : Value).ownBlock) (.slice Ao9 t616.length co9) t616) := ⟨by (with_reducible repeat (first | apply Kd.Q_alloc | apply Kd.Q_drewN | apply Kd.Q_drew)); exact Kd.Q_mono (qT HO618 BK628) (fun _ hk => hk.1.2)⟩
   have n1_ : Aside0 (Kd.R (Kd.int .i64) 3 ((((w11.setCell ⟨gb628, 0, none⟩ (.int .i64 t622)).setCell ⟨gb628, 1, none⟩ (.int .i64 t623)).setCell ⟨gb628, 2, none⟩ (.int .i64 t624)).setCell ⟨gb628, 3, none⟩ (.slice Ao14 t625.length co14)) w.heap.size (fun k_ => some k_ ≠ (.slice Ao9 t616.length co9 : Value).ownBlock) (.slice Ao14 t625.length co14) t625) := ⟨by refine qR ?_; exact Kd.R_mono (rT HO627 BK628) (fun _ hk => hk.1.2)⟩
   have n2_ : Aside0 (((((w11.setCell ⟨gb628, 0, none⟩ (.int .i64 t622)).setCell ⟨gb628, 1, none⟩ (.int .i64 t623)).setCell ⟨gb628, 2, none⟩ (.int .i64 t624)).setCell ⟨gb628, 3, none⟩ (.slice Ao14 t625.length co14)).heap[gb621]? = some (.cells #[.int .i64 t613, .int .i64 t614, .int .i64 t615, .slice Ao9 t616.length co9] 26 (0, 0))) := ⟨by refine qB ?_; refine blk_far ?_ NB621_628.out _; refine qB ?_; refine blk_far ?_ NB621_628.out _; refine qB ?_; refine blk_far ?_ NB621_628.out _; refine qB ?_; refine blk_far ?_ NB621_628.out _; refine qB ?_; exact BK621.out⟩
   have n3_ : Aside0 (((((w11.setCell ⟨gb628, 0, none⟩ (.int .i64 t622)).setCell ⟨gb628, 1, none⟩ (.int .i64 t623)).setCell ⟨gb628, 2, none⟩ (.int .i64 t624)).setCell ⟨gb628, 3, none⟩ (.slice Ao14 t625.length co14)).heap[gb628]? = some (.cells #[.int .i64 t622, .int .i64 t623, .int .i64 t624, .slice Ao14 t625.length co14] 26 (0, 0))) := ⟨by exact bP BK628.out⟩
   have n4_ : Aside0 (Below w.heap.size w ((((w11.setCell ⟨gb628, 0, none⟩ (.int .i64 t622)).setCell ⟨gb628, 1, none⟩ (.int .i64 t623)).setCell ⟨gb628, 2, none⟩ (.int .i64 t624)).setCell ⟨gb628, 3, none⟩ (.slice Ao14 t625.length co14))) := ⟨by exact qW HB.out⟩
   (try clear HO618)
   (try clear HO627)
   (try clear BK621)
   (try clear BK628)
   (try clear HB)
   generalize ((((w11.setCell ⟨gb628, 0, none⟩ (.int .i64 t622)).setCell ⟨gb628, 1, none⟩ (.int .i64 t623)).setCell ⟨gb628, 2, none⟩ (.int .i64 t624)).setCell ⟨gb628, 3, none⟩ (.slice Ao14 t625.length co14)) = w23 at n0_ n1_ n2_ n3_ n4_ ⊢
   have HO618 := n0_
   have HO627 := n1_
   have BK621 := n2_
   have BK628 := n3_
   have HB := n4_
   clear n0_ n1_ n2_ n3_ n4_
   replace HO618 := aM (Kd.Q_drew HO618.out)
   replace HO627 := aM (Kd.R_drew HO627.out)
   replace BK621 := aM (blk_drew BK621.out)
   replace BK628 := aM (blk_drew BK628.out)
   replace HB := aM (below_drew1 HB.out)
   refine start_ (n := 12) (S := fun w' => w'.cell? ⟨gb628, 0, none⟩ = some (.int .i64 t622) ∧ w'.cell? ⟨gb628, 1, none⟩ = some (.int .i64 t623) ∧ w'.cell? ⟨gb628, 2, none⟩ = some (.int .i64 t624) ∧ w'.cell? ⟨gb628, 3, none⟩ = some (.slice Ao14 t625.length co14) ∧ w'.cell? ⟨gb621, 0, none⟩ = some (.int .i64 t613) ∧ w'.cell? ⟨gb621, 1, none⟩ = some (.int .i64 t614) ∧ w'.cell? ⟨gb621, 2, none⟩ = some (.int .i64 t615) ∧ w'.cell? ⟨gb621, 3, none⟩ = some (.slice Ao9 t616.length co9)) (ds := []) (bA 12 0) (by kernel_rfl) rfl rfl ⟨(blk_cell BK628.out 0).trans rfl, (blk_cell BK628.out 1).trans rfl, (blk_cell BK628.out 2).trans rfl, (blk_cell BK628.out 3).trans rfl, (blk_cell BK621.out 0).trans rfl, (blk_cell BK621.out 1).trans rfl, (blk_cell BK621.out 2).trans rfl, (blk_cell BK621.out 3).trans rfl⟩ (fun hHeld => ?_); refine with_tabW laws_FnScaleNearestTurn.tab5 laws_FnScaleNearestTurn.bits5 (fun HT_ HW_ => ?_)
   generalize w23.drew = w24 at HO618 HO627 BK621 BK628 HB hHeld ⊢
   refine pQ 2 23 HT_ (bA 12 4) ?_
   refine pQ 3 24 HT_ (bA 12 12) ?_
   refine take_ (i := 0) (N := some 21) (v := ?_) (a' := ?_) (bA 12 13) rfl rfl (take_ofW HT_.out HW_.out (by kernel_rfl)) (fun _ _ _ h => h) (Or.inl ⟨by rfl, ?_⟩) hHeld ?_ ?_
   rotate_left
   ·rintro w' ⟨s0, s1, s2, s3, s4, s5, s6, s7⟩
    go_simp
    with_reducible rfl
   rotate_left
   ·refine pZ ?_
    rfl
   refine take_ (i := 1) (N := some 22) (v := ?_) (a' := ?_) (bA 12 15) rfl rfl (take_ofW HT_.out HW_.out (by kernel_rfl)) (fun _ _ _ h => h) (Or.inl ⟨by rfl, ?_⟩) hHeld ?_ ?_
   rotate_left
   ·rintro w' ⟨s0, s1, s2, s3, s4, s5, s6, s7⟩
    go_simp
    with_reducible rfl
   rotate_left
   ·refine pZ ?_
    rfl
   refine one_ (i := 4) (N := some 25) (bA 12 31) rfl rfl (one_of HT_.out (by kernel_rfl)) (by decide) (fun K hK => ?_)
   refine goes_ Try.func27 (by kernel_rfl) rfl #[.agg #[.int .i64 t613, .int .i64 t614, .int .i64 t615, .slice Ao9 t616.length co9], .int .i64 t619, .int .i64 t620] (by rfl) rfl rfl qM ?_
   with_reducible refine (spec_ScaleNearest.calls k t613 t614 t615 _ _ t616 t619 t620 t629 t630 t631 t632 _ ?side1 ?side2 A15.out).mono ?_
   (case side1 => exact qC (Kd.Q_reads' HO618.out).2.2)
   (case side2 => exact (Kd.Q_reads' HO618.out).2.1)
   rintro e w25 ⟨v633, rfl, ho0, hb⟩
   refine ⟨_, rfl, ?_⟩
   have HO634 := aM (Kd.R_lower (Kd.R_new' (Kd.R_new' ho0 (Kd.Q_lt (qQ HO618.out))) (Kd.R_lt (qR HO627.out))) (below_size (qW HB.out)))
   replace HO618 := aM (Kd.Q_elder' (qQ HO618.out) (Kd.R_base ho0) hb)
   replace HO627 := aM (Kd.R_elder' (qR HO627.out) (Kd.R_base ho0) hb)
   replace BK621 := bB BK621 hb
   replace BK628 := bB BK628 hb
   replace HB := bS HB hb
   (try clear hb)
   (try clear hb2)
   (try clear hk)
   (try clear hi)
   (try clear ho0)
   obtain ⟨Ao26, co26, eo26⟩ := Kd.R_slice HO634.out
   (first | subst eo26 | (injection eo26 with f1_ f2_ f3_; have f4_ := f1_.symm; have f5_ := f3_.symm; clear f1_ f2_ f3_; subst f4_; subst f5_))
   refine hK.out _ _ ⟨(blk_cell BK628.out 0).trans rfl, (blk_cell BK628.out 1).trans rfl, (blk_cell BK628.out 2).trans rfl, (blk_cell BK628.out 3).trans rfl, (blk_cell BK621.out 0).trans rfl, (blk_cell BK621.out 1).trans rfl, (blk_cell BK621.out 2).trans rfl, (blk_cell BK621.out 3).trans rfl⟩ (fun hHeld => ?_)
   clear hK K
   refine norm_ (a' := ?_) ?_ ?_
   rotate_left
   ·show Act.put _ (some 25) _ = _
    refine pZ ?_
    rfl
   refine one_ (i := 5) (N := some 26) (bA 12 63) rfl rfl (one_of HT_.out (by kernel_rfl)) (by decide) (fun K hK => ?_)
   refine goes_ Try.func23 (by kernel_rfl) rfl #[.agg #[.int .i64 t622, .int .i64 t623, .int .i64 t624, .slice Ao14 t625.length co14], .agg #[.int .i64 t629, .int .i64 t630, .int .i64 t631, .slice Ao26 t632.length co26]] (by rfl) rfl rfl qM ?_
   with_reducible refine (laws_equalImage.calls k t622 t623 t624 _ _ t625 t629 t630 t631 _ _ t632 false _ ?side1 ?side2 ?side3 ?side4 A16.out).mono ?_
   (case side1 => exact qC (Kd.R_reads' HO627.out).2.2)
   (case side2 => exact (Kd.R_reads' HO627.out).2.1)
   (case side3 => exact qC (Kd.R_reads' HO634.out).2.2)
   (case side4 => exact (Kd.R_reads' HO634.out).2.1)
   rintro e w27 ⟨rfl, hb⟩
   refine ⟨_, rfl, ?_⟩
   replace HO618 := aM (Kd.Q_below (qQ HO618.out) hb)
   replace HO627 := aM (Kd.R_below (qR HO627.out) hb)
   replace HO634 := aM (Kd.R_below (qR HO634.out) hb)
   replace BK621 := bB BK621 hb
   replace BK628 := bB BK628 hb
   replace HB := bS HB hb
   (try clear hb)
   (try clear hb2)
   (try clear hk)
   (try clear hi)
   refine hK.out _ _ ⟨(blk_cell BK628.out 0).trans rfl, (blk_cell BK628.out 1).trans rfl, (blk_cell BK628.out 2).trans rfl, (blk_cell BK628.out 3).trans rfl, (blk_cell BK621.out 0).trans rfl, (blk_cell BK621.out 1).trans rfl, (blk_cell BK621.out 2).trans rfl, (blk_cell BK621.out 3).trans rfl⟩ (fun hHeld => ?_)
   clear hK K
   refine norm_ (a' := ?_) ?_ ?_
   rotate_left
   ·show Act.put _ (some 26) _ = _
    refine pZ ?_
    rfl
   refine pQ 6 27 HT_ (bA 12 127) ?_
   refine pQ 7 28 HT_ (bA 12 255) ?_
   refine pure_ (i := 8) (N := some 29) (v := undef) (a' := ?_) (bA 12 511) rfl rfl (any_of HT_.out (by kernel_rfl)) (fun _ _ _ h => h) (Or.inr ⟨by rfl, rfl⟩) ?_ ?_
   rotate_left
   ·refine pZ ?_
    rfl
   refine pure_ (i := 9) (N := some 30) (v := undef) (a' := ?_) (bA 12 1023) rfl rfl (any_of HT_.out (by kernel_rfl)) (fun _ _ _ h => h) (Or.inr ⟨by rfl, rfl⟩) ?_ ?_
   rotate_left
   ·refine pZ ?_
    rfl
   refine pure_ (i := 10) (N := some 31) (v := undef) (a' := ?_) (bA 12 2047) rfl rfl (any_of HT_.out (by kernel_rfl)) (fun _ _ _ h => h) (Or.inr ⟨by rfl, rfl⟩) ?_ ?_
   rotate_left
   ·refine pZ ?_
    rfl
   refine pQ 11 32 HT_ (bA 12 4095) ?_
   refine done_ (done_of HT_.out (by kernel_rfl)) ?_
   try go_wp2
   go_meet
   case rel => exact ⟨_, (true), qE, H', ⟨by first | omega | exact Nat.le_refl _⟩, ⟨by (with_reducible repeat (first | apply Kd.Q_alloc | apply Kd.Q_drewN | apply Kd.Q_drew)); exact Kd.Q_mono HO618.out (fun _ hk => hk.1)⟩, ⟨Kd.Q_of_R (by refine qR ?_; exact Kd.R_mono HO627.out (fun _ hk => hk.1))⟩, ⟨by refine qB ?_; exact BK621.out⟩, ⟨by refine qB ?_; exact BK628.out⟩, ⟨by exact qW HB.out⟩⟩
  subst c17
  have H1 : (laws_FnScaleNearestTurn.j0 k t619 t620 (t622 == 0) t613 t614 t615 t616 t622 t623 t624 t625) = some r := by rw [if_pos rfl] at H; exact H
  clear H
  have H := H1
  clear H1
  have H' := aM H
  clear H
  try go_wp2
  have n0_ : Aside0 (Kd.Q (Kd.int .i64) 3 ((((w11.setCell ⟨gb628, 0, none⟩ (.int .i64 t622)).setCell ⟨gb628, 1, none⟩ (.int .i64 t623)).setCell ⟨gb628, 2, none⟩ (.int .i64 t624)).setCell ⟨gb628, 3, none⟩ (.slice Ao14 t625.length co14)) w.heap.size (fun k_ => some k_ ≠ (.slice Ao14 t625.length co14 : Value).ownBlock) (.slice Ao9 t616.length co9) t616) := ⟨by (with_reducible repeat (first | apply Kd.Q_alloc | apply Kd.Q_drewN | apply Kd.Q_drew)); exact Kd.Q_mono (qT HO618 BK628) (fun _ hk => hk.1.2)⟩
  have n1_ : Aside0 (Kd.R (Kd.int .i64) 3 ((((w11.setCell ⟨gb628, 0, none⟩ (.int .i64 t622)).setCell ⟨gb628, 1, none⟩ (.int .i64 t623)).setCell ⟨gb628, 2, none⟩ (.int .i64 t624)).setCell ⟨gb628, 3, none⟩ (.slice Ao14 t625.length co14)) w.heap.size (fun k_ => some k_ ≠ (.slice Ao9 t616.length co9 : Value).ownBlock) (.slice Ao14 t625.length co14) t625) := ⟨by refine qR ?_; exact Kd.R_mono (rT HO627 BK628) (fun _ hk => hk.1.2)⟩
  have n2_ : Aside0 (((((w11.setCell ⟨gb628, 0, none⟩ (.int .i64 t622)).setCell ⟨gb628, 1, none⟩ (.int .i64 t623)).setCell ⟨gb628, 2, none⟩ (.int .i64 t624)).setCell ⟨gb628, 3, none⟩ (.slice Ao14 t625.length co14)).heap[gb621]? = some (.cells #[.int .i64 t613, .int .i64 t614, .int .i64 t615, .slice Ao9 t616.length co9] 26 (0, 0))) := ⟨by refine qB ?_; refine blk_far ?_ NB621_628.out _; refine qB ?_; refine blk_far ?_ NB621_628.out _; refine qB ?_; refine blk_far ?_ NB621_628.out _; refine qB ?_; refine blk_far ?_ NB621_628.out _; refine qB ?_; exact BK621.out⟩
  have n3_ : Aside0 (((((w11.setCell ⟨gb628, 0, none⟩ (.int .i64 t622)).setCell ⟨gb628, 1, none⟩ (.int .i64 t623)).setCell ⟨gb628, 2, none⟩ (.int .i64 t624)).setCell ⟨gb628, 3, none⟩ (.slice Ao14 t625.length co14)).heap[gb628]? = some (.cells #[.int .i64 t622, .int .i64 t623, .int .i64 t624, .slice Ao14 t625.length co14] 26 (0, 0))) := ⟨by exact bP BK628.out⟩
  have n4_ : Aside0 (Below w.heap.size w ((((w11.setCell ⟨gb628, 0, none⟩ (.int .i64 t622)).setCell ⟨gb628, 1, none⟩ (.int .i64 t623)).setCell ⟨gb628, 2, none⟩ (.int .i64 t624)).setCell ⟨gb628, 3, none⟩ (.slice Ao14 t625.length co14))) := ⟨by exact qW HB.out⟩
  (try clear HO618)
  (try clear HO627)
  (try clear BK621)
  (try clear BK628)
  (try clear HB)
  generalize ((((w11.setCell ⟨gb628, 0, none⟩ (.int .i64 t622)).setCell ⟨gb628, 1, none⟩ (.int .i64 t623)).setCell ⟨gb628, 2, none⟩ (.int .i64 t624)).setCell ⟨gb628, 3, none⟩ (.slice Ao14 t625.length co14)) = w18 at n0_ n1_ n2_ n3_ n4_ ⊢
  have HO618 := n0_
  have HO627 := n1_
  have BK621 := n2_
  have BK628 := n3_
  have HB := n4_
  clear n0_ n1_ n2_ n3_ n4_
  replace HO618 := aM (Kd.Q_drew HO618.out)
  replace HO627 := aM (Kd.R_drew HO627.out)
  replace BK621 := aM (blk_drew BK621.out)
  replace BK628 := aM (blk_drew BK628.out)
  replace HB := aM (below_drew1 HB.out)
  refine start_ (n := 12) (S := fun w' => w'.cell? ⟨gb628, 0, none⟩ = some (.int .i64 t622) ∧ w'.cell? ⟨gb628, 1, none⟩ = some (.int .i64 t623) ∧ w'.cell? ⟨gb628, 2, none⟩ = some (.int .i64 t624) ∧ w'.cell? ⟨gb628, 3, none⟩ = some (.slice Ao14 t625.length co14) ∧ w'.cell? ⟨gb621, 0, none⟩ = some (.int .i64 t613) ∧ w'.cell? ⟨gb621, 1, none⟩ = some (.int .i64 t614) ∧ w'.cell? ⟨gb621, 2, none⟩ = some (.int .i64 t615) ∧ w'.cell? ⟨gb621, 3, none⟩ = some (.slice Ao9 t616.length co9)) (ds := []) (bA 12 0) (by kernel_rfl) rfl rfl ⟨(blk_cell BK628.out 0).trans rfl, (blk_cell BK628.out 1).trans rfl, (blk_cell BK628.out 2).trans rfl, (blk_cell BK628.out 3).trans rfl, (blk_cell BK621.out 0).trans rfl, (blk_cell BK621.out 1).trans rfl, (blk_cell BK621.out 2).trans rfl, (blk_cell BK621.out 3).trans rfl⟩ (fun hHeld => ?_); refine with_tabW laws_FnScaleNearestTurn.tab5 laws_FnScaleNearestTurn.bits5 (fun HT_ HW_ => ?_)
  generalize w18.drew = w19 at HO618 HO627 BK621 BK628 HB hHeld ⊢
  refine pQ 2 23 HT_ (bA 12 4) ?_
  refine pQ 3 24 HT_ (bA 12 12) ?_
  refine take_ (i := 0) (N := some 21) (v := ?_) (a' := ?_) (bA 12 13) rfl rfl (take_ofW HT_.out HW_.out (by kernel_rfl)) (fun _ _ _ h => h) (Or.inl ⟨by rfl, ?_⟩) hHeld ?_ ?_
  rotate_left
  ·rintro w' ⟨s0, s1, s2, s3, s4, s5, s6, s7⟩
   go_simp
   with_reducible rfl
  rotate_left
  ·refine pZ ?_
   rfl
  refine take_ (i := 1) (N := some 22) (v := ?_) (a' := ?_) (bA 12 15) rfl rfl (take_ofW HT_.out HW_.out (by kernel_rfl)) (fun _ _ _ h => h) (Or.inl ⟨by rfl, ?_⟩) hHeld ?_ ?_
  rotate_left
  ·rintro w' ⟨s0, s1, s2, s3, s4, s5, s6, s7⟩
   go_simp
   with_reducible rfl
  rotate_left
  ·refine pZ ?_
   rfl
  refine one_ (i := 4) (N := some 25) (bA 12 31) rfl rfl (one_of HT_.out (by kernel_rfl)) (by decide) (fun K hK => ?_)
  refine goes_ Try.func27 (by kernel_rfl) rfl #[.agg #[.int .i64 t613, .int .i64 t614, .int .i64 t615, .slice Ao9 t616.length co9], .int .i64 t619, .int .i64 t620] (by rfl) rfl rfl qM ?_
  with_reducible refine (spec_ScaleNearest.calls k t613 t614 t615 _ _ t616 t619 t620 t629 t630 t631 t632 _ ?side1 ?side2 A15.out).mono ?_
  (case side1 => exact qC (Kd.Q_reads' HO618.out).2.2)
  (case side2 => exact (Kd.Q_reads' HO618.out).2.1)
  rintro e w20 ⟨v633, rfl, ho0, hb⟩
  refine ⟨_, rfl, ?_⟩
  have HO634 := aM (Kd.R_lower (Kd.R_new' (Kd.R_new' ho0 (Kd.Q_lt (qQ HO618.out))) (Kd.R_lt (qR HO627.out))) (below_size (qW HB.out)))
  replace HO618 := aM (Kd.Q_elder' (qQ HO618.out) (Kd.R_base ho0) hb)
  replace HO627 := aM (Kd.R_elder' (qR HO627.out) (Kd.R_base ho0) hb)
  replace BK621 := bB BK621 hb
  replace BK628 := bB BK628 hb
  replace HB := bS HB hb
  (try clear hb)
  (try clear hb2)
  (try clear hk)
  (try clear hi)
  (try clear ho0)
  obtain ⟨Ao21, co21, eo21⟩ := Kd.R_slice HO634.out
  (first | subst eo21 | (injection eo21 with f1_ f2_ f3_; have f4_ := f1_.symm; have f5_ := f3_.symm; clear f1_ f2_ f3_; subst f4_; subst f5_))
  refine hK.out _ _ ⟨(blk_cell BK628.out 0).trans rfl, (blk_cell BK628.out 1).trans rfl, (blk_cell BK628.out 2).trans rfl, (blk_cell BK628.out 3).trans rfl, (blk_cell BK621.out 0).trans rfl, (blk_cell BK621.out 1).trans rfl, (blk_cell BK621.out 2).trans rfl, (blk_cell BK621.out 3).trans rfl⟩ (fun hHeld => ?_)
  clear hK K
  refine norm_ (a' := ?_) ?_ ?_
  rotate_left
  ·show Act.put _ (some 25) _ = _
   refine pZ ?_
   rfl
  refine one_ (i := 5) (N := some 26) (bA 12 63) rfl rfl (one_of HT_.out (by kernel_rfl)) (by decide) (fun K hK => ?_)
  refine goes_ Try.func23 (by kernel_rfl) rfl #[.agg #[.int .i64 t622, .int .i64 t623, .int .i64 t624, .slice Ao14 t625.length co14], .agg #[.int .i64 t629, .int .i64 t630, .int .i64 t631, .slice Ao21 t632.length co21]] (by rfl) rfl rfl qM ?_
  with_reducible refine (laws_equalImage.calls k t622 t623 t624 _ _ t625 t629 t630 t631 _ _ t632 true _ ?side1 ?side2 ?side3 ?side4 A16.out).mono ?_
  (case side1 => exact qC (Kd.R_reads' HO627.out).2.2)
  (case side2 => exact (Kd.R_reads' HO627.out).2.1)
  (case side3 => exact qC (Kd.R_reads' HO634.out).2.2)
  (case side4 => exact (Kd.R_reads' HO634.out).2.1)
  rintro e w22 ⟨rfl, hb⟩
  refine ⟨_, rfl, ?_⟩
  replace HO618 := aM (Kd.Q_below (qQ HO618.out) hb)
  replace HO627 := aM (Kd.R_below (qR HO627.out) hb)
  replace HO634 := aM (Kd.R_below (qR HO634.out) hb)
  replace BK621 := bB BK621 hb
  replace BK628 := bB BK628 hb
  replace HB := bS HB hb
  (try clear hb)
  (try clear hb2)
  (try clear hk)
  (try clear hi)
  refine hK.out _ _ ⟨(blk_cell BK628.out 0).trans rfl, (blk_cell BK628.out 1).trans rfl, (blk_cell BK628.out 2).trans rfl, (blk_cell BK628.out 3).trans rfl, (blk_cell BK621.out 0).trans rfl, (blk_cell BK621.out 1).trans rfl, (blk_cell BK621.out 2).trans rfl, (blk_cell BK621.out 3).trans rfl⟩ (fun hHeld => ?_)
  clear hK K
  refine norm_ (a' := ?_) ?_ ?_
  rotate_left
  ·show Act.put _ (some 26) _ = _
   refine pZ ?_
   rfl
  refine pQ 6 27 HT_ (bA 12 127) ?_
  refine pQ 7 28 HT_ (bA 12 255) ?_
  refine pQ 8 29 HT_ (bA 12 511) ?_
  refine take_ (i := 9) (N := some 30) (v := ?_) (a' := ?_) (bA 12 1023) rfl rfl (take_ofW HT_.out HW_.out (by kernel_rfl)) (fun _ _ _ h => h) (Or.inl ⟨by rfl, ?_⟩) hHeld ?_ ?_
  rotate_left
  ·rintro w' ⟨s0, s1, s2, s3, s4, s5, s6, s7⟩
   go_simp
   with_reducible rfl
  rotate_left
  ·refine pZ ?_
   rfl
  refine pQ 10 31 HT_ (bA 12 2047) ?_
  refine pQ 11 32 HT_ (bA 12 4095) ?_
  refine done_ (done_of HT_.out (by kernel_rfl)) ?_
  try go_wp2
  go_meet
  case rel => exact ⟨_, ((t622 == 0)), qE, H', ⟨by first | omega | exact Nat.le_refl _⟩, ⟨by (with_reducible repeat (first | apply Kd.Q_alloc | apply Kd.Q_drewN | apply Kd.Q_drew)); exact Kd.Q_mono HO618.out (fun _ hk => hk.1)⟩, ⟨Kd.Q_of_R (by refine qR ?_; exact Kd.R_mono HO627.out (fun _ hk => hk.1))⟩, ⟨by refine qB ?_; exact BK621.out⟩, ⟨by refine qB ?_; exact BK628.out⟩, ⟨by exact qW HB.out⟩⟩
 case rest =>
  clear HC5
  try clear c2
  try clear c2b0
  try clear c2b1
  try clear c17
  try clear hcz13_0 hcz13_1 hcz13_2 hcz13_3 hfz13_0 hfz13_1 hfz13_2 hfz13_3
  try clear hcz8_0 hcz8_1 hcz8_2 hcz8_3 hfz8_0 hfz8_1 hfz8_2 hfz8_3
  obtain ⟨kq, x32_4, rfl, HA, HJ4, HO_622003, HO_629003, BK621, BK628, HB⟩ := hcut
  cases kq with
  | zero => exact absurd HA.out (by simp [laws_FnScaleNearestTurn.j0])
  | succ kj4 =>
   have H := HA.out
   clear HA
   simp only [laws_FnScaleNearestTurn.j0] at H
   by_cases c28 : x32_4 = true
   ·subst c28
    have H1 : ((spec_ScaleNearest.f kj4 t613 t614 t615 t616 t619 t620).bind fun bt636 => ((laws_equalImage.f kj4 t622 t623 t624 t625 bt636.1 bt636.2.1 bt636.2.2.1 bt636.2.2.2).bind fun t642 => (some t642))) = some r := by rw [if_pos rfl] at H; exact H
    clear H
    have H := H1
    clear H1
    replace H := Option.bind_eq_some_iff.mp H
    obtain ⟨⟨t636, t637, t638, t639⟩, A290, H⟩ := H
    replace H : ((laws_equalImage.f kj4 t622 t623 t624 t625 t636 t637 t638 t639).bind fun t642 => (some t642)) = some r := H
    have A29 := aM A290
    clear A290
    replace H := Option.bind_eq_some_iff.mp H
    obtain ⟨t642, A300, H⟩ := H
    replace H : (some t642) = some r := H
    have A30 := aM A300
    clear A300
    obtain rfl := Option.some.inj H
    try go_wp2
    replace HO_622003 := aM (Kd.Q_drew HO_622003.out)
    replace HO_629003 := aM (Kd.Q_drew HO_629003.out)
    replace BK621 := aM (blk_drew BK621.out)
    replace BK628 := aM (blk_drew BK628.out)
    replace HB := aM (below_drew1 HB.out)
    refine start_ (n := 7) (S := fun w' => w'.cell? ⟨gb628, 0, none⟩ = some (.int .i64 t622) ∧ w'.cell? ⟨gb628, 1, none⟩ = some (.int .i64 t623) ∧ w'.cell? ⟨gb628, 2, none⟩ = some (.int .i64 t624) ∧ w'.cell? ⟨gb628, 3, none⟩ = some (.slice Ao14 t625.length co14) ∧ w'.cell? ⟨gb621, 0, none⟩ = some (.int .i64 t613) ∧ w'.cell? ⟨gb621, 1, none⟩ = some (.int .i64 t614) ∧ w'.cell? ⟨gb621, 2, none⟩ = some (.int .i64 t615) ∧ w'.cell? ⟨gb621, 3, none⟩ = some (.slice Ao9 t616.length co9)) (ds := []) (bA 7 0) (by kernel_rfl) rfl rfl ⟨(blk_cell BK628.out 0).trans rfl, (blk_cell BK628.out 1).trans rfl, (blk_cell BK628.out 2).trans rfl, (blk_cell BK628.out 3).trans rfl, (blk_cell BK621.out 0).trans rfl, (blk_cell BK621.out 1).trans rfl, (blk_cell BK621.out 2).trans rfl, (blk_cell BK621.out 3).trans rfl⟩ (fun hHeld => ?_)
    generalize wc.drew = w31 at HO_622003 HO_629003 BK621 BK628 HB hHeld ⊢
    refine pure_ (i := 2) (N := some 35) (v := ?_) (a' := ?_) (bA 7 4) rfl rfl (by kernel_rfl) (fun _ _ _ h => h) (Or.inl ⟨by rfl, ?_⟩) ?_ ?_
    rotate_left
    ·intro w'
     go_simp
     with_reducible rfl
    rotate_left
    ·refine pZ ?_
     rfl
    refine pure_ (i := 3) (N := some 36) (v := ?_) (a' := ?_) (bA 7 12) rfl rfl (by kernel_rfl) (fun _ _ _ h => h) (Or.inl ⟨by rfl, ?_⟩) ?_ ?_
    rotate_left
    ·intro w'
     go_simp
     with_reducible rfl
    rotate_left
    ·refine pZ ?_
     rfl
    refine take_ (i := 0) (N := some 33) (v := ?_) (a' := ?_) (bA 7 13) rfl rfl (by kernel_rfl) (fun _ _ _ h => h) (Or.inl ⟨by rfl, ?_⟩) hHeld ?_ ?_
    rotate_left
    ·rintro w' ⟨s0, s1, s2, s3, s4, s5, s6, s7⟩
     go_simp
     with_reducible rfl
    rotate_left
    ·refine pZ ?_
     rfl
    refine take_ (i := 1) (N := some 34) (v := ?_) (a' := ?_) (bA 7 15) rfl rfl (by kernel_rfl) (fun _ _ _ h => h) (Or.inl ⟨by rfl, ?_⟩) hHeld ?_ ?_
    rotate_left
    ·rintro w' ⟨s0, s1, s2, s3, s4, s5, s6, s7⟩
     go_simp
     with_reducible rfl
    rotate_left
    ·refine pZ ?_
     rfl
    refine one_ (i := 4) (N := some 37) (bA 7 31) rfl rfl (by kernel_rfl) (by decide) (fun K hK => ?_)
    refine goes_ Try.func27 (by kernel_rfl) rfl #[.agg #[.int .i64 t613, .int .i64 t614, .int .i64 t615, .slice Ao9 t616.length co9], .int .i64 t619, .int .i64 t620] (by rfl) rfl rfl qM ?_
    with_reducible refine (spec_ScaleNearest.calls kj4 t613 t614 t615 _ _ t616 t619 t620 t636 t637 t638 t639 _ ?side1 ?side2 A29.out).mono ?_
    (case side1 => exact qC (Kd.Q_reads' HO_622003.out).2.2)
    (case side2 => exact (Kd.Q_reads' HO_622003.out).2.1)
    rintro e w32 ⟨v640, rfl, ho0, hb⟩
    refine ⟨_, rfl, ?_⟩
    have HO641 := aM (Kd.R_lower (Kd.R_new' (Kd.R_new' ho0 (Kd.Q_lt (qQ HO_622003.out))) (Kd.Q_lt (qQ HO_629003.out))) (below_size (qW HB.out)))
    replace HO_622003 := aM (Kd.Q_elder' (qQ HO_622003.out) (Kd.R_base ho0) hb)
    replace HO_629003 := aM (Kd.Q_elder' (qQ HO_629003.out) (Kd.R_base ho0) hb)
    replace BK621 := bB BK621 hb
    replace BK628 := bB BK628 hb
    replace HB := bS HB hb
    (try clear hb)
    (try clear hb2)
    (try clear hk)
    (try clear hi)
    (try clear ho0)
    obtain ⟨Ao33, co33, eo33⟩ := Kd.R_slice HO641.out
    (first | subst eo33 | (injection eo33 with f1_ f2_ f3_; have f4_ := f1_.symm; have f5_ := f3_.symm; clear f1_ f2_ f3_; subst f4_; subst f5_))
    refine hK.out _ _ ⟨(blk_cell BK628.out 0).trans rfl, (blk_cell BK628.out 1).trans rfl, (blk_cell BK628.out 2).trans rfl, (blk_cell BK628.out 3).trans rfl, (blk_cell BK621.out 0).trans rfl, (blk_cell BK621.out 1).trans rfl, (blk_cell BK621.out 2).trans rfl, (blk_cell BK621.out 3).trans rfl⟩ (fun hHeld => ?_)
    clear hK K
    refine norm_ (a' := ?_) ?_ ?_
    rotate_left
    ·show Act.put _ (some 37) _ = _
     refine pZ ?_
     rfl
    refine one_ (i := 5) (N := some 38) (bA 7 63) rfl rfl (by kernel_rfl) (by decide) (fun K hK => ?_)
    refine goes_ Try.func23 (by kernel_rfl) rfl #[.agg #[.int .i64 t622, .int .i64 t623, .int .i64 t624, .slice Ao14 t625.length co14], .agg #[.int .i64 t636, .int .i64 t637, .int .i64 t638, .slice Ao33 t639.length co33]] (by rfl) rfl rfl qM ?_
    with_reducible refine (laws_equalImage.calls kj4 t622 t623 t624 _ _ t625 t636 t637 t638 _ _ t639 t642 _ ?side1 ?side2 ?side3 ?side4 A30.out).mono ?_
    (case side1 => exact qC (Kd.Q_reads' HO_629003.out).2.2)
    (case side2 => exact (Kd.Q_reads' HO_629003.out).2.1)
    (case side3 => exact qC (Kd.R_reads' HO641.out).2.2)
    (case side4 => exact (Kd.R_reads' HO641.out).2.1)
    rintro e w34 ⟨rfl, hb⟩
    refine ⟨_, rfl, ?_⟩
    replace HO_622003 := aM (Kd.Q_below (qQ HO_622003.out) hb)
    replace HO_629003 := aM (Kd.Q_below (qQ HO_629003.out) hb)
    replace HO641 := aM (Kd.R_below (qR HO641.out) hb)
    replace BK621 := bB BK621 hb
    replace BK628 := bB BK628 hb
    replace HB := bS HB hb
    (try clear hb)
    (try clear hb2)
    (try clear hk)
    (try clear hi)
    refine hK.out _ _ ⟨(blk_cell BK628.out 0).trans rfl, (blk_cell BK628.out 1).trans rfl, (blk_cell BK628.out 2).trans rfl, (blk_cell BK628.out 3).trans rfl, (blk_cell BK621.out 0).trans rfl, (blk_cell BK621.out 1).trans rfl, (blk_cell BK621.out 2).trans rfl, (blk_cell BK621.out 3).trans rfl⟩ (fun hHeld => ?_)
    clear hK K
    refine norm_ (a' := ?_) ?_ ?_
    rotate_left
    ·show Act.put _ (some 38) _ = _
     refine pZ ?_
     rfl
    refine pure_ (i := 6) (N := some 2) (v := ?_) (a' := ?_) (bA 7 127) rfl rfl (by kernel_rfl) (fun _ _ _ h => h) (Or.inl ⟨by rfl, ?_⟩) ?_ ?_
    rotate_left
    ·intro w'
     go_simp
     with_reducible rfl
    rotate_left
    ·refine pZ ?_
     rfl
    refine done_ (by kernel_rfl) ?_
    try go_wp2
    go_ret
    exact ⟨qX, by exact qW HB.out⟩
   replace c28 := Bool.eq_false_iff.mpr c28
   subst c28
   have H1 : ((impl_TransposeImage.f t613 t614 t615 t616).bind fun bt643 => ((impl_ScaleNearest.f bt643.1 bt643.2.1 bt643.2.2.1 bt643.2.2.2 t620 t619).bind fun bt650 => ((impl_TransposeImage.f t622 t623 t624 t625).bind fun bt656 => ((laws_equalImage.f kj4 bt650.1 bt650.2.1 bt650.2.2.1 bt650.2.2.2 bt656.1 bt656.2.1 bt656.2.2.1 bt656.2.2.2).bind fun t662 => (if t662 = true then ((impl_ScaleArea.f bt643.1 bt643.2.1 bt643.2.2.1 bt643.2.2.2 t620 t619).bind fun bt663 => ((impl_ScaleArea.f t613 t614 t615 t616 t619 t620).bind fun bt669 => ((impl_TransposeImage.f bt669.1 bt669.2.1 bt669.2.2.1 bt669.2.2.2).bind fun bt675 => ((laws_equalImage.f kj4 bt663.1 bt663.2.1 bt663.2.2.1 bt663.2.2.2 bt675.1 bt675.2.1 bt675.2.2.1 bt675.2.2.2).bind fun t681 => (some t681))))) else (some false)))))) = some r := by rw [if_neg (show ¬ (false = true) by decide)] at H; exact H
   clear H
   have H := H1
   clear H1
   replace H := Option.bind_eq_some_iff.mp H
   obtain ⟨⟨t643, t644, t645, t646⟩, A350, H⟩ := H
   replace H : ((impl_ScaleNearest.f t643 t644 t645 t646 t620 t619).bind fun bt650 => ((impl_TransposeImage.f t622 t623 t624 t625).bind fun bt656 => ((laws_equalImage.f kj4 bt650.1 bt650.2.1 bt650.2.2.1 bt650.2.2.2 bt656.1 bt656.2.1 bt656.2.2.1 bt656.2.2.2).bind fun t662 => (if t662 = true then ((impl_ScaleArea.f t643 t644 t645 t646 t620 t619).bind fun bt663 => ((impl_ScaleArea.f t613 t614 t615 t616 t619 t620).bind fun bt669 => ((impl_TransposeImage.f bt669.1 bt669.2.1 bt669.2.2.1 bt669.2.2.2).bind fun bt675 => ((laws_equalImage.f kj4 bt663.1 bt663.2.1 bt663.2.2.1 bt663.2.2.2 bt675.1 bt675.2.1 bt675.2.2.1 bt675.2.2.2).bind fun t681 => (some t681))))) else (some false))))) = some r := H
   have A35 := aM A350
   clear A350
   replace H := Option.bind_eq_some_iff.mp H
   obtain ⟨⟨t650, t651, t652, t653⟩, A360, H⟩ := H
   replace H : ((impl_TransposeImage.f t622 t623 t624 t625).bind fun bt656 => ((laws_equalImage.f kj4 t650 t651 t652 t653 bt656.1 bt656.2.1 bt656.2.2.1 bt656.2.2.2).bind fun t662 => (if t662 = true then ((impl_ScaleArea.f t643 t644 t645 t646 t620 t619).bind fun bt663 => ((impl_ScaleArea.f t613 t614 t615 t616 t619 t620).bind fun bt669 => ((impl_TransposeImage.f bt669.1 bt669.2.1 bt669.2.2.1 bt669.2.2.2).bind fun bt675 => ((laws_equalImage.f kj4 bt663.1 bt663.2.1 bt663.2.2.1 bt663.2.2.2 bt675.1 bt675.2.1 bt675.2.2.1 bt675.2.2.2).bind fun t681 => (some t681))))) else (some false)))) = some r := H
   have A36 := aM A360
   clear A360
   replace H := Option.bind_eq_some_iff.mp H
   obtain ⟨⟨t656, t657, t658, t659⟩, A370, H⟩ := H
   replace H : ((laws_equalImage.f kj4 t650 t651 t652 t653 t656 t657 t658 t659).bind fun t662 => (if t662 = true then ((impl_ScaleArea.f t643 t644 t645 t646 t620 t619).bind fun bt663 => ((impl_ScaleArea.f t613 t614 t615 t616 t619 t620).bind fun bt669 => ((impl_TransposeImage.f bt669.1 bt669.2.1 bt669.2.2.1 bt669.2.2.2).bind fun bt675 => ((laws_equalImage.f kj4 bt663.1 bt663.2.1 bt663.2.2.1 bt663.2.2.2 bt675.1 bt675.2.1 bt675.2.2.1 bt675.2.2.2).bind fun t681 => (some t681))))) else (some false))) = some r := H
   have A37 := aM A370
   clear A370
   replace H := Option.bind_eq_some_iff.mp H
   obtain ⟨t662, A380, H⟩ := H
   replace H : (if t662 = true then ((impl_ScaleArea.f t643 t644 t645 t646 t620 t619).bind fun bt663 => ((impl_ScaleArea.f t613 t614 t615 t616 t619 t620).bind fun bt669 => ((impl_TransposeImage.f bt669.1 bt669.2.1 bt669.2.2.1 bt669.2.2.2).bind fun bt675 => ((laws_equalImage.f kj4 bt663.1 bt663.2.1 bt663.2.2.1 bt663.2.2.2 bt675.1 bt675.2.1 bt675.2.2.1 bt675.2.2.2).bind fun t681 => (some t681))))) else (some false)) = some r := H
   have A38 := aM A380
   clear A380
   by_cases c39 : t662 = true
   rotate_left
   ·replace c39 := Bool.eq_false_iff.mpr c39
    subst c39
    have H1 : (some false) = some r := by rw [if_neg (show ¬ (false = true) by decide)] at H; exact H
    clear H
    have H := H1
    clear H1
    obtain rfl := Option.some.inj H
    exact absurd hrt (by decide)
   subst c39
   have H1 : ((impl_ScaleArea.f t643 t644 t645 t646 t620 t619).bind fun bt663 => ((impl_ScaleArea.f t613 t614 t615 t616 t619 t620).bind fun bt669 => ((impl_TransposeImage.f bt669.1 bt669.2.1 bt669.2.2.1 bt669.2.2.2).bind fun bt675 => ((laws_equalImage.f kj4 bt663.1 bt663.2.1 bt663.2.2.1 bt663.2.2.2 bt675.1 bt675.2.1 bt675.2.2.1 bt675.2.2.2).bind fun t681 => (some t681))))) = some r := by rw [if_pos rfl] at H; exact H
   clear H
   have H := H1
   clear H1
   replace H := Option.bind_eq_some_iff.mp H
   obtain ⟨⟨t663, t664, t665, t666⟩, A400, H⟩ := H
   replace H : ((impl_ScaleArea.f t613 t614 t615 t616 t619 t620).bind fun bt669 => ((impl_TransposeImage.f bt669.1 bt669.2.1 bt669.2.2.1 bt669.2.2.2).bind fun bt675 => ((laws_equalImage.f kj4 t663 t664 t665 t666 bt675.1 bt675.2.1 bt675.2.2.1 bt675.2.2.2).bind fun t681 => (some t681)))) = some r := H
   have A40 := aM A400
   clear A400
   replace H := Option.bind_eq_some_iff.mp H
   obtain ⟨⟨t669, t670, t671, t672⟩, A410, H⟩ := H
   replace H : ((impl_TransposeImage.f t669 t670 t671 t672).bind fun bt675 => ((laws_equalImage.f kj4 t663 t664 t665 t666 bt675.1 bt675.2.1 bt675.2.2.1 bt675.2.2.2).bind fun t681 => (some t681))) = some r := H
   have A41 := aM A410
   clear A410
   replace H := Option.bind_eq_some_iff.mp H
   obtain ⟨⟨t675, t676, t677, t678⟩, A420, H⟩ := H
   replace H : ((laws_equalImage.f kj4 t663 t664 t665 t666 t675 t676 t677 t678).bind fun t681 => (some t681)) = some r := H
   have A42 := aM A420
   clear A420
   replace H := Option.bind_eq_some_iff.mp H
   obtain ⟨t681, A430, H⟩ := H
   replace H : (some t681) = some r := H
   have A43 := aM A430
   clear A430
   obtain rfl := Option.some.inj H
   have hnb44 := NB621_628.out
   have hnc44 := NB628_621.out
   obtain ⟨⟨hcz45_0, hcz45_1, hcz45_2, hcz45_3⟩, hfz45_0, hfz45_1, hfz45_2, hfz45_3⟩ := cf4 BK621
   try go_wp2_with (first | ((with_reducible refine gate_callee (f := 30) rfl ?_); refine gL (some 40) Try.func30 #[.agg #[.int .i64 t613, .int .i64 t614, .int .i64 t615, .slice Ao9 t616.length co9]] ?_; (with_reducible refine (impl_TransposeImage.calls t613 t614 t615 _ _ t616 t643 t644 t645 t646 _ ?side1 ?side2 A35.out).mono ?_); (case side1 => exact qC (Kd.Q_reads' HO_622003.out).2.2); (case side2 => exact (Kd.Q_reads' HO_622003.out).2.1); rintro e w46 ⟨v647, rfl, ho0, hb⟩; refine ⟨_, rfl, ?_⟩; have HO648 := aM (Kd.R_lower (Kd.R_new' (Kd.R_new' ho0 (Kd.Q_lt (qQ HO_622003.out))) (Kd.Q_lt (qQ HO_629003.out))) (below_size (qW HB.out))); replace HO_622003 := aM (Kd.Q_elder' (qQ HO_622003.out) (Kd.R_base ho0) hb); replace HO_629003 := aM (Kd.Q_elder' (qQ HO_629003.out) (Kd.R_base ho0) hb); replace BK621 := bB BK621 hb; replace BK628 := bB BK628 hb; replace HB := bS HB hb; clear hb ho0) | ((with_reducible refine gate_dst (N := 7) rfl ?_); refine bxE (N := 7) (cs := #[.int .i64 0, .int .i64 0, .int .i64 0, .slice none 0 0]) (t := 26) ?_; intro gb649 hg w47 hbox hb; replace HO_622003 := aM (Kd.Q_below (qQ HO_622003.out) hb); replace HO_629003 := aM (Kd.Q_below (qQ HO_629003.out) hb); replace HO648 := aM (Kd.R_below (qR HO648.out) hb); have BK649 := aM (hbox); have GW649 := gW hg HB; have GE649 := gW hg HB; replace HB := bS HB hb; have NB621_649 := nL hg BK621; have NB649_621 := nG hg BK621; replace BK621 := bB BK621 hb; have NB628_649 := nL hg BK628; have NB649_628 := nG hg BK628; replace BK628 := bB BK628 hb; clear hb hbox hg; have hnb48 := NB649_621.out; have hnc48 := NB621_649.out; have hnb49 := NB649_628.out; have hnc49 := NB628_649.out; obtain ⟨⟨hcz50_0, hcz50_1, hcz50_2, hcz50_3⟩, hfz50_0, hfz50_1, hfz50_2, hfz50_3⟩ := cf4 BK649; obtain ⟨Ao51, co51, rfl⟩ := sL HO648))
   have n0_ : Aside0 (Kd.Q (Kd.int .i64) 3 ((((w47.setCell ⟨gb649, 0, none⟩ (.int .i64 t643)).setCell ⟨gb649, 1, none⟩ (.int .i64 t644)).setCell ⟨gb649, 2, none⟩ (.int .i64 t645)).setCell ⟨gb649, 3, none⟩ (.slice Ao51 t646.length co51)) w.heap.size (fun k_ => some k_ ≠ (.slice Ao14 t625.length co14 : Value).ownBlock ∧ some k_ ≠ (.slice Ao51 t646.length co51 : Value).ownBlock) (.slice Ao9 t616.length co9) t616) := ⟨by (with_reducible repeat (first | apply Kd.Q_alloc | apply Kd.Q_drewN | apply Kd.Q_drew)); exact Kd.Q_mono (qT HO_622003 BK649) (fun _ hk => ⟨hk.1.1, hk.1.2⟩)⟩
   have n1_ : Aside0 (Kd.Q (Kd.int .i64) 3 ((((w47.setCell ⟨gb649, 0, none⟩ (.int .i64 t643)).setCell ⟨gb649, 1, none⟩ (.int .i64 t644)).setCell ⟨gb649, 2, none⟩ (.int .i64 t645)).setCell ⟨gb649, 3, none⟩ (.slice Ao51 t646.length co51)) w.heap.size (fun k_ => some k_ ≠ (.slice Ao9 t616.length co9 : Value).ownBlock ∧ some k_ ≠ (.slice Ao51 t646.length co51 : Value).ownBlock) (.slice Ao14 t625.length co14) t625) := ⟨by (with_reducible repeat (first | apply Kd.Q_alloc | apply Kd.Q_drewN | apply Kd.Q_drew)); exact Kd.Q_mono (qT HO_629003 BK649) (fun _ hk => ⟨hk.1.1, hk.1.2⟩)⟩
   have n2_ : Aside0 (Kd.R (Kd.int .i64) 3 ((((w47.setCell ⟨gb649, 0, none⟩ (.int .i64 t643)).setCell ⟨gb649, 1, none⟩ (.int .i64 t644)).setCell ⟨gb649, 2, none⟩ (.int .i64 t645)).setCell ⟨gb649, 3, none⟩ (.slice Ao51 t646.length co51)) w.heap.size (fun k_ => some k_ ≠ (.slice Ao9 t616.length co9 : Value).ownBlock ∧ some k_ ≠ (.slice Ao14 t625.length co14 : Value).ownBlock) (.slice Ao51 t646.length co51) t646) := ⟨by refine qR ?_; exact Kd.R_mono (rT HO648 BK649) (fun _ hk => by first | exact ⟨hk.1.1.2, hk.1.2⟩ | (revert hk; simp only [and_imp]; intros; and_intros <;> assumption))⟩
   have n3_ : Aside0 (((((w47.setCell ⟨gb649, 0, none⟩ (.int .i64 t643)).setCell ⟨gb649, 1, none⟩ (.int .i64 t644)).setCell ⟨gb649, 2, none⟩ (.int .i64 t645)).setCell ⟨gb649, 3, none⟩ (.slice Ao51 t646.length co51)).heap[gb621]? = some (.cells #[.int .i64 t613, .int .i64 t614, .int .i64 t615, .slice Ao9 t616.length co9] 26 (0, 0))) := ⟨by refine qB ?_; refine blk_far ?_ NB621_649.out _; refine qB ?_; refine blk_far ?_ NB621_649.out _; refine qB ?_; refine blk_far ?_ NB621_649.out _; refine qB ?_; refine blk_far ?_ NB621_649.out _; refine qB ?_; exact BK621.out⟩
   have n4_ : Aside0 (((((w47.setCell ⟨gb649, 0, none⟩ (.int .i64 t643)).setCell ⟨gb649, 1, none⟩ (.int .i64 t644)).setCell ⟨gb649, 2, none⟩ (.int .i64 t645)).setCell ⟨gb649, 3, none⟩ (.slice Ao51 t646.length co51)).heap[gb628]? = some (.cells #[.int .i64 t622, .int .i64 t623, .int .i64 t624, .slice Ao14 t625.length co14] 26 (0, 0))) := ⟨by refine qB ?_; refine blk_far ?_ NB628_649.out _; refine qB ?_; refine blk_far ?_ NB628_649.out _; refine qB ?_; refine blk_far ?_ NB628_649.out _; refine qB ?_; refine blk_far ?_ NB628_649.out _; refine qB ?_; exact BK628.out⟩
   have n5_ : Aside0 (((((w47.setCell ⟨gb649, 0, none⟩ (.int .i64 t643)).setCell ⟨gb649, 1, none⟩ (.int .i64 t644)).setCell ⟨gb649, 2, none⟩ (.int .i64 t645)).setCell ⟨gb649, 3, none⟩ (.slice Ao51 t646.length co51)).heap[gb649]? = some (.cells #[.int .i64 t643, .int .i64 t644, .int .i64 t645, .slice Ao51 t646.length co51] 26 (0, 0))) := ⟨by exact bP BK649.out⟩
   have n6_ : Aside0 (Below w.heap.size w ((((w47.setCell ⟨gb649, 0, none⟩ (.int .i64 t643)).setCell ⟨gb649, 1, none⟩ (.int .i64 t644)).setCell ⟨gb649, 2, none⟩ (.int .i64 t645)).setCell ⟨gb649, 3, none⟩ (.slice Ao51 t646.length co51))) := ⟨by exact qW HB.out⟩
   (try clear HO_622003)
   (try clear HO_629003)
   (try clear HO648)
   (try clear BK621)
   (try clear BK628)
   (try clear BK649)
   (try clear HB)
   generalize ((((w47.setCell ⟨gb649, 0, none⟩ (.int .i64 t643)).setCell ⟨gb649, 1, none⟩ (.int .i64 t644)).setCell ⟨gb649, 2, none⟩ (.int .i64 t645)).setCell ⟨gb649, 3, none⟩ (.slice Ao51 t646.length co51)) = w52 at n0_ n1_ n2_ n3_ n4_ n5_ n6_ ⊢
   have HO_622003 := n0_
   have HO_629003 := n1_
   have HO648 := n2_
   have BK621 := n3_
   have BK628 := n4_
   have BK649 := n5_
   have HB := n6_
   clear n0_ n1_ n2_ n3_ n4_ n5_ n6_
   replace HO_622003 := aM (Kd.Q_drew HO_622003.out)
   replace HO_629003 := aM (Kd.Q_drew HO_629003.out)
   replace HO648 := aM (Kd.R_drew HO648.out)
   replace BK621 := aM (blk_drew BK621.out)
   replace BK628 := aM (blk_drew BK628.out)
   replace BK649 := aM (blk_drew BK649.out)
   replace HB := aM (below_drew1 HB.out)
   refine start_ (n := 20) (S := fun w' => w'.cell? ⟨gb649, 0, none⟩ = some (.int .i64 t643) ∧ w'.cell? ⟨gb649, 1, none⟩ = some (.int .i64 t644) ∧ w'.cell? ⟨gb649, 2, none⟩ = some (.int .i64 t645) ∧ w'.cell? ⟨gb649, 3, none⟩ = some (.slice Ao51 t646.length co51) ∧ w'.cell? ⟨gb628, 0, none⟩ = some (.int .i64 t622) ∧ w'.cell? ⟨gb628, 1, none⟩ = some (.int .i64 t623) ∧ w'.cell? ⟨gb628, 2, none⟩ = some (.int .i64 t624) ∧ w'.cell? ⟨gb628, 3, none⟩ = some (.slice Ao14 t625.length co14) ∧ w'.cell? ⟨gb621, 0, none⟩ = some (.int .i64 t613) ∧ w'.cell? ⟨gb621, 1, none⟩ = some (.int .i64 t614) ∧ w'.cell? ⟨gb621, 2, none⟩ = some (.int .i64 t615) ∧ w'.cell? ⟨gb621, 3, none⟩ = some (.slice Ao9 t616.length co9)) (ds := []) (bA 20 0) (by kernel_rfl) rfl rfl ⟨(blk_cell BK649.out 0).trans rfl, (blk_cell BK649.out 1).trans rfl, (blk_cell BK649.out 2).trans rfl, (blk_cell BK649.out 3).trans rfl, (blk_cell BK628.out 0).trans rfl, (blk_cell BK628.out 1).trans rfl, (blk_cell BK628.out 2).trans rfl, (blk_cell BK628.out 3).trans rfl, (blk_cell BK621.out 0).trans rfl, (blk_cell BK621.out 1).trans rfl, (blk_cell BK621.out 2).trans rfl, (blk_cell BK621.out 3).trans rfl⟩ (fun hHeld => ?_); refine with_tabW laws_FnScaleNearestTurn.tab8 laws_FnScaleNearestTurn.bits8 (fun HT_ HW_ => ?_)
   generalize w52.drew = w53 at HO_622003 HO_629003 HO648 BK621 BK628 BK649 HB hHeld ⊢
   refine pQ 1 42 HT_ (bA 20 2) ?_
   refine pQ 2 43 HT_ (bA 20 6) ?_
   refine take_ (i := 0) (N := some 41) (v := ?_) (a' := ?_) (bA 20 7) rfl rfl (take_ofW HT_.out HW_.out (by kernel_rfl)) (fun _ _ _ h => h) (Or.inl ⟨by rfl, ?_⟩) hHeld ?_ ?_
   rotate_left
   ·rintro w' ⟨s0, s1, s2, s3, s4, s5, s6, s7, s8, s9, s10, s11⟩
    go_simp
    with_reducible rfl
   rotate_left
   ·refine pZ ?_
    rfl
   refine take_ (i := 4) (N := some 45) (v := ?_) (a' := ?_) (bA 20 23) rfl rfl (take_ofW HT_.out HW_.out (by kernel_rfl)) (fun _ _ _ h => h) (Or.inl ⟨by rfl, ?_⟩) hHeld ?_ ?_
   rotate_left
   ·rintro w' ⟨s0, s1, s2, s3, s4, s5, s6, s7, s8, s9, s10, s11⟩
    go_simp
    with_reducible rfl
   rotate_left
   ·refine pZ ?_
    rfl
   refine one_ (i := 3) (N := some 44) (bA 20 31) rfl rfl (one_of HT_.out (by kernel_rfl)) (by decide) (fun K hK => ?_)
   refine goes_ Try.func28 (by kernel_rfl) rfl #[.agg #[.int .i64 t643, .int .i64 t644, .int .i64 t645, .slice Ao51 t646.length co51], .int .i64 t620, .int .i64 t619] (by rfl) rfl rfl qM ?_
   with_reducible refine (impl_ScaleNearest.calls t643 t644 t645 _ _ t646 t620 t619 t650 t651 t652 t653 _ ?side1 ?side2 A36.out).mono ?_
   (case side1 => exact qC (Kd.R_reads' HO648.out).2.2)
   (case side2 => exact (Kd.R_reads' HO648.out).2.1)
   rintro e w54 ⟨v654, rfl, ho0, hb⟩
   refine ⟨_, rfl, ?_⟩
   have HO655 := aM (Kd.R_lower (Kd.R_new' (Kd.R_new' (Kd.R_new' ho0 (Kd.Q_lt (qQ HO_622003.out))) (Kd.Q_lt (qQ HO_629003.out))) (Kd.R_lt (qR HO648.out))) (below_size (qW HB.out)))
   replace HO_622003 := aM (Kd.Q_elder' (qQ HO_622003.out) (Kd.R_base ho0) hb)
   replace HO_629003 := aM (Kd.Q_elder' (qQ HO_629003.out) (Kd.R_base ho0) hb)
   replace HO648 := aM (Kd.R_elder' (qR HO648.out) (Kd.R_base ho0) hb)
   replace BK621 := bB BK621 hb
   replace BK628 := bB BK628 hb
   replace BK649 := bB BK649 hb
   replace HB := bS HB hb
   (try clear hb)
   (try clear hb2)
   (try clear hk)
   (try clear hi)
   (try clear ho0)
   refine hK.out _ _ ⟨(blk_cell BK649.out 0).trans rfl, (blk_cell BK649.out 1).trans rfl, (blk_cell BK649.out 2).trans rfl, (blk_cell BK649.out 3).trans rfl, (blk_cell BK628.out 0).trans rfl, (blk_cell BK628.out 1).trans rfl, (blk_cell BK628.out 2).trans rfl, (blk_cell BK628.out 3).trans rfl, (blk_cell BK621.out 0).trans rfl, (blk_cell BK621.out 1).trans rfl, (blk_cell BK621.out 2).trans rfl, (blk_cell BK621.out 3).trans rfl⟩ (fun hHeld => ?_)
   clear hK K
   refine norm_ (a' := ?_) ?_ ?_
   rotate_left
   ·show Act.put _ (some 44) _ = _
    refine pZ ?_
    rfl
   refine one_ (i := 5) (N := some 46) (bA 20 63) rfl rfl (one_of HT_.out (by kernel_rfl)) (by decide) (fun K hK => ?_)
   refine goes_ Try.func30 (by kernel_rfl) rfl #[.agg #[.int .i64 t622, .int .i64 t623, .int .i64 t624, .slice Ao14 t625.length co14]] (by rfl) rfl rfl qM ?_
   with_reducible refine (impl_TransposeImage.calls t622 t623 t624 _ _ t625 t656 t657 t658 t659 _ ?side1 ?side2 A37.out).mono ?_
   (case side1 => exact qC (Kd.Q_reads' HO_629003.out).2.2)
   (case side2 => exact (Kd.Q_reads' HO_629003.out).2.1)
   rintro e w55 ⟨v660, rfl, ho0, hb⟩
   refine ⟨_, rfl, ?_⟩
   have HO661 := aM (Kd.R_lower (Kd.R_new' (Kd.R_new' (Kd.R_new' (Kd.R_new' ho0 (Kd.Q_lt (qQ HO_622003.out))) (Kd.Q_lt (qQ HO_629003.out))) (Kd.R_lt (qR HO648.out))) (Kd.R_lt (qR HO655.out))) (below_size (qW HB.out)))
   replace HO_622003 := aM (Kd.Q_elder' (qQ HO_622003.out) (Kd.R_base ho0) hb)
   replace HO_629003 := aM (Kd.Q_elder' (qQ HO_629003.out) (Kd.R_base ho0) hb)
   replace HO648 := aM (Kd.R_elder' (qR HO648.out) (Kd.R_base ho0) hb)
   replace HO655 := aM (Kd.R_elder' (qR HO655.out) (Kd.R_base ho0) hb)
   replace BK621 := bB BK621 hb
   replace BK628 := bB BK628 hb
   replace BK649 := bB BK649 hb
   replace HB := bS HB hb
   (try clear hb)
   (try clear hb2)
   (try clear hk)
   (try clear hi)
   (try clear ho0)
   obtain ⟨Ao56, co56, eo56⟩ := Kd.R_slice HO655.out
   (first | subst eo56 | (injection eo56 with f1_ f2_ f3_; have f4_ := f1_.symm; have f5_ := f3_.symm; clear f1_ f2_ f3_; subst f4_; subst f5_))
   obtain ⟨Ao57, co57, eo57⟩ := Kd.R_slice HO661.out
   (first | subst eo57 | (injection eo57 with f1_ f2_ f3_; have f4_ := f1_.symm; have f5_ := f3_.symm; clear f1_ f2_ f3_; subst f4_; subst f5_))
   refine hK.out _ _ ⟨(blk_cell BK649.out 0).trans rfl, (blk_cell BK649.out 1).trans rfl, (blk_cell BK649.out 2).trans rfl, (blk_cell BK649.out 3).trans rfl, (blk_cell BK628.out 0).trans rfl, (blk_cell BK628.out 1).trans rfl, (blk_cell BK628.out 2).trans rfl, (blk_cell BK628.out 3).trans rfl, (blk_cell BK621.out 0).trans rfl, (blk_cell BK621.out 1).trans rfl, (blk_cell BK621.out 2).trans rfl, (blk_cell BK621.out 3).trans rfl⟩ (fun hHeld => ?_)
   clear hK K
   refine norm_ (a' := ?_) ?_ ?_
   rotate_left
   ·show Act.put _ (some 46) _ = _
    refine pZ ?_
    rfl
   refine one_ (i := 6) (N := some 47) (bA 20 127) rfl rfl (one_of HT_.out (by kernel_rfl)) (by decide) (fun K hK => ?_)
   refine goes_ Try.func23 (by kernel_rfl) rfl #[.agg #[.int .i64 t650, .int .i64 t651, .int .i64 t652, .slice Ao56 t653.length co56], .agg #[.int .i64 t656, .int .i64 t657, .int .i64 t658, .slice Ao57 t659.length co57]] (by rfl) rfl rfl qM ?_
   with_reducible refine (laws_equalImage.calls kj4 t650 t651 t652 _ _ t653 t656 t657 t658 _ _ t659 true _ ?side1 ?side2 ?side3 ?side4 A38.out).mono ?_
   (case side1 => exact qC (Kd.R_reads' HO655.out).2.2)
   (case side2 => exact (Kd.R_reads' HO655.out).2.1)
   (case side3 => exact qC (Kd.R_reads' HO661.out).2.2)
   (case side4 => exact (Kd.R_reads' HO661.out).2.1)
   rintro e w58 ⟨rfl, hb⟩
   refine ⟨_, rfl, ?_⟩
   replace HO_622003 := aM (Kd.Q_below (qQ HO_622003.out) hb)
   replace HO_629003 := aM (Kd.Q_below (qQ HO_629003.out) hb)
   replace HO648 := aM (Kd.R_below (qR HO648.out) hb)
   replace HO655 := aM (Kd.R_below (qR HO655.out) hb)
   replace HO661 := aM (Kd.R_below (qR HO661.out) hb)
   replace BK621 := bB BK621 hb
   replace BK628 := bB BK628 hb
   replace BK649 := bB BK649 hb
   replace HB := bS HB hb
   (try clear hb)
   (try clear hb2)
   (try clear hk)
   (try clear hi)
   refine hK.out _ _ ⟨(blk_cell BK649.out 0).trans rfl, (blk_cell BK649.out 1).trans rfl, (blk_cell BK649.out 2).trans rfl, (blk_cell BK649.out 3).trans rfl, (blk_cell BK628.out 0).trans rfl, (blk_cell BK628.out 1).trans rfl, (blk_cell BK628.out 2).trans rfl, (blk_cell BK628.out 3).trans rfl, (blk_cell BK621.out 0).trans rfl, (blk_cell BK621.out 1).trans rfl, (blk_cell BK621.out 2).trans rfl, (blk_cell BK621.out 3).trans rfl⟩ (fun hHeld => ?_)
   clear hK K
   refine norm_ (a' := ?_) ?_ ?_
   rotate_left
   ·show Act.put _ (some 47) _ = _
    refine pZ ?_
    rfl
   refine pQ 7 48 HT_ (bA 20 255) ?_
   refine pQ 9 50 HT_ (bA 20 767) ?_
   refine pQ 10 51 HT_ (bA 20 1791) ?_
   refine pQ 13 54 HT_ (bA 20 9983) ?_
   refine pQ 14 55 HT_ (bA 20 26367) ?_
   refine take_ (i := 8) (N := some 49) (v := ?_) (a' := ?_) (bA 20 26623) rfl rfl (take_ofW HT_.out HW_.out (by kernel_rfl)) (fun _ _ _ h => h) (Or.inl ⟨by rfl, ?_⟩) hHeld ?_ ?_
   rotate_left
   ·rintro w' ⟨s0, s1, s2, s3, s4, s5, s6, s7, s8, s9, s10, s11⟩
    go_simp
    with_reducible rfl
   rotate_left
   ·refine pZ ?_
    rfl
   refine take_ (i := 12) (N := some 53) (v := ?_) (a' := ?_) (bA 20 30719) rfl rfl (take_ofW HT_.out HW_.out (by kernel_rfl)) (fun _ _ _ h => h) (Or.inl ⟨by rfl, ?_⟩) hHeld ?_ ?_
   rotate_left
   ·rintro w' ⟨s0, s1, s2, s3, s4, s5, s6, s7, s8, s9, s10, s11⟩
    go_simp
    with_reducible rfl
   rotate_left
   ·refine pZ ?_
    rfl
   refine one_ (i := 11) (N := some 52) (bA 20 32767) rfl rfl (one_of HT_.out (by kernel_rfl)) (by decide) (fun K hK => ?_)
   refine goes_ Try.func31 (by kernel_rfl) rfl #[.agg #[.int .i64 t643, .int .i64 t644, .int .i64 t645, .slice Ao51 t646.length co51], .int .i64 t620, .int .i64 t619] (by rfl) rfl rfl qM ?_
   with_reducible refine (impl_ScaleArea.calls t643 t644 t645 _ _ t646 t620 t619 t663 t664 t665 t666 _ ?side1 ?side2 A40.out).mono ?_
   (case side1 => exact qC (Kd.R_reads' HO648.out).2.2)
   (case side2 => exact (Kd.R_reads' HO648.out).2.1)
   rintro e w59 ⟨v667, rfl, ho0, hb⟩
   refine ⟨_, rfl, ?_⟩
   have HO668 := aM (Kd.R_lower (Kd.R_new' (Kd.R_new' (Kd.R_new' (Kd.R_new' (Kd.R_new' ho0 (Kd.Q_lt (qQ HO_622003.out))) (Kd.Q_lt (qQ HO_629003.out))) (Kd.R_lt (qR HO648.out))) (Kd.R_lt (qR HO655.out))) (Kd.R_lt (qR HO661.out))) (below_size (qW HB.out)))
   replace HO_622003 := aM (Kd.Q_elder' (qQ HO_622003.out) (Kd.R_base ho0) hb)
   replace HO_629003 := aM (Kd.Q_elder' (qQ HO_629003.out) (Kd.R_base ho0) hb)
   replace HO648 := aM (Kd.R_elder' (qR HO648.out) (Kd.R_base ho0) hb)
   replace HO655 := aM (Kd.R_elder' (qR HO655.out) (Kd.R_base ho0) hb)
   replace HO661 := aM (Kd.R_elder' (qR HO661.out) (Kd.R_base ho0) hb)
   replace BK621 := bB BK621 hb
   replace BK628 := bB BK628 hb
   replace BK649 := bB BK649 hb
   replace HB := bS HB hb
   (try clear hb)
   (try clear hb2)
   (try clear hk)
   (try clear hi)
   (try clear ho0)
   refine hK.out _ _ ⟨(blk_cell BK649.out 0).trans rfl, (blk_cell BK649.out 1).trans rfl, (blk_cell BK649.out 2).trans rfl, (blk_cell BK649.out 3).trans rfl, (blk_cell BK628.out 0).trans rfl, (blk_cell BK628.out 1).trans rfl, (blk_cell BK628.out 2).trans rfl, (blk_cell BK628.out 3).trans rfl, (blk_cell BK621.out 0).trans rfl, (blk_cell BK621.out 1).trans rfl, (blk_cell BK621.out 2).trans rfl, (blk_cell BK621.out 3).trans rfl⟩ (fun hHeld => ?_)
   clear hK K
   refine norm_ (a' := ?_) ?_ ?_
   rotate_left
   ·show Act.put _ (some 52) _ = _
    refine pZ ?_
    rfl
   refine one_ (i := 15) (N := some 56) (bA 20 65535) rfl rfl (one_of HT_.out (by kernel_rfl)) (by decide) (fun K hK => ?_)
   refine goes_ Try.func31 (by kernel_rfl) rfl #[.agg #[.int .i64 t613, .int .i64 t614, .int .i64 t615, .slice Ao9 t616.length co9], .int .i64 t619, .int .i64 t620] (by rfl) rfl rfl qM ?_
   with_reducible refine (impl_ScaleArea.calls t613 t614 t615 _ _ t616 t619 t620 t669 t670 t671 t672 _ ?side1 ?side2 A41.out).mono ?_
   (case side1 => exact qC (Kd.Q_reads' HO_622003.out).2.2)
   (case side2 => exact (Kd.Q_reads' HO_622003.out).2.1)
   rintro e w60 ⟨v673, rfl, ho0, hb⟩
   refine ⟨_, rfl, ?_⟩
   have HO674 := aM (Kd.R_lower (Kd.R_new' (Kd.R_new' (Kd.R_new' (Kd.R_new' (Kd.R_new' (Kd.R_new' ho0 (Kd.Q_lt (qQ HO_622003.out))) (Kd.Q_lt (qQ HO_629003.out))) (Kd.R_lt (qR HO648.out))) (Kd.R_lt (qR HO655.out))) (Kd.R_lt (qR HO661.out))) (Kd.R_lt (qR HO668.out))) (below_size (qW HB.out)))
   replace HO_622003 := aM (Kd.Q_elder' (qQ HO_622003.out) (Kd.R_base ho0) hb)
   replace HO_629003 := aM (Kd.Q_elder' (qQ HO_629003.out) (Kd.R_base ho0) hb)
   replace HO648 := aM (Kd.R_elder' (qR HO648.out) (Kd.R_base ho0) hb)
   replace HO655 := aM (Kd.R_elder' (qR HO655.out) (Kd.R_base ho0) hb)
   replace HO661 := aM (Kd.R_elder' (qR HO661.out) (Kd.R_base ho0) hb)
   replace HO668 := aM (Kd.R_elder' (qR HO668.out) (Kd.R_base ho0) hb)
   replace BK621 := bB BK621 hb
   replace BK628 := bB BK628 hb
   replace BK649 := bB BK649 hb
   replace HB := bS HB hb
   (try clear hb)
   (try clear hb2)
   (try clear hk)
   (try clear hi)
   (try clear ho0)
   obtain ⟨Ao61, co61, eo61⟩ := Kd.R_slice HO674.out
   (first | subst eo61 | (injection eo61 with f1_ f2_ f3_; have f4_ := f1_.symm; have f5_ := f3_.symm; clear f1_ f2_ f3_; subst f4_; subst f5_))
   refine hK.out _ _ ⟨(blk_cell BK649.out 0).trans rfl, (blk_cell BK649.out 1).trans rfl, (blk_cell BK649.out 2).trans rfl, (blk_cell BK649.out 3).trans rfl, (blk_cell BK628.out 0).trans rfl, (blk_cell BK628.out 1).trans rfl, (blk_cell BK628.out 2).trans rfl, (blk_cell BK628.out 3).trans rfl, (blk_cell BK621.out 0).trans rfl, (blk_cell BK621.out 1).trans rfl, (blk_cell BK621.out 2).trans rfl, (blk_cell BK621.out 3).trans rfl⟩ (fun hHeld => ?_)
   clear hK K
   refine norm_ (a' := ?_) ?_ ?_
   rotate_left
   ·show Act.put _ (some 56) _ = _
    refine pZ ?_
    rfl
   refine one_ (i := 16) (N := some 57) (bA 20 131071) rfl rfl (one_of HT_.out (by kernel_rfl)) (by decide) (fun K hK => ?_)
   refine goes_ Try.func30 (by kernel_rfl) rfl #[.agg #[.int .i64 t669, .int .i64 t670, .int .i64 t671, .slice Ao61 t672.length co61]] (by rfl) rfl rfl qM ?_
   with_reducible refine (impl_TransposeImage.calls t669 t670 t671 _ _ t672 t675 t676 t677 t678 _ ?side1 ?side2 A42.out).mono ?_
   (case side1 => exact qC (Kd.R_reads' HO674.out).2.2)
   (case side2 => exact (Kd.R_reads' HO674.out).2.1)
   rintro e w62 ⟨v679, rfl, ho0, hb⟩
   refine ⟨_, rfl, ?_⟩
   have HO680 := aM (Kd.R_lower (Kd.R_new' (Kd.R_new' (Kd.R_new' (Kd.R_new' (Kd.R_new' (Kd.R_new' (Kd.R_new' ho0 (Kd.Q_lt (qQ HO_622003.out))) (Kd.Q_lt (qQ HO_629003.out))) (Kd.R_lt (qR HO648.out))) (Kd.R_lt (qR HO655.out))) (Kd.R_lt (qR HO661.out))) (Kd.R_lt (qR HO668.out))) (Kd.R_lt (qR HO674.out))) (below_size (qW HB.out)))
   replace HO_622003 := aM (Kd.Q_elder' (qQ HO_622003.out) (Kd.R_base ho0) hb)
   replace HO_629003 := aM (Kd.Q_elder' (qQ HO_629003.out) (Kd.R_base ho0) hb)
   replace HO648 := aM (Kd.R_elder' (qR HO648.out) (Kd.R_base ho0) hb)
   replace HO655 := aM (Kd.R_elder' (qR HO655.out) (Kd.R_base ho0) hb)
   replace HO661 := aM (Kd.R_elder' (qR HO661.out) (Kd.R_base ho0) hb)
   replace HO668 := aM (Kd.R_elder' (qR HO668.out) (Kd.R_base ho0) hb)
   replace HO674 := aM (Kd.R_elder' (qR HO674.out) (Kd.R_base ho0) hb)
   replace BK621 := bB BK621 hb
   replace BK628 := bB BK628 hb
   replace BK649 := bB BK649 hb
   replace HB := bS HB hb
   (try clear hb)
   (try clear hb2)
   (try clear hk)
   (try clear hi)
   (try clear ho0)
   obtain ⟨Ao63, co63, eo63⟩ := Kd.R_slice HO668.out
   (first | subst eo63 | (injection eo63 with f1_ f2_ f3_; have f4_ := f1_.symm; have f5_ := f3_.symm; clear f1_ f2_ f3_; subst f4_; subst f5_))
   obtain ⟨Ao64, co64, eo64⟩ := Kd.R_slice HO680.out
   (first | subst eo64 | (injection eo64 with f1_ f2_ f3_; have f4_ := f1_.symm; have f5_ := f3_.symm; clear f1_ f2_ f3_; subst f4_; subst f5_))
   refine hK.out _ _ ⟨(blk_cell BK649.out 0).trans rfl, (blk_cell BK649.out 1).trans rfl, (blk_cell BK649.out 2).trans rfl, (blk_cell BK649.out 3).trans rfl, (blk_cell BK628.out 0).trans rfl, (blk_cell BK628.out 1).trans rfl, (blk_cell BK628.out 2).trans rfl, (blk_cell BK628.out 3).trans rfl, (blk_cell BK621.out 0).trans rfl, (blk_cell BK621.out 1).trans rfl, (blk_cell BK621.out 2).trans rfl, (blk_cell BK621.out 3).trans rfl⟩ (fun hHeld => ?_)
   clear hK K
   refine norm_ (a' := ?_) ?_ ?_
   rotate_left
   ·show Act.put _ (some 57) _ = _
    refine pZ ?_
    rfl
   refine one_ (i := 17) (N := some 58) (bA 20 262143) rfl rfl (one_of HT_.out (by kernel_rfl)) (by decide) (fun K hK => ?_)
   refine goes_ Try.func23 (by kernel_rfl) rfl #[.agg #[.int .i64 t663, .int .i64 t664, .int .i64 t665, .slice Ao63 t666.length co63], .agg #[.int .i64 t675, .int .i64 t676, .int .i64 t677, .slice Ao64 t678.length co64]] (by rfl) rfl rfl qM ?_
   with_reducible refine (laws_equalImage.calls kj4 t663 t664 t665 _ _ t666 t675 t676 t677 _ _ t678 t681 _ ?side1 ?side2 ?side3 ?side4 A43.out).mono ?_
   (case side1 => exact qC (Kd.R_reads' HO668.out).2.2)
   (case side2 => exact (Kd.R_reads' HO668.out).2.1)
   (case side3 => exact qC (Kd.R_reads' HO680.out).2.2)
   (case side4 => exact (Kd.R_reads' HO680.out).2.1)
   rintro e w65 ⟨rfl, hb⟩
   refine ⟨_, rfl, ?_⟩
   replace HO_622003 := aM (Kd.Q_below (qQ HO_622003.out) hb)
   replace HO_629003 := aM (Kd.Q_below (qQ HO_629003.out) hb)
   replace HO648 := aM (Kd.R_below (qR HO648.out) hb)
   replace HO655 := aM (Kd.R_below (qR HO655.out) hb)
   replace HO661 := aM (Kd.R_below (qR HO661.out) hb)
   replace HO668 := aM (Kd.R_below (qR HO668.out) hb)
   replace HO674 := aM (Kd.R_below (qR HO674.out) hb)
   replace HO680 := aM (Kd.R_below (qR HO680.out) hb)
   replace BK621 := bB BK621 hb
   replace BK628 := bB BK628 hb
   replace BK649 := bB BK649 hb
   replace HB := bS HB hb
   (try clear hb)
   (try clear hb2)
   (try clear hk)
   (try clear hi)
   refine hK.out _ _ ⟨(blk_cell BK649.out 0).trans rfl, (blk_cell BK649.out 1).trans rfl, (blk_cell BK649.out 2).trans rfl, (blk_cell BK649.out 3).trans rfl, (blk_cell BK628.out 0).trans rfl, (blk_cell BK628.out 1).trans rfl, (blk_cell BK628.out 2).trans rfl, (blk_cell BK628.out 3).trans rfl, (blk_cell BK621.out 0).trans rfl, (blk_cell BK621.out 1).trans rfl, (blk_cell BK621.out 2).trans rfl, (blk_cell BK621.out 3).trans rfl⟩ (fun hHeld => ?_)
   clear hK K
   refine norm_ (a' := ?_) ?_ ?_
   rotate_left
   ·show Act.put _ (some 58) _ = _
    refine pZ ?_
    rfl
   refine pQ 18 59 HT_ (bA 20 524287) ?_
   refine pQ 19 2 HT_ (bA 20 1048575) ?_
   refine done_ (done_of HT_.out (by kernel_rfl)) ?_
   try go_wp2
   go_ret
   exact ⟨qX, by exact qW HB.out⟩
def laws_FnScaleNearestTurn.Pure : Prop := ∀ (l0 : List Int), l0.length ≤ maxLen → l0.length * 1 ≤ 140737488351232 → (∀ x ∈ l0, (Lit.int .u8 x).wf = true) → ∃ k, laws_FnScaleNearestTurn.f k l0 = some true
theorem laws_FnScaleNearestTurn.walk (P : laws_FnScaleNearestTurn.Pure) (a0 : Option Addr) (len0 cap0 : Nat) (z0 : List Int) (w : World) (w0 : (a0 = none ∧ len0 = 0 ∧ cap0 = 0 ∧ z0 = []) ∨ ∃ x, a0 = some x ∧ len0 ≤ cap0 ∧ cap0 ≤ maxLen ∧ z0.length = cap0 ∧ (∀ i, i < z0.length → w.cell? (x.add i) = some (.int .u8 (z0.getD i 0))) ∧ ∀ n ∈ z0, (Lit.int .u8 n).wf = true) (y0 : len0 * 1 ≤ 140737488351232) :
  Calls Try.prog 8 #[.slice a0 len0 cap0] w fun e w' => e = .returned (.bool true) ∧ Below w.heap.size w w' := by
 obtain ⟨l0, rfl, hr0, hm0, hw0, hc0⟩ := ReadsInt.ofRowC w0
 obtain ⟨k, h⟩ := P l0 hm0 y0 hw0
 refine (laws_FnScaleNearestTurn.calls k _ _ l0 true w (Kd.C_of_reads (d := (0 : Int)) (h1 := fun _ => rfl) hr0) hc0 h rfl).mono ?_
 rintro e w' ⟨rfl, hd⟩
 exact ⟨rfl, hd⟩
end Go.Proofs.Ytnamhlcdlbjcfaa.P
