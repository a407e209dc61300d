/- Contracts and row, written by a program of this place out of the translation: the call answers true and its argument reads as before, for every input; no condition. -/
import Derived.Test.YtnamhlcdlbjcfaaK0
import Derived.Test.YtnamhlcdlbjcfaaK1
import Derived.Test.YtnamhlcdlbjcfaaK2
import Derived.Test.YtnamhlcdlbjcfaaK3
import Derived.Test.YtnamhlcdlbjcfaaK4
import Derived.Test.YtnamhlcdlbjcfaaK5
namespace Go.Proofs.Ytnamhlcdlbjcfaa.P
open Go.RowKit Go.Proofs.YtnamhlcdlbjcfaaW.PrintWords Go.Proofs.YtnamhlcdlbjcfaaW.PrintLast Go.Proofs.YtnamhlcdlbjcfaaW.PrintMore
attribute [local go_sem] max2_int min2_int max_two min_two max_three min_three max_four min_four   -- for this text's walks alone
set_option linter.unusedVariables false
set_option linter.unusedSimpArgs false
def spec_DrawScaleArea.f (k : Nat) (l0 : List Int) : Option (Int × Int × Int × List Int × Int × Int) := (spec_DrawScaleNearest.f k l0).bind fun bt758 => (some (bt758.1, bt758.2.1, bt758.2.2.1, bt758.2.2.2.1, bt758.2.2.2.2.1, bt758.2.2.2.2.2))
theorem spec_DrawScaleArea.mono : ∀ a0 k, LeO (spec_DrawScaleArea.f k a0) (spec_DrawScaleArea.f (k + 1) a0) := by
 intro a0 k
 unfold spec_DrawScaleArea.f
 repeat' first | (with_reducible first | exact spec_DrawScaleNearest.mono _ _ | exact lR | exact lN | refine lI ?_ ?_ | refine lB ?_ fun _ => ?_) | exact spec_DrawScaleNearest.mono _ _ | exact lN | refine lI ?_ ?_ | refine lB ?_ fun _ => ?_
set_option maxHeartbeats 8000000 in
set_option maxRecDepth 100000 in
theorem spec_DrawScaleArea.calls (k : Nat) (A0 : Option Addr) (c0 : Nat) (l0 : List Int) (r1 : Int) (r2 : Int) (r3 : Int) (r4 : List Int) (r5 : Int) (r6 : Int) (w : World) (hr0 : Kd.C (Kd.int .u8) w A0 l0.length l0) (hc0 : l0.length ≤ c0) (h : spec_DrawScaleArea.f k l0 = some (r1, r2, r3, r4, r5, r6)) :
  Calls Try.prog 33 #[.slice A0 l0.length c0] w fun e w' => ∃ v3_ : Value, e = .returned (.tuple #[.agg #[.int .i64 r1, .int .i64 r2, .int .i64 r3, v3_], .int .i64 r5, .int .i64 r6]) ∧ Kd.Q (Kd.int .i64) 3 w' w.heap.size (fun _ => True) v3_ r4 ∧ Below w.heap.size w w' := by
 have hu26 := Try.underlying26
 have HR0 := aM hr0
 have HC0 := aM hc0
 clear hr0 hc0
 have HB := aM (Below.refl w.heap.size w)
 unfold spec_DrawScaleArea.f at h
 have H := h
 clear h
 replace H := Option.bind_eq_some_iff.mp H
 obtain ⟨⟨t758, t759, t760, t761, t764, t765⟩, A20, H⟩ := H
 replace H : (some (t758, t759, t760, t761, t764, t765)) = some (r1, r2, r3, r4, r5, r6) := H
 have A2 := aM A20
 clear A20
 simp only [Option.some.injEq, Prod.mk.injEq] at H
 obtain ⟨rfl, rfl, rfl, rfl, rfl, rfl⟩ := H
 go_enter Try.func33, Try.ntmps33
 go_wp2_with (first | ((with_reducible refine gate_dst (N := 2) rfl ?_); refine bxE (N := 2) (cs := #[.int .i64 0, .int .i64 0, .int .i64 0, .slice none 0 0]) (t := 26) ?_; intro gb757 hg w3 hbox hb; have BK757 := aM (hbox); have GW757 := gW hg HB; have GE757 := gW hg HB; replace HB := bS HB hb; clear hb hbox hg) | ((with_reducible refine gate_callee (f := 29) rfl ?_); refine gL (some 6) Try.func29 #[.slice A0 l0.length c0] ?_; (with_reducible refine (spec_DrawScaleNearest.calls k _ _ l0 t758 t759 t760 t761 t764 t765 _ ?side1 ?side2 A2.out).mono ?_); (case side1 => exact qC (Kd.C_below HR0.out HB.out)); (case side2 => exact HC0.out); rintro e w4 ⟨v762, rfl, ho0, hb⟩; refine ⟨_, rfl, ?_⟩; have HO763 := aM (Kd.Q_lower ho0 (below_size (qW HB.out))); replace BK757 := bB BK757 hb; replace HB := bS HB hb; clear hb ho0; obtain ⟨⟨hcz5_0, hcz5_1, hcz5_2, hcz5_3⟩, hfz5_0, hfz5_1, hfz5_2, hfz5_3⟩ := cf4 BK757; obtain ⟨Ao6, co6, eo6, _⟩ := Kd.Q_slice HO763.out; subst eo6))
 refine bodyPost_ret (results_ctt rfl _ _ gb757 26 #[.int .i64 t758, .int .i64 t759, .int .i64 t760, .slice Ao6 t761.length co6] (0, 0) _ rfl (by exact bP BK757.out) Try.underlying26 rfl (by kernel_rfl)) rfl ?_
 exact ⟨_, qX, by (with_reducible repeat (first | apply Kd.Q_alloc | apply Kd.Q_drewN | apply Kd.Q_drew)); exact Kd.Q_mono (qT HO763 BK757) (fun _ hk => trivial), by exact qW HB.out⟩
def laws_equalImage.f (k : Nat) (a0_0 : Int) (a0_1 : Int) (a0_2 : Int) (l0_3 : List Int) (a1_0 : Int) (a1_1 : Int) (a1_2 : Int) (l1_3 : List Int) : Option (Bool) := if a0_0 = a1_0 then (if a0_1 = a1_1 then (if a0_2 = a1_2 then ((laws_equalInts.f k l0_3 l1_3).bind fun t335 => (some t335)) else (some false)) else (some false)) else (some false)
theorem laws_equalImage.mono : ∀ a0 a1 a2 a3 a4 a5 a6 a7 k, LeO (laws_equalImage.f k a0 a1 a2 a3 a4 a5 a6 a7) (laws_equalImage.f (k + 1) a0 a1 a2 a3 a4 a5 a6 a7) := by
 intro a0 a1 a2 a3 a4 a5 a6 a7 k
 unfold laws_equalImage.f
 repeat' first | (with_reducible first | exact laws_equalInts.mono _ _ _ | exact lR | exact lN | refine lI ?_ ?_ | refine lB ?_ fun _ => ?_) | exact laws_equalInts.mono _ _ _ | exact lN | refine lI ?_ ?_ | refine lB ?_ fun _ => ?_
set_option maxHeartbeats 8000000 in
set_option maxRecDepth 100000 in
theorem laws_equalImage.calls (k : Nat) (a0_0 : Int) (a0_1 : Int) (a0_2 : Int) (A0_3 : Option Addr) (c0_3 : Nat) (l0_3 : List Int) (a1_0 : Int) (a1_1 : Int) (a1_2 : Int) (A1_3 : Option Addr) (c1_3 : Nat) (l1_3 : List Int) (r : Bool) (w : World) (hr0_3 : Kd.C (Kd.int .i64) w A0_3 l0_3.length l0_3) (hc0_3 : l0_3.length ≤ c0_3) (hr1_3 : Kd.C (Kd.int .i64) w A1_3 l1_3.length l1_3) (hc1_3 : l1_3.length ≤ c1_3) (h : laws_equalImage.f k a0_0 a0_1 a0_2 l0_3 a1_0 a1_1 a1_2 l1_3 = some r) :
  Calls Try.prog 23 #[.agg #[.int .i64 a0_0, .int .i64 a0_1, .int .i64 a0_2, .slice A0_3 l0_3.length c0_3], .agg #[.int .i64 a1_0, .int .i64 a1_1, .int .i64 a1_2, .slice A1_3 l1_3.length c1_3]] w fun e w' => e = .returned (.bool r) ∧ Below w.heap.size w w' := by
 have hu26 := Try.underlying26
 have HR0_3 := aM hr0_3
 have HC0_3 := aM hc0_3
 clear hr0_3 hc0_3
 have HR1_3 := aM hr1_3
 have HC1_3 := aM hc1_3
 clear hr1_3 hc1_3
 have HB := aM (Below.refl w.heap.size w)
 unfold laws_equalImage.f at h
 have H := h
 clear h
 by_cases c3 : a0_0 = a1_0
 rotate_left
 ·rw [if_neg c3] at H
  have c3b0 : (a0_0 == a1_0) = false := beq_eq_false_iff_ne.mpr c3
  have c3b1 : (a0_0 != a1_0) = true := bne_iff_ne.mpr c3
  obtain rfl := Option.some.inj H
  go_enter Try.func23, Try.ntmps23
  go_wp2_with (first | ((with_reducible refine gate_dst (N := 2) rfl ?_); refine bxE (N := 2) (cs := #[.int .i64 a0_0, .int .i64 a0_1, .int .i64 a0_2, .slice A0_3 l0_3.length c0_3]) (t := 26) ?_; intro gb333 hg w22 hbox hb; have BK333 := aM (hbox); have GW333 := gW hg HB; have GE333 := gW hg HB; replace HB := bS HB hb; clear hb hbox hg) | ((with_reducible refine gate_dst (N := 3) rfl ?_); refine bxE (N := 3) (cs := #[.int .i64 a1_0, .int .i64 a1_1, .int .i64 a1_2, .slice A1_3 l1_3.length c1_3]) (t := 26) ?_; intro gb334 hg w23 hbox hb; have BK334 := aM (hbox); have GW334 := gW hg HB; have GE334 := gW hg HB; replace HB := bS HB hb; have NB333_334 := nL hg BK333; have NB334_333 := nG hg BK333; replace BK333 := bB BK333 hb; clear hb hbox hg; have hnb24 := NB333_334.out; have hnc24 := NB334_333.out; obtain ⟨⟨hcz25_0, hcz25_1, hcz25_2, hcz25_3⟩, hfz25_0, hfz25_1, hfz25_2, hfz25_3⟩ := cf4 BK333; obtain ⟨⟨hcz26_0, hcz26_1, hcz26_2, hcz26_3⟩, hfz26_0, hfz26_1, hfz26_2, hfz26_3⟩ := cf4 BK334))
  go_ret
  exact ⟨qX, by exact qW HB.out⟩
 rw [if_pos c3] at H
 have c3b0 : (a0_0 == a1_0) = true := beq_iff_eq.mpr c3
 have c3b1 : (a0_0 != a1_0) = false := bne_eq_false_iff_eq.mpr c3
 clear c3
 by_cases c4 : a0_1 = a1_1
 rotate_left
 ·rw [if_neg c4] at H
  have c4b0 : (a0_1 == a1_1) = false := beq_eq_false_iff_ne.mpr c4
  have c4b1 : (a0_1 != a1_1) = true := bne_iff_ne.mpr c4
  obtain rfl := Option.some.inj H
  go_enter Try.func23, Try.ntmps23
  go_wp2_with (first | ((with_reducible refine gate_dst (N := 2) rfl ?_); refine bxE (N := 2) (cs := #[.int .i64 a0_0, .int .i64 a0_1, .int .i64 a0_2, .slice A0_3 l0_3.length c0_3]) (t := 26) ?_; intro gb333 hg w17 hbox hb; have BK333 := aM (hbox); have GW333 := gW hg HB; have GE333 := gW hg HB; replace HB := bS HB hb; clear hb hbox hg) | ((with_reducible refine gate_dst (N := 3) rfl ?_); refine bxE (N := 3) (cs := #[.int .i64 a1_0, .int .i64 a1_1, .int .i64 a1_2, .slice A1_3 l1_3.length c1_3]) (t := 26) ?_; intro gb334 hg w18 hbox hb; have BK334 := aM (hbox); have GW334 := gW hg HB; have GE334 := gW hg HB; replace HB := bS HB hb; have NB333_334 := nL hg BK333; have NB334_333 := nG hg BK333; replace BK333 := bB BK333 hb; clear hb hbox hg; have hnb19 := NB333_334.out; have hnc19 := NB334_333.out; obtain ⟨⟨hcz20_0, hcz20_1, hcz20_2, hcz20_3⟩, hfz20_0, hfz20_1, hfz20_2, hfz20_3⟩ := cf4 BK333; obtain ⟨⟨hcz21_0, hcz21_1, hcz21_2, hcz21_3⟩, hfz21_0, hfz21_1, hfz21_2, hfz21_3⟩ := cf4 BK334))
  go_ret
  exact ⟨qX, by exact qW HB.out⟩
 rw [if_pos c4] at H
 have c4b0 : (a0_1 == a1_1) = true := beq_iff_eq.mpr c4
 have c4b1 : (a0_1 != a1_1) = false := bne_eq_false_iff_eq.mpr c4
 clear c4
 by_cases c5 : a0_2 = a1_2
 rotate_left
 ·rw [if_neg c5] at H
  have c5b0 : (a0_2 == a1_2) = false := beq_eq_false_iff_ne.mpr c5
  have c5b1 : (a0_2 != a1_2) = true := bne_iff_ne.mpr c5
  obtain rfl := Option.some.inj H
  go_enter Try.func23, Try.ntmps23
  go_wp2_with (first | ((with_reducible refine gate_dst (N := 2) rfl ?_); refine bxE (N := 2) (cs := #[.int .i64 a0_0, .int .i64 a0_1, .int .i64 a0_2, .slice A0_3 l0_3.length c0_3]) (t := 26) ?_; intro gb333 hg w12 hbox hb; have BK333 := aM (hbox); have GW333 := gW hg HB; have GE333 := gW hg HB; replace HB := bS HB hb; clear hb hbox hg) | ((with_reducible refine gate_dst (N := 3) rfl ?_); refine bxE (N := 3) (cs := #[.int .i64 a1_0, .int .i64 a1_1, .int .i64 a1_2, .slice A1_3 l1_3.length c1_3]) (t := 26) ?_; intro gb334 hg w13 hbox hb; have BK334 := aM (hbox); have GW334 := gW hg HB; have GE334 := gW hg HB; replace HB := bS HB hb; have NB333_334 := nL hg BK333; have NB334_333 := nG hg BK333; replace BK333 := bB BK333 hb; clear hb hbox hg; have hnb14 := NB333_334.out; have hnc14 := NB334_333.out; obtain ⟨⟨hcz15_0, hcz15_1, hcz15_2, hcz15_3⟩, hfz15_0, hfz15_1, hfz15_2, hfz15_3⟩ := cf4 BK333; obtain ⟨⟨hcz16_0, hcz16_1, hcz16_2, hcz16_3⟩, hfz16_0, hfz16_1, hfz16_2, hfz16_3⟩ := cf4 BK334))
  go_ret
  exact ⟨qX, by exact qW HB.out⟩
 rw [if_pos c5] at H
 have c5b0 : (a0_2 == a1_2) = true := beq_iff_eq.mpr c5
 have c5b1 : (a0_2 != a1_2) = false := bne_eq_false_iff_eq.mpr c5
 clear c5
 replace H := Option.bind_eq_some_iff.mp H
 obtain ⟨t335, A60, H⟩ := H
 replace H : (some t335) = some r := H
 have A6 := aM A60
 clear A60
 obtain rfl := Option.some.inj H
 go_enter Try.func23, Try.ntmps23
 go_wp2_with (first | ((with_reducible refine gate_dst (N := 2) rfl ?_); refine bxE (N := 2) (cs := #[.int .i64 a0_0, .int .i64 a0_1, .int .i64 a0_2, .slice A0_3 l0_3.length c0_3]) (t := 26) ?_; intro gb333 hg w7 hbox hb; have BK333 := aM (hbox); have GW333 := gW hg HB; have GE333 := gW hg HB; replace HB := bS HB hb; clear hb hbox hg) | ((with_reducible refine gate_dst (N := 3) rfl ?_); refine bxE (N := 3) (cs := #[.int .i64 a1_0, .int .i64 a1_1, .int .i64 a1_2, .slice A1_3 l1_3.length c1_3]) (t := 26) ?_; intro gb334 hg w8 hbox hb; have BK334 := aM (hbox); have GW334 := gW hg HB; have GE334 := gW hg HB; replace HB := bS HB hb; have NB333_334 := nL hg BK333; have NB334_333 := nG hg BK333; replace BK333 := bB BK333 hb; clear hb hbox hg; have hnb9 := NB333_334.out; have hnc9 := NB334_333.out; obtain ⟨⟨hcz10_0, hcz10_1, hcz10_2, hcz10_3⟩, hfz10_0, hfz10_1, hfz10_2, hfz10_3⟩ := cf4 BK333; obtain ⟨⟨hcz11_0, hcz11_1, hcz11_2, hcz11_3⟩, hfz11_0, hfz11_1, hfz11_2, hfz11_3⟩ := cf4 BK334) | (go_at_call 26; (with_reducible refine (laws_equalInts.calls k _ _ l0_3 _ _ l1_3 t335 _ ?side1 ?side2 ?side3 ?side4 A6.out).mono ?_); (case side1 => exact qC (Kd.C_below HR0_3.out HB.out)); (case side2 => exact HC0_3.out); (case side3 => exact qC (Kd.C_below HR1_3.out HB.out)); (case side4 => exact HC1_3.out); rintro e w' ⟨rfl, ⟨nd, rfl⟩⟩))
 go_ret
 exact ⟨qX, by exact qW HB.out⟩
def laws_FnScaleAreaTwice.j0 : Nat → Int → Int → Bool → Int → Int → Int → List Int → Int → Int → Int → List Int → Option (Bool)
 | 0, _, _, _, _, _, _, _, _, _, _, _ => none
 | k + 1, x4, x5, x43, x822000, x822001, x822002, x822003, x829000, x829001, x829002, x829003 => if x43 = true then ((spec_ScaleArea.f k x822000 x822001 x822002 x822003 x4 x5).bind fun bt836 => ((laws_equalImage.f k x829000 x829001 x829002 x829003 bt836.1 bt836.2.1 bt836.2.2.1 bt836.2.2.2).bind fun t842 => (some t842))) else ((impl_ScaleArea.f x822000 x822001 x822002 x822003 (wrap64 (2 * x822000)) (wrap64 (2 * x822001))).bind fun bt843 => ((impl_ScaleNearest.f x822000 x822001 x822002 x822003 (wrap64 (2 * x822000)) (wrap64 (2 * x822001))).bind fun bt849 => ((laws_equalImage.f k bt843.1 bt843.2.1 bt843.2.2.1 bt843.2.2.2 bt849.1 bt849.2.1 bt849.2.2.1 bt849.2.2.2).bind fun t855 => (some t855))))
def laws_FnScaleAreaTwice.f (k : Nat) (l0 : List Int) : Option (Bool) := if (l0.length : Int) > 1048576 then (some true) else ((spec_DrawScaleArea.f k l0).bind fun bt813 => ((impl_ScaleArea.f bt813.1 bt813.2.1 bt813.2.2.1 bt813.2.2.2.1 bt813.2.2.2.2.1 bt813.2.2.2.2.2).bind fun bt822 => ((spec_ScaleArea.f k bt813.1 bt813.2.1 bt813.2.2.1 bt813.2.2.2.1 bt813.2.2.2.2.1 bt813.2.2.2.2.2).bind fun bt829 => ((laws_equalImage.f k bt822.1 bt822.2.1 bt822.2.2.1 bt822.2.2.2 bt829.1 bt829.2.1 bt829.2.2.1 bt829.2.2.2).bind fun t835 => (if t835 = true then (if bt822.1 = 0 then (laws_FnScaleAreaTwice.j0 k bt813.2.2.2.2.1 bt813.2.2.2.2.2 true bt813.1 bt813.2.1 bt813.2.2.1 bt813.2.2.2.1 bt822.1 bt822.2.1 bt822.2.2.1 bt822.2.2.2) else (if (wrap64 (2 * bt813.1)) > 16 then (laws_FnScaleAreaTwice.j0 k bt813.2.2.2.2.1 bt813.2.2.2.2.2 true bt813.1 bt813.2.1 bt813.2.2.1 bt813.2.2.2.1 bt822.1 bt822.2.1 bt822.2.2.1 bt822.2.2.2) else (laws_FnScaleAreaTwice.j0 k bt813.2.2.2.2.1 bt813.2.2.2.2.2 (decide ((wrap64 (2 * bt813.2.1)) > 16)) bt813.1 bt813.2.1 bt813.2.2.1 bt813.2.2.2.1 bt822.1 bt822.2.1 bt822.2.2.1 bt822.2.2.2))) else (laws_FnScaleAreaTwice.j0 k bt813.2.2.2.2.1 bt813.2.2.2.2.2 true bt813.1 bt813.2.1 bt813.2.2.1 bt813.2.2.2.1 bt822.1 bt822.2.1 bt822.2.2.1 bt822.2.2.2))))))
theorem laws_FnScaleAreaTwice.mono_l : ∀ k, (∀ y0 y1 y2 y3 y4 y5 y6 y7 y8 y9 y10, LeO (laws_FnScaleAreaTwice.j0 k y0 y1 y2 y3 y4 y5 y6 y7 y8 y9 y10) (laws_FnScaleAreaTwice.j0 (k + 1) y0 y1 y2 y3 y4 y5 y6 y7 y8 y9 y10))
 | 0 => fun _ _ _ _ _ _ _ _ _ _ _ r h => by simp [laws_FnScaleAreaTwice.j0] at h
 | k + 1 => by
  have ih0 := laws_FnScaleAreaTwice.mono_l k
  ·intro y0 y1 y2 y3 y4 y5 y6 y7 y8 y9 y10
   unfold laws_FnScaleAreaTwice.j0
   repeat' first | (with_reducible first | exact ih0 _ _ _ _ _ _ _ _ _ _ _ | exact laws_equalImage.mono _ _ _ _ _ _ _ _ _ | exact spec_DrawScaleArea.mono _ _ | exact spec_ScaleArea.mono _ _ _ _ _ _ _ | exact lR | exact lN | refine lI ?_ ?_ | refine lB ?_ fun _ => ?_) | exact ih0 _ _ _ _ _ _ _ _ _ _ _ | exact laws_equalImage.mono _ _ _ _ _ _ _ _ _ | exact spec_DrawScaleArea.mono _ _ | exact spec_ScaleArea.mono _ _ _ _ _ _ _ | exact lN | refine lI ?_ ?_ | refine lB ?_ fun _ => ?_
theorem laws_FnScaleAreaTwice.mono : ∀ a0 k, LeO (laws_FnScaleAreaTwice.f k a0) (laws_FnScaleAreaTwice.f (k + 1) a0) := by
 intro a0 k
 have ih0 := laws_FnScaleAreaTwice.mono_l k
 unfold laws_FnScaleAreaTwice.f
 repeat' first | (with_reducible first | exact ih0 _ _ _ _ _ _ _ _ _ _ _ | exact laws_equalImage.mono _ _ _ _ _ _ _ _ _ | exact spec_DrawScaleArea.mono _ _ | exact spec_ScaleArea.mono _ _ _ _ _ _ _ | exact lR | exact lN | refine lI ?_ ?_ | refine lB ?_ fun _ => ?_) | exact ih0 _ _ _ _ _ _ _ _ _ _ _ | exact laws_equalImage.mono _ _ _ _ _ _ _ _ _ | exact spec_DrawScaleArea.mono _ _ | exact spec_ScaleArea.mono _ _ _ _ _ _ _ | exact lN | refine lI ?_ ?_ | refine lB ?_ fun _ => ?_
def laws_FnScaleAreaTwice.T5 : Bool × List (List Nat × List Nat) := (true, [([], []), ([], []), ([], []), ([], []), ([1, 2, 3], [1, 2, 3]), ([0, 4, 4], [0, 4]), ([5], [5]), ([6, 5], [6]), ([7], [7]), ([8, 7], [7, 8]), ([9, 7], [7, 9]), ([7, 10], [7, 10]), ([11, 7], [11]), ([12], [12]), ([13, 12], [12, 13]), ([14, 12], [12, 14]), ([15, 12], [12, 15]), ([12, 16], [12, 16]), ([17, 12], [17]), ([18], [18]), ([19, 18], [18, 19]), ([20, 18], [18, 20]), ([21, 18], [18, 21]), ([18, 22], [18, 22])])
def laws_FnScaleAreaTwice.B5 : List Nat := [0, 0, 0, 0, 14, 31, 63, 127, 255, 511, 1023, 2047, 4095, 8191, 16383, 32767, 65535, 131071, 262143, 524287, 1048575, 2097151, 4194303, 8388607]
theorem laws_FnScaleAreaTwice.tab5 : rtab .any (opsOf Try.f11 5) = laws_FnScaleAreaTwice.T5 := by kernel_rfl
theorem laws_FnScaleAreaTwice.bits5 : waitsOk laws_FnScaleAreaTwice.T5.2 laws_FnScaleAreaTwice.B5 = true := by kernel_rfl
def laws_FnScaleAreaTwice.T7 : Bool × List (List Nat × List Nat) := (true, [([], []), ([], []), ([1], [1]), ([2], [2]), ([], []), ([4], [4]), ([5], [5]), ([0, 3, 6], [0, 3, 6]), ([], []), ([], []), ([9], [9]), ([10], [10]), ([], []), ([12], [12]), ([13], [13]), ([8, 11, 14, 7], [8, 11, 14]), ([7, 15, 15], [7, 15]), ([16, 16, 0, 1, 2, 3, 4, 5, 6, 7, 8, 9, 10, 11, 12, 13, 14, 15, 16], [16])])
def laws_FnScaleAreaTwice.B7 : List Nat := [0, 0, 2, 6, 0, 16, 48, 127, 0, 0, 512, 1536, 0, 4096, 12288, 32767, 65535, 131071]
theorem laws_FnScaleAreaTwice.tab7 : rtab .any (opsOf Try.f11 7) = laws_FnScaleAreaTwice.T7 := by kernel_rfl
theorem laws_FnScaleAreaTwice.bits7 : waitsOk laws_FnScaleAreaTwice.T7.2 laws_FnScaleAreaTwice.B7 = true := by kernel_rfl
set_option maxHeartbeats 8000000 in
set_option maxRecDepth 100000 in
theorem laws_FnScaleAreaTwice.calls (k : Nat) (A0 : Option Addr) (c0 : Nat) (l0 : List Int) (r : Bool) (w : World) (hr0 : Kd.C (Kd.int .u8) w A0 l0.length l0) (hc0 : l0.length ≤ c0) (h : laws_FnScaleAreaTwice.f k l0 = some r) :
  Calls Try.prog 11 #[.slice A0 l0.length c0] w fun e w' => e = .returned (.bool r) ∧ Below w.heap.size w w' := by
 have hu26 := Try.underlying26
 have HR0 := aM hr0
 have HC0 := aM hc0
 clear hr0 hc0
 have HB := aM (Below.refl w.heap.size w)
 unfold laws_FnScaleAreaTwice.f at h
 have H := h
 clear h
 by_cases c2 : (l0.length : Int) > 1048576
 ·rw [if_pos c2] at H
  have c2b0 : decide (1048576 < (l0.length : Int)) = true := decide_eq_true c2
  have c2b1 : decide (1048576 < l0.length) = true := decide_eq_true (by omega)
  clear c2
  obtain rfl := Option.some.inj H
  go_enter Try.func11, Try.ntmps11
  go_wp2
  go_ret
  exact ⟨qX, by exact qW HB.out⟩
 rw [if_neg c2] at H
 have c2b0 : decide (1048576 < (l0.length : Int)) = false := decide_eq_false c2
 have c2b1 : decide (1048576 < l0.length) = false := decide_eq_false (by omega)
 clear c2
 replace H := Option.bind_eq_some_iff.mp H
 obtain ⟨⟨t813, t814, t815, t816, t819, t820⟩, A30, H⟩ := H
 replace H : ((impl_ScaleArea.f t813 t814 t815 t816 t819 t820).bind fun bt822 => ((spec_ScaleArea.f k t813 t814 t815 t816 t819 t820).bind fun bt829 => ((laws_equalImage.f k bt822.1 bt822.2.1 bt822.2.2.1 bt822.2.2.2 bt829.1 bt829.2.1 bt829.2.2.1 bt829.2.2.2).bind fun t835 => (if t835 = true then (if bt822.1 = 0 then (laws_FnScaleAreaTwice.j0 k t819 t820 true t813 t814 t815 t816 bt822.1 bt822.2.1 bt822.2.2.1 bt822.2.2.2) else (if (wrap64 (2 * t813)) > 16 then (laws_FnScaleAreaTwice.j0 k t819 t820 true t813 t814 t815 t816 bt822.1 bt822.2.1 bt822.2.2.1 bt822.2.2.2) else (laws_FnScaleAreaTwice.j0 k t819 t820 (decide ((wrap64 (2 * t814)) > 16)) t813 t814 t815 t816 bt822.1 bt822.2.1 bt822.2.2.1 bt822.2.2.2))) else (laws_FnScaleAreaTwice.j0 k t819 t820 true t813 t814 t815 t816 bt822.1 bt822.2.1 bt822.2.2.1 bt822.2.2.2))))) = some r := H
 have A3 := aM A30
 clear A30
 replace H := Option.bind_eq_some_iff.mp H
 obtain ⟨⟨t822, t823, t824, t825⟩, A40, H⟩ := H
 replace H : ((spec_ScaleArea.f k t813 t814 t815 t816 t819 t820).bind fun bt829 => ((laws_equalImage.f k t822 t823 t824 t825 bt829.1 bt829.2.1 bt829.2.2.1 bt829.2.2.2).bind fun t835 => (if t835 = true then (if t822 = 0 then (laws_FnScaleAreaTwice.j0 k t819 t820 true t813 t814 t815 t816 t822 t823 t824 t825) else (if (wrap64 (2 * t813)) > 16 then (laws_FnScaleAreaTwice.j0 k t819 t820 true t813 t814 t815 t816 t822 t823 t824 t825) else (laws_FnScaleAreaTwice.j0 k t819 t820 (decide ((wrap64 (2 * t814)) > 16)) t813 t814 t815 t816 t822 t823 t824 t825))) else (laws_FnScaleAreaTwice.j0 k t819 t820 true t813 t814 t815 t816 t822 t823 t824 t825)))) = some r := H
 have A4 := aM A40
 clear A40
 have HC5 := aM H
 clear H
 go_enter Try.func11, Try.ntmps11
 go_upto_region 5 with (first | ((with_reducible refine gate_callee (f := 33) rfl ?_); refine gL (some 12) Try.func33 #[.slice A0 l0.length c0] ?_; (with_reducible refine (spec_DrawScaleArea.calls k _ _ l0 t813 t814 t815 t816 t819 t820 _ ?side1 ?side2 A3.out).mono ?_); (case side1 => exact qC HR0.out); (case side2 => exact HC0.out); rintro e w6 ⟨v817, rfl, ho0, hb⟩; refine ⟨_, rfl, ?_⟩; have HO818 := aM (Kd.Q_lower ho0 (below_size (qW HB.out))); replace HB := bS HB hb; clear hb ho0) | ((with_reducible refine gate_dst (N := 3) rfl ?_); refine bxE (N := 3) (cs := #[.int .i64 0, .int .i64 0, .int .i64 0, .slice none 0 0]) (t := 26) ?_; intro gb821 hg w7 hbox hb; replace HO818 := aM (Kd.Q_below (qQ HO818.out) hb); have BK821 := aM (hbox); have GW821 := gW hg HB; have GE821 := gW hg HB; replace HB := bS HB hb; clear hb hbox hg; obtain ⟨⟨hcz8_0, hcz8_1, hcz8_2, hcz8_3⟩, hfz8_0, hfz8_1, hfz8_2, hfz8_3⟩ := cf4 BK821; obtain ⟨Ao9, co9, eo9, _⟩ := Kd.Q_slice HO818.out; subst eo9) | ((with_reducible refine gate_callee (f := 31) rfl ?_); refine gL (some 19) Try.func31 #[.agg #[.int .i64 t813, .int .i64 t814, .int .i64 t815, .slice Ao9 t816.length co9], .int .i64 t819, .int .i64 t820] ?_; (with_reducible refine (impl_ScaleArea.calls t813 t814 t815 _ _ t816 t819 t820 t822 t823 t824 t825 _ ?side1 ?side2 A4.out).mono ?_); (case side1 => refine (Kd.Q_reads' (e := 3) (base := w.heap.size) (ok := fun k_ => True) (n := t816.length) (c := co9) ?_).2.2; exact (by (with_reducible repeat (first | apply Kd.Q_alloc | apply Kd.Q_drewN | apply Kd.Q_drew)); exact (Kd.Q_mono (qT HO818 BK821) (fun _ h_ => h_.1)))); (case side2 => exact (Kd.Q_reads' HO818.out).2.1); rintro e w10 ⟨v826, rfl, ho0, hb⟩; refine ⟨_, rfl, ?_⟩; have HO827 := aM (Kd.R_lower (Kd.R_new' ho0 (Kd.Q_lt (by (with_reducible repeat (first | apply Kd.Q_alloc | apply Kd.Q_drewN | apply Kd.Q_drew)); exact (Kd.Q_mono (qT HO818 BK821) (fun _ h_ => h_.1))))) (below_size (qW HB.out))); replace HO818 := aM (Kd.Q_elder' (by (with_reducible repeat (first | apply Kd.Q_alloc | apply Kd.Q_drewN | apply Kd.Q_drew)); exact (Kd.Q_mono (qT HO818 BK821) (fun _ h_ => h_.1))) (Kd.R_base ho0) hb); replace BK821 := aM (blk_below (g := gb821) (o := .cells #[.int .i64 t813, .int .i64 t814, .int .i64 t815, .slice Ao9 t816.length co9] 26 (0, 0)) (by exact bP BK821.out) hb); replace HB := bS HB hb; clear hb ho0) | ((with_reducible refine gate_dst (N := 6) rfl ?_); refine bxE (N := 6) (cs := #[.int .i64 0, .int .i64 0, .int .i64 0, .slice none 0 0]) (t := 26) ?_; intro gb828 hg w11 hbox hb; replace HO818 := aM (Kd.Q_below (qQ HO818.out) hb); replace HO827 := aM (Kd.R_below (qR HO827.out) hb); have BK828 := aM (hbox); have GW828 := gW hg HB; have GE828 := gW hg HB; replace HB := bS HB hb; have NB821_828 := nL hg BK821; have NB828_821 := nG hg BK821; replace BK821 := bB BK821 hb; clear hb hbox hg; have hnb12 := NB828_821.out; have hnc12 := NB821_828.out; obtain ⟨⟨hcz13_0, hcz13_1, hcz13_2, hcz13_3⟩, hfz13_0, hfz13_1, hfz13_2, hfz13_3⟩ := cf4 BK828; obtain ⟨Ao14, co14, rfl⟩ := sL HO827))
 (try simp only [Act.put, List.setIfInBounds_toArray, List.set_cons_zero, List.set_cons_succ])
 go_cut [43] (fun v43 wc => ∃ (kq : Nat) (x43_4 : Bool), v43 = .bool x43_4 ∧ Aside0 (laws_FnScaleAreaTwice.j0 kq t819 t820 x43_4 t813 t814 t815 t816 t822 t823 t824 t825 = some r) ∧ Aside0 (kq ≤ k) ∧ Aside0 (Kd.Q (Kd.int .i64) 3 wc w.heap.size (fun k_ => some k_ ≠ ((.slice Ao14 t825.length co14) : Value).ownBlock) (.slice Ao9 t816.length co9) t816) ∧ Aside0 (Kd.Q (Kd.int .i64) 3 wc w.heap.size (fun k_ => some k_ ≠ ((.slice Ao9 t816.length co9) : Value).ownBlock) (.slice Ao14 t825.length co14) t825) ∧ Aside0 (wc.heap[gb821]? = some (.cells #[.int .i64 t813, .int .i64 t814, .int .i64 t815, (.slice Ao9 t816.length co9)] 26 (0, 0))) ∧ Aside0 (wc.heap[gb828]? = some (.cells #[.int .i64 t822, .int .i64 t823, .int .i64 t824, (.slice Ao14 t825.length co14)] 26 (0, 0))) ∧ Aside0 (Below w.heap.size w wc))
 case first =>
  have H := HC5.out
  clear HC5
  replace H := Option.bind_eq_some_iff.mp H
  obtain ⟨⟨t829, t830, t831, t832⟩, A150, H⟩ := H
  replace H : ((laws_equalImage.f k t822 t823 t824 t825 t829 t830 t831 t832).bind fun t835 => (if t835 = true then (if t822 = 0 then (laws_FnScaleAreaTwice.j0 k t819 t820 true t813 t814 t815 t816 t822 t823 t824 t825) else (if (wrap64 (2 * t813)) > 16 then (laws_FnScaleAreaTwice.j0 k t819 t820 true t813 t814 t815 t816 t822 t823 t824 t825) else (laws_FnScaleAreaTwice.j0 k t819 t820 (decide ((wrap64 (2 * t814)) > 16)) t813 t814 t815 t816 t822 t823 t824 t825))) else (laws_FnScaleAreaTwice.j0 k t819 t820 true t813 t814 t815 t816 t822 t823 t824 t825))) = some r := H
  have A15 := aM A150
  clear A150
  replace H := Option.bind_eq_some_iff.mp H
  obtain ⟨t835, A160, H⟩ := H
  replace H : (if t835 = true then (if t822 = 0 then (laws_FnScaleAreaTwice.j0 k t819 t820 true t813 t814 t815 t816 t822 t823 t824 t825) else (if (wrap64 (2 * t813)) > 16 then (laws_FnScaleAreaTwice.j0 k t819 t820 true t813 t814 t815 t816 t822 t823 t824 t825) else (laws_FnScaleAreaTwice.j0 k t819 t820 (decide ((wrap64 (2 * t814)) > 16)) t813 t814 t815 t816 t822 t823 t824 t825))) else (laws_FnScaleAreaTwice.j0 k t819 t820 true t813 t814 t815 t816 t822 t823 t824 t825)) = some r := H
  have A16 := aM A160
  clear A160
  by_cases c17 : t835 = true
  rotate_left
  ·replace c17 := Bool.eq_false_iff.mpr c17
   subst c17
   have H1 : (laws_FnScaleAreaTwice.j0 k t819 t820 true t813 t814 t815 t816 t822 t823 t824 t825) = some r := by rw [if_neg (show ¬ (false = true) by decide)] at H; exact H
   clear H
   have H := H1
   clear H1
   have H' := aM H
   clear H
   try go_wp2
   have n0_ : Aside0 (Kd.Q (Kd.int .i64) 3 ((((w11.setCell ⟨gb828, 0, none⟩ (.int .i64 t822)).setCell ⟨gb828, 1, none⟩ (.int .i64 t823)).setCell ⟨gb828, 2, none⟩ (.int .i64 t824)).setCell ⟨gb828, 3, none⟩ (.slice Ao14 t825.length co14)) w.heap.size (fun k_ => some k_ ≠ (.slice Ao14 t825.length co14 : Value).ownBlock) (.slice Ao9 t816.length co9) t816) := ⟨by (with_reducible repeat (first | apply Kd.Q_alloc | apply Kd.Q_drewN | apply Kd.Q_drew)); exact Kd.Q_mono (qT HO818 BK828) (fun _ hk => hk.1.2)⟩
   have n1_ : Aside0 (Kd.R (Kd.int .i64) 3 ((((w11.setCell ⟨gb828, 0, none⟩ (.int .i64 t822)).setCell ⟨gb828, 1, none⟩ (.int .i64 t823)).setCell ⟨gb828, 2, none⟩ (.int .i64 t824)).setCell ⟨gb828, 3, none⟩ (.slice Ao14 t825.length co14)) w.heap.size (fun k_ => some k_ ≠ (.slice Ao9 t816.length co9 : Value).ownBlock) (.slice Ao14 t825.length co14) t825) := ⟨by refine qR ?_; exact Kd.R_mono (rT HO827 BK828) (fun _ hk => hk.1.2)⟩
   have n2_ : Aside0 (((((w11.setCell ⟨gb828, 0, none⟩ (.int .i64 t822)).setCell ⟨gb828, 1, none⟩ (.int .i64 t823)).setCell ⟨gb828, 2, none⟩ (.int .i64 t824)).setCell ⟨gb828, 3, none⟩ (.slice Ao14 t825.length co14)).heap[gb821]? = some (.cells #[.int .i64 t813, .int .i64 t814, .int .i64 t815, .slice Ao9 t816.length co9] 26 (0, 0))) := ⟨by refine qB ?_; refine blk_far ?_ NB821_828.out _; refine qB ?_; refine blk_far ?_ NB821_828.out _; refine qB ?_; refine blk_far ?_ NB821_828.out _; refine qB ?_; refine blk_far ?_ NB821_828.out _; refine qB ?_; exact BK821.out⟩
   have n3_ : Aside0 (((((w11.setCell ⟨gb828, 0, none⟩ (.int .i64 t822)).setCell ⟨gb828, 1, none⟩ (.int .i64 t823)).setCell ⟨gb828, 2, none⟩ (.int .i64 t824)).setCell ⟨gb828, 3, none⟩ (.slice Ao14 t825.length co14)).heap[gb828]? = some (.cells #[.int .i64 t822, .int .i64 t823, .int .i64 t824, .slice Ao14 t825.length co14] 26 (0, 0))) := ⟨by exact bP BK828.out⟩
   have n4_ : Aside0 (Below w.heap.size w ((((w11.setCell ⟨gb828, 0, none⟩ (.int .i64 t822)).setCell ⟨gb828, 1, none⟩ (.int .i64 t823)).setCell ⟨gb828, 2, none⟩ (.int .i64 t824)).setCell ⟨gb828, 3, none⟩ (.slice Ao14 t825.length co14))) := ⟨by exact qW HB.out⟩
   (try clear HO818)
   (try clear HO827)
   (try clear BK821)
   (try clear BK828)
   (try clear HB)
   generalize ((((w11.setCell ⟨gb828, 0, none⟩ (.int .i64 t822)).setCell ⟨gb828, 1, none⟩ (.int .i64 t823)).setCell ⟨gb828, 2, none⟩ (.int .i64 t824)).setCell ⟨gb828, 3, none⟩ (.slice Ao14 t825.length co14)) = w35 at n0_ n1_ n2_ n3_ n4_ ⊢
   have HO818 := n0_
   have HO827 := n1_
   have BK821 := n2_
   have BK828 := n3_
   have HB := n4_
   clear n0_ n1_ n2_ n3_ n4_
   replace HO818 := aM (Kd.Q_drew HO818.out)
   replace HO827 := aM (Kd.R_drew HO827.out)
   replace BK821 := aM (blk_drew BK821.out)
   replace BK828 := aM (blk_drew BK828.out)
   replace HB := aM (below_drew1 HB.out)
   refine start_ (n := 24) (S := fun w' => w'.cell? ⟨gb828, 0, none⟩ = some (.int .i64 t822) ∧ w'.cell? ⟨gb828, 1, none⟩ = some (.int .i64 t823) ∧ w'.cell? ⟨gb828, 2, none⟩ = some (.int .i64 t824) ∧ w'.cell? ⟨gb828, 3, none⟩ = some (.slice Ao14 t825.length co14) ∧ w'.cell? ⟨gb821, 0, none⟩ = some (.int .i64 t813) ∧ w'.cell? ⟨gb821, 1, none⟩ = some (.int .i64 t814) ∧ w'.cell? ⟨gb821, 2, none⟩ = some (.int .i64 t815) ∧ w'.cell? ⟨gb821, 3, none⟩ = some (.slice Ao9 t816.length co9)) (ds := []) (bA 24 0) (by kernel_rfl) rfl rfl ⟨(blk_cell BK828.out 0).trans rfl, (blk_cell BK828.out 1).trans rfl, (blk_cell BK828.out 2).trans rfl, (blk_cell BK828.out 3).trans rfl, (blk_cell BK821.out 0).trans rfl, (blk_cell BK821.out 1).trans rfl, (blk_cell BK821.out 2).trans rfl, (blk_cell BK821.out 3).trans rfl⟩ (fun hHeld => ?_); refine with_tabW laws_FnScaleAreaTwice.tab5 laws_FnScaleAreaTwice.bits5 (fun HT_ HW_ => ?_)
   generalize w35.drew = w36 at HO818 HO827 BK821 BK828 HB hHeld ⊢
   refine pQ 2 22 HT_ (bA 24 4) ?_
   refine pQ 3 23 HT_ (bA 24 12) ?_
   refine take_ (i := 0) (N := some 20) (v := ?_) (a' := ?_) (bA 24 13) rfl rfl (take_ofW HT_.out HW_.out (by kernel_rfl)) (fun _ _ _ h => h) (Or.inl ⟨by rfl, ?_⟩) hHeld ?_ ?_
   rotate_left
   ·rintro w' ⟨s0, s1, s2, s3, s4, s5, s6, s7⟩
    go_simp
    with_reducible rfl
   rotate_left
   ·refine pZ ?_
    rfl
   refine take_ (i := 1) (N := some 21) (v := ?_) (a' := ?_) (bA 24 15) rfl rfl (take_ofW HT_.out HW_.out (by kernel_rfl)) (fun _ _ _ h => h) (Or.inl ⟨by rfl, ?_⟩) hHeld ?_ ?_
   rotate_left
   ·rintro w' ⟨s0, s1, s2, s3, s4, s5, s6, s7⟩
    go_simp
    with_reducible rfl
   rotate_left
   ·refine pZ ?_
    rfl
   refine one_ (i := 4) (N := some 24) (bA 24 31) rfl rfl (one_of HT_.out (by kernel_rfl)) (by decide) (fun K hK => ?_)
   refine goes_ Try.func32 (by kernel_rfl) rfl #[.agg #[.int .i64 t813, .int .i64 t814, .int .i64 t815, .slice Ao9 t816.length co9], .int .i64 t819, .int .i64 t820] (by rfl) rfl rfl qM ?_
   with_reducible refine (spec_ScaleArea.calls k t813 t814 t815 _ _ t816 t819 t820 t829 t830 t831 t832 _ ?side1 ?side2 A15.out).mono ?_
   (case side1 => exact qC (Kd.Q_reads' HO818.out).2.2)
   (case side2 => exact (Kd.Q_reads' HO818.out).2.1)
   rintro e w37 ⟨v833, rfl, ho0, hb⟩
   refine ⟨_, rfl, ?_⟩
   have HO834 := aM (Kd.R_lower (Kd.R_new' (Kd.R_new' ho0 (Kd.Q_lt (qQ HO818.out))) (Kd.R_lt (qR HO827.out))) (below_size (qW HB.out)))
   replace HO818 := aM (Kd.Q_elder' (qQ HO818.out) (Kd.R_base ho0) hb)
   replace HO827 := aM (Kd.R_elder' (qR HO827.out) (Kd.R_base ho0) hb)
   replace BK821 := bB BK821 hb
   replace BK828 := bB BK828 hb
   replace HB := bS HB hb
   (try clear hb)
   (try clear hb2)
   (try clear hk)
   (try clear hi)
   (try clear ho0)
   obtain ⟨Ao38, co38, eo38⟩ := Kd.R_slice HO834.out
   (first | subst eo38 | (injection eo38 with f1_ f2_ f3_; have f4_ := f1_.symm; have f5_ := f3_.symm; clear f1_ f2_ f3_; subst f4_; subst f5_))
   refine hK.out _ _ ⟨(blk_cell BK828.out 0).trans rfl, (blk_cell BK828.out 1).trans rfl, (blk_cell BK828.out 2).trans rfl, (blk_cell BK828.out 3).trans rfl, (blk_cell BK821.out 0).trans rfl, (blk_cell BK821.out 1).trans rfl, (blk_cell BK821.out 2).trans rfl, (blk_cell BK821.out 3).trans rfl⟩ (fun hHeld => ?_)
   clear hK K
   refine norm_ (a' := ?_) ?_ ?_
   rotate_left
   ·show Act.put _ (some 24) _ = _
    refine pZ ?_
    rfl
   refine one_ (i := 5) (N := some 25) (bA 24 63) rfl rfl (one_of HT_.out (by kernel_rfl)) (by decide) (fun K hK => ?_)
   refine goes_ Try.func23 (by kernel_rfl) rfl #[.agg #[.int .i64 t822, .int .i64 t823, .int .i64 t824, .slice Ao14 t825.length co14], .agg #[.int .i64 t829, .int .i64 t830, .int .i64 t831, .slice Ao38 t832.length co38]] (by rfl) rfl rfl qM ?_
   with_reducible refine (laws_equalImage.calls k t822 t823 t824 _ _ t825 t829 t830 t831 _ _ t832 false _ ?side1 ?side2 ?side3 ?side4 A16.out).mono ?_
   (case side1 => exact qC (Kd.R_reads' HO827.out).2.2)
   (case side2 => exact (Kd.R_reads' HO827.out).2.1)
   (case side3 => exact qC (Kd.R_reads' HO834.out).2.2)
   (case side4 => exact (Kd.R_reads' HO834.out).2.1)
   rintro e w39 ⟨rfl, hb⟩
   refine ⟨_, rfl, ?_⟩
   replace HO818 := aM (Kd.Q_below (qQ HO818.out) hb)
   replace HO827 := aM (Kd.R_below (qR HO827.out) hb)
   replace HO834 := aM (Kd.R_below (qR HO834.out) hb)
   replace BK821 := bB BK821 hb
   replace BK828 := bB BK828 hb
   replace HB := bS HB hb
   (try clear hb)
   (try clear hb2)
   (try clear hk)
   (try clear hi)
   refine hK.out _ _ ⟨(blk_cell BK828.out 0).trans rfl, (blk_cell BK828.out 1).trans rfl, (blk_cell BK828.out 2).trans rfl, (blk_cell BK828.out 3).trans rfl, (blk_cell BK821.out 0).trans rfl, (blk_cell BK821.out 1).trans rfl, (blk_cell BK821.out 2).trans rfl, (blk_cell BK821.out 3).trans rfl⟩ (fun hHeld => ?_)
   clear hK K
   refine norm_ (a' := ?_) ?_ ?_
   rotate_left
   ·show Act.put _ (some 25) _ = _
    refine pZ ?_
    rfl
   refine pQ 6 26 HT_ (bA 24 127) ?_
   refine pQ 7 27 HT_ (bA 24 255) ?_
   refine pure_ (i := 8) (N := some 28) (v := undef) (a' := ?_) (bA 24 511) rfl rfl (any_of HT_.out (by kernel_rfl)) (fun _ _ _ h => h) (Or.inr ⟨by rfl, rfl⟩) ?_ ?_
   rotate_left
   ·refine pZ ?_
    rfl
   refine pure_ (i := 9) (N := some 29) (v := undef) (a' := ?_) (bA 24 1023) rfl rfl (any_of HT_.out (by kernel_rfl)) (fun _ _ _ h => h) (Or.inr ⟨by rfl, rfl⟩) ?_ ?_
   rotate_left
   ·refine pZ ?_
    rfl
   refine pure_ (i := 10) (N := some 30) (v := undef) (a' := ?_) (bA 24 2047) rfl rfl (any_of HT_.out (by kernel_rfl)) (fun _ _ _ h => h) (Or.inr ⟨by rfl, rfl⟩) ?_ ?_
   rotate_left
   ·refine pZ ?_
    rfl
   refine pQ 11 31 HT_ (bA 24 4095) ?_
   refine pQ 12 32 HT_ (bA 24 8191) ?_
   refine pure_ (i := 13) (N := some 33) (v := undef) (a' := ?_) (bA 24 16383) rfl rfl (any_of HT_.out (by kernel_rfl)) (fun _ _ _ h => h) (Or.inr ⟨by rfl, rfl⟩) ?_ ?_
   rotate_left
   ·refine pZ ?_
    rfl
   refine pure_ (i := 14) (N := some 34) (v := undef) (a' := ?_) (bA 24 32767) rfl rfl (any_of HT_.out (by kernel_rfl)) (fun _ _ _ h => h) (Or.inr ⟨by rfl, rfl⟩) ?_ ?_
   rotate_left
   ·refine pZ ?_
    rfl
   refine pure_ (i := 15) (N := some 35) (v := undef) (a' := ?_) (bA 24 65535) rfl rfl (any_of HT_.out (by kernel_rfl)) (fun _ _ _ h => h) (Or.inr ⟨by rfl, rfl⟩) ?_ ?_
   rotate_left
   ·refine pZ ?_
    rfl
   refine pure_ (i := 16) (N := some 36) (v := undef) (a' := ?_) (bA 24 131071) rfl rfl (any_of HT_.out (by kernel_rfl)) (fun _ _ _ h => h) (Or.inr ⟨by rfl, rfl⟩) ?_ ?_
   rotate_left
   ·refine pZ ?_
    rfl
   refine pQ 17 37 HT_ (bA 24 262143) ?_
   refine pQ 18 38 HT_ (bA 24 524287) ?_
   refine pure_ (i := 19) (N := some 39) (v := undef) (a' := ?_) (bA 24 1048575) rfl rfl (any_of HT_.out (by kernel_rfl)) (fun _ _ _ h => h) (Or.inr ⟨by rfl, rfl⟩) ?_ ?_
   rotate_left
   ·refine pZ ?_
    rfl
   refine pure_ (i := 20) (N := some 40) (v := undef) (a' := ?_) (bA 24 2097151) rfl rfl (any_of HT_.out (by kernel_rfl)) (fun _ _ _ h => h) (Or.inr ⟨by rfl, rfl⟩) ?_ ?_
   rotate_left
   ·refine pZ ?_
    rfl
   refine pure_ (i := 21) (N := some 41) (v := undef) (a' := ?_) (bA 24 4194303) rfl rfl (any_of HT_.out (by kernel_rfl)) (fun _ _ _ h => h) (Or.inr ⟨by rfl, rfl⟩) ?_ ?_
   rotate_left
   ·refine pZ ?_
    rfl
   refine pure_ (i := 22) (N := some 42) (v := undef) (a' := ?_) (bA 24 8388607) rfl rfl (any_of HT_.out (by kernel_rfl)) (fun _ _ _ h => h) (Or.inr ⟨by rfl, rfl⟩) ?_ ?_
   rotate_left
   ·refine pZ ?_
    rfl
   refine pQ 23 43 HT_ (bA 24 16777215) ?_
   refine done_ (done_of HT_.out (by kernel_rfl)) ?_
   try go_wp2
   go_meet
   case rel => exact ⟨_, (true), qE, H', ⟨by first | omega | exact Nat.le_refl _⟩, ⟨by (with_reducible repeat (first | apply Kd.Q_alloc | apply Kd.Q_drewN | apply Kd.Q_drew)); exact Kd.Q_mono HO818.out (fun _ hk => hk.1)⟩, ⟨Kd.Q_of_R (by refine qR ?_; exact Kd.R_mono HO827.out (fun _ hk => hk.1))⟩, ⟨by refine qB ?_; exact BK821.out⟩, ⟨by refine qB ?_; exact BK828.out⟩, ⟨by exact qW HB.out⟩⟩
  subst c17
  have H1 : (if t822 = 0 then (laws_FnScaleAreaTwice.j0 k t819 t820 true t813 t814 t815 t816 t822 t823 t824 t825) else (if (wrap64 (2 * t813)) > 16 then (laws_FnScaleAreaTwice.j0 k t819 t820 true t813 t814 t815 t816 t822 t823 t824 t825) else (laws_FnScaleAreaTwice.j0 k t819 t820 (decide ((wrap64 (2 * t814)) > 16)) t813 t814 t815 t816 t822 t823 t824 t825))) = some r := by rw [if_pos rfl] at H; exact H
  clear H
  have H := H1
  clear H1
  by_cases c18 : t822 = 0
  ·rw [if_pos c18] at H
   have c18b0 : (t822 == 0) = true := beq_iff_eq.mpr c18
   have c18b1 : (t822 != 0) = false := bne_eq_false_iff_eq.mpr c18
   clear c18
   (first | rw [c18b0] | (simp only [i64_w, i32_w]; rw [c18b0]) | skip)
   have H' := aM H
   clear H
   try go_wp2
   have n0_ : Aside0 (Kd.Q (Kd.int .i64) 3 ((((w11.setCell ⟨gb828, 0, none⟩ (.int .i64 t822)).setCell ⟨gb828, 1, none⟩ (.int .i64 t823)).setCell ⟨gb828, 2, none⟩ (.int .i64 t824)).setCell ⟨gb828, 3, none⟩ (.slice Ao14 t825.length co14)) w.heap.size (fun k_ => some k_ ≠ (.slice Ao14 t825.length co14 : Value).ownBlock) (.slice Ao9 t816.length co9) t816) := ⟨by (with_reducible repeat (first | apply Kd.Q_alloc | apply Kd.Q_drewN | apply Kd.Q_drew)); exact Kd.Q_mono (qT HO818 BK828) (fun _ hk => hk.1.2)⟩
   have n1_ : Aside0 (Kd.R (Kd.int .i64) 3 ((((w11.setCell ⟨gb828, 0, none⟩ (.int .i64 t822)).setCell ⟨gb828, 1, none⟩ (.int .i64 t823)).setCell ⟨gb828, 2, none⟩ (.int .i64 t824)).setCell ⟨gb828, 3, none⟩ (.slice Ao14 t825.length co14)) w.heap.size (fun k_ => some k_ ≠ (.slice Ao9 t816.length co9 : Value).ownBlock) (.slice Ao14 t825.length co14) t825) := ⟨by refine qR ?_; exact Kd.R_mono (rT HO827 BK828) (fun _ hk => hk.1.2)⟩
   have n2_ : Aside0 (((((w11.setCell ⟨gb828, 0, none⟩ (.int .i64 t822)).setCell ⟨gb828, 1, none⟩ (.int .i64 t823)).setCell ⟨gb828, 2, none⟩ (.int .i64 t824)).setCell ⟨gb828, 3, none⟩ (.slice Ao14 t825.length co14)).heap[gb821]? = some (.cells #[.int .i64 t813, .int .i64 t814, .int .i64 t815, .slice Ao9 t816.length co9] 26 (0, 0))) := ⟨by refine qB ?_; refine blk_far ?_ NB821_828.out _; refine qB ?_; refine blk_far ?_ NB821_828.out _; refine qB ?_; refine blk_far ?_ NB821_828.out _; refine qB ?_; refine blk_far ?_ NB821_828.out _; refine qB ?_; exact BK821.out⟩
   have n3_ : Aside0 (((((w11.setCell ⟨gb828, 0, none⟩ (.int .i64 t822)).setCell ⟨gb828, 1, none⟩ (.int .i64 t823)).setCell ⟨gb828, 2, none⟩ (.int .i64 t824)).setCell ⟨gb828, 3, none⟩ (.slice Ao14 t825.length co14)).heap[gb828]? = some (.cells #[.int .i64 t822, .int .i64 t823, .int .i64 t824, .slice Ao14 t825.length co14] 26 (0, 0))) := ⟨by exact bP BK828.out⟩
   have n4_ : Aside0 (Below w.heap.size w ((((w11.setCell ⟨gb828, 0, none⟩ (.int .i64 t822)).setCell ⟨gb828, 1, none⟩ (.int .i64 t823)).setCell ⟨gb828, 2, none⟩ (.int .i64 t824)).setCell ⟨gb828, 3, none⟩ (.slice Ao14 t825.length co14))) := ⟨by exact qW HB.out⟩
   (try clear HO818)
   (try clear HO827)
   (try clear BK821)
   (try clear BK828)
   (try clear HB)
   generalize ((((w11.setCell ⟨gb828, 0, none⟩ (.int .i64 t822)).setCell ⟨gb828, 1, none⟩ (.int .i64 t823)).setCell ⟨gb828, 2, none⟩ (.int .i64 t824)).setCell ⟨gb828, 3, none⟩ (.slice Ao14 t825.length co14)) = w19 at n0_ n1_ n2_ n3_ n4_ ⊢
   have HO818 := n0_
   have HO827 := n1_
   have BK821 := n2_
   have BK828 := n3_
   have HB := n4_
   clear n0_ n1_ n2_ n3_ n4_
   replace HO818 := aM (Kd.Q_drew HO818.out)
   replace HO827 := aM (Kd.R_drew HO827.out)
   replace BK821 := aM (blk_drew BK821.out)
   replace BK828 := aM (blk_drew BK828.out)
   replace HB := aM (below_drew1 HB.out)
   refine start_ (n := 24) (S := fun w' => w'.cell? ⟨gb828, 0, none⟩ = some (.int .i64 t822) ∧ w'.cell? ⟨gb828, 1, none⟩ = some (.int .i64 t823) ∧ w'.cell? ⟨gb828, 2, none⟩ = some (.int .i64 t824) ∧ w'.cell? ⟨gb828, 3, none⟩ = some (.slice Ao14 t825.length co14) ∧ w'.cell? ⟨gb821, 0, none⟩ = some (.int .i64 t813) ∧ w'.cell? ⟨gb821, 1, none⟩ = some (.int .i64 t814) ∧ w'.cell? ⟨gb821, 2, none⟩ = some (.int .i64 t815) ∧ w'.cell? ⟨gb821, 3, none⟩ = some (.slice Ao9 t816.length co9)) (ds := []) (bA 24 0) (by kernel_rfl) rfl rfl ⟨(blk_cell BK828.out 0).trans rfl, (blk_cell BK828.out 1).trans rfl, (blk_cell BK828.out 2).trans rfl, (blk_cell BK828.out 3).trans rfl, (blk_cell BK821.out 0).trans rfl, (blk_cell BK821.out 1).trans rfl, (blk_cell BK821.out 2).trans rfl, (blk_cell BK821.out 3).trans rfl⟩ (fun hHeld => ?_); refine with_tabW laws_FnScaleAreaTwice.tab5 laws_FnScaleAreaTwice.bits5 (fun HT_ HW_ => ?_)
   generalize w19.drew = w20 at HO818 HO827 BK821 BK828 HB hHeld ⊢
   refine pQ 2 22 HT_ (bA 24 4) ?_
   refine pQ 3 23 HT_ (bA 24 12) ?_
   refine take_ (i := 0) (N := some 20) (v := ?_) (a' := ?_) (bA 24 13) rfl rfl (take_ofW HT_.out HW_.out (by kernel_rfl)) (fun _ _ _ h => h) (Or.inl ⟨by rfl, ?_⟩) hHeld ?_ ?_
   rotate_left
   ·rintro w' ⟨s0, s1, s2, s3, s4, s5, s6, s7⟩
    go_simp
    with_reducible rfl
   rotate_left
   ·refine pZ ?_
    rfl
   refine take_ (i := 1) (N := some 21) (v := ?_) (a' := ?_) (bA 24 15) rfl rfl (take_ofW HT_.out HW_.out (by kernel_rfl)) (fun _ _ _ h => h) (Or.inl ⟨by rfl, ?_⟩) hHeld ?_ ?_
   rotate_left
   ·rintro w' ⟨s0, s1, s2, s3, s4, s5, s6, s7⟩
    go_simp
    with_reducible rfl
   rotate_left
   ·refine pZ ?_
    rfl
   refine one_ (i := 4) (N := some 24) (bA 24 31) rfl rfl (one_of HT_.out (by kernel_rfl)) (by decide) (fun K hK => ?_)
   refine goes_ Try.func32 (by kernel_rfl) rfl #[.agg #[.int .i64 t813, .int .i64 t814, .int .i64 t815, .slice Ao9 t816.length co9], .int .i64 t819, .int .i64 t820] (by rfl) rfl rfl qM ?_
   with_reducible refine (spec_ScaleArea.calls k t813 t814 t815 _ _ t816 t819 t820 t829 t830 t831 t832 _ ?side1 ?side2 A15.out).mono ?_
   (case side1 => exact qC (Kd.Q_reads' HO818.out).2.2)
   (case side2 => exact (Kd.Q_reads' HO818.out).2.1)
   rintro e w21 ⟨v833, rfl, ho0, hb⟩
   refine ⟨_, rfl, ?_⟩
   have HO834 := aM (Kd.R_lower (Kd.R_new' (Kd.R_new' ho0 (Kd.Q_lt (qQ HO818.out))) (Kd.R_lt (qR HO827.out))) (below_size (qW HB.out)))
   replace HO818 := aM (Kd.Q_elder' (qQ HO818.out) (Kd.R_base ho0) hb)
   replace HO827 := aM (Kd.R_elder' (qR HO827.out) (Kd.R_base ho0) hb)
   replace BK821 := bB BK821 hb
   replace BK828 := bB BK828 hb
   replace HB := bS HB hb
   (try clear hb)
   (try clear hb2)
   (try clear hk)
   (try clear hi)
   (try clear ho0)
   obtain ⟨Ao22, co22, eo22⟩ := Kd.R_slice HO834.out
   (first | subst eo22 | (injection eo22 with f1_ f2_ f3_; have f4_ := f1_.symm; have f5_ := f3_.symm; clear f1_ f2_ f3_; subst f4_; subst f5_))
   refine hK.out _ _ ⟨(blk_cell BK828.out 0).trans rfl, (blk_cell BK828.out 1).trans rfl, (blk_cell BK828.out 2).trans rfl, (blk_cell BK828.out 3).trans rfl, (blk_cell BK821.out 0).trans rfl, (blk_cell BK821.out 1).trans rfl, (blk_cell BK821.out 2).trans rfl, (blk_cell BK821.out 3).trans rfl⟩ (fun hHeld => ?_)
   clear hK K
   refine norm_ (a' := ?_) ?_ ?_
   rotate_left
   ·show Act.put _ (some 24) _ = _
    refine pZ ?_
    rfl
   refine one_ (i := 5) (N := some 25) (bA 24 63) rfl rfl (one_of HT_.out (by kernel_rfl)) (by decide) (fun K hK => ?_)
   refine goes_ Try.func23 (by kernel_rfl) rfl #[.agg #[.int .i64 t822, .int .i64 t823, .int .i64 t824, .slice Ao14 t825.length co14], .agg #[.int .i64 t829, .int .i64 t830, .int .i64 t831, .slice Ao22 t832.length co22]] (by rfl) rfl rfl qM ?_
   with_reducible refine (laws_equalImage.calls k t822 t823 t824 _ _ t825 t829 t830 t831 _ _ t832 true _ ?side1 ?side2 ?side3 ?side4 A16.out).mono ?_
   (case side1 => exact qC (Kd.R_reads' HO827.out).2.2)
   (case side2 => exact (Kd.R_reads' HO827.out).2.1)
   (case side3 => exact qC (Kd.R_reads' HO834.out).2.2)
   (case side4 => exact (Kd.R_reads' HO834.out).2.1)
   rintro e w23 ⟨rfl, hb⟩
   refine ⟨_, rfl, ?_⟩
   replace HO818 := aM (Kd.Q_below (qQ HO818.out) hb)
   replace HO827 := aM (Kd.R_below (qR HO827.out) hb)
   replace HO834 := aM (Kd.R_below (qR HO834.out) hb)
   replace BK821 := bB BK821 hb
   replace BK828 := bB BK828 hb
   replace HB := bS HB hb
   (try clear hb)
   (try clear hb2)
   (try clear hk)
   (try clear hi)
   refine hK.out _ _ ⟨(blk_cell BK828.out 0).trans rfl, (blk_cell BK828.out 1).trans rfl, (blk_cell BK828.out 2).trans rfl, (blk_cell BK828.out 3).trans rfl, (blk_cell BK821.out 0).trans rfl, (blk_cell BK821.out 1).trans rfl, (blk_cell BK821.out 2).trans rfl, (blk_cell BK821.out 3).trans rfl⟩ (fun hHeld => ?_)
   clear hK K
   refine norm_ (a' := ?_) ?_ ?_
   rotate_left
   ·show Act.put _ (some 25) _ = _
    refine pZ ?_
    rfl
   refine pQ 6 26 HT_ (bA 24 127) ?_
   refine pQ 7 27 HT_ (bA 24 255) ?_
   refine pQ 8 28 HT_ (bA 24 511) ?_
   refine take_ (i := 9) (N := some 29) (v := ?_) (a' := ?_) (bA 24 1023) rfl rfl (take_ofW HT_.out HW_.out (by kernel_rfl)) (fun _ _ _ h => h) (Or.inl ⟨by rfl, ?_⟩) hHeld ?_ ?_
   rotate_left
   ·rintro w' ⟨s0, s1, s2, s3, s4, s5, s6, s7⟩
    go_simp
    with_reducible rfl
   rotate_left
   ·refine pZ ?_
    rfl
   refine pQ 10 30 HT_ (bA 24 2047) ?_
   refine pQ 11 31 HT_ (bA 24 4095) ?_
   refine pQ 12 32 HT_ (bA 24 8191) ?_
   refine pure_ (i := 13) (N := some 33) (v := undef) (a' := ?_) (bA 24 16383) rfl rfl (any_of HT_.out (by kernel_rfl)) (fun _ _ _ h => h) (Or.inr ⟨by rfl, rfl⟩) ?_ ?_
   rotate_left
   ·refine pZ ?_
    rfl
   refine pure_ (i := 14) (N := some 34) (v := undef) (a' := ?_) (bA 24 32767) rfl rfl (any_of HT_.out (by kernel_rfl)) (fun _ _ _ h => h) (Or.inr ⟨by rfl, rfl⟩) ?_ ?_
   rotate_left
   ·refine pZ ?_
    rfl
   refine pure_ (i := 15) (N := some 35) (v := undef) (a' := ?_) (bA 24 65535) rfl rfl (any_of HT_.out (by kernel_rfl)) (fun _ _ _ h => h) (Or.inr ⟨by rfl, rfl⟩) ?_ ?_
   rotate_left
   ·refine pZ ?_
    rfl
   refine pure_ (i := 16) (N := some 36) (v := undef) (a' := ?_) (bA 24 131071) rfl rfl (any_of HT_.out (by kernel_rfl)) (fun _ _ _ h => h) (Or.inr ⟨by rfl, rfl⟩) ?_ ?_
   rotate_left
   ·refine pZ ?_
    rfl
   refine pQ 17 37 HT_ (bA 24 262143) ?_
   refine pQ 18 38 HT_ (bA 24 524287) ?_
   refine pure_ (i := 19) (N := some 39) (v := undef) (a' := ?_) (bA 24 1048575) rfl rfl (any_of HT_.out (by kernel_rfl)) (fun _ _ _ h => h) (Or.inr ⟨by rfl, rfl⟩) ?_ ?_
   rotate_left
   ·refine pZ ?_
    rfl
   refine pure_ (i := 20) (N := some 40) (v := undef) (a' := ?_) (bA 24 2097151) rfl rfl (any_of HT_.out (by kernel_rfl)) (fun _ _ _ h => h) (Or.inr ⟨by rfl, rfl⟩) ?_ ?_
   rotate_left
   ·refine pZ ?_
    rfl
   refine pure_ (i := 21) (N := some 41) (v := undef) (a' := ?_) (bA 24 4194303) rfl rfl (any_of HT_.out (by kernel_rfl)) (fun _ _ _ h => h) (Or.inr ⟨by rfl, rfl⟩) ?_ ?_
   rotate_left
   ·refine pZ ?_
    rfl
   refine pure_ (i := 22) (N := some 42) (v := undef) (a' := ?_) (bA 24 8388607) rfl rfl (any_of HT_.out (by kernel_rfl)) (fun _ _ _ h => h) (Or.inr ⟨by rfl, rfl⟩) ?_ ?_
   rotate_left
   ·refine pZ ?_
    rfl
   refine pQ 23 43 HT_ (bA 24 16777215) ?_
   refine done_ (done_of HT_.out (by kernel_rfl)) ?_
   try go_wp2
   go_meet
   case rel => exact ⟨_, (true), qE, H', ⟨by first | omega | exact Nat.le_refl _⟩, ⟨by (with_reducible repeat (first | apply Kd.Q_alloc | apply Kd.Q_drewN | apply Kd.Q_drew)); exact Kd.Q_mono HO818.out (fun _ hk => hk.1)⟩, ⟨Kd.Q_of_R (by refine qR ?_; exact Kd.R_mono HO827.out (fun _ hk => hk.1))⟩, ⟨by refine qB ?_; exact BK821.out⟩, ⟨by refine qB ?_; exact BK828.out⟩, ⟨by exact qW HB.out⟩⟩
  rw [if_neg c18] at H
  have c18b0 : (t822 == 0) = false := beq_eq_false_iff_ne.mpr c18
  have c18b1 : (t822 != 0) = true := bne_iff_ne.mpr c18
  (first | rw [c18b0] | (simp only [i64_w, i32_w]; rw [c18b0]) | skip)
  by_cases c24 : (wrap64 (2 * t813)) > 16
  ·rw [if_pos c24] at H
   have c24b0 : decide (16 < (wrap64 (2 * t813))) = true := decide_eq_true c24
   clear c24
   have H' := aM H
   clear H
   try go_wp2
   have n0_ : Aside0 (Kd.Q (Kd.int .i64) 3 ((((w11.setCell ⟨gb828, 0, none⟩ (.int .i64 t822)).setCell ⟨gb828, 1, none⟩ (.int .i64 t823)).setCell ⟨gb828, 2, none⟩ (.int .i64 t824)).setCell ⟨gb828, 3, none⟩ (.slice Ao14 t825.length co14)) w.heap.size (fun k_ => some k_ ≠ (.slice Ao14 t825.length co14 : Value).ownBlock) (.slice Ao9 t816.length co9) t816) := ⟨by (with_reducible repeat (first | apply Kd.Q_alloc | apply Kd.Q_drewN | apply Kd.Q_drew)); exact Kd.Q_mono (qT HO818 BK828) (fun _ hk => hk.1.2)⟩
   have n1_ : Aside0 (Kd.R (Kd.int .i64) 3 ((((w11.setCell ⟨gb828, 0, none⟩ (.int .i64 t822)).setCell ⟨gb828, 1, none⟩ (.int .i64 t823)).setCell ⟨gb828, 2, none⟩ (.int .i64 t824)).setCell ⟨gb828, 3, none⟩ (.slice Ao14 t825.length co14)) w.heap.size (fun k_ => some k_ ≠ (.slice Ao9 t816.length co9 : Value).ownBlock) (.slice Ao14 t825.length co14) t825) := ⟨by refine qR ?_; exact Kd.R_mono (rT HO827 BK828) (fun _ hk => hk.1.2)⟩
   have n2_ : Aside0 (((((w11.setCell ⟨gb828, 0, none⟩ (.int .i64 t822)).setCell ⟨gb828, 1, none⟩ (.int .i64 t823)).setCell ⟨gb828, 2, none⟩ (.int .i64 t824)).setCell ⟨gb828, 3, none⟩ (.slice Ao14 t825.length co14)).heap[gb821]? = some (.cells #[.int .i64 t813, .int .i64 t814, .int .i64 t815, .slice Ao9 t816.length co9] 26 (0, 0))) := ⟨by refine qB ?_; refine blk_far ?_ NB821_828.out _; refine qB ?_; refine blk_far ?_ NB821_828.out _; refine qB ?_; refine blk_far ?_ NB821_828.out _; refine qB ?_; refine blk_far ?_ NB821_828.out _; refine qB ?_; exact BK821.out⟩
   have n3_ : Aside0 (((((w11.setCell ⟨gb828, 0, none⟩ (.int .i64 t822)).setCell ⟨gb828, 1, none⟩ (.int .i64 t823)).setCell ⟨gb828, 2, none⟩ (.int .i64 t824)).setCell ⟨gb828, 3, none⟩ (.slice Ao14 t825.length co14)).heap[gb828]? = some (.cells #[.int .i64 t822, .int .i64 t823, .int .i64 t824, .slice Ao14 t825.length co14] 26 (0, 0))) := ⟨by exact bP BK828.out⟩
   have n4_ : Aside0 (Below w.heap.size w ((((w11.setCell ⟨gb828, 0, none⟩ (.int .i64 t822)).setCell ⟨gb828, 1, none⟩ (.int .i64 t823)).setCell ⟨gb828, 2, none⟩ (.int .i64 t824)).setCell ⟨gb828, 3, none⟩ (.slice Ao14 t825.length co14))) := ⟨by exact qW HB.out⟩
   (try clear HO818)
   (try clear HO827)
   (try clear BK821)
   (try clear BK828)
   (try clear HB)
   generalize ((((w11.setCell ⟨gb828, 0, none⟩ (.int .i64 t822)).setCell ⟨gb828, 1, none⟩ (.int .i64 t823)).setCell ⟨gb828, 2, none⟩ (.int .i64 t824)).setCell ⟨gb828, 3, none⟩ (.slice Ao14 t825.length co14)) = w25 at n0_ n1_ n2_ n3_ n4_ ⊢
   have HO818 := n0_
   have HO827 := n1_
   have BK821 := n2_
   have BK828 := n3_
   have HB := n4_
   clear n0_ n1_ n2_ n3_ n4_
   replace HO818 := aM (Kd.Q_drew HO818.out)
   replace HO827 := aM (Kd.R_drew HO827.out)
   replace BK821 := aM (blk_drew BK821.out)
   replace BK828 := aM (blk_drew BK828.out)
   replace HB := aM (below_drew1 HB.out)
   refine start_ (n := 24) (S := fun w' => w'.cell? ⟨gb828, 0, none⟩ = some (.int .i64 t822) ∧ w'.cell? ⟨gb828, 1, none⟩ = some (.int .i64 t823) ∧ w'.cell? ⟨gb828, 2, none⟩ = some (.int .i64 t824) ∧ w'.cell? ⟨gb828, 3, none⟩ = some (.slice Ao14 t825.length co14) ∧ w'.cell? ⟨gb821, 0, none⟩ = some (.int .i64 t813) ∧ w'.cell? ⟨gb821, 1, none⟩ = some (.int .i64 t814) ∧ w'.cell? ⟨gb821, 2, none⟩ = some (.int .i64 t815) ∧ w'.cell? ⟨gb821, 3, none⟩ = some (.slice Ao9 t816.length co9)) (ds := []) (bA 24 0) (by kernel_rfl) rfl rfl ⟨(blk_cell BK828.out 0).trans rfl, (blk_cell BK828.out 1).trans rfl, (blk_cell BK828.out 2).trans rfl, (blk_cell BK828.out 3).trans rfl, (blk_cell BK821.out 0).trans rfl, (blk_cell BK821.out 1).trans rfl, (blk_cell BK821.out 2).trans rfl, (blk_cell BK821.out 3).trans rfl⟩ (fun hHeld => ?_); refine with_tabW laws_FnScaleAreaTwice.tab5 laws_FnScaleAreaTwice.bits5 (fun HT_ HW_ => ?_)
   generalize w25.drew = w26 at HO818 HO827 BK821 BK828 HB hHeld ⊢
   refine pQ 2 22 HT_ (bA 24 4) ?_
   refine pQ 3 23 HT_ (bA 24 12) ?_
   refine take_ (i := 0) (N := some 20) (v := ?_) (a' := ?_) (bA 24 13) rfl rfl (take_ofW HT_.out HW_.out (by kernel_rfl)) (fun _ _ _ h => h) (Or.inl ⟨by rfl, ?_⟩) hHeld ?_ ?_
   rotate_left
   ·rintro w' ⟨s0, s1, s2, s3, s4, s5, s6, s7⟩
    go_simp
    with_reducible rfl
   rotate_left
   ·refine pZ ?_
    rfl
   refine take_ (i := 1) (N := some 21) (v := ?_) (a' := ?_) (bA 24 15) rfl rfl (take_ofW HT_.out HW_.out (by kernel_rfl)) (fun _ _ _ h => h) (Or.inl ⟨by rfl, ?_⟩) hHeld ?_ ?_
   rotate_left
   ·rintro w' ⟨s0, s1, s2, s3, s4, s5, s6, s7⟩
    go_simp
    with_reducible rfl
   rotate_left
   ·refine pZ ?_
    rfl
   refine one_ (i := 4) (N := some 24) (bA 24 31) rfl rfl (one_of HT_.out (by kernel_rfl)) (by decide) (fun K hK => ?_)
   refine goes_ Try.func32 (by kernel_rfl) rfl #[.agg #[.int .i64 t813, .int .i64 t814, .int .i64 t815, .slice Ao9 t816.length co9], .int .i64 t819, .int .i64 t820] (by rfl) rfl rfl qM ?_
   with_reducible refine (spec_ScaleArea.calls k t813 t814 t815 _ _ t816 t819 t820 t829 t830 t831 t832 _ ?side1 ?side2 A15.out).mono ?_
   (case side1 => exact qC (Kd.Q_reads' HO818.out).2.2)
   (case side2 => exact (Kd.Q_reads' HO818.out).2.1)
   rintro e w27 ⟨v833, rfl, ho0, hb⟩
   refine ⟨_, rfl, ?_⟩
   have HO834 := aM (Kd.R_lower (Kd.R_new' (Kd.R_new' ho0 (Kd.Q_lt (qQ HO818.out))) (Kd.R_lt (qR HO827.out))) (below_size (qW HB.out)))
   replace HO818 := aM (Kd.Q_elder' (qQ HO818.out) (Kd.R_base ho0) hb)
   replace HO827 := aM (Kd.R_elder' (qR HO827.out) (Kd.R_base ho0) hb)
   replace BK821 := bB BK821 hb
   replace BK828 := bB BK828 hb
   replace HB := bS HB hb
   (try clear hb)
   (try clear hb2)
   (try clear hk)
   (try clear hi)
   (try clear ho0)
   obtain ⟨Ao28, co28, eo28⟩ := Kd.R_slice HO834.out
   (first | subst eo28 | (injection eo28 with f1_ f2_ f3_; have f4_ := f1_.symm; have f5_ := f3_.symm; clear f1_ f2_ f3_; subst f4_; subst f5_))
   refine hK.out _ _ ⟨(blk_cell BK828.out 0).trans rfl, (blk_cell BK828.out 1).trans rfl, (blk_cell BK828.out 2).trans rfl, (blk_cell BK828.out 3).trans rfl, (blk_cell BK821.out 0).trans rfl, (blk_cell BK821.out 1).trans rfl, (blk_cell BK821.out 2).trans rfl, (blk_cell BK821.out 3).trans rfl⟩ (fun hHeld => ?_)
   clear hK K
   refine norm_ (a' := ?_) ?_ ?_
   rotate_left
   ·show Act.put _ (some 24) _ = _
    refine pZ ?_
    rfl
   refine one_ (i := 5) (N := some 25) (bA 24 63) rfl rfl (one_of HT_.out (by kernel_rfl)) (by decide) (fun K hK => ?_)
   refine goes_ Try.func23 (by kernel_rfl) rfl #[.agg #[.int .i64 t822, .int .i64 t823, .int .i64 t824, .slice Ao14 t825.length co14], .agg #[.int .i64 t829, .int .i64 t830, .int .i64 t831, .slice Ao28 t832.length co28]] (by rfl) rfl rfl qM ?_
   with_reducible refine (laws_equalImage.calls k t822 t823 t824 _ _ t825 t829 t830 t831 _ _ t832 true _ ?side1 ?side2 ?side3 ?side4 A16.out).mono ?_
   (case side1 => exact qC (Kd.R_reads' HO827.out).2.2)
   (case side2 => exact (Kd.R_reads' HO827.out).2.1)
   (case side3 => exact qC (Kd.R_reads' HO834.out).2.2)
   (case side4 => exact (Kd.R_reads' HO834.out).2.1)
   rintro e w29 ⟨rfl, hb⟩
   refine ⟨_, rfl, ?_⟩
   replace HO818 := aM (Kd.Q_below (qQ HO818.out) hb)
   replace HO827 := aM (Kd.R_below (qR HO827.out) hb)
   replace HO834 := aM (Kd.R_below (qR HO834.out) hb)
   replace BK821 := bB BK821 hb
   replace BK828 := bB BK828 hb
   replace HB := bS HB hb
   (try clear hb)
   (try clear hb2)
   (try clear hk)
   (try clear hi)
   refine hK.out _ _ ⟨(blk_cell BK828.out 0).trans rfl, (blk_cell BK828.out 1).trans rfl, (blk_cell BK828.out 2).trans rfl, (blk_cell BK828.out 3).trans rfl, (blk_cell BK821.out 0).trans rfl, (blk_cell BK821.out 1).trans rfl, (blk_cell BK821.out 2).trans rfl, (blk_cell BK821.out 3).trans rfl⟩ (fun hHeld => ?_)
   clear hK K
   refine norm_ (a' := ?_) ?_ ?_
   rotate_left
   ·show Act.put _ (some 25) _ = _
    refine pZ ?_
    rfl
   refine pQ 6 26 HT_ (bA 24 127) ?_
   refine pQ 7 27 HT_ (bA 24 255) ?_
   refine pQ 8 28 HT_ (bA 24 511) ?_
   refine take_ (i := 9) (N := some 29) (v := ?_) (a' := ?_) (bA 24 1023) rfl rfl (take_ofW HT_.out HW_.out (by kernel_rfl)) (fun _ _ _ h => h) (Or.inl ⟨by rfl, ?_⟩) hHeld ?_ ?_
   rotate_left
   ·rintro w' ⟨s0, s1, s2, s3, s4, s5, s6, s7⟩
    go_simp
    with_reducible rfl
   rotate_left
   ·refine pZ ?_
    rfl
   refine pQ 10 30 HT_ (bA 24 2047) ?_
   refine pQ 11 31 HT_ (bA 24 4095) ?_
   refine pQ 12 32 HT_ (bA 24 8191) ?_
   refine pQ 13 33 HT_ (bA 24 16383) ?_
   refine take_ (i := 14) (N := some 34) (v := ?_) (a' := ?_) (bA 24 32767) rfl rfl (take_ofW HT_.out HW_.out (by kernel_rfl)) (fun _ _ _ h => h) (Or.inl ⟨by rfl, ?_⟩) hHeld ?_ ?_
   rotate_left
   ·rintro w' ⟨s0, s1, s2, s3, s4, s5, s6, s7⟩
    go_simp
    with_reducible rfl
   rotate_left
   ·refine pZ ?_
    rfl
   refine pQ 15 35 HT_ (bA 24 65535) ?_
   refine pQ 16 36 HT_ (bA 24 131071) ?_
   refine pQ 17 37 HT_ (bA 24 262143) ?_
   refine pQ 18 38 HT_ (bA 24 524287) ?_
   refine pure_ (i := 19) (N := some 39) (v := undef) (a' := ?_) (bA 24 1048575) rfl rfl (any_of HT_.out (by kernel_rfl)) (fun _ _ _ h => h) (Or.inr ⟨by rfl, rfl⟩) ?_ ?_
   rotate_left
   ·refine pZ ?_
    rfl
   refine pure_ (i := 20) (N := some 40) (v := undef) (a' := ?_) (bA 24 2097151) rfl rfl (any_of HT_.out (by kernel_rfl)) (fun _ _ _ h => h) (Or.inr ⟨by rfl, rfl⟩) ?_ ?_
   rotate_left
   ·refine pZ ?_
    rfl
   refine pure_ (i := 21) (N := some 41) (v := undef) (a' := ?_) (bA 24 4194303) rfl rfl (any_of HT_.out (by kernel_rfl)) (fun _ _ _ h => h) (Or.inr ⟨by rfl, rfl⟩) ?_ ?_
   rotate_left
   ·refine pZ ?_
    rfl
   refine pure_ (i := 22) (N := some 42) (v := undef) (a' := ?_) (bA 24 8388607) rfl rfl (any_of HT_.out (by kernel_rfl)) (fun _ _ _ h => h) (Or.inr ⟨by rfl, rfl⟩) ?_ ?_
   rotate_left
   ·refine pZ ?_
    rfl
   refine pQ 23 43 HT_ (bA 24 16777215) ?_
   refine done_ (done_of HT_.out (by kernel_rfl)) ?_
   try go_wp2
   go_meet
   case rel => exact ⟨_, (true), qE, H', ⟨by first | omega | exact Nat.le_refl _⟩, ⟨by (with_reducible repeat (first | apply Kd.Q_alloc | apply Kd.Q_drewN | apply Kd.Q_drew)); exact Kd.Q_mono HO818.out (fun _ hk => hk.1)⟩, ⟨Kd.Q_of_R (by refine qR ?_; exact Kd.R_mono HO827.out (fun _ hk => hk.1))⟩, ⟨by refine qB ?_; exact BK821.out⟩, ⟨by refine qB ?_; exact BK828.out⟩, ⟨by exact qW HB.out⟩⟩
  rw [if_neg c24] at H
  have c24b0 : decide (16 < (wrap64 (2 * t813))) = false := decide_eq_false c24
  clear c24
  have H' := aM H
  clear H
  try go_wp2
  have n0_ : Aside0 (Kd.Q (Kd.int .i64) 3 ((((w11.setCell ⟨gb828, 0, none⟩ (.int .i64 t822)).setCell ⟨gb828, 1, none⟩ (.int .i64 t823)).setCell ⟨gb828, 2, none⟩ (.int .i64 t824)).setCell ⟨gb828, 3, none⟩ (.slice Ao14 t825.length co14)) w.heap.size (fun k_ => some k_ ≠ (.slice Ao14 t825.length co14 : Value).ownBlock) (.slice Ao9 t816.length co9) t816) := ⟨by (with_reducible repeat (first | apply Kd.Q_alloc | apply Kd.Q_drewN | apply Kd.Q_drew)); exact Kd.Q_mono (qT HO818 BK828) (fun _ hk => hk.1.2)⟩
  have n1_ : Aside0 (Kd.R (Kd.int .i64) 3 ((((w11.setCell ⟨gb828, 0, none⟩ (.int .i64 t822)).setCell ⟨gb828, 1, none⟩ (.int .i64 t823)).setCell ⟨gb828, 2, none⟩ (.int .i64 t824)).setCell ⟨gb828, 3, none⟩ (.slice Ao14 t825.length co14)) w.heap.size (fun k_ => some k_ ≠ (.slice Ao9 t816.length co9 : Value).ownBlock) (.slice Ao14 t825.length co14) t825) := ⟨by refine qR ?_; exact Kd.R_mono (rT HO827 BK828) (fun _ hk => hk.1.2)⟩
  have n2_ : Aside0 (((((w11.setCell ⟨gb828, 0, none⟩ (.int .i64 t822)).setCell ⟨gb828, 1, none⟩ (.int .i64 t823)).setCell ⟨gb828, 2, none⟩ (.int .i64 t824)).setCell ⟨gb828, 3, none⟩ (.slice Ao14 t825.length co14)).heap[gb821]? = some (.cells #[.int .i64 t813, .int .i64 t814, .int .i64 t815, .slice Ao9 t816.length co9] 26 (0, 0))) := ⟨by refine qB ?_; refine blk_far ?_ NB821_828.out _; refine qB ?_; refine blk_far ?_ NB821_828.out _; refine qB ?_; refine blk_far ?_ NB821_828.out _; refine qB ?_; refine blk_far ?_ NB821_828.out _; refine qB ?_; exact BK821.out⟩
  have n3_ : Aside0 (((((w11.setCell ⟨gb828, 0, none⟩ (.int .i64 t822)).setCell ⟨gb828, 1, none⟩ (.int .i64 t823)).setCell ⟨gb828, 2, none⟩ (.int .i64 t824)).setCell ⟨gb828, 3, none⟩ (.slice Ao14 t825.length co14)).heap[gb828]? = some (.cells #[.int .i64 t822, .int .i64 t823, .int .i64 t824, .slice Ao14 t825.length co14] 26 (0, 0))) := ⟨by exact bP BK828.out⟩
  have n4_ : Aside0 (Below w.heap.size w ((((w11.setCell ⟨gb828, 0, none⟩ (.int .i64 t822)).setCell ⟨gb828, 1, none⟩ (.int .i64 t823)).setCell ⟨gb828, 2, none⟩ (.int .i64 t824)).setCell ⟨gb828, 3, none⟩ (.slice Ao14 t825.length co14))) := ⟨by exact qW HB.out⟩
  (try clear HO818)
  (try clear HO827)
  (try clear BK821)
  (try clear BK828)
  (try clear HB)
  generalize ((((w11.setCell ⟨gb828, 0, none⟩ (.int .i64 t822)).setCell ⟨gb828, 1, none⟩ (.int .i64 t823)).setCell ⟨gb828, 2, none⟩ (.int .i64 t824)).setCell ⟨gb828, 3, none⟩ (.slice Ao14 t825.length co14)) = w30 at n0_ n1_ n2_ n3_ n4_ ⊢
  have HO818 := n0_
  have HO827 := n1_
  have BK821 := n2_
  have BK828 := n3_
  have HB := n4_
  clear n0_ n1_ n2_ n3_ n4_
  replace HO818 := aM (Kd.Q_drew HO818.out)
  replace HO827 := aM (Kd.R_drew HO827.out)
  replace BK821 := aM (blk_drew BK821.out)
  replace BK828 := aM (blk_drew BK828.out)
  replace HB := aM (below_drew1 HB.out)
  refine start_ (n := 24) (S := fun w' => w'.cell? ⟨gb828, 0, none⟩ = some (.int .i64 t822) ∧ w'.cell? ⟨gb828, 1, none⟩ = some (.int .i64 t823) ∧ w'.cell? ⟨gb828, 2, none⟩ = some (.int .i64 t824) ∧ w'.cell? ⟨gb828, 3, none⟩ = some (.slice Ao14 t825.length co14) ∧ w'.cell? ⟨gb821, 0, none⟩ = some (.int .i64 t813) ∧ w'.cell? ⟨gb821, 1, none⟩ = some (.int .i64 t814) ∧ w'.cell? ⟨gb821, 2, none⟩ = some (.int .i64 t815) ∧ w'.cell? ⟨gb821, 3, none⟩ = some (.slice Ao9 t816.length co9)) (ds := []) (bA 24 0) (by kernel_rfl) rfl rfl ⟨(blk_cell BK828.out 0).trans rfl, (blk_cell BK828.out 1).trans rfl, (blk_cell BK828.out 2).trans rfl, (blk_cell BK828.out 3).trans rfl, (blk_cell BK821.out 0).trans rfl, (blk_cell BK821.out 1).trans rfl, (blk_cell BK821.out 2).trans rfl, (blk_cell BK821.out 3).trans rfl⟩ (fun hHeld => ?_); refine with_tabW laws_FnScaleAreaTwice.tab5 laws_FnScaleAreaTwice.bits5 (fun HT_ HW_ => ?_)
  generalize w30.drew = w31 at HO818 HO827 BK821 BK828 HB hHeld ⊢
  refine pQ 2 22 HT_ (bA 24 4) ?_
  refine pQ 3 23 HT_ (bA 24 12) ?_
  refine take_ (i := 0) (N := some 20) (v := ?_) (a' := ?_) (bA 24 13) rfl rfl (take_ofW HT_.out HW_.out (by kernel_rfl)) (fun _ _ _ h => h) (Or.inl ⟨by rfl, ?_⟩) hHeld ?_ ?_
  rotate_left
  ·rintro w' ⟨s0, s1, s2, s3, s4, s5, s6, s7⟩
   go_simp
   with_reducible rfl
  rotate_left
  ·refine pZ ?_
   rfl
  refine take_ (i := 1) (N := some 21) (v := ?_) (a' := ?_) (bA 24 15) rfl rfl (take_ofW HT_.out HW_.out (by kernel_rfl)) (fun _ _ _ h => h) (Or.inl ⟨by rfl, ?_⟩) hHeld ?_ ?_
  rotate_left
  ·rintro w' ⟨s0, s1, s2, s3, s4, s5, s6, s7⟩
   go_simp
   with_reducible rfl
  rotate_left
  ·refine pZ ?_
   rfl
  refine one_ (i := 4) (N := some 24) (bA 24 31) rfl rfl (one_of HT_.out (by kernel_rfl)) (by decide) (fun K hK => ?_)
  refine goes_ Try.func32 (by kernel_rfl) rfl #[.agg #[.int .i64 t813, .int .i64 t814, .int .i64 t815, .slice Ao9 t816.length co9], .int .i64 t819, .int .i64 t820] (by rfl) rfl rfl qM ?_
  with_reducible refine (spec_ScaleArea.calls k t813 t814 t815 _ _ t816 t819 t820 t829 t830 t831 t832 _ ?side1 ?side2 A15.out).mono ?_
  (case side1 => exact qC (Kd.Q_reads' HO818.out).2.2)
  (case side2 => exact (Kd.Q_reads' HO818.out).2.1)
  rintro e w32 ⟨v833, rfl, ho0, hb⟩
  refine ⟨_, rfl, ?_⟩
  have HO834 := aM (Kd.R_lower (Kd.R_new' (Kd.R_new' ho0 (Kd.Q_lt (qQ HO818.out))) (Kd.R_lt (qR HO827.out))) (below_size (qW HB.out)))
  replace HO818 := aM (Kd.Q_elder' (qQ HO818.out) (Kd.R_base ho0) hb)
  replace HO827 := aM (Kd.R_elder' (qR HO827.out) (Kd.R_base ho0) hb)
  replace BK821 := bB BK821 hb
  replace BK828 := bB BK828 hb
  replace HB := bS HB hb
  (try clear hb)
  (try clear hb2)
  (try clear hk)
  (try clear hi)
  (try clear ho0)
  obtain ⟨Ao33, co33, eo33⟩ := Kd.R_slice HO834.out
  (first | subst eo33 | (injection eo33 with f1_ f2_ f3_; have f4_ := f1_.symm; have f5_ := f3_.symm; clear f1_ f2_ f3_; subst f4_; subst f5_))
  refine hK.out _ _ ⟨(blk_cell BK828.out 0).trans rfl, (blk_cell BK828.out 1).trans rfl, (blk_cell BK828.out 2).trans rfl, (blk_cell BK828.out 3).trans rfl, (blk_cell BK821.out 0).trans rfl, (blk_cell BK821.out 1).trans rfl, (blk_cell BK821.out 2).trans rfl, (blk_cell BK821.out 3).trans rfl⟩ (fun hHeld => ?_)
  clear hK K
  refine norm_ (a' := ?_) ?_ ?_
  rotate_left
  ·show Act.put _ (some 24) _ = _
   refine pZ ?_
   rfl
  refine one_ (i := 5) (N := some 25) (bA 24 63) rfl rfl (one_of HT_.out (by kernel_rfl)) (by decide) (fun K hK => ?_)
  refine goes_ Try.func23 (by kernel_rfl) rfl #[.agg #[.int .i64 t822, .int .i64 t823, .int .i64 t824, .slice Ao14 t825.length co14], .agg #[.int .i64 t829, .int .i64 t830, .int .i64 t831, .slice Ao33 t832.length co33]] (by rfl) rfl rfl qM ?_
  with_reducible refine (laws_equalImage.calls k t822 t823 t824 _ _ t825 t829 t830 t831 _ _ t832 true _ ?side1 ?side2 ?side3 ?side4 A16.out).mono ?_
  (case side1 => exact qC (Kd.R_reads' HO827.out).2.2)
  (case side2 => exact (Kd.R_reads' HO827.out).2.1)
  (case side3 => exact qC (Kd.R_reads' HO834.out).2.2)
  (case side4 => exact (Kd.R_reads' HO834.out).2.1)
  rintro e w34 ⟨rfl, hb⟩
  refine ⟨_, rfl, ?_⟩
  replace HO818 := aM (Kd.Q_below (qQ HO818.out) hb)
  replace HO827 := aM (Kd.R_below (qR HO827.out) hb)
  replace HO834 := aM (Kd.R_below (qR HO834.out) hb)
  replace BK821 := bB BK821 hb
  replace BK828 := bB BK828 hb
  replace HB := bS HB hb
  (try clear hb)
  (try clear hb2)
  (try clear hk)
  (try clear hi)
  refine hK.out _ _ ⟨(blk_cell BK828.out 0).trans rfl, (blk_cell BK828.out 1).trans rfl, (blk_cell BK828.out 2).trans rfl, (blk_cell BK828.out 3).trans rfl, (blk_cell BK821.out 0).trans rfl, (blk_cell BK821.out 1).trans rfl, (blk_cell BK821.out 2).trans rfl, (blk_cell BK821.out 3).trans rfl⟩ (fun hHeld => ?_)
  clear hK K
  refine norm_ (a' := ?_) ?_ ?_
  rotate_left
  ·show Act.put _ (some 25) _ = _
   refine pZ ?_
   rfl
  refine pQ 6 26 HT_ (bA 24 127) ?_
  refine pQ 7 27 HT_ (bA 24 255) ?_
  refine pQ 8 28 HT_ (bA 24 511) ?_
  refine take_ (i := 9) (N := some 29) (v := ?_) (a' := ?_) (bA 24 1023) rfl rfl (take_ofW HT_.out HW_.out (by kernel_rfl)) (fun _ _ _ h => h) (Or.inl ⟨by rfl, ?_⟩) hHeld ?_ ?_
  rotate_left
  ·rintro w' ⟨s0, s1, s2, s3, s4, s5, s6, s7⟩
   go_simp
   with_reducible rfl
  rotate_left
  ·refine pZ ?_
   rfl
  refine pQ 10 30 HT_ (bA 24 2047) ?_
  refine pQ 11 31 HT_ (bA 24 4095) ?_
  refine pQ 12 32 HT_ (bA 24 8191) ?_
  refine pQ 13 33 HT_ (bA 24 16383) ?_
  refine take_ (i := 14) (N := some 34) (v := ?_) (a' := ?_) (bA 24 32767) rfl rfl (take_ofW HT_.out HW_.out (by kernel_rfl)) (fun _ _ _ h => h) (Or.inl ⟨by rfl, ?_⟩) hHeld ?_ ?_
  rotate_left
  ·rintro w' ⟨s0, s1, s2, s3, s4, s5, s6, s7⟩
   go_simp
   with_reducible rfl
  rotate_left
  ·refine pZ ?_
   rfl
  refine pQ 15 35 HT_ (bA 24 65535) ?_
  refine pQ 16 36 HT_ (bA 24 131071) ?_
  refine pQ 17 37 HT_ (bA 24 262143) ?_
  refine pQ 18 38 HT_ (bA 24 524287) ?_
  refine pQ 19 39 HT_ (bA 24 1048575) ?_
  refine take_ (i := 20) (N := some 40) (v := ?_) (a' := ?_) (bA 24 2097151) rfl rfl (take_ofW HT_.out HW_.out (by kernel_rfl)) (fun _ _ _ h => h) (Or.inl ⟨by rfl, ?_⟩) hHeld ?_ ?_
  rotate_left
  ·rintro w' ⟨s0, s1, s2, s3, s4, s5, s6, s7⟩
   go_simp
   with_reducible rfl
  rotate_left
  ·refine pZ ?_
   rfl
  refine pQ 21 41 HT_ (bA 24 4194303) ?_
  refine pQ 22 42 HT_ (bA 24 8388607) ?_
  refine pQ 23 43 HT_ (bA 24 16777215) ?_
  refine done_ (done_of HT_.out (by kernel_rfl)) ?_
  try go_wp2
  go_meet
  case rel => exact ⟨_, (decide ((wrap64 (2 * t814)) > 16)), qE, H', ⟨by first | omega | exact Nat.le_refl _⟩, ⟨by (with_reducible repeat (first | apply Kd.Q_alloc | apply Kd.Q_drewN | apply Kd.Q_drew)); exact Kd.Q_mono HO818.out (fun _ hk => hk.1)⟩, ⟨Kd.Q_of_R (by refine qR ?_; exact Kd.R_mono HO827.out (fun _ hk => hk.1))⟩, ⟨by refine qB ?_; exact BK821.out⟩, ⟨by refine qB ?_; exact BK828.out⟩, ⟨by exact qW HB.out⟩⟩
 case rest =>
  clear HC5
  try clear c2
  try clear c17
  try clear c24
  try clear c24b0
  obtain ⟨kq, x43_4, rfl, HA, HJ4, HO_822003, HO_829003, BK821, BK828, HB⟩ := hcut
  cases kq with
  | zero => exact absurd HA.out (by simp [laws_FnScaleAreaTwice.j0])
  | succ kj4 =>
   have H := HA.out
   clear HA
   simp only [laws_FnScaleAreaTwice.j0] at H
   by_cases c40 : x43_4 = true
   ·subst c40
    have H1 : ((spec_ScaleArea.f kj4 t813 t814 t815 t816 t819 t820).bind fun bt836 => ((laws_equalImage.f kj4 t822 t823 t824 t825 bt836.1 bt836.2.1 bt836.2.2.1 bt836.2.2.2).bind fun t842 => (some t842))) = some r := by rw [if_pos rfl] at H; exact H
    clear H
    have H := H1
    clear H1
    replace H := Option.bind_eq_some_iff.mp H
    obtain ⟨⟨t836, t837, t838, t839⟩, A410, H⟩ := H
    replace H : ((laws_equalImage.f kj4 t822 t823 t824 t825 t836 t837 t838 t839).bind fun t842 => (some t842)) = some r := H
    have A41 := aM A410
    clear A410
    replace H := Option.bind_eq_some_iff.mp H
    obtain ⟨t842, A420, H⟩ := H
    replace H : (some t842) = some r := H
    have A42 := aM A420
    clear A420
    obtain rfl := Option.some.inj H
    try go_wp2
    replace HO_822003 := aM (Kd.Q_drew HO_822003.out)
    replace HO_829003 := aM (Kd.Q_drew HO_829003.out)
    replace BK821 := aM (blk_drew BK821.out)
    replace BK828 := aM (blk_drew BK828.out)
    replace HB := aM (below_drew1 HB.out)
    refine start_ (n := 7) (S := fun w' => w'.cell? ⟨gb828, 0, none⟩ = some (.int .i64 t822) ∧ w'.cell? ⟨gb828, 1, none⟩ = some (.int .i64 t823) ∧ w'.cell? ⟨gb828, 2, none⟩ = some (.int .i64 t824) ∧ w'.cell? ⟨gb828, 3, none⟩ = some (.slice Ao14 t825.length co14) ∧ w'.cell? ⟨gb821, 0, none⟩ = some (.int .i64 t813) ∧ w'.cell? ⟨gb821, 1, none⟩ = some (.int .i64 t814) ∧ w'.cell? ⟨gb821, 2, none⟩ = some (.int .i64 t815) ∧ w'.cell? ⟨gb821, 3, none⟩ = some (.slice Ao9 t816.length co9)) (ds := []) (bA 7 0) (by kernel_rfl) rfl rfl ⟨(blk_cell BK828.out 0).trans rfl, (blk_cell BK828.out 1).trans rfl, (blk_cell BK828.out 2).trans rfl, (blk_cell BK828.out 3).trans rfl, (blk_cell BK821.out 0).trans rfl, (blk_cell BK821.out 1).trans rfl, (blk_cell BK821.out 2).trans rfl, (blk_cell BK821.out 3).trans rfl⟩ (fun hHeld => ?_)
    generalize wc.drew = w43 at HO_822003 HO_829003 BK821 BK828 HB hHeld ⊢
    refine pure_ (i := 2) (N := some 46) (v := ?_) (a' := ?_) (bA 7 4) rfl rfl (by kernel_rfl) (fun _ _ _ h => h) (Or.inl ⟨by rfl, ?_⟩) ?_ ?_
    rotate_left
    ·intro w'
     go_simp
     with_reducible rfl
    rotate_left
    ·refine pZ ?_
     rfl
    refine pure_ (i := 3) (N := some 47) (v := ?_) (a' := ?_) (bA 7 12) rfl rfl (by kernel_rfl) (fun _ _ _ h => h) (Or.inl ⟨by rfl, ?_⟩) ?_ ?_
    rotate_left
    ·intro w'
     go_simp
     with_reducible rfl
    rotate_left
    ·refine pZ ?_
     rfl
    refine take_ (i := 0) (N := some 44) (v := ?_) (a' := ?_) (bA 7 13) rfl rfl (by kernel_rfl) (fun _ _ _ h => h) (Or.inl ⟨by rfl, ?_⟩) hHeld ?_ ?_
    rotate_left
    ·rintro w' ⟨s0, s1, s2, s3, s4, s5, s6, s7⟩
     go_simp
     with_reducible rfl
    rotate_left
    ·refine pZ ?_
     rfl
    refine take_ (i := 1) (N := some 45) (v := ?_) (a' := ?_) (bA 7 15) rfl rfl (by kernel_rfl) (fun _ _ _ h => h) (Or.inl ⟨by rfl, ?_⟩) hHeld ?_ ?_
    rotate_left
    ·rintro w' ⟨s0, s1, s2, s3, s4, s5, s6, s7⟩
     go_simp
     with_reducible rfl
    rotate_left
    ·refine pZ ?_
     rfl
    refine one_ (i := 4) (N := some 48) (bA 7 31) rfl rfl (by kernel_rfl) (by decide) (fun K hK => ?_)
    refine goes_ Try.func32 (by kernel_rfl) rfl #[.agg #[.int .i64 t813, .int .i64 t814, .int .i64 t815, .slice Ao9 t816.length co9], .int .i64 t819, .int .i64 t820] (by rfl) rfl rfl qM ?_
    with_reducible refine (spec_ScaleArea.calls kj4 t813 t814 t815 _ _ t816 t819 t820 t836 t837 t838 t839 _ ?side1 ?side2 A41.out).mono ?_
    (case side1 => exact qC (Kd.Q_reads' HO_822003.out).2.2)
    (case side2 => exact (Kd.Q_reads' HO_822003.out).2.1)
    rintro e w44 ⟨v840, rfl, ho0, hb⟩
    refine ⟨_, rfl, ?_⟩
    have HO841 := aM (Kd.R_lower (Kd.R_new' (Kd.R_new' ho0 (Kd.Q_lt (qQ HO_822003.out))) (Kd.Q_lt (qQ HO_829003.out))) (below_size (qW HB.out)))
    replace HO_822003 := aM (Kd.Q_elder' (qQ HO_822003.out) (Kd.R_base ho0) hb)
    replace HO_829003 := aM (Kd.Q_elder' (qQ HO_829003.out) (Kd.R_base ho0) hb)
    replace BK821 := bB BK821 hb
    replace BK828 := bB BK828 hb
    replace HB := bS HB hb
    (try clear hb)
    (try clear hb2)
    (try clear hk)
    (try clear hi)
    (try clear ho0)
    obtain ⟨Ao45, co45, eo45⟩ := Kd.R_slice HO841.out
    (first | subst eo45 | (injection eo45 with f1_ f2_ f3_; have f4_ := f1_.symm; have f5_ := f3_.symm; clear f1_ f2_ f3_; subst f4_; subst f5_))
    refine hK.out _ _ ⟨(blk_cell BK828.out 0).trans rfl, (blk_cell BK828.out 1).trans rfl, (blk_cell BK828.out 2).trans rfl, (blk_cell BK828.out 3).trans rfl, (blk_cell BK821.out 0).trans rfl, (blk_cell BK821.out 1).trans rfl, (blk_cell BK821.out 2).trans rfl, (blk_cell BK821.out 3).trans rfl⟩ (fun hHeld => ?_)
    clear hK K
    refine norm_ (a' := ?_) ?_ ?_
    rotate_left
    ·show Act.put _ (some 48) _ = _
     refine pZ ?_
     rfl
    refine one_ (i := 5) (N := some 49) (bA 7 63) rfl rfl (by kernel_rfl) (by decide) (fun K hK => ?_)
    refine goes_ Try.func23 (by kernel_rfl) rfl #[.agg #[.int .i64 t822, .int .i64 t823, .int .i64 t824, .slice Ao14 t825.length co14], .agg #[.int .i64 t836, .int .i64 t837, .int .i64 t838, .slice Ao45 t839.length co45]] (by rfl) rfl rfl qM ?_
    with_reducible refine (laws_equalImage.calls kj4 t822 t823 t824 _ _ t825 t836 t837 t838 _ _ t839 t842 _ ?side1 ?side2 ?side3 ?side4 A42.out).mono ?_
    (case side1 => exact qC (Kd.Q_reads' HO_829003.out).2.2)
    (case side2 => exact (Kd.Q_reads' HO_829003.out).2.1)
    (case side3 => exact qC (Kd.R_reads' HO841.out).2.2)
    (case side4 => exact (Kd.R_reads' HO841.out).2.1)
    rintro e w46 ⟨rfl, hb⟩
    refine ⟨_, rfl, ?_⟩
    replace HO_822003 := aM (Kd.Q_below (qQ HO_822003.out) hb)
    replace HO_829003 := aM (Kd.Q_below (qQ HO_829003.out) hb)
    replace HO841 := aM (Kd.R_below (qR HO841.out) hb)
    replace BK821 := bB BK821 hb
    replace BK828 := bB BK828 hb
    replace HB := bS HB hb
    (try clear hb)
    (try clear hb2)
    (try clear hk)
    (try clear hi)
    refine hK.out _ _ ⟨(blk_cell BK828.out 0).trans rfl, (blk_cell BK828.out 1).trans rfl, (blk_cell BK828.out 2).trans rfl, (blk_cell BK828.out 3).trans rfl, (blk_cell BK821.out 0).trans rfl, (blk_cell BK821.out 1).trans rfl, (blk_cell BK821.out 2).trans rfl, (blk_cell BK821.out 3).trans rfl⟩ (fun hHeld => ?_)
    clear hK K
    refine norm_ (a' := ?_) ?_ ?_
    rotate_left
    ·show Act.put _ (some 49) _ = _
     refine pZ ?_
     rfl
    refine pure_ (i := 6) (N := some 2) (v := ?_) (a' := ?_) (bA 7 127) rfl rfl (by kernel_rfl) (fun _ _ _ h => h) (Or.inl ⟨by rfl, ?_⟩) ?_ ?_
    rotate_left
    ·intro w'
     go_simp
     with_reducible rfl
    rotate_left
    ·refine pZ ?_
     rfl
    refine done_ (by kernel_rfl) ?_
    try go_wp2
    go_ret
    exact ⟨qX, by exact qW HB.out⟩
   replace c40 := Bool.eq_false_iff.mpr c40
   subst c40
   have H1 : ((impl_ScaleArea.f t813 t814 t815 t816 (wrap64 (2 * t813)) (wrap64 (2 * t814))).bind fun bt843 => ((impl_ScaleNearest.f t813 t814 t815 t816 (wrap64 (2 * t813)) (wrap64 (2 * t814))).bind fun bt849 => ((laws_equalImage.f kj4 bt843.1 bt843.2.1 bt843.2.2.1 bt843.2.2.2 bt849.1 bt849.2.1 bt849.2.2.1 bt849.2.2.2).bind fun t855 => (some t855)))) = some r := by rw [if_neg (show ¬ (false = true) by decide)] at H; exact H
   clear H
   have H := H1
   clear H1
   replace H := Option.bind_eq_some_iff.mp H
   obtain ⟨⟨t843, t844, t845, t846⟩, A470, H⟩ := H
   replace H : ((impl_ScaleNearest.f t813 t814 t815 t816 (wrap64 (2 * t813)) (wrap64 (2 * t814))).bind fun bt849 => ((laws_equalImage.f kj4 t843 t844 t845 t846 bt849.1 bt849.2.1 bt849.2.2.1 bt849.2.2.2).bind fun t855 => (some t855))) = some r := H
   have A47 := aM A470
   clear A470
   replace H := Option.bind_eq_some_iff.mp H
   obtain ⟨⟨t849, t850, t851, t852⟩, A480, H⟩ := H
   replace H : ((laws_equalImage.f kj4 t843 t844 t845 t846 t849 t850 t851 t852).bind fun t855 => (some t855)) = some r := H
   have A48 := aM A480
   clear A480
   replace H := Option.bind_eq_some_iff.mp H
   obtain ⟨t855, A490, H⟩ := H
   replace H : (some t855) = some r := H
   have A49 := aM A490
   clear A490
   obtain rfl := Option.some.inj H
   try go_wp2
   replace HO_822003 := aM (Kd.Q_drew HO_822003.out)
   replace HO_829003 := aM (Kd.Q_drew HO_829003.out)
   replace BK821 := aM (blk_drew BK821.out)
   replace BK828 := aM (blk_drew BK828.out)
   replace HB := aM (below_drew1 HB.out)
   refine start_ (n := 18) (S := fun w' => w'.cell? ⟨gb821, 0, none⟩ = some (.int .i64 t813) ∧ w'.cell? ⟨gb821, 1, none⟩ = some (.int .i64 t814) ∧ w'.cell? ⟨gb821, 2, none⟩ = some (.int .i64 t815) ∧ w'.cell? ⟨gb821, 3, none⟩ = some (.slice Ao9 t816.length co9)) (ds := []) (bA 18 0) (by kernel_rfl) rfl rfl ⟨(blk_cell BK821.out 0).trans rfl, (blk_cell BK821.out 1).trans rfl, (blk_cell BK821.out 2).trans rfl, (blk_cell BK821.out 3).trans rfl⟩ (fun hHeld => ?_); refine with_tabW laws_FnScaleAreaTwice.tab7 laws_FnScaleAreaTwice.bits7 (fun HT_ HW_ => ?_)
   generalize wc.drew = w50 at HO_822003 HO_829003 BK821 BK828 HB hHeld ⊢
   refine pQ 1 51 HT_ (bA 18 2) ?_
   refine pQ 4 54 HT_ (bA 18 18) ?_
   refine pQ 9 59 HT_ (bA 18 530) ?_
   refine pQ 12 62 HT_ (bA 18 4626) ?_
   refine take_ (i := 0) (N := some 50) (v := ?_) (a' := ?_) (bA 18 4627) rfl rfl (take_ofW HT_.out HW_.out (by kernel_rfl)) (fun _ _ _ h => h) (Or.inl ⟨by rfl, ?_⟩) hHeld ?_ ?_
   rotate_left
   ·rintro w' ⟨s0, s1, s2, s3⟩
    go_simp
    with_reducible rfl
   rotate_left
   ·refine pZ ?_
    rfl
   refine take_ (i := 2) (N := some 52) (v := ?_) (a' := ?_) (bA 18 4631) rfl rfl (take_ofW HT_.out HW_.out (by kernel_rfl)) (fun _ _ _ h => h) (Or.inl ⟨by rfl, ?_⟩) hHeld ?_ ?_
   rotate_left
   ·rintro w' ⟨s0, s1, s2, s3⟩
    go_simp
    with_reducible rfl
   rotate_left
   ·refine pZ ?_
    rfl
   refine pQ 3 53 HT_ (bA 18 4639) ?_
   refine take_ (i := 5) (N := some 55) (v := ?_) (a' := ?_) (bA 18 4671) rfl rfl (take_ofW HT_.out HW_.out (by kernel_rfl)) (fun _ _ _ h => h) (Or.inl ⟨by rfl, ?_⟩) hHeld ?_ ?_
   rotate_left
   ·rintro w' ⟨s0, s1, s2, s3⟩
    go_simp
    with_reducible rfl
   rotate_left
   ·refine pZ ?_
    rfl
   refine pQ 6 56 HT_ (bA 18 4735) ?_
   refine take_ (i := 8) (N := some 58) (v := ?_) (a' := ?_) (bA 18 4991) rfl rfl (take_ofW HT_.out HW_.out (by kernel_rfl)) (fun _ _ _ h => h) (Or.inl ⟨by rfl, ?_⟩) hHeld ?_ ?_
   rotate_left
   ·rintro w' ⟨s0, s1, s2, s3⟩
    go_simp
    with_reducible rfl
   rotate_left
   ·refine pZ ?_
    rfl
   refine take_ (i := 10) (N := some 60) (v := ?_) (a' := ?_) (bA 18 6015) rfl rfl (take_ofW HT_.out HW_.out (by kernel_rfl)) (fun _ _ _ h => h) (Or.inl ⟨by rfl, ?_⟩) hHeld ?_ ?_
   rotate_left
   ·rintro w' ⟨s0, s1, s2, s3⟩
    go_simp
    with_reducible rfl
   rotate_left
   ·refine pZ ?_
    rfl
   refine pQ 11 61 HT_ (bA 18 8063) ?_
   refine take_ (i := 13) (N := some 63) (v := ?_) (a' := ?_) (bA 18 16255) rfl rfl (take_ofW HT_.out HW_.out (by kernel_rfl)) (fun _ _ _ h => h) (Or.inl ⟨by rfl, ?_⟩) hHeld ?_ ?_
   rotate_left
   ·rintro w' ⟨s0, s1, s2, s3⟩
    go_simp
    with_reducible rfl
   rotate_left
   ·refine pZ ?_
    rfl
   refine pQ 14 64 HT_ (bA 18 32639) ?_
   refine one_ (i := 7) (N := some 57) (bA 18 32767) rfl rfl (one_of HT_.out (by kernel_rfl)) (by decide) (fun K hK => ?_)
   refine goes_ Try.func31 (by kernel_rfl) rfl #[.agg #[.int .i64 t813, .int .i64 t814, .int .i64 t815, .slice Ao9 t816.length co9], .int .i64 (wrap64 (2 * t813)), .int .i64 (wrap64 (2 * t814))] (by rfl) rfl rfl qM ?_
   with_reducible refine (impl_ScaleArea.calls t813 t814 t815 _ _ t816 (wrap64 (2 * t813)) (wrap64 (2 * t814)) t843 t844 t845 t846 _ ?side1 ?side2 A47.out).mono ?_
   (case side1 => exact qC (Kd.Q_reads' HO_822003.out).2.2)
   (case side2 => exact (Kd.Q_reads' HO_822003.out).2.1)
   rintro e w51 ⟨v847, rfl, ho0, hb⟩
   refine ⟨_, rfl, ?_⟩
   have HO848 := aM (Kd.R_lower (Kd.R_new' (Kd.R_new' ho0 (Kd.Q_lt (qQ HO_822003.out))) (Kd.Q_lt (qQ HO_829003.out))) (below_size (qW HB.out)))
   replace HO_822003 := aM (Kd.Q_elder' (qQ HO_822003.out) (Kd.R_base ho0) hb)
   replace HO_829003 := aM (Kd.Q_elder' (qQ HO_829003.out) (Kd.R_base ho0) hb)
   replace BK821 := bB BK821 hb
   replace BK828 := bB BK828 hb
   replace HB := bS HB hb
   (try clear hb)
   (try clear hb2)
   (try clear hk)
   (try clear hi)
   (try clear ho0)
   refine hK.out _ _ ⟨(blk_cell BK821.out 0).trans rfl, (blk_cell BK821.out 1).trans rfl, (blk_cell BK821.out 2).trans rfl, (blk_cell BK821.out 3).trans rfl⟩ (fun hHeld => ?_)
   clear hK K
   refine norm_ (a' := ?_) ?_ ?_
   rotate_left
   ·show Act.put _ (some 57) _ = _
    refine pZ ?_
    rfl
   refine one_ (i := 15) (N := some 65) (bA 18 65535) rfl rfl (one_of HT_.out (by kernel_rfl)) (by decide) (fun K hK => ?_)
   refine goes_ Try.func28 (by kernel_rfl) rfl #[.agg #[.int .i64 t813, .int .i64 t814, .int .i64 t815, .slice Ao9 t816.length co9], .int .i64 (wrap64 (2 * t813)), .int .i64 (wrap64 (2 * t814))] (by rfl) rfl rfl qM ?_
   with_reducible refine (impl_ScaleNearest.calls t813 t814 t815 _ _ t816 (wrap64 (2 * t813)) (wrap64 (2 * t814)) t849 t850 t851 t852 _ ?side1 ?side2 A48.out).mono ?_
   (case side1 => exact qC (Kd.Q_reads' HO_822003.out).2.2)
   (case side2 => exact (Kd.Q_reads' HO_822003.out).2.1)
   rintro e w52 ⟨v853, rfl, ho0, hb⟩
   refine ⟨_, rfl, ?_⟩
   have HO854 := aM (Kd.R_lower (Kd.R_new' (Kd.R_new' (Kd.R_new' ho0 (Kd.Q_lt (qQ HO_822003.out))) (Kd.Q_lt (qQ HO_829003.out))) (Kd.R_lt (qR HO848.out))) (below_size (qW HB.out)))
   replace HO_822003 := aM (Kd.Q_elder' (qQ HO_822003.out) (Kd.R_base ho0) hb)
   replace HO_829003 := aM (Kd.Q_elder' (qQ HO_829003.out) (Kd.R_base ho0) hb)
   replace HO848 := aM (Kd.R_elder' (qR HO848.out) (Kd.R_base ho0) hb)
   replace BK821 := bB BK821 hb
   replace BK828 := bB BK828 hb
   replace HB := bS HB hb
   (try clear hb)
   (try clear hb2)
   (try clear hk)
   (try clear hi)
   (try clear ho0)
   obtain ⟨Ao53, co53, eo53⟩ := Kd.R_slice HO848.out
   (first | subst eo53 | (injection eo53 with f1_ f2_ f3_; have f4_ := f1_.symm; have f5_ := f3_.symm; clear f1_ f2_ f3_; subst f4_; subst f5_))
   obtain ⟨Ao54, co54, eo54⟩ := Kd.R_slice HO854.out
   (first | subst eo54 | (injection eo54 with f1_ f2_ f3_; have f4_ := f1_.symm; have f5_ := f3_.symm; clear f1_ f2_ f3_; subst f4_; subst f5_))
   refine hK.out _ _ ⟨(blk_cell BK821.out 0).trans rfl, (blk_cell BK821.out 1).trans rfl, (blk_cell BK821.out 2).trans rfl, (blk_cell BK821.out 3).trans rfl⟩ (fun hHeld => ?_)
   clear hK K
   refine norm_ (a' := ?_) ?_ ?_
   rotate_left
   ·show Act.put _ (some 65) _ = _
    refine pZ ?_
    rfl
   refine one_ (i := 16) (N := some 66) (bA 18 131071) rfl rfl (one_of HT_.out (by kernel_rfl)) (by decide) (fun K hK => ?_)
   refine goes_ Try.func23 (by kernel_rfl) rfl #[.agg #[.int .i64 t843, .int .i64 t844, .int .i64 t845, .slice Ao53 t846.length co53], .agg #[.int .i64 t849, .int .i64 t850, .int .i64 t851, .slice Ao54 t852.length co54]] (by rfl) rfl rfl qM ?_
   with_reducible refine (laws_equalImage.calls kj4 t843 t844 t845 _ _ t846 t849 t850 t851 _ _ t852 t855 _ ?side1 ?side2 ?side3 ?side4 A49.out).mono ?_
   (case side1 => exact qC (Kd.R_reads' HO848.out).2.2)
   (case side2 => exact (Kd.R_reads' HO848.out).2.1)
   (case side3 => exact qC (Kd.R_reads' HO854.out).2.2)
   (case side4 => exact (Kd.R_reads' HO854.out).2.1)
   rintro e w55 ⟨rfl, hb⟩
   refine ⟨_, rfl, ?_⟩
   replace HO_822003 := aM (Kd.Q_below (qQ HO_822003.out) hb)
   replace HO_829003 := aM (Kd.Q_below (qQ HO_829003.out) hb)
   replace HO848 := aM (Kd.R_below (qR HO848.out) hb)
   replace HO854 := aM (Kd.R_below (qR HO854.out) hb)
   replace BK821 := bB BK821 hb
   replace BK828 := bB BK828 hb
   replace HB := bS HB hb
   (try clear hb)
   (try clear hb2)
   (try clear hk)
   (try clear hi)
   refine hK.out _ _ ⟨(blk_cell BK821.out 0).trans rfl, (blk_cell BK821.out 1).trans rfl, (blk_cell BK821.out 2).trans rfl, (blk_cell BK821.out 3).trans rfl⟩ (fun hHeld => ?_)
   clear hK K
   refine norm_ (a' := ?_) ?_ ?_
   rotate_left
   ·show Act.put _ (some 66) _ = _
    refine pZ ?_
    rfl
   refine pQ 17 2 HT_ (bA 18 262143) ?_
   refine done_ (done_of HT_.out (by kernel_rfl)) ?_
   try go_wp2
   go_ret
   exact ⟨qX, by exact qW HB.out⟩
def laws_FnScaleAreaTwice.Pure : Prop := ∀ (l0 : List Int), l0.length ≤ maxLen → l0.length * 1 ≤ 140737488351232 → (∀ x ∈ l0, (Lit.int .u8 x).wf = true) → ∃ k, laws_FnScaleAreaTwice.f k l0 = some true
theorem laws_FnScaleAreaTwice.walk (P : laws_FnScaleAreaTwice.Pure) (a0 : Option Addr) (len0 cap0 : Nat) (z0 : List Int) (w : World) (w0 : (a0 = none ∧ len0 = 0 ∧ cap0 = 0 ∧ z0 = []) ∨ ∃ x, a0 = some x ∧ len0 ≤ cap0 ∧ cap0 ≤ maxLen ∧ z0.length = cap0 ∧ (∀ i, i < z0.length → w.cell? (x.add i) = some (.int .u8 (z0.getD i 0))) ∧ ∀ n ∈ z0, (Lit.int .u8 n).wf = true) (y0 : len0 * 1 ≤ 140737488351232) :
  Calls Try.prog 11 #[.slice a0 len0 cap0] w fun e w' => e = .returned (.bool true) ∧ Below w.heap.size w w' := by
 obtain ⟨l0, rfl, hr0, hm0, hw0, hc0⟩ := ReadsInt.ofRowC w0
 obtain ⟨k, h⟩ := P l0 hm0 y0 hw0
 refine (laws_FnScaleAreaTwice.calls k _ _ l0 true w (Kd.C_of_reads (d := (0 : Int)) (h1 := fun _ => rfl) hr0) hc0 h).mono ?_
 rintro e w' ⟨rfl, hd⟩
 exact ⟨rfl, hd⟩
end Go.Proofs.Ytnamhlcdlbjcfaa.P
