/- Contracts and row, written by a program of this place out of the translation: the call answers true and its argument reads as before, for every input; no condition. -/
import Derived.Test.YteeeedmmcdlhjaaK0
import Derived.Test.YteeeedmmcdlhjaaK1
import Derived.Test.YteeeedmmcdlhjaaK3
import Derived.Test.YteeeedmmcdlhjaaK4
namespace Go.Proofs.Yteeeedmmcdlhjaa.P
open Go.RowKit Go.Proofs.YteeeedmmcdlhjaaW.PrintWords Go.Proofs.YteeeedmmcdlhjaaW.PrintLast Go.Proofs.YteeeedmmcdlhjaaW.PrintMore
attribute [local go_sem] max2_int min2_int max_two min_two max_three min_three max_four min_four   -- for this text's walks alone
set_option linter.unusedVariables false
set_option linter.unusedSimpArgs false
def spec_DrawDiffuseImage.f (k : Nat) (l0 : List Int) : Option (Int × Int × Int × List Int × Int) := (spec_newReader.f l0).bind fun bt427 => ((spec_grayImage.f k bt427.1 bt427.2).bind fun bt430 => ((spec_anyLevels.f k bt427.1 bt430.2.2.2.2).bind fun bt438 => (some (bt430.1, bt430.2.1, bt430.2.2.1, bt430.2.2.2.1, bt438.1))))
theorem spec_DrawDiffuseImage.mono : ∀ a0 k, LeO (spec_DrawDiffuseImage.f k a0) (spec_DrawDiffuseImage.f (k + 1) a0) := by
 intro a0 k
 unfold spec_DrawDiffuseImage.f
 repeat' first | (with_reducible first | exact spec_anyLevels.mono _ _ _ | exact spec_grayImage.mono _ _ _ | exact lR | exact lN | refine lI ?_ ?_ | refine lB ?_ fun _ => ?_) | exact spec_anyLevels.mono _ _ _ | exact spec_grayImage.mono _ _ _ | exact lN | refine lI ?_ ?_ | refine lB ?_ fun _ => ?_
set_option maxHeartbeats 8000000 in
set_option maxRecDepth 100000 in
theorem spec_DrawDiffuseImage.calls (k : Nat) (A0 : Option Addr) (c0 : Nat) (l0 : List Int) (r1 : Int) (r2 : Int) (r3 : Int) (r4 : List Int) (r5 : Int) (w : World) (hr0 : Kd.C (Kd.int .u8) w A0 l0.length l0) (hc0 : l0.length ≤ c0) (h : spec_DrawDiffuseImage.f k l0 = some (r1, r2, r3, r4, r5)) :
  Calls Try.prog 29 #[.slice A0 l0.length c0] w fun e w' => ∃ v3_ : Value, e = .returned (.tuple #[.agg #[.int .i64 r1, .int .i64 r2, .int .i64 r3, v3_], .int .i64 r5]) ∧ Kd.Q (Kd.int .i64) 3 w' w.heap.size (fun _ => True) v3_ r4 ∧ Below w.heap.size w w' := by
 have hu27 := Try.underlying27
 have HR0 := aM hr0
 have HC0 := aM hc0
 clear hr0 hc0
 have HB := aM (Below.refl w.heap.size w)
 unfold spec_DrawDiffuseImage.f at h
 have H := h
 clear h
 replace H := Option.bind_eq_some_iff.mp H
 obtain ⟨⟨t427, t428⟩, A20, H⟩ := H
 replace H : ((spec_grayImage.f k t427 t428).bind fun bt430 => ((spec_anyLevels.f k t427 bt430.2.2.2.2).bind fun bt438 => (some (bt430.1, bt430.2.1, bt430.2.2.1, bt430.2.2.2.1, bt438.1)))) = some (r1, r2, r3, r4, r5) := H
 have A2 := aM A20
 clear A20
 replace H := Option.bind_eq_some_iff.mp H
 obtain ⟨⟨t430, t431, t432, t433, t436⟩, A30, H⟩ := H
 replace H : ((spec_anyLevels.f k t427 t436).bind fun bt438 => (some (t430, t431, t432, t433, bt438.1))) = some (r1, r2, r3, r4, r5) := H
 have A3 := aM A30
 clear A30
 replace H := Option.bind_eq_some_iff.mp H
 obtain ⟨⟨t438, t439⟩, A40, H⟩ := H
 replace H : (some (t430, t431, t432, t433, t438)) = some (r1, r2, r3, r4, r5) := H
 have A4 := aM A40
 clear A40
 simp only [Option.some.injEq, Prod.mk.injEq] at H
 obtain ⟨rfl, rfl, rfl, rfl, rfl⟩ := H
 go_enter Try.func29, Try.ntmps29
 try go_wp2_with (first | ((with_reducible refine gate_dst (N := 2) rfl ?_); refine bxE (N := 2) (cs := #[.int .i64 0, .int .i64 0, .int .i64 0, .slice none 0 0]) (t := 27) ?_; intro gb426 hg w5 hbox hb; have BK426 := aM (hbox); have GW426 := gW hg HB; have GE426 := gW hg HB; replace HB := bS HB hb; clear hb hbox hg) | ((with_reducible refine gate_callee (f := 42) rfl ?_); refine gL (some 7) Try.func42 #[.slice A0 l0.length c0] ?_; (with_reducible refine (spec_newReader.calls _ _ l0 t427 t428 w _ ?side1 ?side2 ?side3 A2.out).mono ?_); (case side1 => exact qW HB.out); (case side2 => exact HR0.out); (case side3 => exact HC0.out); rintro e w6 ⟨g429, rfl, hi, hb, hb2⟩; refine ⟨_, rfl, ?_⟩; replace HB := aM (hb); have HI429 := aM (hi); have NB429_426 := aM (IsS85.ne_blk hi (blk_below (g := gb426) (o := .cells #[.int .i64 0, .int .i64 0, .int .i64 0, .slice none 0 0] 27 (0, 0)) (qB BK426.out) hb2) (by decide)); have NB426_429 := aM (Ne.symm (IsS85.ne_blk hi (blk_below (g := gb426) (o := .cells #[.int .i64 0, .int .i64 0, .int .i64 0, .slice none 0 0] 27 (0, 0)) (qB BK426.out) hb2) (by decide))); replace BK426 := bB BK426 hb2; clear hb hb2 hi) | ((with_reducible refine gate_callee (f := 46) rfl ?_); refine gL (some 9) Try.func46 #[.pointer (some ⟨g429, 0, none⟩)] ?_; (with_reducible refine (spec_grayImage.calls k g429 t427 t428 t430 t431 t432 t433 t436 w _ ?side1 ?side2 A3.out).mono ?_); (case side1 => exact iS85 HI429.out); (case side2 => exact wS85 HB.out); rintro e w7 ⟨v434, rfl, ho0, hi, hb, hk⟩; refine ⟨_, rfl, ?_⟩; replace BK426 := bK hk BK426 NB426_429; have HO435 := aM (Kd.Q_lower ho0 (below_size (wS85 HB.out))); replace HB := aM (hb); replace HI429 := aM (hi); clear hb hk hi ho0) | ((with_reducible refine gate_dst (N := 5) rfl ?_); refine bxE (N := 5) (cs := #[.int .i64 0, .int .i64 0, .int .i64 0, .slice none 0 0]) (t := 27) ?_; intro gb437 hg w8 hbox hb; replace HO435 := aM (Kd.Q_below (qQ HO435.out) hb); have BK437 := aM (hbox); have GW437 := aM ((by rw [hg]; exact (below_size (wS85 HB.out)) : w.heap.size ≤ gb437)); have GE437 := aM ((by rw [hg]; exact (below_size (wS85 HB.out)) : w.heap.size ≤ gb437)); replace HB := aM (below_step (wS85 HB.out) hb); have NB426_437 := nL hg BK426; have NB437_426 := nG hg BK426; replace BK426 := bB BK426 hb; have NB429_437 := aM ((by rw [hg]; exact Nat.ne_of_lt (IsS85.lt (show IsS85 w _ g429 t427 t436 from iS85 HI429.out)) : g429 ≠ gb437)); have NB437_429 := aM ((by rw [hg]; exact Nat.ne_of_gt (IsS85.lt (show IsS85 w _ g429 t427 t436 from iS85 HI429.out)) : gb437 ≠ g429)); replace HI429 := aM (IsS85.below (iS85 HI429.out) hb); clear hb hbox hg; have hnb9 := NB437_426.out; have hnc9 := NB426_437.out; have hnb10 := NB437_429.out; have hnc10 := NB429_437.out; obtain ⟨⟨hcz11_0, hcz11_1, hcz11_2, hcz11_3⟩, hfz11_0, hfz11_1, hfz11_2, hfz11_3⟩ := cf4 BK437; obtain ⟨Ao12, co12, eo12, _⟩ := Kd.Q_slice HO435.out; subst eo12))
 have n0_ : Aside0 (Kd.Q (Kd.int .i64) 3 ((((w8.setCell ⟨gb437, 0, none⟩ (.int .i64 t430)).setCell ⟨gb437, 1, none⟩ (.int .i64 t431)).setCell ⟨gb437, 2, none⟩ (.int .i64 t432)).setCell ⟨gb437, 3, none⟩ (.slice Ao12 t433.length co12)) w.heap.size (fun _ => True) (.slice Ao12 t433.length co12) t433) := ⟨by (with_reducible repeat (first | apply Kd.Q_alloc | apply Kd.Q_drewN | apply Kd.Q_drew)); exact Kd.Q_mono (qT HO435 BK437) (fun _ hk => trivial)⟩
 have n1_ : Aside0 (((((w8.setCell ⟨gb437, 0, none⟩ (.int .i64 t430)).setCell ⟨gb437, 1, none⟩ (.int .i64 t431)).setCell ⟨gb437, 2, none⟩ (.int .i64 t432)).setCell ⟨gb437, 3, none⟩ (.slice Ao12 t433.length co12)).heap[gb426]? = some (.cells #[.int .i64 0, .int .i64 0, .int .i64 0, .slice none 0 0] 27 (0, 0))) := ⟨by refine qB ?_; refine blk_far ?_ NB426_437.out _; refine qB ?_; refine blk_far ?_ NB426_437.out _; refine qB ?_; refine blk_far ?_ NB426_437.out _; refine qB ?_; refine blk_far ?_ NB426_437.out _; refine qB ?_; exact BK426.out⟩
 have n2_ : Aside0 (((((w8.setCell ⟨gb437, 0, none⟩ (.int .i64 t430)).setCell ⟨gb437, 1, none⟩ (.int .i64 t431)).setCell ⟨gb437, 2, none⟩ (.int .i64 t432)).setCell ⟨gb437, 3, none⟩ (.slice Ao12 t433.length co12)).heap[gb437]? = some (.cells #[.int .i64 t430, .int .i64 t431, .int .i64 t432, .slice Ao12 t433.length co12] 27 (0, 0))) := ⟨by exact bP BK437.out⟩
 have n3_ : Aside0 (IsS85 w ((((w8.setCell ⟨gb437, 0, none⟩ (.int .i64 t430)).setCell ⟨gb437, 1, none⟩ (.int .i64 t431)).setCell ⟨gb437, 2, none⟩ (.int .i64 t432)).setCell ⟨gb437, 3, none⟩ (.slice Ao12 t433.length co12)) g429 t427 t436) := ⟨iS85 HI429.out⟩
 have n4_ : Aside0 (Below w.heap.size w ((((w8.setCell ⟨gb437, 0, none⟩ (.int .i64 t430)).setCell ⟨gb437, 1, none⟩ (.int .i64 t431)).setCell ⟨gb437, 2, none⟩ (.int .i64 t432)).setCell ⟨gb437, 3, none⟩ (.slice Ao12 t433.length co12))) := ⟨wS85 HB.out⟩
 (try clear HO435)
 (try clear BK426)
 (try clear BK437)
 (try clear HI429)
 (try clear HB)
 generalize ((((w8.setCell ⟨gb437, 0, none⟩ (.int .i64 t430)).setCell ⟨gb437, 1, none⟩ (.int .i64 t431)).setCell ⟨gb437, 2, none⟩ (.int .i64 t432)).setCell ⟨gb437, 3, none⟩ (.slice Ao12 t433.length co12)) = w13 at n0_ n1_ n2_ n3_ n4_ ⊢
 have HO435 := n0_
 have BK426 := n1_
 have BK437 := n2_
 have HI429 := n3_
 have HB := n4_
 clear n0_ n1_ n2_ n3_ n4_
 replace HO435 := aM (Kd.Q_drew HO435.out)
 replace BK426 := aM (blk_drew BK426.out)
 replace BK437 := aM (blk_drew BK437.out)
 replace HI429 := aM (IsS85.drew HI429.out)
 replace HB := aM (below_drew1 HB.out)
 refine start_ (n := 5) (S := fun w' => w'.cell? ⟨gb437, 0, none⟩ = some (.int .i64 t430) ∧ w'.cell? ⟨gb437, 1, none⟩ = some (.int .i64 t431) ∧ w'.cell? ⟨gb437, 2, none⟩ = some (.int .i64 t432) ∧ w'.cell? ⟨gb437, 3, none⟩ = some (.slice Ao12 t433.length co12)) (ds := []) (bA 5 0) (by kernel_rfl) rfl rfl ⟨(blk_cell BK437.out 0).trans rfl, (blk_cell BK437.out 1).trans rfl, (blk_cell BK437.out 2).trans rfl, (blk_cell BK437.out 3).trans rfl⟩ (fun hHeld => ?_)
 generalize w13.drew = w14 at HO435 BK426 BK437 HI429 HB hHeld ⊢
 refine pure_ (i := 1) (N := some 11) (v := ?_) (a' := ?_) (bA 5 2) rfl rfl (by kernel_rfl) (fun _ _ _ h => h) (Or.inl ⟨by rfl, ?_⟩) ?_ ?_
 rotate_left
 ·intro w'
  go_simp
  with_reducible rfl
 rotate_left
 ·refine pZ ?_
  rfl
 refine take_ (i := 0) (N := some 10) (v := ?_) (a' := ?_) (bA 5 3) rfl rfl (by kernel_rfl) (fun _ _ _ h => h) (Or.inl ⟨by rfl, ?_⟩) hHeld ?_ ?_
 rotate_left
 ·rintro w' ⟨s0, s1, s2, s3⟩
  go_simp
  with_reducible rfl
 rotate_left
 ·refine pZ ?_
  rfl
 refine one_ (i := 2) (N := some 12) (bA 5 7) rfl rfl (by kernel_rfl) (by decide) (fun K hK => ?_)
 refine goes_ Try.func75 (by kernel_rfl) rfl #[.pointer (some ⟨g429, 0, none⟩)] (by rfl) rfl rfl qM ?_
 with_reducible refine (spec_anyLevels.calls k g429 t427 t436 t438 t439 w _ ?side1 ?side2 A4.out).mono ?_
 (case side1 => exact iS85 HI429.out)
 (case side2 => exact wS85 HB.out)
 rintro e w15 ⟨rfl, hi, hb, hk⟩
 refine ⟨_, rfl, ?_⟩
 replace BK426 := bK hk BK426 NB426_429
 replace HO435 := aM (Kd.Q_mono (Kd.Q_keep (IsS85.apartQ (show IsS85 w _ g429 t427 t436 from iS85 HI429.out) (qQ HO435.out) (by decide)) hk (fun _ h => h.2)) (fun _ h => h.1))
 replace BK437 := bK hk BK437 NB437_429
 replace HB := aM (hb)
 replace HI429 := aM (hi)
 (try clear hb)
 (try clear hb2)
 (try clear hk)
 (try clear hi)
 refine hK.out _ _ ⟨(blk_cell BK437.out 0).trans rfl, (blk_cell BK437.out 1).trans rfl, (blk_cell BK437.out 2).trans rfl, (blk_cell BK437.out 3).trans rfl⟩ (fun hHeld => ?_)
 clear hK K
 refine norm_ (a' := ?_) ?_ ?_
 rotate_left
 ·show Act.put _ (some 12) _ = _
  refine pZ ?_
  rfl
 refine one_ (i := 3) (N := none) (bA 5 15) rfl rfl (by kernel_rfl) (by decide) (fun K hK => ?_)
 have hs16 : w15.cell? ⟨gb426, 0, none⟩ = some (.int .i64 0) := (blk_cell BK426.out 0).trans rfl
 have hfs16 := blk_frozen BK426.out 0
 have hns16_1 := NB437_426.out
 have hms16_1 := NB426_437.out
 have hs17 : w15.cell? ⟨gb426, 1, none⟩ = some (.int .i64 0) := (blk_cell BK426.out 1).trans rfl
 have hfs17 := blk_frozen BK426.out 1
 have hns17_1 := NB437_426.out
 have hms17_1 := NB426_437.out
 have hs18 : w15.cell? ⟨gb426, 2, none⟩ = some (.int .i64 0) := (blk_cell BK426.out 2).trans rfl
 have hfs18 := blk_frozen BK426.out 2
 have hns18_1 := NB437_426.out
 have hms18_1 := NB426_437.out
 have hs19 : w15.cell? ⟨gb426, 3, none⟩ = some (.slice none 0 0) := (blk_cell BK426.out 3).trans rfl
 have hfs19 := blk_frozen BK426.out 3
 have hns19_1 := NB437_426.out
 have hms19_1 := NB426_437.out
 refine skip_ (w1 := ?_) (by rfl) rfl ?_ ?_
 rotate_left
 ·go_simp
  rfl
 refine hK.out _ _ ⟨((cell_far (p := ⟨gb426, _, none⟩) NB437_426.out _).trans (((cell_far (p := ⟨gb426, _, none⟩) NB437_426.out _).trans (((cell_far (p := ⟨gb426, _, none⟩) NB437_426.out _).trans (((cell_far (p := ⟨gb426, _, none⟩) NB437_426.out _).trans (hHeld.1)))))))), ((cell_far (p := ⟨gb426, _, none⟩) NB437_426.out _).trans (((cell_far (p := ⟨gb426, _, none⟩) NB437_426.out _).trans (((cell_far (p := ⟨gb426, _, none⟩) NB437_426.out _).trans (((cell_far (p := ⟨gb426, _, none⟩) NB437_426.out _).trans (hHeld.2.1)))))))), ((cell_far (p := ⟨gb426, _, none⟩) NB437_426.out _).trans (((cell_far (p := ⟨gb426, _, none⟩) NB437_426.out _).trans (((cell_far (p := ⟨gb426, _, none⟩) NB437_426.out _).trans (((cell_far (p := ⟨gb426, _, none⟩) NB437_426.out _).trans (hHeld.2.2.1)))))))), ((cell_far (p := ⟨gb426, _, none⟩) NB437_426.out _).trans (((cell_far (p := ⟨gb426, _, none⟩) NB437_426.out _).trans (((cell_far (p := ⟨gb426, _, none⟩) NB437_426.out _).trans (((cell_far (p := ⟨gb426, _, none⟩) NB437_426.out _).trans (hHeld.2.2.2))))))))⟩ (fun hHeld => ?_)
 clear hK K
 refine pure_ (i := 4) (N := some 3) (v := ?_) (a' := ?_) (bA 5 31) rfl rfl (by kernel_rfl) (fun _ _ _ h => h) (Or.inl ⟨by rfl, ?_⟩) ?_ ?_
 rotate_left
 ·intro w'
  go_simp
  with_reducible rfl
 rotate_left
 ·refine pZ ?_
  rfl
 refine done_ (by kernel_rfl) ?_
 try go_wp2
 refine bodyPost_ret (results_ct rfl _ _ gb426 27 #[.int .i64 t430, .int .i64 t431, .int .i64 t432, .slice Ao12 t433.length co12] (0, 0) _ rfl (by exact bP BK426.out) Try.underlying27 rfl (by kernel_rfl)) rfl ?_
 exact ⟨_, qX, by (with_reducible repeat (first | apply Kd.Q_alloc | apply Kd.Q_drewN | apply Kd.Q_drew)); exact Kd.Q_mono (qT HO435 BK426) (fun _ hk => trivial), wS85 HB.out⟩
def spec_DrawOrderImage.f (k : Nat) (l0 : List Int) : Option (Int × Int × Int × List Int × Int) := (spec_DrawDiffuseImage.f k l0).bind fun bt441 => (some (bt441.1, bt441.2.1, bt441.2.2.1, bt441.2.2.2.1, bt441.2.2.2.2))
theorem spec_DrawOrderImage.mono : ∀ a0 k, LeO (spec_DrawOrderImage.f k a0) (spec_DrawOrderImage.f (k + 1) a0) := by
 intro a0 k
 unfold spec_DrawOrderImage.f
 repeat' first | (with_reducible first | exact spec_DrawDiffuseImage.mono _ _ | exact lR | exact lN | refine lI ?_ ?_ | refine lB ?_ fun _ => ?_) | exact spec_DrawDiffuseImage.mono _ _ | exact lN | refine lI ?_ ?_ | refine lB ?_ fun _ => ?_
set_option maxHeartbeats 8000000 in
set_option maxRecDepth 100000 in
theorem spec_DrawOrderImage.calls (k : Nat) (A0 : Option Addr) (c0 : Nat) (l0 : List Int) (r1 : Int) (r2 : Int) (r3 : Int) (r4 : List Int) (r5 : Int) (w : World) (hr0 : Kd.C (Kd.int .u8) w A0 l0.length l0) (hc0 : l0.length ≤ c0) (h : spec_DrawOrderImage.f k l0 = some (r1, r2, r3, r4, r5)) :
  Calls Try.prog 25 #[.slice A0 l0.length c0] w fun e w' => ∃ v3_ : Value, e = .returned (.tuple #[.agg #[.int .i64 r1, .int .i64 r2, .int .i64 r3, v3_], .int .i64 r5]) ∧ Kd.Q (Kd.int .i64) 3 w' w.heap.size (fun _ => True) v3_ r4 ∧ Below w.heap.size w w' := by
 have hu27 := Try.underlying27
 have HR0 := aM hr0
 have HC0 := aM hc0
 clear hr0 hc0
 have HB := aM (Below.refl w.heap.size w)
 unfold spec_DrawOrderImage.f at h
 have H := h
 clear h
 replace H := Option.bind_eq_some_iff.mp H
 obtain ⟨⟨t441, t442, t443, t444, t447⟩, A20, H⟩ := H
 replace H : (some (t441, t442, t443, t444, t447)) = some (r1, r2, r3, r4, r5) := H
 have A2 := aM A20
 clear A20
 simp only [Option.some.injEq, Prod.mk.injEq] at H
 obtain ⟨rfl, rfl, rfl, rfl, rfl⟩ := H
 go_enter Try.func25, Try.ntmps25
 go_wp2_with (first | ((with_reducible refine gate_dst (N := 2) rfl ?_); refine bxE (N := 2) (cs := #[.int .i64 0, .int .i64 0, .int .i64 0, .slice none 0 0]) (t := 27) ?_; intro gb440 hg w3 hbox hb; have BK440 := aM (hbox); have GW440 := gW hg HB; have GE440 := gW hg HB; replace HB := bS HB hb; clear hb hbox hg) | ((with_reducible refine gate_callee (f := 29) rfl ?_); refine gL (some 5) Try.func29 #[.slice A0 l0.length c0] ?_; (with_reducible refine (spec_DrawDiffuseImage.calls k _ _ l0 t441 t442 t443 t444 t447 _ ?side1 ?side2 A2.out).mono ?_); (case side1 => exact qC (Kd.C_below HR0.out HB.out)); (case side2 => exact HC0.out); rintro e w4 ⟨v445, rfl, ho0, hb⟩; refine ⟨_, rfl, ?_⟩; have HO446 := aM (Kd.Q_lower ho0 (below_size (qW HB.out))); replace BK440 := bB BK440 hb; replace HB := bS HB hb; clear hb ho0; obtain ⟨⟨hcz5_0, hcz5_1, hcz5_2, hcz5_3⟩, hfz5_0, hfz5_1, hfz5_2, hfz5_3⟩ := cf4 BK440; obtain ⟨Ao6, co6, eo6, _⟩ := Kd.Q_slice HO446.out; subst eo6))
 refine bodyPost_ret (results_ct rfl _ _ gb440 27 #[.int .i64 t441, .int .i64 t442, .int .i64 t443, .slice Ao6 t444.length co6] (0, 0) _ rfl (by exact bP BK440.out) Try.underlying27 rfl (by kernel_rfl)) rfl ?_
 exact ⟨_, qX, by (with_reducible repeat (first | apply Kd.Q_alloc | apply Kd.Q_drewN | apply Kd.Q_drew)); exact Kd.Q_mono (qT HO446 BK440) (fun _ hk => trivial), by exact qW HB.out⟩
def laws_equalImage.f (k : Nat) (a0_0 : Int) (a0_1 : Int) (a0_2 : Int) (l0_3 : List Int) (a1_0 : Int) (a1_1 : Int) (a1_2 : Int) (l1_3 : List Int) : Option (Bool) := if a0_0 = a1_0 then (if a0_1 = a1_1 then (if a0_2 = a1_2 then ((laws_equalInts.f k l0_3 l1_3).bind fun t295 => (some t295)) else (some false)) else (some false)) else (some false)
theorem laws_equalImage.mono : ∀ a0 a1 a2 a3 a4 a5 a6 a7 k, LeO (laws_equalImage.f k a0 a1 a2 a3 a4 a5 a6 a7) (laws_equalImage.f (k + 1) a0 a1 a2 a3 a4 a5 a6 a7) := by
 intro a0 a1 a2 a3 a4 a5 a6 a7 k
 unfold laws_equalImage.f
 repeat' first | (with_reducible first | exact laws_equalInts.mono _ _ _ | exact lR | exact lN | refine lI ?_ ?_ | refine lB ?_ fun _ => ?_) | exact laws_equalInts.mono _ _ _ | exact lN | refine lI ?_ ?_ | refine lB ?_ fun _ => ?_
set_option maxHeartbeats 8000000 in
set_option maxRecDepth 100000 in
theorem laws_equalImage.calls (k : Nat) (a0_0 : Int) (a0_1 : Int) (a0_2 : Int) (A0_3 : Option Addr) (c0_3 : Nat) (l0_3 : List Int) (a1_0 : Int) (a1_1 : Int) (a1_2 : Int) (A1_3 : Option Addr) (c1_3 : Nat) (l1_3 : List Int) (r : Bool) (w : World) (hr0_3 : Kd.C (Kd.int .i64) w A0_3 l0_3.length l0_3) (hc0_3 : l0_3.length ≤ c0_3) (hr1_3 : Kd.C (Kd.int .i64) w A1_3 l1_3.length l1_3) (hc1_3 : l1_3.length ≤ c1_3) (h : laws_equalImage.f k a0_0 a0_1 a0_2 l0_3 a1_0 a1_1 a1_2 l1_3 = some r) :
  Calls Try.prog 15 #[.agg #[.int .i64 a0_0, .int .i64 a0_1, .int .i64 a0_2, .slice A0_3 l0_3.length c0_3], .agg #[.int .i64 a1_0, .int .i64 a1_1, .int .i64 a1_2, .slice A1_3 l1_3.length c1_3]] w fun e w' => e = .returned (.bool r) ∧ Below w.heap.size w w' := by
 have hu27 := Try.underlying27
 have HR0_3 := aM hr0_3
 have HC0_3 := aM hc0_3
 clear hr0_3 hc0_3
 have HR1_3 := aM hr1_3
 have HC1_3 := aM hc1_3
 clear hr1_3 hc1_3
 have HB := aM (Below.refl w.heap.size w)
 unfold laws_equalImage.f at h
 have H := h
 clear h
 by_cases c3 : a0_0 = a1_0
 rotate_left
 ·rw [if_neg c3] at H
  have c3b0 : (a0_0 == a1_0) = false := beq_eq_false_iff_ne.mpr c3
  have c3b1 : (a0_0 != a1_0) = true := bne_iff_ne.mpr c3
  obtain rfl := Option.some.inj H
  go_enter Try.func15, Try.ntmps15
  go_wp2_with (first | ((with_reducible refine gate_dst (N := 2) rfl ?_); refine bxE (N := 2) (cs := #[.int .i64 a0_0, .int .i64 a0_1, .int .i64 a0_2, .slice A0_3 l0_3.length c0_3]) (t := 27) ?_; intro gb293 hg w22 hbox hb; have BK293 := aM (hbox); have GW293 := gW hg HB; have GE293 := gW hg HB; replace HB := bS HB hb; clear hb hbox hg) | ((with_reducible refine gate_dst (N := 3) rfl ?_); refine bxE (N := 3) (cs := #[.int .i64 a1_0, .int .i64 a1_1, .int .i64 a1_2, .slice A1_3 l1_3.length c1_3]) (t := 27) ?_; intro gb294 hg w23 hbox hb; have BK294 := aM (hbox); have GW294 := gW hg HB; have GE294 := gW hg HB; replace HB := bS HB hb; have NB293_294 := nL hg BK293; have NB294_293 := nG hg BK293; replace BK293 := bB BK293 hb; clear hb hbox hg; have hnb24 := NB293_294.out; have hnc24 := NB294_293.out; obtain ⟨⟨hcz25_0, hcz25_1, hcz25_2, hcz25_3⟩, hfz25_0, hfz25_1, hfz25_2, hfz25_3⟩ := cf4 BK293; obtain ⟨⟨hcz26_0, hcz26_1, hcz26_2, hcz26_3⟩, hfz26_0, hfz26_1, hfz26_2, hfz26_3⟩ := cf4 BK294))
  go_ret
  exact ⟨qX, by exact qW HB.out⟩
 rw [if_pos c3] at H
 have c3b0 : (a0_0 == a1_0) = true := beq_iff_eq.mpr c3
 have c3b1 : (a0_0 != a1_0) = false := bne_eq_false_iff_eq.mpr c3
 clear c3
 by_cases c4 : a0_1 = a1_1
 rotate_left
 ·rw [if_neg c4] at H
  have c4b0 : (a0_1 == a1_1) = false := beq_eq_false_iff_ne.mpr c4
  have c4b1 : (a0_1 != a1_1) = true := bne_iff_ne.mpr c4
  obtain rfl := Option.some.inj H
  go_enter Try.func15, Try.ntmps15
  go_wp2_with (first | ((with_reducible refine gate_dst (N := 2) rfl ?_); refine bxE (N := 2) (cs := #[.int .i64 a0_0, .int .i64 a0_1, .int .i64 a0_2, .slice A0_3 l0_3.length c0_3]) (t := 27) ?_; intro gb293 hg w17 hbox hb; have BK293 := aM (hbox); have GW293 := gW hg HB; have GE293 := gW hg HB; replace HB := bS HB hb; clear hb hbox hg) | ((with_reducible refine gate_dst (N := 3) rfl ?_); refine bxE (N := 3) (cs := #[.int .i64 a1_0, .int .i64 a1_1, .int .i64 a1_2, .slice A1_3 l1_3.length c1_3]) (t := 27) ?_; intro gb294 hg w18 hbox hb; have BK294 := aM (hbox); have GW294 := gW hg HB; have GE294 := gW hg HB; replace HB := bS HB hb; have NB293_294 := nL hg BK293; have NB294_293 := nG hg BK293; replace BK293 := bB BK293 hb; clear hb hbox hg; have hnb19 := NB293_294.out; have hnc19 := NB294_293.out; obtain ⟨⟨hcz20_0, hcz20_1, hcz20_2, hcz20_3⟩, hfz20_0, hfz20_1, hfz20_2, hfz20_3⟩ := cf4 BK293; obtain ⟨⟨hcz21_0, hcz21_1, hcz21_2, hcz21_3⟩, hfz21_0, hfz21_1, hfz21_2, hfz21_3⟩ := cf4 BK294))
  go_ret
  exact ⟨qX, by exact qW HB.out⟩
 rw [if_pos c4] at H
 have c4b0 : (a0_1 == a1_1) = true := beq_iff_eq.mpr c4
 have c4b1 : (a0_1 != a1_1) = false := bne_eq_false_iff_eq.mpr c4
 clear c4
 by_cases c5 : a0_2 = a1_2
 rotate_left
 ·rw [if_neg c5] at H
  have c5b0 : (a0_2 == a1_2) = false := beq_eq_false_iff_ne.mpr c5
  have c5b1 : (a0_2 != a1_2) = true := bne_iff_ne.mpr c5
  obtain rfl := Option.some.inj H
  go_enter Try.func15, Try.ntmps15
  go_wp2_with (first | ((with_reducible refine gate_dst (N := 2) rfl ?_); refine bxE (N := 2) (cs := #[.int .i64 a0_0, .int .i64 a0_1, .int .i64 a0_2, .slice A0_3 l0_3.length c0_3]) (t := 27) ?_; intro gb293 hg w12 hbox hb; have BK293 := aM (hbox); have GW293 := gW hg HB; have GE293 := gW hg HB; replace HB := bS HB hb; clear hb hbox hg) | ((with_reducible refine gate_dst (N := 3) rfl ?_); refine bxE (N := 3) (cs := #[.int .i64 a1_0, .int .i64 a1_1, .int .i64 a1_2, .slice A1_3 l1_3.length c1_3]) (t := 27) ?_; intro gb294 hg w13 hbox hb; have BK294 := aM (hbox); have GW294 := gW hg HB; have GE294 := gW hg HB; replace HB := bS HB hb; have NB293_294 := nL hg BK293; have NB294_293 := nG hg BK293; replace BK293 := bB BK293 hb; clear hb hbox hg; have hnb14 := NB293_294.out; have hnc14 := NB294_293.out; obtain ⟨⟨hcz15_0, hcz15_1, hcz15_2, hcz15_3⟩, hfz15_0, hfz15_1, hfz15_2, hfz15_3⟩ := cf4 BK293; obtain ⟨⟨hcz16_0, hcz16_1, hcz16_2, hcz16_3⟩, hfz16_0, hfz16_1, hfz16_2, hfz16_3⟩ := cf4 BK294))
  go_ret
  exact ⟨qX, by exact qW HB.out⟩
 rw [if_pos c5] at H
 have c5b0 : (a0_2 == a1_2) = true := beq_iff_eq.mpr c5
 have c5b1 : (a0_2 != a1_2) = false := bne_eq_false_iff_eq.mpr c5
 clear c5
 replace H := Option.bind_eq_some_iff.mp H
 obtain ⟨t295, A60, H⟩ := H
 replace H : (some t295) = some r := H
 have A6 := aM A60
 clear A60
 obtain rfl := Option.some.inj H
 go_enter Try.func15, Try.ntmps15
 go_wp2_with (first | ((with_reducible refine gate_dst (N := 2) rfl ?_); refine bxE (N := 2) (cs := #[.int .i64 a0_0, .int .i64 a0_1, .int .i64 a0_2, .slice A0_3 l0_3.length c0_3]) (t := 27) ?_; intro gb293 hg w7 hbox hb; have BK293 := aM (hbox); have GW293 := gW hg HB; have GE293 := gW hg HB; replace HB := bS HB hb; clear hb hbox hg) | ((with_reducible refine gate_dst (N := 3) rfl ?_); refine bxE (N := 3) (cs := #[.int .i64 a1_0, .int .i64 a1_1, .int .i64 a1_2, .slice A1_3 l1_3.length c1_3]) (t := 27) ?_; intro gb294 hg w8 hbox hb; have BK294 := aM (hbox); have GW294 := gW hg HB; have GE294 := gW hg HB; replace HB := bS HB hb; have NB293_294 := nL hg BK293; have NB294_293 := nG hg BK293; replace BK293 := bB BK293 hb; clear hb hbox hg; have hnb9 := NB293_294.out; have hnc9 := NB294_293.out; obtain ⟨⟨hcz10_0, hcz10_1, hcz10_2, hcz10_3⟩, hfz10_0, hfz10_1, hfz10_2, hfz10_3⟩ := cf4 BK293; obtain ⟨⟨hcz11_0, hcz11_1, hcz11_2, hcz11_3⟩, hfz11_0, hfz11_1, hfz11_2, hfz11_3⟩ := cf4 BK294) | (go_at_call 54; (with_reducible refine (laws_equalInts.calls k _ _ l0_3 _ _ l1_3 t295 _ ?side1 ?side2 ?side3 ?side4 A6.out).mono ?_); (case side1 => exact qC (Kd.C_below HR0_3.out HB.out)); (case side2 => exact HC0_3.out); (case side3 => exact qC (Kd.C_below HR1_3.out HB.out)); (case side4 => exact HC1_3.out); rintro e w' ⟨rfl, ⟨nd, rfl⟩⟩))
 go_ret
 exact ⟨qX, by exact qW HB.out⟩
end Go.Proofs.Yteeeedmmcdlhjaa.P
