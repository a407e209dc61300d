/- Contracts and row, written by a program of this place out of the translation: the call answers true and its argument reads as before, for every input; no condition. -/
import Derived.Test.YtnamhlcdlbjcfaaK0
import Derived.Test.YtnamhlcdlbjcfaaK1
import Derived.Test.YtnamhlcdlbjcfaaK2
namespace Go.Proofs.Ytnamhlcdlbjcfaa.P
open Go.RowKit Go.Proofs.YtnamhlcdlbjcfaaW.PrintWords Go.Proofs.YtnamhlcdlbjcfaaW.PrintLast Go.Proofs.YtnamhlcdlbjcfaaW.PrintMore
attribute [local go_sem] max2_int min2_int max_two min_two max_three min_three max_four min_four   -- for this text's walks alone
set_option linter.unusedVariables false
set_option linter.unusedSimpArgs false
mutual
def spec_ScaleArea.j0 : Nat → Int → Int → Bool → Int → Int → Int → List Int → Option (Int × Int × Int × List Int)
 | 0, _, _, _, _, _, _, _ => none
 | k + 1, x1, x2, x22, x687000, x687001, x687002, x687003 => if x22 = true then (some (0, 0, 0, ([] : List Int))) else ((spec_newImage.f x1 x2 x687002).bind fun bt690 => (spec_ScaleArea.l0 k x1 x2 (wrap64 (x687000 * x687001)) 0 x687000 x687001 x687002 x687003 bt690.1 bt690.2.1 bt690.2.2.1 bt690.2.2.2))
def spec_ScaleArea.l0 : Nat → Int → Int → Int → Int → Int → Int → Int → List Int → Int → Int → Int → List Int → Option (Int × Int × Int × List Int)
 | 0, _, _, _, _, _, _, _, _, _, _, _, _ => none
 | k + 1, x1, x2, x8, x9, x687000, x687001, x687002, x687003, x697000, x697001, x697002, x697003 => if x9 < x2 then (spec_ScaleArea.l1 k x1 x2 x8 x9 0 x687000 x687001 x687002 x687003 x697000 x697001 x697002 x697003) else (some (x697000, x697001, x697002, x697003))
def spec_ScaleArea.l1 : Nat → Int → Int → Int → Int → Int → Int → Int → Int → List Int → Int → Int → Int → List Int → Option (Int × Int × Int × List Int)
 | 0, _, _, _, _, _, _, _, _, _, _, _, _, _ => none
 | k + 1, x1, x2, x8, x9, x10, x687000, x687001, x687002, x687003, x697000, x697001, x697002, x697003 => if x10 < x1 then (spec_ScaleArea.l2 k x1 x2 x8 x9 x10 0 x687000 x687001 x687002 x687003 x697000 x697001 x697002 x697003) else (spec_ScaleArea.l0 k x1 x2 x8 (wrap64 (x9 + 1)) x687000 x687001 x687002 x687003 x697000 x697001 x697002 x697003)
def spec_ScaleArea.l2 : Nat → Int → Int → Int → Int → Int → Int → Int → Int → Int → List Int → Int → Int → Int → List Int → Option (Int × Int × Int × List Int)
 | 0, _, _, _, _, _, _, _, _, _, _, _, _, _, _ => none
 | k + 1, x1, x2, x8, x9, x10, x11, x687000, x687001, x687002, x687003, x697000, x697001, x697002, x697003 => if x11 < x687002 then ((spec_areaSum.f k x687000 x687001 x687002 x687003 x1 x2 x10 x9 x11).bind fun t697 => (if (wrap64 (2 * x8)) = 0 then (none) else (if 0 ≤ (wrap64 ((wrap64 ((wrap64 ((wrap64 (x9 * x1)) + x10)) * x687002)) + x11)) then (if (wrap64 ((wrap64 ((wrap64 ((wrap64 (x9 * x1)) + x10)) * x687002)) + x11)) < (x697003.length : Int) then (spec_ScaleArea.l2 k x1 x2 x8 x9 x10 (wrap64 (x11 + 1)) x687000 x687001 x687002 x687003 x697000 x697001 x697002 (x697003.set ((wrap64 ((wrap64 ((wrap64 ((wrap64 (x9 * x1)) + x10)) * x687002)) + x11)) : Int).toNat (wrap64 (Int.tdiv (wrap64 ((wrap64 (2 * t697)) + x8)) (wrap64 (2 * x8)))))) else (none)) else (none)))) else (spec_ScaleArea.l1 k x1 x2 x8 x9 (wrap64 (x10 + 1)) x687000 x687001 x687002 x687003 x697000 x697001 x697002 x697003)
end
def spec_ScaleArea.f (k : Nat) (a0_0 : Int) (a0_1 : Int) (a0_2 : Int) (l0_3 : List Int) (a1 : Int) (a2 : Int) : Option (Int × Int × Int × List Int) := (spec_validImage.f k a0_0 a0_1 a0_2 l0_3).bind fun t688 => (if t688 = true then ((spec_validShape.f a1 a2 a0_2).bind fun t689 => (spec_ScaleArea.j0 k a1 a2 (!t689) a0_0 a0_1 a0_2 l0_3)) else (spec_ScaleArea.j0 k a1 a2 true a0_0 a0_1 a0_2 l0_3))
theorem spec_ScaleArea.mono_l : ∀ k, (∀ y0 y1 y2 y3 y4 y5 y6, LeO (spec_ScaleArea.j0 k y0 y1 y2 y3 y4 y5 y6) (spec_ScaleArea.j0 (k + 1) y0 y1 y2 y3 y4 y5 y6)) ∧ (∀ y0 y1 y2 y3 y4 y5 y6 y7 y8 y9 y10 y11, LeO (spec_ScaleArea.l0 k y0 y1 y2 y3 y4 y5 y6 y7 y8 y9 y10 y11) (spec_ScaleArea.l0 (k + 1) y0 y1 y2 y3 y4 y5 y6 y7 y8 y9 y10 y11)) ∧ (∀ y0 y1 y2 y3 y4 y5 y6 y7 y8 y9 y10 y11 y12, LeO (spec_ScaleArea.l1 k y0 y1 y2 y3 y4 y5 y6 y7 y8 y9 y10 y11 y12) (spec_ScaleArea.l1 (k + 1) y0 y1 y2 y3 y4 y5 y6 y7 y8 y9 y10 y11 y12)) ∧ (∀ y0 y1 y2 y3 y4 y5 y6 y7 y8 y9 y10 y11 y12 y13, LeO (spec_ScaleArea.l2 k y0 y1 y2 y3 y4 y5 y6 y7 y8 y9 y10 y11 y12 y13) (spec_ScaleArea.l2 (k + 1) y0 y1 y2 y3 y4 y5 y6 y7 y8 y9 y10 y11 y12 y13))
 | 0 => ⟨fun _ _ _ _ _ _ _ r h => by simp [spec_ScaleArea.j0] at h, fun _ _ _ _ _ _ _ _ _ _ _ _ r h => by simp [spec_ScaleArea.l0] at h, fun _ _ _ _ _ _ _ _ _ _ _ _ _ r h => by simp [spec_ScaleArea.l1] at h, fun _ _ _ _ _ _ _ _ _ _ _ _ _ _ r h => by simp [spec_ScaleArea.l2] at h⟩
 | k + 1 => by
  obtain ⟨ih0, ih1, ih2, ih3⟩ := spec_ScaleArea.mono_l k
  refine ⟨?_, ?_, ?_, ?_⟩
  all_goals intros
  all_goals first | unfold spec_ScaleArea.j0 | unfold spec_ScaleArea.l0 | unfold spec_ScaleArea.l1 | unfold spec_ScaleArea.l2
  all_goals repeat' first | (with_reducible first | exact ih0 _ _ _ _ _ _ _ | exact ih1 _ _ _ _ _ _ _ _ _ _ _ _ | exact ih2 _ _ _ _ _ _ _ _ _ _ _ _ _ | exact ih3 _ _ _ _ _ _ _ _ _ _ _ _ _ _ | exact spec_areaSum.mono _ _ _ _ _ _ _ _ _ _ | exact spec_validImage.mono _ _ _ _ _ | exact lR | exact lN | refine lI ?_ ?_ | refine lB ?_ fun _ => ?_) | exact ih0 _ _ _ _ _ _ _ | exact ih1 _ _ _ _ _ _ _ _ _ _ _ _ | exact ih2 _ _ _ _ _ _ _ _ _ _ _ _ _ | exact ih3 _ _ _ _ _ _ _ _ _ _ _ _ _ _ | exact spec_areaSum.mono _ _ _ _ _ _ _ _ _ _ | exact spec_validImage.mono _ _ _ _ _ | exact lN | refine lI ?_ ?_ | refine lB ?_ fun _ => ?_
theorem spec_ScaleArea.mono : ∀ a0 a1 a2 a3 a4 a5 k, LeO (spec_ScaleArea.f k a0 a1 a2 a3 a4 a5) (spec_ScaleArea.f (k + 1) a0 a1 a2 a3 a4 a5) := by
 intro a0 a1 a2 a3 a4 a5 k
 obtain ⟨ih0, ih1, ih2, ih3⟩ := spec_ScaleArea.mono_l k
 unfold spec_ScaleArea.f
 repeat' first | (with_reducible first | exact ih0 _ _ _ _ _ _ _ | exact ih1 _ _ _ _ _ _ _ _ _ _ _ _ | exact ih2 _ _ _ _ _ _ _ _ _ _ _ _ _ | exact ih3 _ _ _ _ _ _ _ _ _ _ _ _ _ _ | exact spec_areaSum.mono _ _ _ _ _ _ _ _ _ _ | exact spec_validImage.mono _ _ _ _ _ | exact lR | exact lN | refine lI ?_ ?_ | refine lB ?_ fun _ => ?_) | exact ih0 _ _ _ _ _ _ _ | exact ih1 _ _ _ _ _ _ _ _ _ _ _ _ | exact ih2 _ _ _ _ _ _ _ _ _ _ _ _ _ | exact ih3 _ _ _ _ _ _ _ _ _ _ _ _ _ _ | exact spec_areaSum.mono _ _ _ _ _ _ _ _ _ _ | exact spec_validImage.mono _ _ _ _ _ | exact lN | refine lI ?_ ?_ | refine lB ?_ fun _ => ?_
def spec_ScaleArea.T14 : Bool × List (List Nat × List Nat) := (true, [([], []), ([0], [0]), ([], []), ([], []), ([2, 3], [2, 3]), ([], []), ([4, 5], [4, 5]), ([], []), ([7], [7]), ([6, 8], [6, 8]), ([], []), ([9, 10], [9, 10]), ([], []), ([], []), ([], []), ([], []), ([], []), ([], []), ([12, 13, 14, 15, 16, 17], [12, 13, 14, 15, 16, 17]), ([18], [18]), ([], []), ([19, 20], [19, 20]), ([], []), ([22], [22]), ([21, 23], [21, 23]), ([1, 11, 0, 1, 2, 3, 4, 5, 6, 7, 8, 9, 10, 11, 12, 13, 14, 15, 16, 17, 18, 19, 20, 21, 22, 23, 24], [1, 11]), ([25, 24, 18, 0, 1, 2, 3, 4, 5, 6, 7, 8, 9, 10, 11, 12, 13, 14, 15, 16, 17, 18, 19, 20, 21, 22, 23, 24], [24, 25])])
def spec_ScaleArea.B14 : List Nat := [0, 1, 0, 0, 12, 0, 60, 0, 128, 508, 0, 2044, 0, 0, 0, 0, 0, 0, 258048, 520192, 0, 2093056, 0, 4194304, 16773120, 33554431, 67108863]
theorem spec_ScaleArea.tab14 : rtab .any (opsOf Try.f32 14) = spec_ScaleArea.T14 := by kernel_rfl
theorem spec_ScaleArea.bits14 : waitsOk spec_ScaleArea.T14.2 spec_ScaleArea.B14 = true := by kernel_rfl
set_option maxHeartbeats 8000000 in
set_option maxRecDepth 100000 in
theorem spec_ScaleArea.calls (k : Nat) (a0_0 : Int) (a0_1 : Int) (a0_2 : Int) (A0_3 : Option Addr) (c0_3 : Nat) (l0_3 : List Int) (a1 : Int) (a2 : Int) (r1 : Int) (r2 : Int) (r3 : Int) (r4 : List Int) (w : World) (hr0_3 : Kd.C (Kd.int .i64) w A0_3 l0_3.length l0_3) (hc0_3 : l0_3.length ≤ c0_3) (h : spec_ScaleArea.f k a0_0 a0_1 a0_2 l0_3 a1 a2 = some (r1, r2, r3, r4)) :
  Calls Try.prog 32 #[.agg #[.int .i64 a0_0, .int .i64 a0_1, .int .i64 a0_2, .slice A0_3 l0_3.length c0_3], .int .i64 a1, .int .i64 a2] w fun e w' => ∃ v3_ : Value, e = .returned (.agg #[.int .i64 r1, .int .i64 r2, .int .i64 r3, v3_]) ∧ Kd.R (Kd.int .i64) 3 w' w.heap.size (fun _ => True) v3_ r4 ∧ Below w.heap.size w w' := by
 have hu26 := Try.underlying26
 have HR0_3 := aM hr0_3
 have HC0_3 := aM hc0_3
 clear hr0_3 hc0_3
 have HB := aM (Below.refl w.heap.size w)
 unfold spec_ScaleArea.f at h
 have H := h
 clear h
 have HC4 := aM H
 clear H
 go_enter Try.func32, Try.ntmps32
 go_upto_region 1 with (first | ((with_reducible refine gate_dst (N := 3) rfl ?_); refine bxE (N := 3) (cs := #[.int .i64 a0_0, .int .i64 a0_1, .int .i64 a0_2, .slice A0_3 l0_3.length c0_3]) (t := 26) ?_; intro gb686 hg w5 hbox hb; have BK686 := aM (hbox); have GW686 := gW hg HB; have GE686 := gW hg HB; replace HB := bS HB hb; clear hb hbox hg) | ((with_reducible refine gate_dst (N := 6) rfl ?_); refine bxE (N := 6) (cs := #[.int .i64 0, .int .i64 0, .int .i64 0, .slice none 0 0]) (t := 26) ?_; intro gb687 hg w6 hbox hb; have BK687 := aM (hbox); have GW687 := gW hg HB; have GE687 := gW hg HB; replace HB := bS HB hb; have NB686_687 := nL hg BK686; have NB687_686 := nG hg BK686; replace BK686 := bB BK686 hb; clear hb hbox hg))
 (try simp only [Act.put, List.setIfInBounds_toArray, List.set_cons_zero, List.set_cons_succ])
 go_cut [22] (fun v22 wc => ∃ (kq : Nat) (x22_3 : Bool), v22 = .bool x22_3 ∧ Aside0 (spec_ScaleArea.j0 kq a1 a2 x22_3 a0_0 a0_1 a0_2 l0_3 = some (r1, r2, r3, r4)) ∧ Aside0 (kq ≤ k) ∧ Aside0 (wc.heap[gb686]? = some (.cells #[.int .i64 a0_0, .int .i64 a0_1, .int .i64 a0_2, (.slice A0_3 l0_3.length c0_3)] 26 (0, 0))) ∧ Aside0 (wc.heap[gb687]? = some (.cells #[.int .i64 0, .int .i64 0, .int .i64 0, (.slice none 0 0)] 26 (0, 0))) ∧ Aside0 (Below w.heap.size w wc))
 case first =>
  have H := HC4.out
  clear HC4
  replace H := Option.bind_eq_some_iff.mp H
  obtain ⟨t688, A70, H⟩ := H
  replace H : (if t688 = true then ((spec_validShape.f a1 a2 a0_2).bind fun t689 => (spec_ScaleArea.j0 k a1 a2 (!t689) a0_0 a0_1 a0_2 l0_3)) else (spec_ScaleArea.j0 k a1 a2 true a0_0 a0_1 a0_2 l0_3)) = some (r1, r2, r3, r4) := H
  have A7 := aM A70
  clear A70
  by_cases c8 : t688 = true
  rotate_left
  ·replace c8 := Bool.eq_false_iff.mpr c8
   subst c8
   have H1 : (spec_ScaleArea.j0 k a1 a2 true a0_0 a0_1 a0_2 l0_3) = some (r1, r2, r3, r4) := by rw [if_neg (show ¬ (false = true) by decide)] at H; exact H
   clear H
   have H := H1
   clear H1
   have H' := aM H
   clear H
   have hnb14 := NB686_687.out
   have hnc14 := NB687_686.out
   obtain ⟨⟨hcz15_0, hcz15_1, hcz15_2, hcz15_3⟩, hfz15_0, hfz15_1, hfz15_2, hfz15_3⟩ := cf4 BK686
   go_wp2_with (first | ((with_reducible refine gate_callee (f := 44) rfl ?_); refine gL (some 13) Try.func44 #[.agg #[.int .i64 a0_0, .int .i64 a0_1, .int .i64 a0_2, .slice A0_3 l0_3.length c0_3]] ?_; (with_reducible refine (spec_validImage.calls k a0_0 a0_1 a0_2 _ _ l0_3 false _ ?side1 ?side2 A7.out).mono ?_); (case side1 => exact qC (Kd.C_below HR0_3.out HB.out)); (case side2 => exact HC0_3.out); rintro e w16 ⟨rfl, hb⟩; refine ⟨_, rfl, ?_⟩; replace BK686 := bB BK686 hb; replace BK687 := bB BK687 hb; replace HB := bS HB hb; clear hb))
   go_meet
   case rel => exact ⟨_, (true), qE, H', ⟨by first | omega | exact Nat.le_refl _⟩, ⟨by refine qB ?_; exact BK686.out⟩, ⟨by refine qB ?_; exact BK687.out⟩, ⟨by exact qW HB.out⟩⟩
  subst c8
  have H1 : ((spec_validShape.f a1 a2 a0_2).bind fun t689 => (spec_ScaleArea.j0 k a1 a2 (!t689) a0_0 a0_1 a0_2 l0_3)) = some (r1, r2, r3, r4) := by rw [if_pos rfl] at H; exact H
  clear H
  have H := H1
  clear H1
  replace H := Option.bind_eq_some_iff.mp H
  obtain ⟨t689, A90, H⟩ := H
  replace H : (spec_ScaleArea.j0 k a1 a2 (!t689) a0_0 a0_1 a0_2 l0_3) = some (r1, r2, r3, r4) := H
  have A9 := aM A90
  clear A90
  have H' := aM H
  clear H
  have hnb10 := NB686_687.out
  have hnc10 := NB687_686.out
  obtain ⟨⟨hcz11_0, hcz11_1, hcz11_2, hcz11_3⟩, hfz11_0, hfz11_1, hfz11_2, hfz11_3⟩ := cf4 BK686
  go_wp2_with (first | ((with_reducible refine gate_callee (f := 44) rfl ?_); refine gL (some 13) Try.func44 #[.agg #[.int .i64 a0_0, .int .i64 a0_1, .int .i64 a0_2, .slice A0_3 l0_3.length c0_3]] ?_; (with_reducible refine (spec_validImage.calls k a0_0 a0_1 a0_2 _ _ l0_3 true _ ?side1 ?side2 A7.out).mono ?_); (case side1 => exact qC (Kd.C_below HR0_3.out HB.out)); (case side2 => exact HC0_3.out); rintro e w12 ⟨rfl, hb⟩; refine ⟨_, rfl, ?_⟩; replace BK686 := bB BK686 hb; replace BK687 := bB BK687 hb; replace HB := bS HB hb; clear hb; obtain ⟨⟨hcz13_0, hcz13_1, hcz13_2, hcz13_3⟩, hfz13_0, hfz13_1, hfz13_2, hfz13_3⟩ := cf4 BK686) | (go_at_call 64; (with_reducible refine (spec_validShape.calls a1 a2 a0_2 t689 _ A9.out).mono ?_); rintro e w' ⟨rfl, ⟨nd, rfl⟩⟩))
  go_meet
  case rel => exact ⟨_, (!t689), qE, H', ⟨by first | omega | exact Nat.le_refl _⟩, ⟨by refine qB ?_; exact BK686.out⟩, ⟨by refine qB ?_; exact BK687.out⟩, ⟨by exact qW HB.out⟩⟩
 case rest =>
  clear HC4
  try clear c8
  try clear hcz11_0 hcz11_1 hcz11_2 hcz11_3 hfz11_0 hfz11_1 hfz11_2 hfz11_3
  try clear hcz13_0 hcz13_1 hcz13_2 hcz13_3 hfz13_0 hfz13_1 hfz13_2 hfz13_3
  try clear hcz15_0 hcz15_1 hcz15_2 hcz15_3 hfz15_0 hfz15_1 hfz15_2 hfz15_3
  obtain ⟨kq, x22_3, rfl, HA, HJ3, BK686, BK687, HB⟩ := hcut
  cases kq with
  | zero => exact absurd HA.out (by simp [spec_ScaleArea.j0])
  | succ kj3 =>
   have H := HA.out
   clear HA
   simp only [spec_ScaleArea.j0] at H
   by_cases c17 : x22_3 = true
   ·subst c17
    have H1 : (some (0, 0, 0, ([] : List Int))) = some (r1, r2, r3, r4) := by rw [if_pos rfl] at H; exact H
    clear H
    have H := H1
    clear H1
    simp only [Option.some.injEq, Prod.mk.injEq] at H
    obtain ⟨rfl, rfl, rfl, rfl⟩ := H
    have hnb18 := NB687_686.out
    have hnc18 := NB686_687.out
    obtain ⟨⟨hcz19_0, hcz19_1, hcz19_2, hcz19_3⟩, hfz19_0, hfz19_1, hfz19_2, hfz19_3⟩ := cf4 BK687
    go_wp2
    refine bodyPost_ret (results_cell_row rfl _ _ gb687 26 #[.int .i64 0, .int .i64 0, .int .i64 0, .slice none 0 0] (0, 0) _ rfl (by exact bP BK687.out) Try.underlying26 rfl (by kernel_rfl)) rfl ?_
    exact ⟨_, qX, qN, by exact qW HB.out⟩
   replace c17 := Bool.eq_false_iff.mpr c17
   subst c17
   have H1 : ((spec_newImage.f a1 a2 a0_2).bind fun bt690 => (spec_ScaleArea.l0 kj3 a1 a2 (wrap64 (a0_0 * a0_1)) 0 a0_0 a0_1 a0_2 l0_3 bt690.1 bt690.2.1 bt690.2.2.1 bt690.2.2.2)) = some (r1, r2, r3, r4) := by rw [if_neg (show ¬ (false = true) by decide)] at H; exact H
   clear H
   have H := H1
   clear H1
   replace H := Option.bind_eq_some_iff.mp H
   obtain ⟨⟨t690, t691, t692, t693⟩, A200, H⟩ := H
   replace H : (spec_ScaleArea.l0 kj3 a1 a2 (wrap64 (a0_0 * a0_1)) 0 a0_0 a0_1 a0_2 l0_3 t690 t691 t692 t693) = some (r1, r2, r3, r4) := H
   have A20 := aM A200
   clear A200
   have H' := aM H
   clear H
   have hnb21 := NB686_687.out
   have hnc21 := NB687_686.out
   obtain ⟨⟨hcz22_0, hcz22_1, hcz22_2, hcz22_3⟩, hfz22_0, hfz22_1, hfz22_2, hfz22_3⟩ := cf4 BK686
   go_wp2_with (first | ((with_reducible refine gate_callee (f := 45) rfl ?_); refine gL (some 28) Try.func45 #[.int .i64 a1, .int .i64 a2, .int .i64 a0_2] ?_; (with_reducible refine (spec_newImage.calls a1 a2 a0_2 t690 t691 t692 t693 _ A20.out).mono ?_); rintro e w23 ⟨v694, rfl, ho0, hb⟩; refine ⟨_, rfl, ?_⟩; have HO695 := oR ho0 HB; replace BK686 := bB BK686 hb; replace BK687 := bB BK687 hb; replace HB := bS HB hb; clear hb ho0) | ((with_reducible refine gate_dst (N := 7) rfl ?_); refine bxE (N := 7) (cs := #[.int .i64 0, .int .i64 0, .int .i64 0, .slice none 0 0]) (t := 26) ?_; intro gb696 hg w24 hbox hb; replace HO695 := aM (Kd.R_below (qR HO695.out) hb); have BK696 := aM (hbox); have GW696 := gW hg HB; have GE696 := gW hg HB; replace HB := bS HB hb; have NB686_696 := nL hg BK686; have NB696_686 := nG hg BK686; replace BK686 := bB BK686 hb; have NB687_696 := nL hg BK687; have NB696_687 := nG hg BK687; replace BK687 := bB BK687 hb; clear hb hbox hg; have hnb25 := NB696_686.out; have hnc25 := NB686_696.out; have hnb26 := NB696_687.out; have hnc26 := NB687_696.out; obtain ⟨⟨hcz27_0, hcz27_1, hcz27_2, hcz27_3⟩, hfz27_0, hfz27_1, hfz27_2, hfz27_3⟩ := cf4 BK696; obtain ⟨Ao28, co28, rfl⟩ := sL HO695; obtain ⟨⟨hcz29_0, hcz29_1, hcz29_2, hcz29_3⟩, hfz29_0, hfz29_1, hfz29_2, hfz29_3⟩ := cf4 BK686))
   go_loopg [9] kj3 (fun kq v9 w' => ∃ (x9_2 : Int) (x697003_2 : List Int) (u697003 : Value), v9 = .int .i64 x9_2 ∧ Aside0 (spec_ScaleArea.l0 kq a1 a2 (wrap64 (a0_0 * a0_1)) x9_2 a0_0 a0_1 a0_2 l0_3 t690 t691 t692 x697003_2 = some (r1, r2, r3, r4)) ∧ Aside0 (kq ≤ kj3) ∧ Aside0 (Kd.R (Kd.int .i64) 3 w' w.heap.size (fun _ => True) u697003 x697003_2) ∧ Aside0 (w'.heap[gb686]? = some (.cells #[.int .i64 a0_0, .int .i64 a0_1, .int .i64 a0_2, (.slice A0_3 l0_3.length c0_3)] 26 (0, 0))) ∧ Aside0 (w'.heap[gb687]? = some (.cells #[.int .i64 0, .int .i64 0, .int .i64 0, (.slice none 0 0)] 26 (0, 0))) ∧ Aside0 (w'.heap[gb696]? = some (.cells #[.int .i64 t690, .int .i64 t691, .int .i64 t692, u697003] 26 (0, 0))) ∧ Aside0 (Below w.heap.size w w'))
   case atStart => exact ⟨(0), (t693), (.slice Ao28 t693.length co28), qE, H', ⟨Nat.le_refl _⟩, ⟨by refine qR ?_; exact Kd.R_mono (rT HO695 BK696) (fun _ hk => trivial)⟩, ⟨by refine qB ?_; refine blk_far ?_ NB686_696.out _; refine qB ?_; refine blk_far ?_ NB686_696.out _; refine qB ?_; refine blk_far ?_ NB686_696.out _; refine qB ?_; refine blk_far ?_ NB686_696.out _; refine qB ?_; exact BK686.out⟩, ⟨by refine qB ?_; refine blk_far ?_ NB687_696.out _; refine qB ?_; refine blk_far ?_ NB687_696.out _; refine qB ?_; refine blk_far ?_ NB687_696.out _; refine qB ?_; refine blk_far ?_ NB687_696.out _; refine qB ?_; exact BK687.out⟩, ⟨by exact bP BK696.out⟩, ⟨by exact qW HB.out⟩⟩
   case round =>
    clear H'
    try clear c8
    try clear c17
    try clear hcz11_0 hcz11_1 hcz11_2 hcz11_3 hfz11_0 hfz11_1 hfz11_2 hfz11_3
    try clear hcz13_0 hcz13_1 hcz13_2 hcz13_3 hfz13_0 hfz13_1 hfz13_2 hfz13_3
    try clear hcz15_0 hcz15_1 hcz15_2 hcz15_3 hfz15_0 hfz15_1 hfz15_2 hfz15_3
    try clear hcz19_0 hcz19_1 hcz19_2 hcz19_3 hfz19_0 hfz19_1 hfz19_2 hfz19_3
    try clear hcz22_0 hcz22_1 hcz22_2 hcz22_3 hfz22_0 hfz22_1 hfz22_2 hfz22_3
    try clear hcz27_0 hcz27_1 hcz27_2 hcz27_3 hfz27_0 hfz27_1 hfz27_2 hfz27_3
    try clear hcz29_0 hcz29_1 hcz29_2 hcz29_3 hfz29_0 hfz29_1 hfz29_2 hfz29_3
    obtain ⟨x9_2, x697003_2, u697003, rfl, HA, HK2, HO_697003, BK686, BK687, BK696, HB⟩ := hrel
    cases gk with
    | zero => exact absurd HA.out (by simp [spec_ScaleArea.l0])
    | succ k2 =>
     have H := HA.out
     clear HA
     simp only [spec_ScaleArea.l0] at H
     by_cases c30 : x9_2 < a2
     rotate_left
     ·rw [if_neg c30] at H
      have c30b0 : decide (x9_2 < a2) = false := decide_eq_false c30
      clear c30
      simp only [Option.some.injEq, Prod.mk.injEq] at H
      obtain ⟨rfl, rfl, rfl, rfl⟩ := H
      have hnb48 := NB696_686.out
      have hnc48 := NB686_696.out
      have hnb49 := NB696_687.out
      have hnc49 := NB687_696.out
      obtain ⟨⟨hcz50_0, hcz50_1, hcz50_2, hcz50_3⟩, hfz50_0, hfz50_1, hfz50_2, hfz50_3⟩ := cf4 BK696
      have hnb51 := NB687_686.out
      have hnc51 := NB686_687.out
      obtain ⟨⟨hcz52_0, hcz52_1, hcz52_2, hcz52_3⟩, hfz52_0, hfz52_1, hfz52_2, hfz52_3⟩ := cf4 BK687
      obtain ⟨Ao53, co53, rfl⟩ := sL HO_697003
      go_wp2
      refine bodyPost_ret (results_cell_row rfl _ _ gb687 26 #[.int .i64 t690, .int .i64 t691, .int .i64 t692, .slice Ao53 x697003_2.length co53] (0, 0) _ rfl (by exact bP BK687.out) Try.underlying26 rfl (by kernel_rfl)) rfl ?_
      exact ⟨_, qX, by refine qR ?_; exact Kd.R_mono (rT HO_697003 BK687) (fun _ hk => trivial), by exact qW HB.out⟩
     rw [if_pos c30] at H
     have c30b0 : decide (x9_2 < a2) = true := decide_eq_true c30
     clear c30
     have H' := aM H
     clear H
     go_wp2
     go_loopg [10] k2 (fun kq v10 w' => ∃ (x10_3 : Int) (x697003_3 : List Int) (u697003 : Value), v10 = .int .i64 x10_3 ∧ Aside0 (spec_ScaleArea.l1 kq a1 a2 (wrap64 (a0_0 * a0_1)) x9_2 x10_3 a0_0 a0_1 a0_2 l0_3 t690 t691 t692 x697003_3 = some (r1, r2, r3, r4)) ∧ Aside0 (kq ≤ k2) ∧ Aside0 (Kd.R (Kd.int .i64) 3 w' w.heap.size (fun _ => True) u697003 x697003_3) ∧ Aside0 (w'.heap[gb686]? = some (.cells #[.int .i64 a0_0, .int .i64 a0_1, .int .i64 a0_2, (.slice A0_3 l0_3.length c0_3)] 26 (0, 0))) ∧ Aside0 (w'.heap[gb687]? = some (.cells #[.int .i64 0, .int .i64 0, .int .i64 0, (.slice none 0 0)] 26 (0, 0))) ∧ Aside0 (w'.heap[gb696]? = some (.cells #[.int .i64 t690, .int .i64 t691, .int .i64 t692, u697003] 26 (0, 0))) ∧ Aside0 (Below w.heap.size w w'))
     case atStart => exact ⟨(0), (x697003_2), (u697003), qE, H', ⟨Nat.le_refl _⟩, ⟨by refine qR ?_; exact HO_697003.out⟩, ⟨by refine qB ?_; exact BK686.out⟩, ⟨by refine qB ?_; exact BK687.out⟩, ⟨by refine qB ?_; exact BK696.out⟩, ⟨by exact qW HB.out⟩⟩
     case round =>
      clear H'
      try clear c8
      try clear c17
      try clear c30
      try clear c30b0
      try clear hcz11_0 hcz11_1 hcz11_2 hcz11_3 hfz11_0 hfz11_1 hfz11_2 hfz11_3
      try clear hcz13_0 hcz13_1 hcz13_2 hcz13_3 hfz13_0 hfz13_1 hfz13_2 hfz13_3
      try clear hcz15_0 hcz15_1 hcz15_2 hcz15_3 hfz15_0 hfz15_1 hfz15_2 hfz15_3
      try clear hcz19_0 hcz19_1 hcz19_2 hcz19_3 hfz19_0 hfz19_1 hfz19_2 hfz19_3
      try clear hcz22_0 hcz22_1 hcz22_2 hcz22_3 hfz22_0 hfz22_1 hfz22_2 hfz22_3
      try clear hcz27_0 hcz27_1 hcz27_2 hcz27_3 hfz27_0 hfz27_1 hfz27_2 hfz27_3
      try clear hcz29_0 hcz29_1 hcz29_2 hcz29_3 hfz29_0 hfz29_1 hfz29_2 hfz29_3
      obtain ⟨x10_3, x697003_3, u697003, rfl, HA, HK3, HO_697003, BK686, BK687, BK696, HB⟩ := hrel
      cases gk with
      | zero => exact absurd HA.out (by simp [spec_ScaleArea.l1])
      | succ k3 =>
       have H := HA.out
       clear HA
       simp only [spec_ScaleArea.l1] at H
       by_cases c31 : x10_3 < a1
       rotate_left
       ·rw [if_neg c31] at H
        have c31b0 : decide (x10_3 < a1) = false := decide_eq_false c31
        clear c31
        have H' := aM H
        clear H
        go_wp2
        go_roundg k3
        case measure => have := HJ3.out; have := HK2.out; have := HK3.out; omega
        case rel => exact ⟨(wrap64 (x9_2 + 1)), (x697003_3), (u697003), qE, H', ⟨by have := HJ3.out; have := HK2.out; have := HK3.out; omega⟩, ⟨by refine qR ?_; exact HO_697003.out⟩, ⟨by refine qB ?_; exact BK686.out⟩, ⟨by refine qB ?_; exact BK687.out⟩, ⟨by refine qB ?_; exact BK696.out⟩, ⟨by exact qW HB.out⟩⟩
       rw [if_pos c31] at H
       have c31b0 : decide (x10_3 < a1) = true := decide_eq_true c31
       clear c31
       have H' := aM H
       clear H
       go_wp2
       go_loopg [11] k3 (fun kq v11 w' => ∃ (x11_4 : Int) (x697003_4 : List Int) (u697003 : Value), v11 = .int .i64 x11_4 ∧ Aside0 (spec_ScaleArea.l2 kq a1 a2 (wrap64 (a0_0 * a0_1)) x9_2 x10_3 x11_4 a0_0 a0_1 a0_2 l0_3 t690 t691 t692 x697003_4 = some (r1, r2, r3, r4)) ∧ Aside0 (kq ≤ k3) ∧ Aside0 (Kd.R (Kd.int .i64) 3 w' w.heap.size (fun _ => True) u697003 x697003_4) ∧ Aside0 (w'.heap[gb686]? = some (.cells #[.int .i64 a0_0, .int .i64 a0_1, .int .i64 a0_2, (.slice A0_3 l0_3.length c0_3)] 26 (0, 0))) ∧ Aside0 (w'.heap[gb687]? = some (.cells #[.int .i64 0, .int .i64 0, .int .i64 0, (.slice none 0 0)] 26 (0, 0))) ∧ Aside0 (w'.heap[gb696]? = some (.cells #[.int .i64 t690, .int .i64 t691, .int .i64 t692, u697003] 26 (0, 0))) ∧ Aside0 (Below w.heap.size w w'))
       case atStart => exact ⟨(0), (x697003_3), (u697003), qE, H', ⟨Nat.le_refl _⟩, ⟨by refine qR ?_; exact HO_697003.out⟩, ⟨by refine qB ?_; exact BK686.out⟩, ⟨by refine qB ?_; exact BK687.out⟩, ⟨by refine qB ?_; exact BK696.out⟩, ⟨by exact qW HB.out⟩⟩
       case round =>
        clear H'
        try clear c8
        try clear c17
        try clear c30
        try clear c30b0
        try clear c31
        try clear c31b0
        try clear hcz11_0 hcz11_1 hcz11_2 hcz11_3 hfz11_0 hfz11_1 hfz11_2 hfz11_3
        try clear hcz13_0 hcz13_1 hcz13_2 hcz13_3 hfz13_0 hfz13_1 hfz13_2 hfz13_3
        try clear hcz15_0 hcz15_1 hcz15_2 hcz15_3 hfz15_0 hfz15_1 hfz15_2 hfz15_3
        try clear hcz19_0 hcz19_1 hcz19_2 hcz19_3 hfz19_0 hfz19_1 hfz19_2 hfz19_3
        try clear hcz22_0 hcz22_1 hcz22_2 hcz22_3 hfz22_0 hfz22_1 hfz22_2 hfz22_3
        try clear hcz27_0 hcz27_1 hcz27_2 hcz27_3 hfz27_0 hfz27_1 hfz27_2 hfz27_3
        try clear hcz29_0 hcz29_1 hcz29_2 hcz29_3 hfz29_0 hfz29_1 hfz29_2 hfz29_3
        obtain ⟨x11_4, x697003_4, u697003, rfl, HA, HK4, HO_697003, BK686, BK687, BK696, HB⟩ := hrel
        cases gk with
        | zero => exact absurd HA.out (by simp [spec_ScaleArea.l2])
        | succ k4 =>
         have H := HA.out
         clear HA
         simp only [spec_ScaleArea.l2] at H
         by_cases c32 : x11_4 < a0_2
         rotate_left
         ·rw [if_neg c32] at H
          have c32b0 : decide (x11_4 < a0_2) = false := decide_eq_false c32
          clear c32
          have H' := aM H
          clear H
          have hnb45 := NB686_687.out
          have hnc45 := NB687_686.out
          have hnb46 := NB686_696.out
          have hnc46 := NB696_686.out
          obtain ⟨⟨hcz47_0, hcz47_1, hcz47_2, hcz47_3⟩, hfz47_0, hfz47_1, hfz47_2, hfz47_3⟩ := cf4 BK686
          go_wp2
          go_roundg k4
          case measure => have := HJ3.out; have := HK2.out; have := HK3.out; have := HK4.out; omega
          case rel => exact ⟨(wrap64 (x10_3 + 1)), (x697003_4), (u697003), qE, H', ⟨by have := HJ3.out; have := HK2.out; have := HK3.out; have := HK4.out; omega⟩, ⟨by refine qR ?_; exact HO_697003.out⟩, ⟨by refine qB ?_; exact BK686.out⟩, ⟨by refine qB ?_; exact BK687.out⟩, ⟨by refine qB ?_; exact BK696.out⟩, ⟨by exact qW HB.out⟩⟩
         rw [if_pos c32] at H
         have c32b0 : decide (x11_4 < a0_2) = true := decide_eq_true c32
         clear c32
         replace H := Option.bind_eq_some_iff.mp H
         obtain ⟨t697, A330, H⟩ := H
         replace H : (if (wrap64 (2 * (wrap64 (a0_0 * a0_1)))) = 0 then (none) else (if 0 ≤ (wrap64 ((wrap64 ((wrap64 ((wrap64 (x9_2 * a1)) + x10_3)) * a0_2)) + x11_4)) then (if (wrap64 ((wrap64 ((wrap64 ((wrap64 (x9_2 * a1)) + x10_3)) * a0_2)) + x11_4)) < (x697003_4.length : Int) then (spec_ScaleArea.l2 k4 a1 a2 (wrap64 (a0_0 * a0_1)) x9_2 x10_3 (wrap64 (x11_4 + 1)) a0_0 a0_1 a0_2 l0_3 t690 t691 t692 (x697003_4.set ((wrap64 ((wrap64 ((wrap64 ((wrap64 (x9_2 * a1)) + x10_3)) * a0_2)) + x11_4)) : Int).toNat (wrap64 (Int.tdiv (wrap64 ((wrap64 (2 * t697)) + (wrap64 (a0_0 * a0_1)))) (wrap64 (2 * (wrap64 (a0_0 * a0_1)))))))) else (none)) else (none))) = some (r1, r2, r3, r4) := H
         have A33 := aM A330
         clear A330
         by_cases c34 : (wrap64 (2 * (wrap64 (a0_0 * a0_1)))) = 0
         ·rw [if_pos c34] at H
          exact absurd H (by simp)
         rw [if_neg c34] at H
         have c34b0 : ((wrap64 (2 * (wrap64 (a0_0 * a0_1)))) == 0) = false := beq_eq_false_iff_ne.mpr c34
         have c34b1 : ((wrap64 (2 * (wrap64 (a0_0 * a0_1)))) != 0) = true := bne_iff_ne.mpr c34
         obtain ⟨ji35, hji35⟩ : ∃ j_ : Int, (wrap64 ((wrap64 ((wrap64 ((wrap64 (x9_2 * a1)) + x10_3)) * a0_2)) + x11_4)) = j_ := ⟨_, rfl⟩
         replace H : (if 0 ≤ (ji35) then (if (ji35) < (x697003_4.length : Int) then (spec_ScaleArea.l2 k4 a1 a2 (wrap64 (a0_0 * a0_1)) x9_2 x10_3 (wrap64 (x11_4 + 1)) a0_0 a0_1 a0_2 l0_3 t690 t691 t692 (x697003_4.set ((ji35) : Int).toNat (wrap64 (Int.tdiv (wrap64 ((wrap64 (2 * t697)) + (wrap64 (a0_0 * a0_1)))) (wrap64 (2 * (wrap64 (a0_0 * a0_1)))))))) else (none)) else (none)) = some (r1, r2, r3, r4) := by first | (rw [hji35] at H; exact H) | (simp only [hji35] at H ⊢; exact H)
         (try rw [hji35] at A33)
         have hji35w : (IntKind.i64.wrap ((wrap64 ((wrap64 ((wrap64 (x9_2 * a1)) + x10_3)) * a0_2)) + x11_4)) = ji35 := (i64_w _).trans hji35
         replace H := iD H
         obtain ⟨c36b0, H⟩ := H
         replace H := iD H
         obtain ⟨c37b0, H⟩ := H
         obtain ⟨y698, hy698⟩ : ∃ y_ : List Int, y_ = (x697003_4.set ((ji35) : Int).toNat (wrap64 (Int.tdiv (wrap64 ((wrap64 (2 * t697)) + (wrap64 (a0_0 * a0_1)))) (wrap64 (2 * (wrap64 (a0_0 * a0_1))))))) := ⟨_, rfl⟩
         replace H : (spec_ScaleArea.l2 k4 a1 a2 (wrap64 (a0_0 * a0_1)) x9_2 x10_3 (wrap64 (x11_4 + 1)) a0_0 a0_1 a0_2 l0_3 t690 t691 t692 y698) = some (r1, r2, r3, r4) := rY hy698 H
         have Ny698 := aM hy698
         clear hy698
         have H' := aM H
         clear H
         have hnb39 := NB686_687.out
         have hnc39 := NB687_686.out
         have hnb40 := NB686_696.out
         have hnc40 := NB696_686.out
         obtain ⟨⟨hcz41_0, hcz41_1, hcz41_2, hcz41_3⟩, hfz41_0, hfz41_1, hfz41_2, hfz41_3⟩ := cf4 BK686
         try go_wp2
         replace HO_697003 := aM (Kd.R_drew HO_697003.out)
         replace BK686 := aM (blk_drew BK686.out)
         replace BK687 := aM (blk_drew BK687.out)
         replace BK696 := aM (blk_drew BK696.out)
         replace HB := aM (below_drew1 HB.out)
         refine start_ (n := 27) (S := fun w' => w'.cell? ⟨gb696, 0, none⟩ = some (.int .i64 t690) ∧ w'.cell? ⟨gb696, 1, none⟩ = some (.int .i64 t691) ∧ w'.cell? ⟨gb696, 2, none⟩ = some (.int .i64 t692) ∧ w'.cell? ⟨gb696, 3, none⟩ = some (u697003) ∧ w'.cell? ⟨gb686, 0, none⟩ = some (.int .i64 a0_0) ∧ w'.cell? ⟨gb686, 1, none⟩ = some (.int .i64 a0_1) ∧ w'.cell? ⟨gb686, 2, none⟩ = some (.int .i64 a0_2) ∧ w'.cell? ⟨gb686, 3, none⟩ = some (.slice A0_3 l0_3.length c0_3)) (ds := [26]) (bA 27 0) (by kernel_rfl) rfl rfl ⟨(blk_cell BK696.out 0).trans rfl, (blk_cell BK696.out 1).trans rfl, (blk_cell BK696.out 2).trans rfl, (blk_cell BK696.out 3).trans rfl, (blk_cell BK686.out 0).trans rfl, (blk_cell BK686.out 1).trans rfl, (blk_cell BK686.out 2).trans rfl, (blk_cell BK686.out 3).trans rfl⟩ (fun hHeld => ?_); refine with_tabW spec_ScaleArea.tab14 spec_ScaleArea.bits14 (fun HT_ HW_ => ?_)
         generalize wr.drew = w42 at HO_697003 BK686 BK687 BK696 HB hHeld ⊢
         refine pQ 0 50 HT_ (bA 27 1) ?_
         refine pQ 2 52 HT_ (bA 27 5) ?_
         refine pQ 3 53 HT_ (bA 27 13) ?_
         refine pQ 4 54 HT_ (bA 27 29) ?_
         refine pQ 5 55 HT_ (bA 27 61) ?_
         refine pQ 6 56 HT_ (bA 27 125) ?_
         refine pQ 7 57 HT_ (bA 27 253) ?_
         refine pQ 10 60 HT_ (bA 27 1277) ?_
         refine pQ 13 63 HT_ (bA 27 9469) ?_
         refine pQ 14 64 HT_ (bA 27 25853) ?_
         refine pQ 15 65 HT_ (bA 27 58621) ?_
         refine pQ 16 66 HT_ (bA 27 124157) ?_
         refine pQ 17 67 HT_ (bA 27 255229) ?_
         refine pQ 20 70 HT_ (bA 27 1303805) ?_
         refine pQ 22 72 HT_ (bA 27 5498109) ?_
         refine pQ 23 73 HT_ (bA 27 13886717) ?_
         refine take_ (i := 1) (N := some 51) (v := ?_) (a' := ?_) (bA 27 13886719) rfl rfl (take_ofW HT_.out HW_.out (by kernel_rfl)) (fun _ _ _ h => h) (Or.inl ⟨by rfl, ?_⟩) hHeld ?_ ?_
         rotate_left
         ·rintro w' ⟨s0, s1, s2, s3, s4, s5, s6, s7⟩
          go_simp
          with_reducible rfl
         rotate_left
         ·refine pZ ?_
          rfl
         refine take_ (i := 8) (N := some 58) (v := ?_) (a' := ?_) (bA 27 13886975) rfl rfl (take_ofW HT_.out HW_.out (by kernel_rfl)) (fun _ _ _ h => h) (Or.inl ⟨by rfl, ?_⟩) hHeld ?_ ?_
         rotate_left
         ·rintro w' ⟨s0, s1, s2, s3, s4, s5, s6, s7⟩
          go_simp
          with_reducible rfl
         rotate_left
         ·refine pZ ?_
          rfl
         refine pQ 9 59 HT_ (bA 27 13887487) ?_
         refine pQ 11 61 HT_ (bA 27 13889535) ?_
         refine take_ (i := 12) (N := some 62) (v := ?_) (a' := ?_) (bA 27 13893631) rfl rfl (take_ofW HT_.out HW_.out (by kernel_rfl)) (fun _ _ _ h => h) (Or.inl ⟨by rfl, ?_⟩) hHeld ?_ ?_
         rotate_left
         ·rintro w' ⟨s0, s1, s2, s3, s4, s5, s6, s7⟩
          go_simp
          with_reducible rfl
         rotate_left
         ·refine pZ ?_
          rfl
         refine one_ (i := 18) (N := some 68) (bA 27 14155775) rfl rfl (one_of HT_.out (by kernel_rfl)) (by decide) (fun K hK => ?_)
         refine goes_ Try.func72 (by kernel_rfl) rfl #[.agg #[.int .i64 a0_0, .int .i64 a0_1, .int .i64 a0_2, .slice A0_3 l0_3.length c0_3], .int .i64 a1, .int .i64 a2, .int .i64 x10_3, .int .i64 x9_2, .int .i64 x11_4] (by rfl) rfl rfl qM ?_
         with_reducible refine (spec_areaSum.calls k4 a0_0 a0_1 a0_2 _ _ l0_3 a1 a2 x10_3 x9_2 x11_4 t697 _ ?side1 ?side2 A33.out).mono ?_
         (case side1 => exact qC (Kd.C_below HR0_3.out HB.out))
         (case side2 => exact HC0_3.out)
         rintro e w43 ⟨rfl, hb⟩
         refine ⟨_, rfl, ?_⟩
         replace HO_697003 := aM (Kd.R_below (qR HO_697003.out) hb)
         replace BK686 := bB BK686 hb
         replace BK687 := bB BK687 hb
         replace BK696 := bB BK696 hb
         replace HB := bS HB hb
         (try clear hb)
         (try clear hb2)
         (try clear hk)
         (try clear hi)
         have p38 : 0 ≤ ((ji35) : Int) := oD
         have q38 : ((ji35) : Int) < ((x697003_4.length : Int) : Int) := oD
         obtain ⟨go38, co38, eo38, gb38, gl38, cl38, HG38⟩ := Kd.R_form HO_697003.out (by omega)
         (first | cases eo38 | (injection eo38 with ea_ en_ ec_; (first | subst ea_ | (injection ea_ with ea_; subst ea_)); subst ec_; clear en_))
         have GB38 := aM gb38
         have GG38 := aM HG38
         clear gb38 gl38 HG38
         obtain ⟨hx38_0, hf38_0⟩ := Kd.R_celln 0 HO_697003.out ((ji35) : Int) p38 q38
         replace p38 := eq_true p38
         replace q38 := eq_true q38
         have HP44 := Kd.R_putn HO_697003.out ((ji35) : Int) (wrap64 (Int.tdiv (wrap64 ((wrap64 (2 * t697)) + (wrap64 (a0_0 * a0_1)))) (wrap64 (2 * (wrap64 (a0_0 * a0_1))))))
         rw [← Ny698.out] at HP44
         have HQ44 := aM HP44
         clear HP44
         refine hK.out _ _ ⟨(blk_cell BK696.out 0).trans rfl, (blk_cell BK696.out 1).trans rfl, (blk_cell BK696.out 2).trans rfl, (blk_cell BK696.out 3).trans rfl, (blk_cell BK686.out 0).trans rfl, (blk_cell BK686.out 1).trans rfl, (blk_cell BK686.out 2).trans rfl, (blk_cell BK686.out 3).trans rfl⟩ (fun hHeld => ?_)
         clear hK K
         refine norm_ (a' := ?_) ?_ ?_
         rotate_left
         ·show Act.put _ (some 68) _ = _
          refine pZ ?_
          rfl
         refine pQ 19 69 HT_ (bA 27 14680063) ?_
         refine pQ 21 71 HT_ (bA 27 16777215) ?_
         refine pQ 24 74 HT_ (bA 27 33554431) ?_
         refine pQ 25 75 HT_ (bA 27 67108863) ?_
         refine last_ (i := 26) (N := none) (bA 27 134217727) rfl rfl (one_of HT_.out (by kernel_rfl)) (by decide) (fun K hK => ?_)
         refine skip_ (w1 := ?_) (by rfl) rfl ?_ ?_
         rotate_left
         ·go_simp
          rfl
         refine hK.out _ _ ?_
         clear hK K
         refine done_ (done_of HT_.out (by kernel_rfl)) ?_
         try go_wp2
         go_roundg k4
         case measure => have := HJ3.out; have := HK2.out; have := HK3.out; have := HK4.out; omega
         case rel => exact ⟨(wrap64 (x11_4 + 1)), (y698), (.slice (some ⟨go38, 0, none⟩) x697003_4.length co38), qE, H', ⟨by have := HJ3.out; have := HK2.out; have := HK3.out; have := HK4.out; omega⟩, ⟨by refine qR ?_; exact HQ44.out⟩, ⟨by refine qB ?_; refine blk_far ?_ (by have h_ := Kd.R_ne HO_697003.out BK686.out (by decide); intro e_; exact h_ (by rw [e_]; rfl)) _; refine qB ?_; exact BK686.out⟩, ⟨by refine qB ?_; refine blk_far ?_ (by have h_ := Kd.R_ne HO_697003.out BK687.out (by decide); intro e_; exact h_ (by rw [e_]; rfl)) _; refine qB ?_; exact BK687.out⟩, ⟨by refine qB ?_; refine blk_far ?_ (by have h_ := Kd.R_ne HO_697003.out BK696.out (by decide); intro e_; exact h_ (by rw [e_]; rfl)) _; refine qB ?_; exact BK696.out⟩, ⟨by exact qW HB.out⟩⟩
def laws_szIntS.f (l0 : List Int) (a1 : Int) : Option (Int) := if (wrap64 (a1 - (l0.length : Int))) < 0 then (some (-1)) else (some (wrap64 (a1 - (l0.length : Int))))
set_option maxHeartbeats 8000000 in
set_option maxRecDepth 100000 in
theorem laws_szIntS.calls (A0 : Option Addr) (c0 : Nat) (l0 : List Int) (a1 : Int) (r : Int) (w : World) (hr0 : Kd.C (Kd.int .i64) w A0 l0.length l0) (hc0 : l0.length ≤ c0) (h : laws_szIntS.f l0 a1 = some r) :
  Calls Try.prog 43 #[.slice A0 l0.length c0, .int .i64 a1] w fun e w' => e = .returned (.int .i64 r) ∧ Drawn0 w w' := by
 have HR0 := aM hr0
 have HC0 := aM hc0
 clear hr0 hc0
 unfold laws_szIntS.f at h
 have H := h
 clear h
 by_cases c3 : (wrap64 (a1 - (l0.length : Int))) < 0
 ·rw [if_pos c3] at H
  have c3b0 : decide ((wrap64 (a1 - (l0.length : Int))) < 0) = true := decide_eq_true c3
  clear c3
  obtain rfl := Option.some.inj H
  go_enter Try.func43, Try.ntmps43
  go_wp2
  go_ret
  exact ⟨qE, qD⟩
 rw [if_neg c3] at H
 have c3b0 : decide ((wrap64 (a1 - (l0.length : Int))) < 0) = false := decide_eq_false c3
 clear c3
 obtain rfl := Option.some.inj H
 go_enter Try.func43, Try.ntmps43
 go_wp2
 go_ret
 exact ⟨qE, qD⟩
def laws_szImage.f (a0_0 : Int) (a0_1 : Int) (a0_2 : Int) (l0_3 : List Int) (a1 : Int) : Option (Int) := (laws_szIntS.f l0_3 a1).bind fun t102 => (if t102 < 0 then (some (-1)) else (some t102))
set_option maxHeartbeats 8000000 in
set_option maxRecDepth 100000 in
theorem laws_szImage.calls (a0_0 : Int) (a0_1 : Int) (a0_2 : Int) (A0_3 : Option Addr) (c0_3 : Nat) (l0_3 : List Int) (a1 : Int) (r : Int) (w : World) (hr0_3 : Kd.C (Kd.int .i64) w A0_3 l0_3.length l0_3) (hc0_3 : l0_3.length ≤ c0_3) (h : laws_szImage.f a0_0 a0_1 a0_2 l0_3 a1 = some r) :
  Calls Try.prog 15 #[.agg #[.int .i64 a0_0, .int .i64 a0_1, .int .i64 a0_2, .slice A0_3 l0_3.length c0_3], .int .i64 a1] w fun e w' => e = .returned (.int .i64 r) ∧ Below w.heap.size w w' := by
 have hu24 := Try.underlying24
 have HR0_3 := aM hr0_3
 have HC0_3 := aM hc0_3
 clear hr0_3 hc0_3
 have HB := aM (Below.refl w.heap.size w)
 unfold laws_szImage.f at h
 have H := h
 clear h
 replace H := Option.bind_eq_some_iff.mp H
 obtain ⟨t102, A30, H⟩ := H
 replace H : (if t102 < 0 then (some (-1)) else (some t102)) = some r := H
 have A3 := aM A30
 clear A30
 by_cases c4 : t102 < 0
 ·rw [if_pos c4] at H
  have c4b0 : decide (t102 < 0) = true := decide_eq_true c4
  clear c4
  obtain rfl := Option.some.inj H
  go_enter Try.func15, Try.ntmps15
  go_wp2_with (first | ((with_reducible refine gate_dst (N := 2) rfl ?_); refine bxE (N := 2) (cs := #[.int .i64 a0_0, .int .i64 a0_1, .int .i64 a0_2, .slice A0_3 l0_3.length c0_3]) (t := 24) ?_; intro gb101 hg w5 hbox hb; have BK101 := aM (hbox); have GW101 := gW hg HB; have GE101 := gW hg HB; replace HB := bS HB hb; clear hb hbox hg; obtain ⟨⟨hcz6_0, hcz6_1, hcz6_2, hcz6_3⟩, hfz6_0, hfz6_1, hfz6_2, hfz6_3⟩ := cf4 BK101) | ((with_reducible refine gate_callee (f := 43) rfl ?_); refine gL (some 8) Try.func43 #[.slice A0_3 l0_3.length c0_3, .int .i64 a1] ?_; (with_reducible refine (laws_szIntS.calls _ _ l0_3 a1 t102 _ ?side1 ?side2 A3.out).mono ?_); (case side1 => exact qC (Kd.C_below HR0_3.out HB.out)); (case side2 => exact HC0_3.out); rintro e w' ⟨rfl, ⟨nd, rfl⟩⟩; refine ⟨_, rfl, ?_⟩))
  go_ret
  exact ⟨qX, by exact qW HB.out⟩
 rw [if_neg c4] at H
 have c4b0 : decide (t102 < 0) = false := decide_eq_false c4
 clear c4
 obtain rfl := Option.some.inj H
 go_enter Try.func15, Try.ntmps15
 go_wp2_with (first | ((with_reducible refine gate_dst (N := 2) rfl ?_); refine bxE (N := 2) (cs := #[.int .i64 a0_0, .int .i64 a0_1, .int .i64 a0_2, .slice A0_3 l0_3.length c0_3]) (t := 24) ?_; intro gb101 hg w7 hbox hb; have BK101 := aM (hbox); have GW101 := gW hg HB; have GE101 := gW hg HB; replace HB := bS HB hb; clear hb hbox hg; obtain ⟨⟨hcz8_0, hcz8_1, hcz8_2, hcz8_3⟩, hfz8_0, hfz8_1, hfz8_2, hfz8_3⟩ := cf4 BK101) | ((with_reducible refine gate_callee (f := 43) rfl ?_); refine gL (some 8) Try.func43 #[.slice A0_3 l0_3.length c0_3, .int .i64 a1] ?_; (with_reducible refine (laws_szIntS.calls _ _ l0_3 a1 t102 _ ?side1 ?side2 A3.out).mono ?_); (case side1 => exact qC (Kd.C_below HR0_3.out HB.out)); (case side2 => exact HC0_3.out); rintro e w' ⟨rfl, ⟨nd, rfl⟩⟩; refine ⟨_, rfl, ?_⟩))
 go_ret
 exact ⟨qX, by exact qW HB.out⟩
def laws_toImage.f (k : Nat) (a0_0 : Int) (a0_1 : Int) (a0_2 : Int) (l0_3 : List Int) : Option (Int × Int × Int × List Int) := (laws_toIntS.f k l0_3).bind fun t139 => (some (a0_0, a0_1, a0_2, t139))
theorem laws_toImage.mono : ∀ a0 a1 a2 a3 k, LeO (laws_toImage.f k a0 a1 a2 a3) (laws_toImage.f (k + 1) a0 a1 a2 a3) := by
 intro a0 a1 a2 a3 k
 unfold laws_toImage.f
 repeat' first | (with_reducible first | exact laws_toIntS.mono _ _ | exact lR | exact lN | refine lI ?_ ?_ | refine lB ?_ fun _ => ?_) | exact laws_toIntS.mono _ _ | exact lN | refine lI ?_ ?_ | refine lB ?_ fun _ => ?_
set_option maxHeartbeats 8000000 in
set_option maxRecDepth 100000 in
theorem laws_toImage.calls (k : Nat) (a0_0 : Int) (a0_1 : Int) (a0_2 : Int) (A0_3 : Option Addr) (c0_3 : Nat) (l0_3 : List Int) (r1 : Int) (r2 : Int) (r3 : Int) (r4 : List Int) (w : World) (hr0_3 : Kd.C (Kd.int .i64) w A0_3 l0_3.length l0_3) (hc0_3 : l0_3.length ≤ c0_3) (h : laws_toImage.f k a0_0 a0_1 a0_2 l0_3 = some (r1, r2, r3, r4)) :
  Calls Try.prog 17 #[.agg #[.int .i64 a0_0, .int .i64 a0_1, .int .i64 a0_2, .slice A0_3 l0_3.length c0_3]] w fun e w' => ∃ v3_ : Value, e = .returned (.agg #[.int .i64 r1, .int .i64 r2, .int .i64 r3, v3_]) ∧ Kd.R (Kd.int .i64) 3 w' w.heap.size (fun _ => True) v3_ r4 ∧ Below w.heap.size w w' := by
 have hu24 := Try.underlying24
 have hu26 := Try.underlying26
 have HR0_3 := aM hr0_3
 have HC0_3 := aM hc0_3
 clear hr0_3 hc0_3
 have HB := aM (Below.refl w.heap.size w)
 unfold laws_toImage.f at h
 have H := h
 clear h
 replace H := Option.bind_eq_some_iff.mp H
 obtain ⟨t139, A20, H⟩ := H
 replace H : (some (a0_0, a0_1, a0_2, t139)) = some (r1, r2, r3, r4) := H
 have A2 := aM A20
 clear A20
 simp only [Option.some.injEq, Prod.mk.injEq] at H
 obtain ⟨rfl, rfl, rfl, rfl⟩ := H
 go_enter Try.func17, Try.ntmps17
 go_wp2_with (first | ((with_reducible refine gate_dst (N := 1) rfl ?_); refine bxE (N := 1) (cs := #[.int .i64 a0_0, .int .i64 a0_1, .int .i64 a0_2, .slice A0_3 l0_3.length c0_3]) (t := 24) ?_; intro gb136 hg w3 hbox hb; have BK136 := aM (hbox); have GW136 := gW hg HB; have GE136 := gW hg HB; replace HB := bS HB hb; clear hb hbox hg) | ((with_reducible refine gate_dst (N := 2) rfl ?_); refine bxE (N := 2) (cs := #[.int .i64 0, .int .i64 0, .int .i64 0, .slice none 0 0]) (t := 26) ?_; intro gb137 hg w4 hbox hb; have BK137 := aM (hbox); have GW137 := gW hg HB; have GE137 := gW hg HB; replace HB := bS HB hb; have NB136_137 := nL hg BK136; have NB137_136 := nG hg BK136; replace BK136 := bB BK136 hb; clear hb hbox hg) | ((with_reducible refine gate_dst (N := 3) rfl ?_); refine bxE (N := 3) (cs := #[.int .i64 0, .int .i64 0, .int .i64 0, .slice none 0 0]) (t := 26) ?_; intro gb138 hg w5 hbox hb; have BK138 := aM (hbox); have GW138 := gW hg HB; have GE138 := gW hg HB; replace HB := bS HB hb; have NB136_138 := nL hg BK136; have NB138_136 := nG hg BK136; replace BK136 := bB BK136 hb; have NB137_138 := nL hg BK137; have NB138_137 := nG hg BK137; replace BK137 := bB BK137 hb; clear hb hbox hg; have hnb6 := NB136_137.out; have hnc6 := NB137_136.out; have hnb7 := NB136_138.out; have hnc7 := NB138_136.out; obtain ⟨⟨hcz8_0, hcz8_1, hcz8_2, hcz8_3⟩, hfz8_0, hfz8_1, hfz8_2, hfz8_3⟩ := cf4 BK136; have hnb9 := NB138_137.out; have hnc9 := NB137_138.out; obtain ⟨⟨hcz10_0, hcz10_1, hcz10_2, hcz10_3⟩, hfz10_0, hfz10_1, hfz10_2, hfz10_3⟩ := cf4 BK138) | ((with_reducible refine gate_callee (f := 47) rfl ?_); refine gL (some 15) Try.func47 #[.slice A0_3 l0_3.length c0_3] ?_; (with_reducible refine (laws_toIntS.calls k _ _ l0_3 t139 _ ?side1 ?side2 A2.out).mono ?_); (case side1 => exact Kd.C_below HR0_3.out (qW HB.out)); (case side2 => exact HC0_3.out); rintro e w11 ⟨v140, rfl, ho0, hb⟩; refine ⟨_, rfl, ?_⟩; have HO141 := oR ho0 HB; replace BK136 := aM (blk_below (g := gb136) (o := .cells #[.int .i64 a0_0, .int .i64 a0_1, .int .i64 a0_2, .slice A0_3 l0_3.length c0_3] 24 (0, 0)) (by refine qB ?_; refine blk_far ?_ NB136_138.out _; refine qB ?_; refine blk_far ?_ NB136_138.out _; refine qB ?_; refine blk_far ?_ NB136_138.out _; refine qB ?_; exact BK136.out) hb); replace BK137 := aM (blk_below (g := gb137) (o := .cells #[.int .i64 0, .int .i64 0, .int .i64 0, .slice none 0 0] 26 (0, 0)) (by refine qB ?_; refine blk_far ?_ NB137_138.out _; refine qB ?_; refine blk_far ?_ NB137_138.out _; refine qB ?_; refine blk_far ?_ NB137_138.out _; refine qB ?_; exact BK137.out) hb); replace BK138 := aM (blk_below (g := gb138) (o := .cells #[.int .i64 a0_0, .int .i64 a0_1, .int .i64 a0_2, .slice none 0 0] 26 (0, 0)) (by exact bP BK138.out) hb); replace HB := bS HB hb; clear hb ho0; obtain ⟨Ao12, co12, rfl⟩ := sL HO141; obtain ⟨⟨hcz13_0, hcz13_1, hcz13_2, hcz13_3⟩, hfz13_0, hfz13_1, hfz13_2, hfz13_3⟩ := cf4 BK138; obtain ⟨⟨hcz14_0, hcz14_1, hcz14_2, hcz14_3⟩, hfz14_0, hfz14_1, hfz14_2, hfz14_3⟩ := cf4 BK137))
 refine bodyPost_ret (results_cell_row rfl _ _ gb137 26 #[.int .i64 a0_0, .int .i64 a0_1, .int .i64 a0_2, .slice Ao12 t139.length co12] (0, 0) _ rfl (by refine qB ?_; refine blk_put (cs := #[.int .i64 a0_0, .int .i64 a0_1, .int .i64 a0_2, .slice none 0 0]) ?_ 3 _ rfl; refine qB ?_; refine blk_put (cs := #[.int .i64 a0_0, .int .i64 a0_1, .int .i64 0, .slice none 0 0]) ?_ 2 _ rfl; refine qB ?_; refine blk_put (cs := #[.int .i64 a0_0, .int .i64 0, .int .i64 0, .slice none 0 0]) ?_ 1 _ rfl; refine qB ?_; refine blk_put (cs := #[.int .i64 0, .int .i64 0, .int .i64 0, .slice none 0 0]) ?_ 0 _ rfl; refine qB ?_; refine blk_far ?_ NB137_138.out _; refine qB ?_; exact BK137.out) Try.underlying26 rfl (by kernel_rfl)) rfl ?_
 exact ⟨_, qX, by refine qR ?_; exact Kd.R_mono (Kd.R_far (p := ⟨gb137, 3, none⟩) (Kd.R_far (p := ⟨gb137, 2, none⟩) (Kd.R_far (p := ⟨gb137, 1, none⟩) (Kd.R_far (p := ⟨gb137, 0, none⟩) (Kd.R_far (p := ⟨gb138, 3, none⟩) (Kd.R_types (Kd.R_types HO141.out BK138.out (by decide)) BK137.out (by decide)) (fun _ hk => hk.1.2) (.slice Ao12 t139.length co12)) (fun _ hk => hk.2) (.int .i64 a0_0)) (fun _ hk => hk.2) (.int .i64 a0_1)) (fun _ hk => hk.2) (.int .i64 a0_2)) (fun _ hk => hk.2) (.slice Ao12 t139.length co12)) (fun _ hk => trivial), by exact qW HB.out⟩
def laws_eqImage.f (k : Nat) (a0_0 : Int) (a0_1 : Int) (a0_2 : Int) (l0_3 : List Int) (a1_0 : Int) (a1_1 : Int) (a1_2 : Int) (l1_3 : List Int) : Option (Bool) := if a0_0 = a1_0 then (if a0_1 = a1_1 then (if a0_2 = a1_2 then ((laws_eqIntS.f k l0_3 l1_3).bind fun t152 => (if t152 = true then (some true) else (some false))) else (some false)) else (some false)) else (some false)
theorem laws_eqImage.mono : ∀ a0 a1 a2 a3 a4 a5 a6 a7 k, LeO (laws_eqImage.f k a0 a1 a2 a3 a4 a5 a6 a7) (laws_eqImage.f (k + 1) a0 a1 a2 a3 a4 a5 a6 a7) := by
 intro a0 a1 a2 a3 a4 a5 a6 a7 k
 unfold laws_eqImage.f
 repeat' first | (with_reducible first | exact laws_eqIntS.mono _ _ _ | exact lR | exact lN | refine lI ?_ ?_ | refine lB ?_ fun _ => ?_) | exact laws_eqIntS.mono _ _ _ | exact lN | refine lI ?_ ?_ | refine lB ?_ fun _ => ?_
set_option maxHeartbeats 8000000 in
set_option maxRecDepth 100000 in
theorem laws_eqImage.calls (k : Nat) (a0_0 : Int) (a0_1 : Int) (a0_2 : Int) (A0_3 : Option Addr) (c0_3 : Nat) (l0_3 : List Int) (a1_0 : Int) (a1_1 : Int) (a1_2 : Int) (A1_3 : Option Addr) (c1_3 : Nat) (l1_3 : List Int) (r : Bool) (w : World) (hr0_3 : Kd.C (Kd.int .i64) w A0_3 l0_3.length l0_3) (hc0_3 : l0_3.length ≤ c0_3) (hr1_3 : Kd.C (Kd.int .i64) w A1_3 l1_3.length l1_3) (hc1_3 : l1_3.length ≤ c1_3) (h : laws_eqImage.f k a0_0 a0_1 a0_2 l0_3 a1_0 a1_1 a1_2 l1_3 = some r) :
  Calls Try.prog 19 #[.agg #[.int .i64 a0_0, .int .i64 a0_1, .int .i64 a0_2, .slice A0_3 l0_3.length c0_3], .agg #[.int .i64 a1_0, .int .i64 a1_1, .int .i64 a1_2, .slice A1_3 l1_3.length c1_3]] w fun e w' => e = .returned (.bool r) ∧ Below w.heap.size w w' := by
 have hu26 := Try.underlying26
 have HR0_3 := aM hr0_3
 have HC0_3 := aM hc0_3
 clear hr0_3 hc0_3
 have HR1_3 := aM hr1_3
 have HC1_3 := aM hc1_3
 clear hr1_3 hc1_3
 have HB := aM (Below.refl w.heap.size w)
 unfold laws_eqImage.f at h
 have H := h
 clear h
 by_cases c3 : a0_0 = a1_0
 rotate_left
 ·rw [if_neg c3] at H
  have c3b0 : (a0_0 == a1_0) = false := beq_eq_false_iff_ne.mpr c3
  have c3b1 : (a0_0 != a1_0) = true := bne_iff_ne.mpr c3
  obtain rfl := Option.some.inj H
  go_enter Try.func19, Try.ntmps19
  go_wp2_with (first | ((with_reducible refine gate_dst (N := 2) rfl ?_); refine bxE (N := 2) (cs := #[.int .i64 a0_0, .int .i64 a0_1, .int .i64 a0_2, .slice A0_3 l0_3.length c0_3]) (t := 26) ?_; intro gb150 hg w28 hbox hb; have BK150 := aM (hbox); have GW150 := gW hg HB; have GE150 := gW hg HB; replace HB := bS HB hb; clear hb hbox hg) | ((with_reducible refine gate_dst (N := 3) rfl ?_); refine bxE (N := 3) (cs := #[.int .i64 a1_0, .int .i64 a1_1, .int .i64 a1_2, .slice A1_3 l1_3.length c1_3]) (t := 26) ?_; intro gb151 hg w29 hbox hb; have BK151 := aM (hbox); have GW151 := gW hg HB; have GE151 := gW hg HB; replace HB := bS HB hb; have NB150_151 := nL hg BK150; have NB151_150 := nG hg BK150; replace BK150 := bB BK150 hb; clear hb hbox hg; have hnb30 := NB150_151.out; have hnc30 := NB151_150.out; obtain ⟨⟨hcz31_0, hcz31_1, hcz31_2, hcz31_3⟩, hfz31_0, hfz31_1, hfz31_2, hfz31_3⟩ := cf4 BK150; obtain ⟨⟨hcz32_0, hcz32_1, hcz32_2, hcz32_3⟩, hfz32_0, hfz32_1, hfz32_2, hfz32_3⟩ := cf4 BK151))
  go_ret
  exact ⟨qX, by exact qW HB.out⟩
 rw [if_pos c3] at H
 have c3b0 : (a0_0 == a1_0) = true := beq_iff_eq.mpr c3
 have c3b1 : (a0_0 != a1_0) = false := bne_eq_false_iff_eq.mpr c3
 clear c3
 by_cases c4 : a0_1 = a1_1
 rotate_left
 ·rw [if_neg c4] at H
  have c4b0 : (a0_1 == a1_1) = false := beq_eq_false_iff_ne.mpr c4
  have c4b1 : (a0_1 != a1_1) = true := bne_iff_ne.mpr c4
  obtain rfl := Option.some.inj H
  go_enter Try.func19, Try.ntmps19
  go_wp2_with (first | ((with_reducible refine gate_dst (N := 2) rfl ?_); refine bxE (N := 2) (cs := #[.int .i64 a0_0, .int .i64 a0_1, .int .i64 a0_2, .slice A0_3 l0_3.length c0_3]) (t := 26) ?_; intro gb150 hg w23 hbox hb; have BK150 := aM (hbox); have GW150 := gW hg HB; have GE150 := gW hg HB; replace HB := bS HB hb; clear hb hbox hg) | ((with_reducible refine gate_dst (N := 3) rfl ?_); refine bxE (N := 3) (cs := #[.int .i64 a1_0, .int .i64 a1_1, .int .i64 a1_2, .slice A1_3 l1_3.length c1_3]) (t := 26) ?_; intro gb151 hg w24 hbox hb; have BK151 := aM (hbox); have GW151 := gW hg HB; have GE151 := gW hg HB; replace HB := bS HB hb; have NB150_151 := nL hg BK150; have NB151_150 := nG hg BK150; replace BK150 := bB BK150 hb; clear hb hbox hg; have hnb25 := NB150_151.out; have hnc25 := NB151_150.out; obtain ⟨⟨hcz26_0, hcz26_1, hcz26_2, hcz26_3⟩, hfz26_0, hfz26_1, hfz26_2, hfz26_3⟩ := cf4 BK150; obtain ⟨⟨hcz27_0, hcz27_1, hcz27_2, hcz27_3⟩, hfz27_0, hfz27_1, hfz27_2, hfz27_3⟩ := cf4 BK151))
  go_ret
  exact ⟨qX, by exact qW HB.out⟩
 rw [if_pos c4] at H
 have c4b0 : (a0_1 == a1_1) = true := beq_iff_eq.mpr c4
 have c4b1 : (a0_1 != a1_1) = false := bne_eq_false_iff_eq.mpr c4
 clear c4
 by_cases c5 : a0_2 = a1_2
 rotate_left
 ·rw [if_neg c5] at H
  have c5b0 : (a0_2 == a1_2) = false := beq_eq_false_iff_ne.mpr c5
  have c5b1 : (a0_2 != a1_2) = true := bne_iff_ne.mpr c5
  obtain rfl := Option.some.inj H
  go_enter Try.func19, Try.ntmps19
  go_wp2_with (first | ((with_reducible refine gate_dst (N := 2) rfl ?_); refine bxE (N := 2) (cs := #[.int .i64 a0_0, .int .i64 a0_1, .int .i64 a0_2, .slice A0_3 l0_3.length c0_3]) (t := 26) ?_; intro gb150 hg w18 hbox hb; have BK150 := aM (hbox); have GW150 := gW hg HB; have GE150 := gW hg HB; replace HB := bS HB hb; clear hb hbox hg) | ((with_reducible refine gate_dst (N := 3) rfl ?_); refine bxE (N := 3) (cs := #[.int .i64 a1_0, .int .i64 a1_1, .int .i64 a1_2, .slice A1_3 l1_3.length c1_3]) (t := 26) ?_; intro gb151 hg w19 hbox hb; have BK151 := aM (hbox); have GW151 := gW hg HB; have GE151 := gW hg HB; replace HB := bS HB hb; have NB150_151 := nL hg BK150; have NB151_150 := nG hg BK150; replace BK150 := bB BK150 hb; clear hb hbox hg; have hnb20 := NB150_151.out; have hnc20 := NB151_150.out; obtain ⟨⟨hcz21_0, hcz21_1, hcz21_2, hcz21_3⟩, hfz21_0, hfz21_1, hfz21_2, hfz21_3⟩ := cf4 BK150; obtain ⟨⟨hcz22_0, hcz22_1, hcz22_2, hcz22_3⟩, hfz22_0, hfz22_1, hfz22_2, hfz22_3⟩ := cf4 BK151))
  go_ret
  exact ⟨qX, by exact qW HB.out⟩
 rw [if_pos c5] at H
 have c5b0 : (a0_2 == a1_2) = true := beq_iff_eq.mpr c5
 have c5b1 : (a0_2 != a1_2) = false := bne_eq_false_iff_eq.mpr c5
 clear c5
 replace H := Option.bind_eq_some_iff.mp H
 obtain ⟨t152, A60, H⟩ := H
 replace H : (if t152 = true then (some true) else (some false)) = some r := H
 have A6 := aM A60
 clear A60
 by_cases c7 : t152 = true
 ·subst c7
  have H1 : (some true) = some r := by rw [if_pos rfl] at H; exact H
  clear H
  have H := H1
  clear H1
  obtain rfl := Option.some.inj H
  go_enter Try.func19, Try.ntmps19
  go_wp2_with (first | ((with_reducible refine gate_dst (N := 2) rfl ?_); refine bxE (N := 2) (cs := #[.int .i64 a0_0, .int .i64 a0_1, .int .i64 a0_2, .slice A0_3 l0_3.length c0_3]) (t := 26) ?_; intro gb150 hg w8 hbox hb; have BK150 := aM (hbox); have GW150 := gW hg HB; have GE150 := gW hg HB; replace HB := bS HB hb; clear hb hbox hg) | ((with_reducible refine gate_dst (N := 3) rfl ?_); refine bxE (N := 3) (cs := #[.int .i64 a1_0, .int .i64 a1_1, .int .i64 a1_2, .slice A1_3 l1_3.length c1_3]) (t := 26) ?_; intro gb151 hg w9 hbox hb; have BK151 := aM (hbox); have GW151 := gW hg HB; have GE151 := gW hg HB; replace HB := bS HB hb; have NB150_151 := nL hg BK150; have NB151_150 := nG hg BK150; replace BK150 := bB BK150 hb; clear hb hbox hg; have hnb10 := NB150_151.out; have hnc10 := NB151_150.out; obtain ⟨⟨hcz11_0, hcz11_1, hcz11_2, hcz11_3⟩, hfz11_0, hfz11_1, hfz11_2, hfz11_3⟩ := cf4 BK150; obtain ⟨⟨hcz12_0, hcz12_1, hcz12_2, hcz12_3⟩, hfz12_0, hfz12_1, hfz12_2, hfz12_3⟩ := cf4 BK151) | ((with_reducible refine gate_callee (f := 53) rfl ?_); refine gL (some 24) Try.func53 #[.slice A0_3 l0_3.length c0_3, .slice A1_3 l1_3.length c1_3] ?_; (with_reducible refine (laws_eqIntS.calls k _ _ l0_3 _ _ l1_3 true _ ?side1 ?side2 ?side3 ?side4 A6.out).mono ?_); (case side1 => exact qC (Kd.C_below HR0_3.out HB.out)); (case side2 => exact HC0_3.out); (case side3 => exact qC (Kd.C_below HR1_3.out HB.out)); (case side4 => exact HC1_3.out); rintro e w' ⟨rfl, ⟨nd, rfl⟩⟩; refine ⟨_, rfl, ?_⟩))
  go_ret
  exact ⟨qX, by exact qW HB.out⟩
 replace c7 := Bool.eq_false_iff.mpr c7
 subst c7
 have H1 : (some false) = some r := by rw [if_neg (show ¬ (false = true) by decide)] at H; exact H
 clear H
 have H := H1
 clear H1
 obtain rfl := Option.some.inj H
 go_enter Try.func19, Try.ntmps19
 go_wp2_with (first | ((with_reducible refine gate_dst (N := 2) rfl ?_); refine bxE (N := 2) (cs := #[.int .i64 a0_0, .int .i64 a0_1, .int .i64 a0_2, .slice A0_3 l0_3.length c0_3]) (t := 26) ?_; intro gb150 hg w13 hbox hb; have BK150 := aM (hbox); have GW150 := gW hg HB; have GE150 := gW hg HB; replace HB := bS HB hb; clear hb hbox hg) | ((with_reducible refine gate_dst (N := 3) rfl ?_); refine bxE (N := 3) (cs := #[.int .i64 a1_0, .int .i64 a1_1, .int .i64 a1_2, .slice A1_3 l1_3.length c1_3]) (t := 26) ?_; intro gb151 hg w14 hbox hb; have BK151 := aM (hbox); have GW151 := gW hg HB; have GE151 := gW hg HB; replace HB := bS HB hb; have NB150_151 := nL hg BK150; have NB151_150 := nG hg BK150; replace BK150 := bB BK150 hb; clear hb hbox hg; have hnb15 := NB150_151.out; have hnc15 := NB151_150.out; obtain ⟨⟨hcz16_0, hcz16_1, hcz16_2, hcz16_3⟩, hfz16_0, hfz16_1, hfz16_2, hfz16_3⟩ := cf4 BK150; obtain ⟨⟨hcz17_0, hcz17_1, hcz17_2, hcz17_3⟩, hfz17_0, hfz17_1, hfz17_2, hfz17_3⟩ := cf4 BK151) | ((with_reducible refine gate_callee (f := 53) rfl ?_); refine gL (some 24) Try.func53 #[.slice A0_3 l0_3.length c0_3, .slice A1_3 l1_3.length c1_3] ?_; (with_reducible refine (laws_eqIntS.calls k _ _ l0_3 _ _ l1_3 false _ ?side1 ?side2 ?side3 ?side4 A6.out).mono ?_); (case side1 => exact qC (Kd.C_below HR0_3.out HB.out)); (case side2 => exact HC0_3.out); (case side3 => exact qC (Kd.C_below HR1_3.out HB.out)); (case side4 => exact HC1_3.out); rintro e w' ⟨rfl, ⟨nd, rfl⟩⟩; refine ⟨_, rfl, ?_⟩))
 go_ret
 exact ⟨qX, by exact qW HB.out⟩
def laws_markImage.f (k : Nat) (a0_0 : Int) (a0_1 : Int) (a0_2 : Int) (l0_3 : List Int) (a1 : Int) : Option (Int × List Int) := (laws_markIntS.f k l0_3 a1).bind fun bt155 => (some (bt155.1, bt155.2))
theorem laws_markImage.mono : ∀ a0 a1 a2 a3 a4 k, LeO (laws_markImage.f k a0 a1 a2 a3 a4) (laws_markImage.f (k + 1) a0 a1 a2 a3 a4) := by
 intro a0 a1 a2 a3 a4 k
 unfold laws_markImage.f
 repeat' first | (with_reducible first | exact laws_markIntS.mono _ _ _ | exact lR | exact lN | refine lI ?_ ?_ | refine lB ?_ fun _ => ?_) | exact laws_markIntS.mono _ _ _ | exact lN | refine lI ?_ ?_ | refine lB ?_ fun _ => ?_
set_option maxHeartbeats 8000000 in
set_option maxRecDepth 100000 in
theorem laws_markImage.calls (k : Nat) (a0_0 : Int) (a0_1 : Int) (a0_2 : Int) (P0_3_ : Nat → Prop) (u9000_ : Value) (l0_3 : List Int) (a1 : Int) (r1 : Int) (r2 : List Int) (w0 w : World) (hB : Below w0.heap.size w0 w) (ho0_3 : Kd.R (Kd.int .i64) 3 w w0.heap.size P0_3_ u9000_ l0_3) (h : laws_markImage.f k a0_0 a0_1 a0_2 l0_3 a1 = some (r1, r2)) :
  Calls Try.prog 20 #[.agg #[.int .i64 a0_0, .int .i64 a0_1, .int .i64 a0_2, u9000_], .int .i64 a1] w fun e w' => e = .returned (.int .i64 r1) ∧ Kd.R (Kd.int .i64) 3 w' w0.heap.size (fun k_ => (P0_3_ k_ ∨ w.heap.size ≤ k_)) u9000_ r2 ∧ Below w0.heap.size w0 w' ∧ Kept w w' (fun k_ => P0_3_ k_) := by
 have hu26 := Try.underlying26
 have HO0_3 := aM (show Kd.R (Kd.int .i64) 3 w w0.heap.size (fun k_ => (P0_3_ k_ ∨ w.heap.size ≤ k_)) u9000_ l0_3 from Kd.R_mono ho0_3 (fun k_ hk => (.inl hk)))
 have HK := aM (Kept.refl w (fun k_ => P0_3_ k_))
 have HW0 := aM hB.size
 have HB := aM hB
 clear hB
 unfold laws_markImage.f at h
 have H := h
 clear h
 replace H := Option.bind_eq_some_iff.mp H
 obtain ⟨⟨t155, t156⟩, A30, H⟩ := H
 replace H : (some (t155, t156)) = some (r1, r2) := H
 have A3 := aM A30
 clear A30
 simp only [Option.some.injEq, Prod.mk.injEq] at H
 obtain ⟨rfl, rfl⟩ := H
 obtain ⟨Ao4, co4, rfl⟩ := sL HO0_3
 go_enter Try.func20, Try.ntmps20
 go_wp2_with (first | ((with_reducible refine gate_dst (N := 2) rfl ?_); refine bxE (N := 2) (cs := #[.int .i64 a0_0, .int .i64 a0_1, .int .i64 a0_2, .slice Ao4 l0_3.length co4]) (t := 26) ?_; intro gb154 hg w5 hbox hb; replace HO0_3 := aM (Kd.R_below (qR HO0_3.out) hb); have BK154 := aM (hbox); have GW154 := aM ((by rw [hg]; exact (by first | exact HK.out.1 | exact (show Kept w _ (fun k_ => P0_3_ k_) from kP HK.out).1) : w.heap.size ≤ gb154)); replace HK := aM (Kept.below (S := (fun k_ => P0_3_ k_)) (kP HK.out) hb); have GE154 := aM ((by rw [hg]; exact (below_size (qW HB.out)) : w0.heap.size ≤ gb154)); replace HB := bS HB hb; clear hb hbox hg; obtain ⟨⟨hcz6_0, hcz6_1, hcz6_2, hcz6_3⟩, hfz6_0, hfz6_1, hfz6_2, hfz6_3⟩ := cf4 BK154) | ((with_reducible refine gate_callee (f := 54) rfl ?_); refine gL (some 8) Try.func54 #[.slice Ao4 l0_3.length co4, .int .i64 a1] ?_; (with_reducible refine (laws_markIntS.calls k (fun k_ => some k_ = (.slice Ao4 l0_3.length co4 : Value).ownBlock) (.slice Ao4 l0_3.length co4) l0_3 a1 t155 t156 w0 _ ?side1 ?side2 A3.out).mono ?_); (case side1 => exact qW HB.out); (case side2 => exact Kd.R_tight rfl HO0_3.out); rintro e w7 ⟨rfl, hy0, hb, hkp⟩; refine ⟨_, rfl, ?_⟩; replace BK154 := aM (blk_kept (qB BK154.out) hkp (fun hs_ => (fun e_ => (Kd.R_ne HO0_3.out BK154.out (by decide)) e_) hs_)); replace HK := aM (Kept.then_ (S := (fun k_ => P0_3_ k_)) (kP HK.out) hkp (fun k_ hs_ => (fun e_ => (HO0_3.out.1 k_ e_.symm)) hs_)); replace HO0_3 := aM (Kd.R_reok rfl hy0 (fun k_ e_ => HO0_3.out.1 k_ e_)); replace HB := aM (hb); clear hb hkp hy0))
 go_ret
 exact ⟨qX, by refine qR ?_; exact HO0_3.out, by exact qW HB.out, kP HK.out⟩
def laws_heldImage.f (k : Nat) (a0_0 : Int) (a0_1 : Int) (a0_2 : Int) (l0_3 : List Int) (a1 : Int) : Option (Int) := (laws_heldIntS.f k l0_3 a1).bind fun t159 => (if t159 < 0 then (some (-1)) else (some t159))
theorem laws_heldImage.mono : ∀ a0 a1 a2 a3 a4 k, LeO (laws_heldImage.f k a0 a1 a2 a3 a4) (laws_heldImage.f (k + 1) a0 a1 a2 a3 a4) := by
 intro a0 a1 a2 a3 a4 k
 unfold laws_heldImage.f
 repeat' first | (with_reducible first | exact laws_heldIntS.mono _ _ _ | exact lR | exact lN | refine lI ?_ ?_ | refine lB ?_ fun _ => ?_) | exact laws_heldIntS.mono _ _ _ | exact lN | refine lI ?_ ?_ | refine lB ?_ fun _ => ?_
set_option maxHeartbeats 8000000 in
set_option maxRecDepth 100000 in
theorem laws_heldImage.calls (k : Nat) (a0_0 : Int) (a0_1 : Int) (a0_2 : Int) (A0_3 : Option Addr) (c0_3 : Nat) (l0_3 : List Int) (a1 : Int) (r : Int) (w : World) (hr0_3 : Kd.C (Kd.int .i64) w A0_3 l0_3.length l0_3) (hc0_3 : l0_3.length ≤ c0_3) (h : laws_heldImage.f k a0_0 a0_1 a0_2 l0_3 a1 = some r) :
  Calls Try.prog 21 #[.agg #[.int .i64 a0_0, .int .i64 a0_1, .int .i64 a0_2, .slice A0_3 l0_3.length c0_3], .int .i64 a1] w fun e w' => e = .returned (.int .i64 r) ∧ Below w.heap.size w w' := by
 have hu26 := Try.underlying26
 have HR0_3 := aM hr0_3
 have HC0_3 := aM hc0_3
 clear hr0_3 hc0_3
 have HB := aM (Below.refl w.heap.size w)
 unfold laws_heldImage.f at h
 have H := h
 clear h
 replace H := Option.bind_eq_some_iff.mp H
 obtain ⟨t159, A30, H⟩ := H
 replace H : (if t159 < 0 then (some (-1)) else (some t159)) = some r := H
 have A3 := aM A30
 clear A30
 by_cases c4 : t159 < 0
 ·rw [if_pos c4] at H
  have c4b0 : decide (t159 < 0) = true := decide_eq_true c4
  clear c4
  obtain rfl := Option.some.inj H
  go_enter Try.func21, Try.ntmps21
  go_wp2_with (first | ((with_reducible refine gate_dst (N := 2) rfl ?_); refine bxE (N := 2) (cs := #[.int .i64 a0_0, .int .i64 a0_1, .int .i64 a0_2, .slice A0_3 l0_3.length c0_3]) (t := 26) ?_; intro gb158 hg w5 hbox hb; have BK158 := aM (hbox); have GW158 := gW hg HB; have GE158 := gW hg HB; replace HB := bS HB hb; clear hb hbox hg; obtain ⟨⟨hcz6_0, hcz6_1, hcz6_2, hcz6_3⟩, hfz6_0, hfz6_1, hfz6_2, hfz6_3⟩ := cf4 BK158) | ((with_reducible refine gate_callee (f := 55) rfl ?_); refine gL (some 8) Try.func55 #[.slice A0_3 l0_3.length c0_3, .int .i64 a1] ?_; (with_reducible refine (laws_heldIntS.calls k _ _ l0_3 a1 t159 _ ?side1 ?side2 A3.out).mono ?_); (case side1 => exact qC (Kd.C_below HR0_3.out HB.out)); (case side2 => exact HC0_3.out); rintro e w' ⟨rfl, ⟨nd, rfl⟩⟩; refine ⟨_, rfl, ?_⟩))
  go_ret
  exact ⟨qX, by exact qW HB.out⟩
 rw [if_neg c4] at H
 have c4b0 : decide (t159 < 0) = false := decide_eq_false c4
 clear c4
 obtain rfl := Option.some.inj H
 go_enter Try.func21, Try.ntmps21
 go_wp2_with (first | ((with_reducible refine gate_dst (N := 2) rfl ?_); refine bxE (N := 2) (cs := #[.int .i64 a0_0, .int .i64 a0_1, .int .i64 a0_2, .slice A0_3 l0_3.length c0_3]) (t := 26) ?_; intro gb158 hg w7 hbox hb; have BK158 := aM (hbox); have GW158 := gW hg HB; have GE158 := gW hg HB; replace HB := bS HB hb; clear hb hbox hg; obtain ⟨⟨hcz8_0, hcz8_1, hcz8_2, hcz8_3⟩, hfz8_0, hfz8_1, hfz8_2, hfz8_3⟩ := cf4 BK158) | ((with_reducible refine gate_callee (f := 55) rfl ?_); refine gL (some 8) Try.func55 #[.slice A0_3 l0_3.length c0_3, .int .i64 a1] ?_; (with_reducible refine (laws_heldIntS.calls k _ _ l0_3 a1 t159 _ ?side1 ?side2 A3.out).mono ?_); (case side1 => exact qC (Kd.C_below HR0_3.out HB.out)); (case side2 => exact HC0_3.out); rintro e w' ⟨rfl, ⟨nd, rfl⟩⟩; refine ⟨_, rfl, ?_⟩))
 go_ret
 exact ⟨qX, by exact qW HB.out⟩
end Go.Proofs.Ytnamhlcdlbjcfaa.P
