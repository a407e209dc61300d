/- Contracts and row, written by a program of this place out of the translation: the call answers true and its argument reads as before, for every input; no condition. -/
import Derived.Test.YtnamhlcdlbjcfaaK0
import Derived.Test.YtnamhlcdlbjcfaaK1
import Derived.Test.YtnamhlcdlbjcfaaK2
namespace Go.Proofs.Ytnamhlcdlbjcfaa.P
open Go.RowKit Go.Proofs.YtnamhlcdlbjcfaaW.PrintWords Go.Proofs.YtnamhlcdlbjcfaaW.PrintLast Go.Proofs.YtnamhlcdlbjcfaaW.PrintMore
attribute [local go_sem] max2_int min2_int max_two min_two max_three min_three max_four min_four   -- for this text's walks alone
set_option linter.unusedVariables false
set_option linter.unusedSimpArgs false
mutual
def spec_ScaleArea.j0 : Nat → Int → Int → Bool → Int → Int → Int → List Int → Option (Int × Int × Int × List Int)
 | 0, _, _, _, _, _, _, _ => none
 | k + 1, x1, x2, x22, x687000, x687001, x687002, x687003 => if x22 = true then (some (0, 0, 0, ([] : List Int))) else ((spec_newImage.f x1 x2 x687002).bind fun bt690 => (spec_ScaleArea.l0 k x1 x2 (wrap64 (x687000 * x687001)) 0 x687000 x687001 x687002 x687003 bt690.1 bt690.2.1 bt690.2.2.1 bt690.2.2.2))
def spec_ScaleArea.l0 : Nat → Int → Int → Int → Int → Int → Int → Int → List Int → Int → Int → Int → List Int → Option (Int × Int × Int × List Int)
 | 0, _, _, _, _, _, _, _, _, _, _, _, _ => none
 | k + 1, x1, x2, x8, x9, x687000, x687001, x687002, x687003, x697000, x697001, x697002, x697003 => if x9 < x2 then (spec_ScaleArea.l1 k x1 x2 x8 x9 0 x687000 x687001 x687002 x687003 x697000 x697001 x697002 x697003) else (some (x697000, x697001, x697002, x697003))
def spec_ScaleArea.l1 : Nat → Int → Int → Int → Int → Int → Int → Int → Int → List Int → Int → Int → Int → List Int → Option (Int × Int × Int × List Int)
 | 0, _, _, _, _, _, _, _, _, _, _, _, _, _ => none
 | k + 1, x1, x2, x8, x9, x10, x687000, x687001, x687002, x687003, x697000, x697001, x697002, x697003 => if x10 < x1 then (spec_ScaleArea.l2 k x1 x2 x8 x9 x10 0 x687000 x687001 x687002 x687003 x697000 x697001 x697002 x697003) else (spec_ScaleArea.l0 k x1 x2 x8 (wrap64 (x9 + 1)) x687000 x687001 x687002 x687003 x697000 x697001 x697002 x697003)
def spec_ScaleArea.l2 : Nat → Int → Int → Int → Int → Int → Int → Int → Int → Int → List Int → Int → Int → Int → List Int → Option (Int × Int × Int × List Int)
 | 0, _, _, _, _, _, _, _, _, _, _, _, _, _, _ => none
 | k + 1, x1, x2, x8, x9, x10, x11, x687000, x687001, x687002, x687003, x697000, x697001, x697002, x697003 => if x11 < x687002 then ((spec_areaSum.f k x687000 x687001 x687002 x687003 x1 x2 x10 x9 x11).bind fun t697 => (if (wrap64 (2 * x8)) = 0 then (none) else (if 0 ≤ (wrap64 ((wrap64 ((wrap64 ((wrap64 (x9 * x1)) + x10)) * x687002)) + x11)) then (if (wrap64 ((wrap64 ((wrap64 ((wrap64 (x9 * x1)) + x10)) * x687002)) + x11)) < (x697003.length : Int) then (spec_ScaleArea.l2 k x1 x2 x8 x9 x10 (wrap64 (x11 + 1)) x687000 x687001 x687002 x687003 x697000 x697001 x697002 (x697003.set ((wrap64 ((wrap64 ((wrap64 ((wrap64 (x9 * x1)) + x10)) * x687002)) + x11)) : Int).toNat (wrap64 (Int.tdiv (wrap64 ((wrap64 (2 * t697)) + x8)) (wrap64 (2 * x8)))))) else (none)) else (none)))) else (spec_ScaleArea.l1 k x1 x2 x8 x9 (wrap64 (x10 + 1)) x687000 x687001 x687002 x687003 x697000 x697001 x697002 x697003)
end
def spec_ScaleArea.f (k : Nat) (a0_0 : Int) (a0_1 : Int) (a0_2 : Int) (l0_3 : List Int) (a1 : Int) (a2 : Int) : Option (Int × Int × Int × List Int) := (spec_validImage.f k a0_0 a0_1 a0_2 l0_3).bind fun t688 => (if t688 = true then ((spec_validShape.f a1 a2 a0_2).bind fun t689 => (spec_ScaleArea.j0 k a1 a2 (!t689) a0_0 a0_1 a0_2 l0_3)) else (spec_ScaleArea.j0 k a1 a2 true a0_0 a0_1 a0_2 l0_3))
theorem spec_ScaleArea.mono_l : ∀ k, (∀ y0 y1 y2 y3 y4 y5 y6, LeO (spec_ScaleArea.j0 k y0 y1 y2 y3 y4 y5 y6) (spec_ScaleArea.j0 (k + 1) y0 y1 y2 y3 y4 y5 y6)) ∧ (∀ y0 y1 y2 y3 y4 y5 y6 y7 y8 y9 y10 y11, LeO (spec_ScaleArea.l0 k y0 y1 y2 y3 y4 y5 y6 y7 y8 y9 y10 y11) (spec_ScaleArea.l0 (k + 1) y0 y1 y2 y3 y4 y5 y6 y7 y8 y9 y10 y11)) ∧ (∀ y0 y1 y2 y3 y4 y5 y6 y7 y8 y9 y10 y11 y12, LeO (spec_ScaleArea.l1 k y0 y1 y2 y3 y4 y5 y6 y7 y8 y9 y10 y11 y12) (spec_ScaleArea.l1 (k + 1) y0 y1 y2 y3 y4 y5 y6 y7 y8 y9 y10 y11 y12)) ∧ (∀ y0 y1 y2 y3 y4 y5 y6 y7 y8 y9 y10 y11 y12 y13, LeO (spec_ScaleArea.l2 k y0 y1 y2 y3 y4 y5 y6 y7 y8 y9 y10 y11 y12 y13) (spec_ScaleArea.l2 (k + 1) y0 y1 y2 y3 y4 y5 y6 y7 y8 y9 y10 y11 y12 y13))
 | 0 => ⟨fun _ _ _ _ _ _ _ r h => by simp [spec_ScaleArea.j0] at h, fun _ _ _ _ _ _ _ _ _ _ _ _ r h => by simp [spec_ScaleArea.l0] at h, fun _ _ _ _ _ _ _ _ _ _ _ _ _ r h => by simp [spec_ScaleArea.l1] at h, fun _ _ _ _ _ _ _ _ _ _ _ _ _ _ r h => by simp [spec_ScaleArea.l2] at h⟩
 | k + 1 => by
  obtain ⟨ih0, ih1, ih2, ih3⟩ := spec_ScaleArea.mono_l k
  refine ⟨?_, ?_, ?_, ?_⟩
  all_goals intros
  all_goals first | unfold spec_ScaleArea.j0 | unfold spec_ScaleArea.l0 | unfold spec_ScaleArea.l1 | unfold spec_ScaleArea.l2
  all_goals repeat' first | (with_reducible first | exact ih0 _ _ _ _ _ _ _ | exact ih1 _ _ _ _ _ _ _ _ _ _ _ _ | exact ih2 _ _ _ _ _ _ _ _ _ _ _ _ _ | exact ih3 _ _ _ _ _ _ _ _ _ _ _ _ _ _ | exact spec_areaSum.mono _ _ _ _ _ _ _ _ _ _ | exact spec_validImage.mono _ _ _ _ _ | exact lR | exact lN | refine lI ?_ ?_ | refine lB ?_ fun _ => ?_) | exact ih0 _ _ _ _ _ _ _ | exact ih1 _ _ _ _ _ _ _ _ _ _ _ _ | exact ih2 _ _ _ _ _ _ _ _ _ _ _ _ _ | exact ih3 _ _ _ _ _ _ _ _ _ _ _ _ _ _ | exact spec_areaSum.mono _ _ _ _ _ _ _ _ _ _ | exact spec_validImage.mono _ _ _ _ _ | exact lN | refine lI ?_ ?_ | refine lB ?_ fun _ => ?_
theorem spec_ScaleArea.mono : ∀ a0 a1 a2 a3 a4 a5 k, LeO (spec_ScaleArea.f k a0 a1 a2 a3 a4 a5) (spec_ScaleArea.f (k + 1) a0 a1 a2 a3 a4 a5) := by
 intro a0 a1 a2 a3 a4 a5 k
 obtain ⟨ih0, ih1, ih2, ih3⟩ := spec_ScaleArea.mono_l k
 unfold spec_ScaleArea.f
 repeat' first | (with_reducible first | exact ih0 _ _ _ _ _ _ _ | exact ih1 _ _ _ _ _ _ _ _ _ _ _ _ | exact ih2 _ _ _ _ _ _ _ _ _ _ _ _ _ | exact ih3 _ _ _ _ _ _ _ _ _ _ _ _ _ _ | exact spec_areaSum.mono _ _ _ _ _ _ _ _ _ _ | exact spec_validImage.mono _ _ _ _ _ | exact lR | exact lN | refine lI ?_ ?_ | refine lB ?_ fun _ => ?_) | exact ih0 _ _ _ _ _ _ _ | exact ih1 _ _ _ _ _ _ _ _ _ _ _ _ | exact ih2 _ _ _ _ _ _ _ _ _ _ _ _ _ | exact ih3 _ _ _ _ _ _ _ _ _ _ _ _ _ _ | exact spec_areaSum.mono _ _ _ _ _ _ _ _ _ _ | exact spec_validImage.mono _ _ _ _ _ | exact lN | refine lI ?_ ?_ | refine lB ?_ fun _ => ?_
def spec_ScaleArea.T14 : Bool × List (List Nat × List Nat) := (true, [([], []), ([0], [0]), ([], []), ([], []), ([2, 3], [2, 3]), ([], []), ([4, 5], [4, 5]), ([], []), ([7], [7]), ([6, 8], [6, 8]), ([], []), ([9, 10], [9, 10]), ([], []), ([], []), ([], []), ([], []), ([], []), ([], []), ([12, 13, 14, 15, 16, 17], [12, 13, 14, 15, 16, 17]), ([18], [18]), ([], []), ([19, 20], [19, 20]), ([], []), ([22], [22]), ([21, 23], [21, 23]), ([1, 11, 0, 1, 2, 3, 4, 5, 6, 7, 8, 9, 10, 11, 12, 13, 14, 15, 16, 17, 18, 19, 20, 21, 22, 23, 24], [1, 11]), ([25, 24, 18, 0, 1, 2, 3, 4, 5, 6, 7, 8, 9, 10, 11, 12, 13, 14, 15, 16, 17, 18, 19, 20, 21, 22, 23, 24], [24, 25])])
def spec_ScaleArea.B14 : List Nat := [0, 1, 0, 0, 12, 0, 60, 0, 128, 508, 0, 2044, 0, 0, 0, 0, 0, 0, 258048, 520192, 0, 2093056, 0, 4194304, 16773120, 33554431, 67108863]
theorem spec_ScaleArea.tab14 : rtab .any (opsOf Try.f32 14) = spec_ScaleArea.T14 := by kernel_rfl
theorem spec_ScaleArea.bits14 : waitsOk spec_ScaleArea.T14.2 spec_ScaleArea.B14 = true := by kernel_rfl
set_option maxHeartbeats 8000000 in
set_option maxRecDepth 100000 in
theorem spec_ScaleArea.calls (k : Nat) (a0_0 : Int) (a0_1 : Int) (a0_2 : Int) (A0_3 : Option Addr) (c0_3 : Nat) (l0_3 : List Int) (a1 : Int) (a2 : Int) (r1 : Int) (r2 : Int) (r3 : Int) (r4 : List Int) (w : World) (hr0_3 : Kd.C (Kd.int .i64) w A0_3 l0_3.length l0_3) (hc0_3 : l0_3.length ≤ c0_3) (h : spec_ScaleArea.f k a0_0 a0_1 a0_2 l0_3 a1 a2 = some (r1, r2, r3, r4)) :
  Calls Try.prog 32 #[.agg #[.int .i64 a0_0, .int .i64 a0_1, .int .i64 a0_2, .slice A0_3 l0_3.length c0_3], .int .i64 a1, .int .i64 a2] w fun e w' => ∃ v3_ : Value, e = .returned (.agg #[.int .i64 r1, .int .i64 r2, .int .i64 r3, v3_]) ∧ Kd.R (Kd.int .i64) 3 w' w.heap.size (fun _ => True) v3_ r4 ∧ Below w.heap.size w w' := by
 have hu26 := Try.underlying26
 have HR0_3 := aM hr0_3
 have HC0_3 := aM hc0_3
 clear hr0_3 hc0_3
 have HB := aM (Below.refl w.heap.size w)
 unfold spec_ScaleArea.f at h
 have H := h
 clear h
 have HC4 := aM H
 clear H
 go_enter Try.func32, Try.ntmps32
 go_upto_region 1 with (first | ((with_reducible refine gate_dst (N := 3) rfl ?_); refine bxE (N := 3) (cs := #[.int .i64 a0_0, .int .i64 a0_1, .int .i64 a0_2, .slice A0_3 l0_3.length c0_3]) (t := 26) ?_; intro gb686 hg w5 hbox hb; have BK686 := aM (hbox); have GW686 := gW hg HB; have GE686 := gW hg HB; replace HB := bS HB hb; clear hb hbox hg) | ((with_reducible refine gate_dst (N := 6) rfl ?_); refine bxE (N := 6) (cs := #[.int .i64 0, .int .i64 0, .int .i64 0, .slice none 0 0]) (t := 26) ?_; intro gb687 hg w6 hbox hb; have BK687 := aM (hbox); have GW687 := gW hg HB; have GE687 := gW hg HB; replace HB := bS HB hb; have NB686_687 := nL hg BK686; have NB687_686 := nG hg BK686; replace BK686 := bB BK686 hb; clear hb hbox hg))
 (try simp only [Act.put, List.setIfInBounds_toArray, List.set_cons_zero, List.set_cons_succ])
 go_cut [22] (fun v22 wc => ∃ (kq : Nat) (x22_3 : Bool), v22 = .bool x22_3 ∧ Aside0 (spec_ScaleArea.j0 kq a1 a2 x22_3 a0_0 a0_1 a0_2 l0_3 = some (r1, r2, r3, r4)) ∧ Aside0 (kq ≤ k) ∧ Aside0 (wc.heap[gb686]? = some (.cells #[.int .i64 a0_0, .int .i64 a0_1, .int .i64 a0_2, (.slice A0_3 l0_3.length c0_3)] 26 (0, 0))) ∧ Aside0 (wc.heap[gb687]? = some (.cells #[.int .i64 0, .int .i64 0, .int .i64 0, (.slice none 0 0)] 26 (0, 0))) ∧ Aside0 (Below w.heap.size w wc))
 case first =>
  have H := HC4.out
  clear HC4
  replace H := Option.bind_eq_some_iff.mp H
  obtain ⟨t688, A70, H⟩ := H
  replace H : (if t688 = true then ((spec_validShape.f a1 a2 a0_2).bind fun t689 => (spec_ScaleArea.j0 k a1 a2 (!t689) a0_0 a0_1 a0_2 l0_3)) else (spec_ScaleArea.j0 k a1 a2 true a0_0 a0_1 a0_2 l0_3)) = some (r1, r2, r3, r4) := H
  have A7 := aM A70
  clear A70
  by_cases c8 : t688 = true
  rotate_left
  ·replace c8 := Bool.eq_false_iff.mpr c8
   subst c8
   have H1 : (spec_ScaleArea.j0 k a1 a2 true a0_0 a0_1 a0_2 l0_3) = some (r1, r2, r3, r4) := by rw [if_neg (show ¬ (false = true) by decide)] at H; exact H
   clear H
   have H := H1
   clear H1
   have H' := aM H
   clear H
   have hnb14 := NB686_687.out
   have hnc14 := NB687_686.out
   obtain ⟨⟨hcz15_0, hcz15_1, hcz15_2, hcz15_3⟩, hfz15_0, hfz15_1, hfz15_2, hfz15_3⟩ := cf4 BK686
   go_wp2_with (first | ((with_reducible refine gate_callee (f := 44) rfl ?_); refine gL (some 13) Try.func44 #[.agg #[.int .i64 a0_0, .int .i64 a0_1, .int .i64 a0_2, .slice A0_3 l0_3.length c0_3]] ?_; (with_reducible refine (spec_validImage.calls k a0_0 a0_1 a0_2 _ _ l0_3 false _ ?side1 ?side2 A7.out).mono ?_); (case side1 => exact qC (Kd.C_below HR0_3.out HB.out)); (case side2 => exact HC0_3.out); rintro e w16 ⟨rfl, hb⟩; refine ⟨_, rfl, ?_⟩; replace BK686 := bB BK686 hb; replace BK687 := bB BK687 hb; replace HB := bS HB hb; clear hb))
   go_meet
   case rel => exact ⟨_, (true), qE, H', ⟨by first | omega | exact Nat.le_refl _⟩, ⟨by refine qB ?_; exact BK686.out⟩, ⟨by refine qB ?_; exact BK687.out⟩, ⟨by exact qW HB.out⟩⟩
  subst c8
  have H1 : ((spec_validShape.f a1 a2 a0_2).bind fun t689 => (spec_ScaleArea.j0 k a1 a2 (!t689) a0_0 a0_1 a0_2 l0_3)) = some (r1, r2, r3, r4) := by rw [if_pos rfl] at H; exact H
  clear H
  have H := H1
  clear H1
  replace H := Option.bind_eq_some_iff.mp H
  obtain ⟨t689, A90, H⟩ := H
  replace H : (spec_ScaleArea.j0 k a1 a2 (!t689) a0_0 a0_1 a0_2 l0_3) = some (r1, r2, r3, r4) := H
  have A9 := aM A90
  clear A90
  have H' := aM H
  clear H
  have hnb10 := NB686_687.out
  have hnc10 := NB687_686.out
  obtain ⟨⟨hcz11_0, hcz11_1, hcz11_2, hcz11_3⟩, hfz11_0, hfz11_1, hfz11_2, hfz11_3⟩ := cf4 BK686
  go_wp2_with (first | ((with_reducible refine gate_callee (f := 44) rfl ?_); refine gL (some 13) Try.func44 #[.agg #[.int .i64 a0_0, .int .i64 a0_1, .int .i64 a0_2, .slice A0_3 l0_3.length c0_3]] ?_; (with_reducible refine (spec_validImage.calls k a0_0 a0_1 a0_2 _ _ l0_3 true _ ?side1 ?side2 A7.out).mono ?_); (case side1 => exact qC (Kd.C_below HR0_3.out HB.out)); (case side2 => exact HC0_3.out); rintro e w12 ⟨rfl, hb⟩; refine ⟨_, rfl, ?_⟩; replace BK686 := bB BK686 hb; replace BK687 := bB BK687 hb; replace HB := bS HB hb; clear hb; obtain ⟨⟨hcz13_0, hcz13_1, hcz13_2, hcz13_3⟩, hfz13_0, hfz13_1, hfz13_2, hfz13_3⟩ := cf4 BK686) | (go_at_call 64; (with_reducible refine (spec_validShape.calls a1 a2 a0_2 t689 _ A9.out).mono ?_); rintro e w' ⟨rfl, ⟨nd, rfl⟩⟩))
  go_meet
  case rel => exact ⟨_, (!t689), qE, H', ⟨by first | omega | exact Nat.le_refl _⟩, ⟨by refine qB ?_; exact BK686.out⟩, ⟨by refine qB ?_; exact BK687.out⟩, ⟨by exact qW HB.out⟩⟩
 case rest =>
  clear HC4
  try clear c8
  try clear hcz11_0 hcz11_1 hcz11_2 hcz11_3 hfz11_0 hfz11_1 hfz11_2 hfz11_3
  try clear hcz13_0 hcz13_1 hcz13_2 hcz13_3 hfz13_0 hfz13_1 hfz13_2 hfz13_3
  try clear hcz15_0 hcz15_1 hcz15_2 hcz15_3 hfz15_0 hfz15_1 hfz15_2 hfz15_3
  obtain ⟨kq, x22_3, rfl, HA, HJ3, BK686, BK687, HB⟩ := hcut
  cases kq with
  | zero => exact absurd HA.out (by simp [spec_ScaleArea.j0])
  | succ kj3 =>
   have H := HA.out
   clear HA
   simp only [spec_ScaleArea.j0] at H
   by_cases c17 : x22_3 = true
   ·subst c17
    have H1 : (some (0, 0, 0, ([] : List Int))) = some (r1, r2, r3, r4) := by rw [if_pos rfl] at H; exact H
    clear H
    have H := H1
    clear H1
    simp only [Option.some.injEq, Prod.mk.injEq] at H
    obtain ⟨rfl, rfl, rfl, rfl⟩ := H
    have hnb18 := NB687_686.out
    have hnc18 := NB686_687.out
    obtain ⟨⟨hcz19_0, hcz19_1, hcz19_2, hcz19_3⟩, hfz19_0, hfz19_1, hfz19_2, hfz19_3⟩ := cf4 BK687
    go_wp2
    refine bodyPost_ret (results_cell_row rfl _ _ gb687 26 #[.int .i64 0, .int .i64 0, .int .i64 0, .slice none 0 0] (0, 0) _ rfl (by exact bP BK687.out) Try.underlying26 rfl (by kernel_rfl)) rfl ?_
    exact ⟨_, qX, qN, by exact qW HB.out⟩
   replace c17 := Bool.eq_false_iff.mpr c17
   subst c17
   have H1 : ((spec_newImage.f a1 a2 a0_2).bind fun bt690 => (spec_ScaleArea.l0 kj3 a1 a2 (wrap64 (a0_0 * a0_1)) 0 a0_0 a0_1 a0_2 l0_3 bt690.1 bt690.2.1 bt690.2.2.1 bt690.2.2.2)) = some (r1, r2, r3, r4) := by rw [if_neg (show ¬ (false = true) by decide)] at H; exact H
   clear H
   have H := H1
   clear H1
   replace H := Option.bind_eq_some_iff.mp H
   obtain ⟨⟨t690, t691, t692, t693⟩, A200, H⟩ := H
   replace H : (spec_ScaleArea.l0 kj3 a1 a2 (wrap64 (a0_0 * a0_1)) 0 a0_0 a0_1 a0_2 l0_3 t690 t691 t692 t693) = some (r1, r2, r3, r4) := H
   have A20 := aM A200
   clear A200
   have H' := aM H
   clear H
   have hnb21 := NB686_687.out
   have hnc21 := NB687_686.out
   obtain ⟨⟨hcz22_0, hcz22_1, hcz22_2, hcz22_3⟩, hfz22_0, hfz22_1, hfz22_2, hfz22_3⟩ := cf4 BK686
   go_wp2_with (first | ((with_reducible refine gate_callee (f := 45) rfl ?_); refine gL (some 28) Try.func45 #[.int .i64 a1, .int .i64 a2, .int .i64 a0_2] ?_; (with_reducible refine (spec_newImage.calls a1 a2 a0_2 t690 t691 t692 t693 _ A20.out).mono ?_); rintro e w23 ⟨v694, rfl, ho0, hb⟩; refine ⟨_, rfl, ?_⟩; have HO695 := oR ho0 HB; replace BK686 := bB BK686 hb; replace BK687 := bB BK687 hb; replace HB := bS HB hb; clear hb ho0) | ((with_reducible refine gate_dst (N := 7) rfl ?_); refine bxE (N := 7) (cs := #[.int .i64 0, .int .i64 0, .int .i64 0, .slice none 0 0]) (t := 26) ?_; intro gb696 hg w24 hbox hb; replace HO695 := aM (Kd.R_below (qR HO695.out) hb); have BK696 := aM (hbox); have GW696 := gW hg HB; have GE696 := gW hg HB; replace HB := bS HB hb; have NB686_696 := nL hg BK686; have NB696_686 := nG hg BK686; replace BK686 := bB BK686 hb; have NB687_696 := nL hg BK687; have NB696_687 := nG hg BK687; replace BK687 := bB BK687 hb; clear hb hbox hg; have hnb25 := NB696_686.out; have hnc25 := NB686_696.out; have hnb26 := NB696_687.out; have hnc26 := NB687_696.out; obtain ⟨⟨hcz27_0, hcz27_1, hcz27_2, hcz27_3⟩, hfz27_0, hfz27_1, hfz27_2, hfz27_3⟩ := cf4 BK696; obtain ⟨Ao28, co28, rfl⟩ := sL HO695; obtain ⟨⟨hcz29_0, hcz29_1, hcz29_2, hcz29_3⟩, hfz29_0, hfz29_1, hfz29_2, hfz29_3⟩ := cf4 BK686))
   go_loopg [9] kj3 (fun kq v9 w' => ∃ (x9_2 : Int) (x697003_2 : List Int) (u697003 : Value), v9 = .int .i64 x9_2 ∧ Aside0 (spec_ScaleArea.l0 kq a1 a2 (wrap64 (a0_0 * a0_1)) x9_2 a0_0 a0_1 a0_2 l0_3 t690 t691 t692 x697003_2 = some (r1, r2, r3, r4)) ∧ Aside0 (kq ≤ kj3) ∧ Aside0 (Kd.R (Kd.int .i64) 3 w' w.heap.size (fun _ => True) u697003 x697003_2) ∧ Aside0 (w'.heap[gb686]? = some (.cells #[.int .i64 a0_0, .int .i64 a0_1, .int .i64 a0_2, (.slice A0_3 l0_3.length c0_3)] 26 (0, 0))) ∧ Aside0 (w'.heap[gb687]? = some (.cells #[.int .i64 0, .int .i64 0, .int .i64 0, (.slice none 0 0)] 26 (0, 0))) ∧ Aside0 (w'.heap[gb696]? = some (.cells #[.int .i64 t690, .int .i64 t691, .int .i64 t692, u697003] 26 (0, 0))) ∧ Aside0 (Below w.heap.size w w'))
   case atStart => exact ⟨(0), (t693), (.slice Ao28 t693.length co28), qE, H', ⟨Nat.le_refl _⟩, ⟨by refine qR ?_; exact Kd.R_mono (rT HO695 BK696) (fun _ hk => trivial)⟩, ⟨by refine qB ?_; refine blk_far ?_ NB686_696.out _; refine qB ?_; refine blk_far ?_ NB686_696.out _; refine qB ?_; refine blk_far ?_ NB686_696.out _; refine qB ?_; refine blk_far ?_ NB686_696.out _; refine qB ?_; exact BK686.out⟩, ⟨by refine qB ?_; refine blk_far ?_ NB687_696.out _; refine qB ?_; refine blk_far ?_ NB687_696.out _; refine qB ?_; refine blk_far ?_ NB687_696.out _; refine qB ?_; refine blk_far ?_ NB687_696.out _; refine qB ?_; exact BK687.out⟩, ⟨by exact bP BK696.out⟩, ⟨by exact qW HB.out⟩⟩
   case round =>
    clear H'
    try clear c8
    try clear c17
    try clear hcz11_0 hcz11_1 hcz11_2 hcz11_3 hfz11_0 hfz11_1 hfz11_2 hfz11_3
    try clear hcz13_0 hcz13_1 hcz13_2 hcz13_3 hfz13_0 hfz13_1 hfz13_2 hfz13_3
    try clear hcz15_0 hcz15_1 hcz15_2 hcz15_3 hfz15_0 hfz15_1 hfz15_2 hfz15_3
    try clear hcz19_0 hcz19_1 hcz19_2 hcz19_3 hfz19_0 hfz19_1 hfz19_2 hfz19_3
    try clear hcz22_0 hcz22_1 hcz22_2 hcz22_3 hfz22_0 hfz22_1 hfz22_2 hfz22_3
    try clear hcz27_0 hcz27_1 hcz27_2 hcz27_3 hfz27_0 hfz27_1 hfz27_2 hfz27_3
    try clear hcz29_0 hcz29_1 hcz29_2 hcz29_3 hfz29_0 hfz29_1 hfz29_2 hfz29_3
    obtain ⟨x9_2, x697003_2, u697003, rfl, HA, HK2, HO_697003, BK686, BK687, BK696, HB⟩ := hrel
    cases gk with
    | zero => exact absurd HA.out (by simp [spec_ScaleArea.l0])
    | succ k2 =>
     have H := HA.out
     clear HA
     simp only [spec_ScaleArea.l0] at H
     by_cases c30 : x9_2 < a2
     rotate_left
     ·rw [if_neg c30] at H
      have c30b0 : decide (x9_2 < a2) = false := decide_eq_false c30
      clear c30
      simp only [Option.some.injEq, Prod.mk.injEq] at H
      obtain ⟨rfl, rfl, rfl, rfl⟩ := H
      have hnb48 := NB696_686.out
      have hnc48 := NB686_696.out
      have hnb49 := NB696_687.out
      have hnc49 := NB687_696.out
      obtain ⟨⟨hcz50_0, hcz50_1, hcz50_2, hcz50_3⟩, hfz50_0, hfz50_1, hfz50_2, hfz50_3⟩ := cf4 BK696
      have hnb51 := NB687_686.out
      have hnc51 := NB686_687.out
      obtain ⟨⟨hcz52_0, hcz52_1, hcz52_2, hcz52_3⟩, hfz52_0, hfz52_1, hfz52_2, hfz52_3⟩ := cf4 BK687
      obtain ⟨Ao53, co53, rfl⟩ := sL HO_697003
      go_wp2
      refine bodyPost_ret (results_cell_row rfl _ _ gb687 26 #[.int .i64 t690, .int .i64 t691, .int .i64 t692, .slice Ao53 x697003_2.length co53] (0, 0) _ rfl (by exact bP BK687.out) Try.underlying26 rfl (by kernel_rfl)) rfl ?_
      exact ⟨_, qX, by refine qR ?_; exact Kd.R_mono (rT HO_697003 BK687) (fun _ hk => trivial), by exact qW HB.out⟩
     rw [if_pos c30] at H
     have c30b0 : decide (x9_2 < a2) = true := decide_eq_true c30
     clear c30
     have H' := aM H
     clear H
     go_wp2
     go_loopg [10] k2 (fun kq v10 w' => ∃ (x10_3 : Int) (x697003_3 : List Int) (u697003 : Value), v10 = .int .i64 x10_3 ∧ Aside0 (spec_ScaleArea.l1 kq a1 a2 (wrap64 (a0_0 * a0_1)) x9_2 x10_3 a0_0 a0_1 a0_2 l0_3 t690 t691 t692 x697003_3 = some (r1, r2, r3, r4)) ∧ Aside0 (kq ≤ k2) ∧ Aside0 (Kd.R (Kd.int .i64) 3 w' w.heap.size (fun _ => True) u697003 x697003_3) ∧ Aside0 (w'.heap[gb686]? = some (.cells #[.int .i64 a0_0, .int .i64 a0_1, .int .i64 a0_2, (.slice A0_3 l0_3.length c0_3)] 26 (0, 0))) ∧ Aside0 (w'.heap[gb687]? = some (.cells #[.int .i64 0, .int .i64 0, .int .i64 0, (.slice none 0 0)] 26 (0, 0))) ∧ Aside0 (w'.heap[gb696]? = some (.cells #[.int .i64 t690, .int .i64 t691, .int .i64 t692, u697003] 26 (0, 0))) ∧ Aside0 (Below w.heap.size w w'))
     case atStart => exact ⟨(0), (x697003_2), (u697003), qE, H', ⟨Nat.le_refl _⟩, ⟨by refine qR ?_; exact HO_697003.out⟩, ⟨by refine qB ?_; exact BK686.out⟩, ⟨by refine qB ?_; exact BK687.out⟩, ⟨by refine qB ?_; exact BK696.out⟩, ⟨by exact qW HB.out⟩⟩
     case round =>
      clear H'
      try clear c8
      try clear c17
      try clear c30
      try clear c30b0
      try clear hcz11_0 hcz11_1 hcz11_2 hcz11_3 hfz11_0 hfz11_1 hfz11_2 hfz11_3
      try clear hcz13_0 hcz13_1 hcz13_2 hcz13_3 hfz13_0 hfz13_1 hfz13_2 hfz13_3
      try clear hcz15_0 hcz15_1 hcz15_2 hcz15_3 hfz15_0 hfz15_1 hfz15_2 hfz15_3
      try clear hcz19_0 hcz19_1 hcz19_2 hcz19_3 hfz19_0 hfz19_1 hfz19_2 hfz19_3
      try clear hcz22_0 hcz22_1 hcz22_2 hcz22_3 hfz22_0 hfz22_1 hfz22_2 hfz22_3
      try clear hcz27_0 hcz27_1 hcz27_2 hcz27_3 hfz27_0 hfz27_1 hfz27_2 hfz27_3
      try clear hcz29_0 hcz29_1 hcz29_2 hcz29_3 hfz29_0 hfz29_1 hfz29_2 hfz29_3
      obtain ⟨x10_3, x697003_3, u697003, rfl, HA, HK3, HO_697003, BK686, BK687, BK696, HB⟩ := hrel
      cases gk with
      | zero => exact absurd HA.out (by simp [spec_ScaleArea.l1])
      | succ k3 =>
       have H := HA.out
       clear HA
       simp only [spec_ScaleArea.l1] at H
       by_cases c31 : x10_3 < a1
       rotate_left
       ·rw [if_neg c31] at H
        have c31b0 : decide (x10_3 < a1) = false := decide_eq_false c31
        clear c31
        have H' := aM H
        clear H
        go_wp2
        go_roundg k3
        case measure => have := HJ3.out; have := HK2.out; have := HK3.out; omega
        case rel => exact ⟨(wrap64 (x9_2 + 1)), (x697003_3), (u697003), qE, H', ⟨by have := HJ3.out; have := HK2.out; have := HK3.out; omega⟩, ⟨by refine qR ?_; exact HO_697003.out⟩, ⟨by refine qB ?_; exact BK686.out⟩, ⟨by refine qB ?_; exact BK687.out⟩, ⟨by refine qB ?_; exact BK696.out⟩, ⟨by exact qW HB.out⟩⟩
       rw [if_pos c31] at H
       have c31b0 : decide (x10_3 < a1) = true := decide_eq_true c31
       clear c31
       have H' := aM H
       clear H
       go_wp2
       go_loopg [11] k3 (fun kq v11 w' => ∃ (x11_4 : Int) (x697003_4 : List Int) (u697003 : Value), v11 = .int .i64 x11_4 ∧ Aside0 (spec_ScaleArea.l2 kq a1 a2 (wrap64 (a0_0 * a0_1)) x9_2 x10_3 x11_4 a0_0 a0_1 a0_2 l0_3 t690 t691 t692 x697003_4 = some (r1, r2, r3, r4)) ∧ Aside0 (kq ≤ k3) ∧ Aside0 (Kd.R (Kd.int .i64) 3 w' w.heap.size (fun _ => True) u697003 x697003_4) ∧ Aside0 (w'.heap[gb686]? = some (.cells #[.int .i64 a0_0, .int .i64 a0_1, .int .i64 a0_2, (.slice A0_3 l0_3.length c0_3)] 26 (0, 0))) ∧ Aside0 (w'.heap[gb687]? = some (.cells #[.int .i64 0, .int .i64 0, .int .i64 0, (.slice none 0 0)] 26 (0, 0))) ∧ Aside0 (w'.heap[gb696]? = some (.cells #[.int .i64 t690, .int .i64 t691, .int .i64 t692, u697003] 26 (0, 0))) ∧ Aside0 (Below w.heap.size w w'))
       case atStart => exact ⟨(0), (x697003_3), (u697003), qE, H', ⟨Nat.le_refl _⟩, ⟨by refine qR ?_; exact HO_697003.out⟩, ⟨by refine qB ?_; exact BK686.out⟩, ⟨by refine qB ?_; exact BK687.out⟩, ⟨by refine qB ?_; exact BK696.out⟩, ⟨by exact qW HB.out⟩⟩
       case round =>
        clear H'
        try clear c8
        try clear c17
        try clear c30
        try clear c30b0
        try clear c31
        try clear c31b0
        try clear hcz11_0 hcz11_1 hcz11_2 hcz11_3 hfz11_0 hfz11_1 hfz11_2 hfz11_3
        try clear hcz13_0 hcz13_1 hcz13_2 hcz13_3 hfz13_0 hfz13_1 hfz13_2 hfz13_3
        try clear hcz15_0 hcz15_1 hcz15_2 hcz15_3 hfz15_0 hfz15_1 hfz15_2 hfz15_3
        try clear hcz19_0 hcz19_1 hcz19_2 hcz19_3 hfz19_0 hfz19_1 hfz19_2 hfz19_3
        try clear hcz22_0 hcz22_1 hcz22_2 hcz22_3 hfz22_0 hfz22_1 hfz22_2 hfz22_3
        try clear hcz27_0 hcz27_1 hcz27_2 hcz27_3 hfz27_0 hfz27_1 hfz27_2 hfz27_3
        try clear hcz29_0 hcz29_1 hcz29_2 hcz29_3 hfz29_0 hfz29_1 hfz29_2 hfz29_3
        obtain ⟨x11_4, x697003_4, u697003, rfl, HA, HK4, HO_697003, BK686, BK687, BK696, HB⟩ := hrel
        cases gk with
        | zero => exact absurd HA.out (by simp [spec_ScaleArea.l2])
        | succ k4 =>
         have H := HA.out
         clear HA
         simp only [spec_ScaleArea.l2] at H
         by_cases c32 : x11_4 < a0_2
         rotate_left
         ·rw [if_neg c32] at H
          have c32b0 : decide (x11_4 < a0_2) = false := decide_eq_false c32
          clear c32
          have H' := aM H
          clear H
          have hnb45 := NB686_687.out
          have hnc45 := NB687_686.out
          have hnb46 := NB686_696.out
          have hnc46 := NB696_686.out
          obtain ⟨⟨hcz47_0, hcz47_1, hcz47_2, hcz47_3⟩, hfz47_0, hfz47_1, hfz47_2, hfz47_3⟩ := cf4 BK686
          go_wp2
          go_roundg k4
          case measure => have := HJ3.out; have := HK2.out; have := HK3.out; have := HK4.out; omega
          case rel => exact ⟨(wrap64 (x10_3 + 1)), (x697003_4), (u697003), qE, H', ⟨by have := HJ3.out; have := HK2.out; have := HK3.out; have := HK4.out; omega⟩, ⟨by refine qR ?_; exact HO_697003.out⟩, ⟨by refine qB ?_; exact BK686.out⟩, ⟨by refine qB ?_; exact BK687.out⟩, ⟨by refine qB ?_; exact BK696.out⟩, ⟨by exact qW HB.out⟩⟩
         rw [if_pos c32] at H
         have c32b0 : decide (x11_4 < a0_2) = true := decide_eq_true c32
         clear c32
         replace H := Option.bind_eq_some_iff.mp H
         obtain ⟨t697, A330, H⟩ := H
         replace H : (if (wrap64 (2 * (wrap64 (a0_0 * a0_1)))) = 0 then (none) else (if 0 ≤ (wrap64 ((wrap64 ((wrap64 ((wrap64 (x9_2 * a1)) + x10_3)) * a0_2)) + x11_4)) then (if (wrap64 ((wrap64 ((wrap64 ((wrap64 (x9_2 * a1)) + x10_3)) * a0_2)) + x11_4)) < (x697003_4.length : Int) then (spec_ScaleArea.l2 k4 a1 a2 (wrap64 (a0_0 * a0_1)) x9_2 x10_3 (wrap64 (x11_4 + 1)) a0_0 a0_1 a0_2 l0_3 t690 t691 t692 (x697003_4.set ((wrap64 ((wrap64 ((wrap64 ((wrap64 (x9_2 * a1)) + x10_3)) * a0_2)) + x11_4)) : Int).toNat (wrap64 (Int.tdiv (wrap64 ((wrap64 (2 * t697)) + (wrap64 (a0_0 * a0_1)))) (wrap64 (2 * (wrap64 (a0_0 * a0_1)))))))) else (none)) else (none))) = some (r1, r2, r3, r4) := H
         have A33 := aM A330
         clear A330
         by_cases c34 : (wrap64 (2 * (wrap64 (a0_0 * a0_1)))) = 0
         ·rw [if_pos c34] at H
          exact absurd H (by simp)
         rw [if_neg c34] at H
         have c34b0 : ((wrap64 (2 * (wrap64 (a0_0 * a0_1)))) == 0) = false := beq_eq_false_iff_ne.mpr c34
         have c34b1 : ((wrap64 (2 * (wrap64 (a0_0 * a0_1)))) != 0) = true := bne_iff_ne.mpr c34
         obtain ⟨ji35, hji35⟩ : ∃ j_ : Int, (wrap64 ((wrap64 ((wrap64 ((wrap64 (x9_2 * a1)) + x10_3)) * a0_2)) + x11_4)) = j_ := ⟨_, rfl⟩
         replace H : (if 0 ≤ (ji35) then (if (ji35) < (x697003_4.length : Int) then (spec_ScaleArea.l2 k4 a1 a2 (wrap64 (a0_0 * a0_1)) x9_2 x10_3 (wrap64 (x11_4 + 1)) a0_0 a0_1 a0_2 l0_3 t690 t691 t692 (x697003_4.set ((ji35) : Int).toNat (wrap64 (Int.tdiv (wrap64 ((wrap64 (2 * t697)) + (wrap64 (a0_0 * a0_1)))) (wrap64 (2 * (wrap64 (a0_0 * a0_1)))))))) else (none)) else (none)) = some (r1, r2, r3, r4) := by first | (rw [hji35] at H; exact H) | (simp only [hji35] at H ⊢; exact H)
         (try rw [hji35] at A33)
         have hji35w : (IntKind.i64.wrap ((wrap64 ((wrap64 ((wrap64 (x9_2 * a1)) + x10_3)) * a0_2)) + x11_4)) = ji35 := (i64_w _).trans hji35
         replace H := iD H
         obtain ⟨c36b0, H⟩ := H
         replace H := iD H
         obtain ⟨c37b0, H⟩ := H
         obtain ⟨y698, hy698⟩ : ∃ y_ : List Int, y_ = (x697003_4.set ((ji35) : Int).toNat (wrap64 (Int.tdiv (wrap64 ((wrap64 (2 * t697)) + (wrap64 (a0_0 * a0_1)))) (wrap64 (2 * (wrap64 (a0_0 * a0_1))))))) := ⟨_, rfl⟩
         replace H : (spec_ScaleArea.l2 k4 a1 a2 (wrap64 (a0_0 * a0_1)) x9_2 x10_3 (wrap64 (x11_4 + 1)) a0_0 a0_1 a0_2 l0_3 t690 t691 t692 y698) = some (r1, r2, r3, r4) := rY hy698 H
         have Ny698 := aM hy698
         clear hy698
         have H' := aM H
         clear H
         have hnb39 := NB686_687.out
         have hnc39 := NB687_686.out
         have hnb40 := NB686_696.out
         have hnc40 := NB696_686.out
         obtain ⟨⟨hcz41_0, hcz41_1, hcz41_2, hcz41_3⟩, hfz41_0, hfz41_1, hfz41_2, hfz41_3⟩ := cf4 BK686
         try go_wp2
         replace HO_697003 := aM (Kd.R_drew HO_697003.out)
         replace BK686 := aM (blk_drew BK686.out)
         replace BK687 := aM (blk_drew BK687.out)
         replace BK696 := aM (blk_drew BK696.out)
         replace HB := aM (below_drew1 HB.out)
         refine start_ (n := 27) (S := fun w' => w'.cell? ⟨gb696, 0, none⟩ = some (.int .i64 t690) ∧ w'.cell? ⟨gb696, 1, none⟩ = some (.int .i64 t691) ∧ w'.cell? ⟨gb696, 2, none⟩ = some (.int .i64 t692) ∧ w'.cell? ⟨gb696, 3, none⟩ = some (u697003) ∧ w'.cell? ⟨gb686, 0, none⟩ = some (.int .i64 a0_0) ∧ w'.cell? ⟨gb686, 1, none⟩ = some (.int .i64 a0_1) ∧ w'.cell? ⟨gb686, 2, none⟩ = some (.int .i64 a0_2) ∧ w'.cell? ⟨gb686, 3, none⟩ = some (.slice A0_3 l0_3.length c0_3)) (ds := [26]) (bA 27 0) (by kernel_rfl) rfl rfl ⟨(blk_cell BK696.out 0).trans rfl, (blk_cell BK696.out 1).trans rfl, (blk_cell BK696.out 2).trans rfl, (blk_cell BK696.out 3).trans rfl, (blk_cell BK686.out 0).trans rfl, (blk_cell BK686.out 1).trans rfl, (blk_cell BK686.out 2).trans rfl, (blk_cell BK686.out 3).trans rfl⟩ (fun hHeld => ?_); refine with_tabW spec_ScaleArea.tab14 spec_ScaleArea.bits14 (fun HT_ HW_ => ?_)
         generalize wr.drew = w42 at HO_697003 BK686 BK687 BK696 HB hHeld ⊢
         refine pQ 0 50 HT_ (bA 27 1) ?_
         refine pQ 2 52 HT_ (bA 27 5) ?_
         refine pQ 3 53 HT_ (bA 27 13) ?_
         refine pQ 4 54 HT_ (bA 27 29) ?_
         refine pQ 5 55 HT_ (bA 27 61) ?_
         refine pQ 6 56 HT_ (bA 27 125) ?_
         refine pQ 7 57 HT_ (bA 27 253) ?_
         refine pQ 10 60 HT_ (bA 27 1277) ?_
         refine pQ 13 63 HT_ (bA 27 9469) ?_
         refine pQ 14 64 HT_ (bA 27 25853) ?_
         refine pQ 15 65 HT_ (bA 27 58621) ?_
         refine pQ 16 66 HT_ (bA 27 124157) ?_
         refine pQ 17 67 HT_ (bA 27 255229) ?_
         refine pQ 20 70 HT_ (bA 27 1303805) ?_
         refine pQ 22 72 HT_ (bA 27 5498109) ?_
         refine pQ 23 73 HT_ (bA 27 13886717) ?_
         refine take_ (i := 1) (N := some 51) (v := ?_) (a' := ?_) (bA 27 13886719) rfl rfl (take_ofW HT_.out HW_.out (by kernel_rfl)) (fun _ _ _ h => h) (Or.inl ⟨by rfl, ?_⟩) hHeld ?_ ?_
         rotate_left
         ·rintro w' ⟨s0, s1, s2, s3, s4, s5, s6, s7⟩
          go_simp
          with_reducible rfl
         rotate_left
         ·refine pZ ?_
          rfl
         refine take_ (i := 8) (N := some 58) (v := ?_) (a' := ?_) (bA 27 13886975) rfl rfl (take_ofW HT_.out HW_.out (by kernel_rfl)) (fun _ _ _ h => h) (Or.inl ⟨by rfl, ?_⟩) hHeld ?_ ?_
         rotate_left
         ·rintro w' ⟨s0, s1, s2, s3, s4, s5, s6, s7⟩
          go_simp
          with_reducible rfl
         rotate_left
         ·refine pZ ?_
          rfl
         refine pQ 9 59 HT_ (bA 27 13887487) ?_
         refine pQ 11 61 HT_ (bA 27 13889535) ?_
         refine take_ (i := 12) (N := some 62) (v := ?_) (a' := ?_) (bA 27 13893631) rfl rfl (take_ofW HT_.out HW_.out (by kernel_rfl)) (fun _ _ _ h => h) (Or.inl ⟨by rfl, ?_⟩) hHeld ?_ ?_
         rotate_left
         ·rintro w' ⟨s0, s1, s2, s3, s4, s5, s6, s7⟩
          go_simp
          with_reducible rfl
         rotate_left
         ·refine pZ ?_
          rfl
         refine one_ (i := 18) (N := some 68) (bA 27 14155775) rfl rfl (one_of HT_.out (by kernel_rfl)) (by decide) (fun K hK => ?_)
         refine goes_ Try.func72 (by kernel_rfl) rfl #[.agg #[.int .i64 a0_0, .int .i64 a0_1, .int .i64 a0_2, .slice A0_3 l0_3.length c0_3], .int .i64 a1, .int .i64 a2, .int .i64 x10_3, .int .i64 x9_2, .int .i64 x11_4] (by rfl) rfl rfl qM ?_
         with_reducible refine (spec_areaSum.calls k4 a0_0 a0_1 a0_2 _ _ l0_3 a1 a2 x10_3 x9_2 x11_4 t697 _ ?side1 ?side2 A33.out).mono ?_
         (case side1 => exact qC (Kd.C_below HR0_3.out HB.out))
         (case side2 => exact HC0_3.out)
         rintro e w43 ⟨rfl, hb⟩
         refine ⟨_, rfl, ?_⟩
         replace HO_697003 := aM (Kd.R_below (qR HO_697003.out) hb)
         replace BK686 := bB BK686 hb
         replace BK687 := bB BK687 hb
         replace BK696 := bB BK696 hb
         replace HB := bS HB hb
         (try clear hb)
         (try clear hb2)
         (try clear hk)
         (try clear hi)
         have p38 : 0 ≤ ((ji35) : Int) := oD
         have q38 : ((ji35) : Int) < ((x697003_4.length : Int) : Int) := oD
         obtain ⟨go38, co38, eo38, gb38, gl38, cl38, HG38⟩ := Kd.R_form HO_697003.out (by omega)
         (first | cases eo38 | (injection eo38 with ea_ en_ ec_; (first | subst ea_ | (injection ea_ with ea_; subst ea_)); subst ec_; clear en_))
         have GB38 := aM gb38
         have GG38 := aM HG38
         clear gb38 gl38 HG38
         obtain ⟨hx38_0, hf38_0⟩ := Kd.R_celln 0 HO_697003.out ((ji35) : Int) p38 q38
         replace p38 := eq_true p38
         replace q38 := eq_true q38
         have HP44 := Kd.R_putn HO_697003.out ((ji35) : Int) (wrap64 (Int.tdiv (wrap64 ((wrap64 (2 * t697)) + (wrap64 (a0_0 * a0_1)))) (wrap64 (2 * (wrap64 (a0_0 * a0_1))))))
         rw [← Ny698.out] at HP44
         have HQ44 := aM HP44
         clear HP44
         refine hK.out _ _ ⟨(blk_cell BK696.out 0).trans rfl, (blk_cell BK696.out 1).trans rfl, (blk_cell BK696.out 2).trans rfl, (blk_cell BK696.out 3).trans rfl, (blk_cell BK686.out 0).trans rfl, (blk_cell BK686.out 1).trans rfl, (blk_cell BK686.out 2).trans rfl, (blk_cell BK686.out 3).trans rfl⟩ (fun hHeld => ?_)
         clear hK K
         refine norm_ (a' := ?_) ?_ ?_
         rotate_left
         ·show Act.put _ (some 68) _ = _
          refine pZ ?_
          rfl
         refine pQ 19 69 HT_ (bA 27 14680063) ?_
         refine pQ 21 71 HT_ (bA 27 16777215) ?_
         refine pQ 24 74 HT_ (bA 27 33554431) ?_
         refine pQ 25 75 HT_ (bA 27 67108863) ?_
         refine last_ (i := 26) (N := none) (bA 27 134217727) rfl rfl (one_of HT_.out (by kernel_rfl)) (by decide) (fun K hK => ?_)
         refine skip_ (w1 := ?_) (by rfl) rfl ?_ ?_
         rotate_left
         ·go_simp
          rfl
         refine hK.out _ _ ?_
         clear hK K
         refine done_ (done_of HT_.out (by kernel_rfl)) ?_
         try go_wp2
         go_roundg k4
         case measure => have := HJ3.out; have := HK2.out; have := HK3.out; have := HK4.out; omega
         case rel => exact ⟨(wrap64 (x11_4 + 1)), (y698), (.slice (some ⟨go38, 0, none⟩) x697003_4.length co38), qE, H', ⟨by have := HJ3.out; have := HK2.out; have := HK3.out; have := HK4.out; omega⟩, ⟨by refine qR ?_; exact HQ44.out⟩, ⟨by refine qB ?_; refine blk_far ?_ (by have h_ := Kd.R_ne HO_697003.out BK686.out (by decide); intro e_; exact h_ (by rw [e_]; rfl)) _; refine qB ?_; exact BK686.out⟩, ⟨by refine qB ?_; refine blk_far ?_ (by have h_ := Kd.R_ne HO_697003.out BK687.out (by decide); intro e_; exact h_ (by rw [e_]; rfl)) _; refine qB ?_; exact BK687.out⟩, ⟨by refine qB ?_; refine blk_far ?_ (by have h_ := Kd.R_ne HO_697003.out BK696.out (by decide); intro e_; exact h_ (by rw [e_]; rfl)) _; refine qB ?_; exact BK696.out⟩, ⟨by exact qW HB.out⟩⟩
def IsS72 (w0 W : World) (g : Nat) (f0 : List Int) (f1 : Int) : Prop := ∃ A0 c0, W.heap[g]? = some (.cells #[.slice A0 f0.length c0, .int .i64 f1] 72 (0, 0)) ∧ w0.heap.size ≤ g ∧ Kd.C (Kd.int .u8) w0 A0 f0.length f0
theorem IsS72.grown {w0 W : World} {g : Nat} {f0 : List Int} {f1 : Int} {W1 : World} {row : Option Nat} (h : IsS72 w0 W g f0 f1) (hw : W.grownBy W1 row) (hne : some g ≠ row) : IsS72 w0 W1 g f0 f1 := by
 obtain ⟨A0, c0, hb, hg, hr0⟩ := h
 exact ⟨A0, c0, blk_grown hb hw hne, hg, hr0⟩
theorem IsS72.own_neN {w0 W : World} {g : Nat} {f0 : List Int} {f1 : Int} {α : Type} {d : Kd α} {e : Nat} {base : Nat} {ok : Nat → Prop} {v : Value} {xs : List α} (h : IsS72 w0 W g f0 f1) (ho : Kd.N d e W base ok v xs) (ht : e ≠ 72) : some g ≠ v.ownBlock := by
 obtain ⟨A0, c0, hb, hg, hr0⟩ := h
 exact Kd.N_ne ho hb ht
theorem IsS72.fresh {w0 W : World} {g : Nat} {f0 : List Int} {f1 : Int} (h : IsS72 w0 W g f0 f1) : ∀ k, W.heap.size ≤ k → k ≠ g := by
 obtain ⟨A0, c0, hb, hg, hr0⟩ := h
 exact Kd.freshB hb
theorem IsS72.kept {w0 W : World} {g : Nat} {f0 : List Int} {f1 : Int} {W1 : World} {S : Nat → Prop} (h : IsS72 w0 W g f0 f1) (hk : Kept W W1 S) (hne : ¬ S g) : IsS72 w0 W1 g f0 f1 := by
 obtain ⟨A0, c0, hb, hg, hr0⟩ := h
 exact ⟨A0, c0, blk_kept hb hk hne, hg, hr0⟩
theorem IsS72.below {w0 W : World} {g : Nat} {f0 : List Int} {f1 : Int} {W1 : World} (h : IsS72 w0 W g f0 f1) (hw : Below W.heap.size W W1) : IsS72 w0 W1 g f0 f1 := h.grown (grown_of_below hw none) (by simp)
theorem IsS72.alloc {w0 W : World} {g : Nat} {f0 : List Int} {f1 : Int} (h : IsS72 w0 W g f0 f1) (o : Obj) : IsS72 w0 (W.alloc o) g f0 f1 := h.below (below_alloc (Below.refl _ _) o)
theorem IsS72.drewN {w0 W : World} {g : Nat} {f0 : List Int} {f1 : Int} (h : IsS72 w0 W g f0 f1) (m : Nat) : IsS72 w0 (W.drewN m) g f0 f1 := h
theorem IsS72.drew {w0 W : World} {g : Nat} {f0 : List Int} {f1 : Int} (h : IsS72 w0 W g f0 f1) : IsS72 w0 W.drew g f0 f1 := h
theorem IsS72.at_ {w0 W : World} {g : Nat} {f0 : List Int} {f1 : Int} {w' : World} {m : Nat} (hq : W.drewN m = w') (h : IsS72 w0 W g f0 f1) : IsS72 w0 w' g f0 f1 := by subst hq; exact IsS72.drewN h m
theorem IsS72.apart {w0 W : World} {g : Nat} {f0 : List Int} {f1 : Int} {α : Type} {d : Kd α} {e : Nat} {base : Nat} {ok : Nat → Prop} {v : Value} {xs : List α} (h : IsS72 w0 W g f0 f1) (ho : d.R e W base ok v xs) (ht : ∀ q, q ∈ e :: d.E → q ≠ 72) : d.R e W base (fun k => ok k ∧ k ≠ g) v xs := by
 obtain ⟨A0, c0, hb, hg, hr0⟩ := h
 exact Kd.R_types ho hb ht
theorem IsS72.own_ne {w0 W : World} {g : Nat} {f0 : List Int} {f1 : Int} {α : Type} {d : Kd α} {e : Nat} {base : Nat} {ok : Nat → Prop} {v : Value} {xs : List α} (h : IsS72 w0 W g f0 f1) (ho : d.R e W base ok v xs) (ht : e ≠ 72) : some g ≠ v.ownBlock := by
 obtain ⟨A0, c0, hb, hg, hr0⟩ := h
 exact Kd.R_ne ho hb ht
theorem IsS72.apartQ {w0 W : World} {g : Nat} {f0 : List Int} {f1 : Int} {α : Type} {d : Kd α} {e : Nat} {base : Nat} {ok : Nat → Prop} {v : Value} {xs : List α} (h : IsS72 w0 W g f0 f1) (ho : d.Q e W base ok v xs) (ht : ∀ q, q ∈ e :: d.E → q ≠ 72) : d.Q e W base (fun k => ok k ∧ k ≠ g) v xs := by
 obtain ⟨A0, c0, hb, hg, hr0⟩ := h
 exact Kd.Q_types ho hb ht
theorem IsS72.own_neQ {w0 W : World} {g : Nat} {f0 : List Int} {f1 : Int} {α : Type} {d : Kd α} {e : Nat} {base : Nat} {ok : Nat → Prop} {v : Value} {xs : List α} (h : IsS72 w0 W g f0 f1) (ho : d.Q e W base ok v xs) (ht : e ≠ 72) : some g ≠ v.ownBlock := by
 obtain ⟨A0, c0, hb, hg, hr0⟩ := h
 exact Kd.Q_ne ho hb ht
theorem IsS72.apartS {w0 W : World} {g : Nat} {f0 : List Int} {f1 : Int} {α : Type} {d : Kd α} {e : Nat} {base : Nat} {ok : Nat → Prop} {v : Value} {xs : List α} (h : IsS72 w0 W g f0 f1) (ho : d.S e W base ok v xs) (ht : ∀ q, q ∈ e :: d.E → q ≠ 72) : d.S e W base (fun k => ok k ∧ k ≠ g) v xs := by
 obtain ⟨A0, c0, hb, hg, hr0⟩ := h
 exact Kd.S_types ho hb ht
theorem IsS72.own_neS {w0 W : World} {g : Nat} {f0 : List Int} {f1 : Int} {α : Type} {d : Kd α} {e : Nat} {base : Nat} {ok : Nat → Prop} {v : Value} {xs : List α} (h : IsS72 w0 W g f0 f1) (ho : d.S e W base ok v xs) (ht : e ≠ 72) : some g ≠ v.ownBlock := by
 obtain ⟨A0, c0, hb, hg, hr0⟩ := h
 exact Kd.S_ne ho hb ht
theorem IsS72.lt {w0 W : World} {g : Nat} {f0 : List Int} {f1 : Int} (h : IsS72 w0 W g f0 f1) : g < W.heap.size := by
 obtain ⟨A0, c0, hb, hg, hr0⟩ := h
 exact blk_lt hb
theorem IsS72.ge {w0 W : World} {g : Nat} {f0 : List Int} {f1 : Int} (h : IsS72 w0 W g f0 f1) : w0.heap.size ≤ g := by
 obtain ⟨A0, c0, hb, hg, hr0⟩ := h
 exact hg
theorem IsS72.ne_blk {w0 W : World} {g : Nat} {f0 : List Int} {f1 : Int} {a : Nat} {cs : Array Value} {t : TypeId} {fr : Nat × Nat} (h : IsS72 w0 W g f0 f1) (hb2 : W.heap[a]? = some (.cells cs t fr)) (ht : t ≠ 72) : g ≠ a := by
 obtain ⟨A0, c0, hb, hg, hr0⟩ := h
 rintro rfl
 rw [hb] at hb2
 injection hb2 with hb2
 injection hb2 with _ ht2
 exact ht ht2.symm
theorem IsS72.far {w0 W : World} {g : Nat} {f0 : List Int} {f1 : Int} {p : Addr} (h : IsS72 w0 W g f0 f1) (hne : g ≠ p.block) (u : Value) : IsS72 w0 (W.setCell p u) g f0 f1 := by
 obtain ⟨A0, c0, hb, hg, hr0⟩ := h
 exact ⟨A0, c0, blk_far hb hne u, hg, hr0⟩
theorem cellS72_0 {W : World} {g : Nat} {A0 : Option Addr} {c0 : Nat} {f0 : List Int} {f1 : Int} (h : W.heap[g]? = some (.cells #[.slice A0 f0.length c0, .int .i64 f1] 72 (0, 0))) : W.cell? ⟨g, 0, none⟩ = some (.slice A0 f0.length c0) := (blk_cell h 0).trans rfl
theorem cellS72_1 {W : World} {g : Nat} {A0 : Option Addr} {c0 : Nat} {f0 : List Int} {f1 : Int} (h : W.heap[g]? = some (.cells #[.slice A0 f0.length c0, .int .i64 f1] 72 (0, 0))) : W.cell? ⟨g, 1, none⟩ = some (.int .i64 f1) := (blk_cell h 1).trans rfl
theorem IsS72.set_1 {w0 W : World} {g : Nat} {f0 : List Int} {f1 : Int} (h : IsS72 w0 W g f0 f1) (x : Int) : IsS72 w0 (W.setCell ⟨g, 1, none⟩ (.int .i64 x)) g f0 x := by
 obtain ⟨A0, c0, hb, hg, hr0⟩ := h
 exact ⟨A0, c0, by simpa using blk_set hb 1 (.int .i64 x), hg, hr0⟩
theorem IsS72.new (w0 W : World) (A0 : Option Addr) (c0 : Nat) (f0 : List Int) (f1 : Int) (hB : Below w0.heap.size w0 W) (hr0 : Kd.C (Kd.int .u8) w0 A0 f0.length f0) : IsS72 w0 (W.alloc (.cells #[.slice A0 f0.length c0, .int .i64 f1] 72)) W.heap.size f0 f1 := ⟨A0, c0, by simpa using heap_alloc_new W _, hB.size, hr0⟩
theorem farA72 {w0 W : World} {g : Nat} {f0 : List Int} {f1 : Int} {g2 j : Nat} {u : Value} (h : IsS72 w0 W g f0 f1) (hn : Aside0 (g ≠ g2)) : IsS72 w0 (W.setCell ⟨g2, j, none⟩ u) g f0 f1 := IsS72.far h hn.out u
theorem iS72 {w0 W W2 : World} {g : Nat} {f0 : List Int} {f1 : Int} {f0' : List Int} {f1' : Int} (a : IsS72 w0 W g f0 f1) (f : IsS72 w0 W g f0 f1 → IsS72 w0 W2 g f0' f1' := by intro h_; repeat (first | (with_reducible first | exact h_ | apply IsS72.alloc | apply IsS72.drewN | apply IsS72.drew | apply IsS72.set_1 | (refine farA72 ?_ ?_; rotate_left; assumption)) | exact h_)) : IsS72 w0 W2 g f0' f1' := f a
theorem wS72 {n : Nat} {w w' W : World} (a : Below n w w') (f : Below n w w' → Below n w W := by intro h_; repeat (first | (with_reducible first | exact h_ | apply below_alloc | apply pw_below_drewN | apply below_drew1 | (refine below_set ?_ ?_; rotate_left; exact IsS72.ge (Aside0.out (by assumption))) | (refine below_setA ?_ ?_; rotate_left; assumption)) | exact h_)) : Below n w W := f a
def spec_newReader.f (l0 : List Int) : Option (List Int × Int) := if (l0.length : Int) > 2000 then (if 2000 ≤ (l0.length : Int) then (some (l0.take 2000, 0)) else (none)) else (some (l0, 0))
set_option maxHeartbeats 8000000 in
set_option maxRecDepth 100000 in
theorem spec_newReader.calls (A0 : Option Addr) (c0 : Nat) (l0 : List Int) (r1 : List Int) (r2 : Int) (w0 w : World) (hB : Below w0.heap.size w0 w) (hr0 : Kd.C (Kd.int .u8) w0 A0 l0.length l0) (hc0 : l0.length ≤ c0) (h : spec_newReader.f l0 = some (r1, r2)) :
  Calls Try.prog 56 #[.slice A0 l0.length c0] w fun e w' => ∃ g_ : Nat, e = .returned (.pointer (some ⟨g_, 0, none⟩)) ∧ IsS72 w0 w' g_ r1 r2 ∧ Below w0.heap.size w0 w' ∧ Below w.heap.size w w' := by
 have hu72 := Try.underlying72
 have HR0 := aM hr0
 have HC0 := aM hc0
 clear hr0 hc0
 have HBW := aM (Below.refl w.heap.size w)
 have HW0 := aM hB.size
 have HB := aM hB
 clear hB
 unfold spec_newReader.f at h
 have H := h
 clear h
 by_cases c2 : (l0.length : Int) > 2000
 rotate_left
 ·rw [if_neg c2] at H
  have c2b0 : decide (2000 < (l0.length : Int)) = false := decide_eq_false c2
  have c2b1 : decide (2000 < l0.length) = false := decide_eq_false (by omega)
  clear c2
  simp only [Option.some.injEq, Prod.mk.injEq] at H
  obtain ⟨rfl, rfl⟩ := H
  go_enter Try.func56, Try.ntmps56
  go_wp2_with (first | ((with_reducible refine gate_dst (N := 10) rfl ?_); refine bxE (N := 10) (cs := #[.slice A0 l0.length c0, .int .i64 0]) (t := 72) ?_; intro gb220 hg w6 hbox hb; replace HB := bS HB hb; have BK220 := aM (hbox); have GW220 := aM ((by rw [hg]; exact (below_size (qW HBW.out)) : w.heap.size ≤ gb220)); have GE220 := aM ((Nat.le_trans HW0.out (by rw [hg]; exact (below_size (qW HBW.out)) : w.heap.size ≤ gb220) : w0.heap.size ≤ gb220)); replace HBW := aM (below_step HBW.out hb); clear hb hbox hg))
  go_ret
  exact ⟨_, rfl, (show IsS72 w0 _ gb220 l0 0 from ⟨_, _, by refine qB ?_; exact BK220.out, GE220.out, HR0.out⟩), by exact qW HB.out, by exact qW HBW.out⟩
 rw [if_pos c2] at H
 have c2b0 : decide (2000 < (l0.length : Int)) = true := decide_eq_true c2
 have c2b1 : decide (2000 < l0.length) = true := decide_eq_true (by omega)
 clear c2
 replace H := iS H
 obtain ⟨c3, H⟩ := H
 have c3b0 := eq_true c3
 have c3b1 : decide (2000 ≤ (l0.length : Int)) = true := decide_eq_true c3
 clear c3
 simp only [Option.some.injEq, Prod.mk.injEq] at H
 obtain ⟨rfl, rfl⟩ := H
 obtain ⟨i04, hi04, _, hsz4, _⟩ := info_parts info5
 obtain ⟨hcut4, hA4, hC4⟩ := print_take_of (P := Try.prog) (Value.int .u8) 0 32 5 .i64 Try.underlying32 hi04 hsz4 A0 c0 l0 2000 (by omega) oD HC0.out
 have HR218 := aM (Kd.C_of_reads (h1 := fun _ => rfl) (hA4 _ (Kd.reads_of_C HR0.out)))
 have HC218 := aM hC4
 clear hA4 hC4 hi04 hsz4
 go_enter Try.func56, Try.ntmps56
 go_wp2_with (first | ((with_reducible refine gate_dst (N := 10) rfl ?_); refine bxE (N := 10) (cs := #[.slice A0 (l0.take 2000).length c0, .int .i64 0]) (t := 72) ?_; intro gb219 hg w5 hbox hb; replace HB := bS HB hb; have BK219 := aM (hbox); have GW219 := aM ((by rw [hg]; exact (below_size (qW HBW.out)) : w.heap.size ≤ gb219)); have GE219 := aM ((Nat.le_trans HW0.out (by rw [hg]; exact (below_size (qW HBW.out)) : w.heap.size ≤ gb219) : w0.heap.size ≤ gb219)); replace HBW := aM (below_step HBW.out hb); clear hb hbox hg))
 go_ret
 exact ⟨_, rfl, (show IsS72 w0 _ gb219 (l0.take 2000) 0 from ⟨_, _, by refine qB ?_; exact BK219.out, GE219.out, HR218.out⟩), by exact qW HB.out, by exact qW HBW.out⟩
def spec_reader_pick.j0 : Nat → Int → Bool → List Int → Int → Option (Int × Int)
 | 0, _, _, _, _ => none
 | k + 1, x1, x24, x1000, x1001 => if x24 = true then (some (0, x1001)) else (if (wrap64 (x1001 - 1)) < (x1000.length : Int) then (if 0 ≤ (wrap64 (x1001 - 1)) then (if x1 = 0 then (none) else (some (Int.tmod (wrap64 (rd x1000 (wrap64 (x1001 - 1)))) x1, x1001))) else (none)) else (if (x1000.length : Int) = 0 then (none) else (if 0 ≤ (Int.tmod (wrap64 (x1001 - 1)) (x1000.length : Int)) then (if (Int.tmod (wrap64 (x1001 - 1)) (x1000.length : Int)) < (x1000.length : Int) then (if 0 ≤ (Int.tmod (wrap64 ((wrap64 ((wrap64 (x1001 - 1)) * 7)) + 3)) (x1000.length : Int)) then (if (Int.tmod (wrap64 ((wrap64 ((wrap64 (x1001 - 1)) * 7)) + 3)) (x1000.length : Int)) < (x1000.length : Int) then (if x1 = 0 then (none) else (some (Int.tmod (Go.bits .xor .i64 (wrap64 ((wrap64 ((wrap64 ((wrap64 ((wrap64 (rd x1000 (Int.tmod (wrap64 (x1001 - 1)) (x1000.length : Int)))) * 131)) + (wrap64 ((wrap64 (rd x1000 (Int.tmod (wrap64 ((wrap64 ((wrap64 (x1001 - 1)) * 7)) + 3)) (x1000.length : Int)))) * 1117)))) + (wrap64 ((wrap64 (x1001 - 1)) * 29)))) + (wrap64 ((wrap64 (Int.tdiv (wrap64 (x1001 - 1)) (x1000.length : Int))) * 53)))) (wrap64 (Int.tdiv (wrap64 ((wrap64 ((wrap64 ((wrap64 ((wrap64 (rd x1000 (Int.tmod (wrap64 (x1001 - 1)) (x1000.length : Int)))) * 131)) + (wrap64 ((wrap64 (rd x1000 (Int.tmod (wrap64 ((wrap64 ((wrap64 (x1001 - 1)) * 7)) + 3)) (x1000.length : Int)))) * 1117)))) + (wrap64 ((wrap64 (x1001 - 1)) * 29)))) + (wrap64 ((wrap64 (Int.tdiv (wrap64 (x1001 - 1)) (x1000.length : Int))) * 53)))) 64))) x1, x1001))) else (none)) else (none)) else (none)) else (none))))
def spec_reader_pick.f (k : Nat) (s0_0 : List Int) (s0_1 : Int) (a1 : Int) : Option (Int × Int) := if a1 < 1 then (spec_reader_pick.j0 k a1 true s0_0 (wrap64 (s0_1 + 1))) else (spec_reader_pick.j0 k a1 ((s0_0.length : Int) == 0) s0_0 (wrap64 (s0_1 + 1)))
theorem spec_reader_pick.mono_l : ∀ k, (∀ y0 y1 y2 y3, LeO (spec_reader_pick.j0 k y0 y1 y2 y3) (spec_reader_pick.j0 (k + 1) y0 y1 y2 y3))
 | 0 => fun _ _ _ _ r h => by simp [spec_reader_pick.j0] at h
 | k + 1 => by
  have ih0 := spec_reader_pick.mono_l k
  ·intro y0 y1 y2 y3
   unfold spec_reader_pick.j0
   repeat' first | (with_reducible first | exact ih0 _ _ _ _ | exact lR | exact lN | refine lI ?_ ?_ | refine lB ?_ fun _ => ?_) | exact ih0 _ _ _ _ | exact lN | refine lI ?_ ?_ | refine lB ?_ fun _ => ?_
theorem spec_reader_pick.mono : ∀ a0 a1 a2 k, LeO (spec_reader_pick.f k a0 a1 a2) (spec_reader_pick.f (k + 1) a0 a1 a2) := by
 intro a0 a1 a2 k
 have ih0 := spec_reader_pick.mono_l k
 unfold spec_reader_pick.f
 repeat' first | (with_reducible first | exact ih0 _ _ _ _ | exact lR | exact lN | refine lI ?_ ?_ | refine lB ?_ fun _ => ?_) | exact ih0 _ _ _ _ | exact lN | refine lI ?_ ?_ | refine lB ?_ fun _ => ?_
set_option maxHeartbeats 8000000 in
set_option maxRecDepth 100000 in
theorem spec_reader_pick.calls (k : Nat) (g : Nat) (s0_0 : List Int) (s0_1 : Int) (a1 : Int) (r1 : Int) (r2 : Int) (w0 w : World) (hI : IsS72 w0 w g s0_0 s0_1) (hB : Below w0.heap.size w0 w) (h : spec_reader_pick.f k s0_0 s0_1 a1 = some (r1, r2)) :
  Calls Try.prog 57 #[.pointer (some ⟨g, 0, none⟩), .int .i64 a1] w fun e w' => e = .returned (.int .i64 r1) ∧ IsS72 w0 w' g s0_0 r2 ∧ Below w0.heap.size w0 w' ∧ KeepBut w w' g none := by
 have HI0 := aM hI
 have HK := aM (KeepBut.refl w g none)
 have HL := aM hB.size
 clear hI
 have HW0 := aM hB.size
 have HB := aM hB
 clear hB
 unfold spec_reader_pick.f at h
 have H := h
 clear h
 have HC3 := aM H
 clear H
 obtain ⟨ASz4_0, cSz4_0, HGz4, hgz4, HSz4_0⟩ := HI0.out
 have hcz4_0 := cellS72_0 HGz4
 have hcz4_1 := cellS72_1 HGz4
 have hfz4_1 := blk_frozen HGz4 1
 clear HGz4 hgz4
 go_enter Try.func57, Try.ntmps57
 go_upto_region 2 with (fail)
 repeat (go_quiet (fail); go_upto_region 2 with (fail))
 go_cut [24] (fun v24 wc => ∃ (kq : Nat) (x24_2 : Bool), v24 = .bool x24_2 ∧ Aside0 (spec_reader_pick.j0 kq a1 x24_2 s0_0 (wrap64 (s0_1 + 1)) = some (r1, r2)) ∧ Aside0 (kq ≤ k) ∧ Aside0 (IsS72 w0 wc g s0_0 (wrap64 (s0_1 + 1))) ∧ Aside0 (KeepBut w wc g none) ∧ Aside0 (Below w0.heap.size w0 wc))
 case first =>
  have H := HC3.out
  clear HC3
  by_cases c5 : a1 < 1
  ·rw [if_pos c5] at H
   have c5b0 : decide (a1 < 1) = true := decide_eq_true c5
   clear c5
   (first | rw [c5b0] | (simp only [i64_w, i32_w]; rw [c5b0]) | skip)
   have H' := aM H
   clear H
   go_wp2
   repeat (go_quiet (fail); try go_wp2)
   go_meet
   case rel => exact ⟨_, (true), qE, H', ⟨by first | omega | exact Nat.le_refl _⟩, ⟨iS72 HI0.out⟩, ⟨kB HK.out⟩, ⟨wS72 HB.out⟩⟩
  rw [if_neg c5] at H
  have c5b0 : decide (a1 < 1) = false := decide_eq_false c5
  clear c5
  (first | rw [c5b0] | (simp only [i64_w, i32_w]; rw [c5b0]) | skip)
  have H' := aM H
  clear H
  obtain ⟨ASz6_0, cSz6_0, HGz6, hgz6, HSz6_0⟩ := HI0.out
  have hcz6_0 := cellS72_0 HGz6
  have hcz6_1 := cellS72_1 HGz6
  have hfz6_1 := blk_frozen HGz6 1
  clear HGz6 hgz6
  go_wp2
  repeat (go_quiet (fail); try go_wp2)
  go_meet
  case rel => exact ⟨_, (((s0_0.length : Int) == 0)), qE, H', ⟨by first | omega | exact Nat.le_refl _⟩, ⟨iS72 HI0.out⟩, ⟨kB HK.out⟩, ⟨wS72 HB.out⟩⟩
 case rest =>
  clear HC3
  try clear c5
  try clear c5b0
  try clear hcz4_0 hcz4_1 hfz4_1
  try clear hcz6_0 hcz6_1 hfz6_1
  obtain ⟨kq, x24_2, rfl, HA, HJ2, HI0, HK, HB⟩ := hcut
  cases kq with
  | zero => exact absurd HA.out (by simp [spec_reader_pick.j0])
  | succ kj2 =>
   have H := HA.out
   clear HA
   simp only [spec_reader_pick.j0] at H
   by_cases c7 : x24_2 = true
   ·subst c7
    have H1 : (some (0, (wrap64 (s0_1 + 1)))) = some (r1, r2) := by rw [if_pos rfl] at H; exact H
    clear H
    have H := H1
    clear H1
    simp only [Option.some.injEq, Prod.mk.injEq] at H
    obtain ⟨rfl, rfl⟩ := H
    go_wp2
    repeat (go_quiet (fail); try go_wp2)
    go_ret
    exact ⟨qX, iS72 HI0.out, wS72 HB.out, kB HK.out⟩
   replace c7 := Bool.eq_false_iff.mpr c7
   subst c7
   have H1 : (if (wrap64 ((wrap64 (s0_1 + 1)) - 1)) < (s0_0.length : Int) then (if 0 ≤ (wrap64 ((wrap64 (s0_1 + 1)) - 1)) then (if a1 = 0 then (none) else (some (Int.tmod (wrap64 (rd s0_0 (wrap64 ((wrap64 (s0_1 + 1)) - 1)))) a1, (wrap64 (s0_1 + 1))))) else (none)) else (if (s0_0.length : Int) = 0 then (none) else (if 0 ≤ (Int.tmod (wrap64 ((wrap64 (s0_1 + 1)) - 1)) (s0_0.length : Int)) then (if (Int.tmod (wrap64 ((wrap64 (s0_1 + 1)) - 1)) (s0_0.length : Int)) < (s0_0.length : Int) then (if 0 ≤ (Int.tmod (wrap64 ((wrap64 ((wrap64 ((wrap64 (s0_1 + 1)) - 1)) * 7)) + 3)) (s0_0.length : Int)) then (if (Int.tmod (wrap64 ((wrap64 ((wrap64 ((wrap64 (s0_1 + 1)) - 1)) * 7)) + 3)) (s0_0.length : Int)) < (s0_0.length : Int) then (if a1 = 0 then (none) else (some (Int.tmod (Go.bits .xor .i64 (wrap64 ((wrap64 ((wrap64 ((wrap64 ((wrap64 (rd s0_0 (Int.tmod (wrap64 ((wrap64 (s0_1 + 1)) - 1)) (s0_0.length : Int)))) * 131)) + (wrap64 ((wrap64 (rd s0_0 (Int.tmod (wrap64 ((wrap64 ((wrap64 ((wrap64 (s0_1 + 1)) - 1)) * 7)) + 3)) (s0_0.length : Int)))) * 1117)))) + (wrap64 ((wrap64 ((wrap64 (s0_1 + 1)) - 1)) * 29)))) + (wrap64 ((wrap64 (Int.tdiv (wrap64 ((wrap64 (s0_1 + 1)) - 1)) (s0_0.length : Int))) * 53)))) (wrap64 (Int.tdiv (wrap64 ((wrap64 ((wrap64 ((wrap64 ((wrap64 (rd s0_0 (Int.tmod (wrap64 ((wrap64 (s0_1 + 1)) - 1)) (s0_0.length : Int)))) * 131)) + (wrap64 ((wrap64 (rd s0_0 (Int.tmod (wrap64 ((wrap64 ((wrap64 ((wrap64 (s0_1 + 1)) - 1)) * 7)) + 3)) (s0_0.length : Int)))) * 1117)))) + (wrap64 ((wrap64 ((wrap64 (s0_1 + 1)) - 1)) * 29)))) + (wrap64 ((wrap64 (Int.tdiv (wrap64 ((wrap64 (s0_1 + 1)) - 1)) (s0_0.length : Int))) * 53)))) 64))) a1, (wrap64 (s0_1 + 1))))) else (none)) else (none)) else (none)) else (none)))) = some (r1, r2) := by rw [if_neg (show ¬ (false = true) by decide)] at H; exact H
   clear H
   have H := H1
   clear H1
   by_cases c8 : (wrap64 ((wrap64 (s0_1 + 1)) - 1)) < (s0_0.length : Int)
   ·rw [if_pos c8] at H
    have c8b0 : decide ((wrap64 ((wrap64 (s0_1 + 1)) - 1)) < (s0_0.length : Int)) = true := decide_eq_true c8
    clear c8
    obtain ⟨ji9, hji9⟩ : ∃ j_ : Int, (wrap64 ((wrap64 (s0_1 + 1)) - 1)) = j_ := ⟨_, rfl⟩
    replace H : (if 0 ≤ (ji9) then (if a1 = 0 then (none) else (some (Int.tmod (wrap64 (rd s0_0 (ji9))) a1, (wrap64 (s0_1 + 1))))) else (none)) = some (r1, r2) := by first | (rw [hji9] at H; exact H) | (simp only [hji9] at H ⊢; exact H)
    (try rw [hji9] at c8b0)
    have hji9w : (IntKind.i64.wrap ((wrap64 (s0_1 + 1)) - 1)) = ji9 := (i64_w _).trans hji9
    replace H := iD H
    obtain ⟨c10b0, H⟩ := H
    by_cases c11 : a1 = 0
    ·rw [if_pos c11] at H
     exact absurd H (by simp)
    rw [if_neg c11] at H
    have c11b0 : (a1 == 0) = false := beq_eq_false_iff_ne.mpr c11
    have c11b1 : (a1 != 0) = true := bne_iff_ne.mpr c11
    simp only [Option.some.injEq, Prod.mk.injEq] at H
    obtain ⟨rfl, rfl⟩ := H
    obtain ⟨ASz12_0, cSz12_0, HGz12, hgz12, HSz12_0⟩ := HI0.out
    have hcz12_0 := cellS72_0 HGz12
    have hcz12_1 := cellS72_1 HGz12
    have hfz12_1 := blk_frozen HGz12 1
    clear HGz12 hgz12
    obtain ⟨ad221, e221, hx221_0⟩ := Kd.at_int HSz12_0 (ji9) oD oD
    cases e221
    replace hx221_0 := pw_cell_below HB.out hx221_0
    have p221 := eq_true (oD : 0 ≤ ((ji9) : Int))
    have q221 := eq_true (oD : (ji9) < (s0_0.length : Int))
    go_wp2
    repeat (go_quiet (fail); try go_wp2)
    go_ret
    exact ⟨by first | rfl | (simp [errW_none, errW_some] <;> rfl) | (simp only [← hji9]; first | rfl | (simp [errW_none, errW_some] <;> rfl)) | (simp [*, errW_none, errW_some] <;> rfl), iS72 HI0.out, wS72 HB.out, kB HK.out⟩
   rw [if_neg c8] at H
   have c8b0 : decide ((wrap64 ((wrap64 (s0_1 + 1)) - 1)) < (s0_0.length : Int)) = false := decide_eq_false c8
   clear c8
   by_cases c13 : (s0_0.length : Int) = 0
   ·rw [if_pos c13] at H
    exact absurd H (by simp)
   rw [if_neg c13] at H
   have c13b0 : ((s0_0.length : Int) == 0) = false := beq_eq_false_iff_ne.mpr c13
   have c13b1 : ((s0_0.length : Int) != 0) = true := bne_iff_ne.mpr c13
   have c13b2 : ¬ (s0_0 = []) := fun h_ => c13 (by rw [h_]; rfl)
   obtain ⟨ji14, hji14⟩ : ∃ j_ : Int, (Int.tmod (wrap64 ((wrap64 (s0_1 + 1)) - 1)) (s0_0.length : Int)) = j_ := ⟨_, rfl⟩
   replace H : (if 0 ≤ (ji14) then (if (ji14) < (s0_0.length : Int) then (if 0 ≤ (Int.tmod (wrap64 ((wrap64 ((wrap64 ((wrap64 (s0_1 + 1)) - 1)) * 7)) + 3)) (s0_0.length : Int)) then (if (Int.tmod (wrap64 ((wrap64 ((wrap64 ((wrap64 (s0_1 + 1)) - 1)) * 7)) + 3)) (s0_0.length : Int)) < (s0_0.length : Int) then (if a1 = 0 then (none) else (some (Int.tmod (Go.bits .xor .i64 (wrap64 ((wrap64 ((wrap64 ((wrap64 ((wrap64 (rd s0_0 (ji14))) * 131)) + (wrap64 ((wrap64 (rd s0_0 (Int.tmod (wrap64 ((wrap64 ((wrap64 ((wrap64 (s0_1 + 1)) - 1)) * 7)) + 3)) (s0_0.length : Int)))) * 1117)))) + (wrap64 ((wrap64 ((wrap64 (s0_1 + 1)) - 1)) * 29)))) + (wrap64 ((wrap64 (Int.tdiv (wrap64 ((wrap64 (s0_1 + 1)) - 1)) (s0_0.length : Int))) * 53)))) (wrap64 (Int.tdiv (wrap64 ((wrap64 ((wrap64 ((wrap64 ((wrap64 (rd s0_0 (ji14))) * 131)) + (wrap64 ((wrap64 (rd s0_0 (Int.tmod (wrap64 ((wrap64 ((wrap64 ((wrap64 (s0_1 + 1)) - 1)) * 7)) + 3)) (s0_0.length : Int)))) * 1117)))) + (wrap64 ((wrap64 ((wrap64 (s0_1 + 1)) - 1)) * 29)))) + (wrap64 ((wrap64 (Int.tdiv (wrap64 ((wrap64 (s0_1 + 1)) - 1)) (s0_0.length : Int))) * 53)))) 64))) a1, (wrap64 (s0_1 + 1))))) else (none)) else (none)) else (none)) else (none)) = some (r1, r2) := by first | (rw [hji14] at H; exact H) | (simp only [hji14] at H ⊢; exact H)
   replace H := iD H
   obtain ⟨c15b0, H⟩ := H
   replace H := iD H
   obtain ⟨c16b0, H⟩ := H
   obtain ⟨ji17, hji17⟩ : ∃ j_ : Int, (Int.tmod (wrap64 ((wrap64 ((wrap64 ((wrap64 (s0_1 + 1)) - 1)) * 7)) + 3)) (s0_0.length : Int)) = j_ := ⟨_, rfl⟩
   replace H : (if 0 ≤ (ji17) then (if (ji17) < (s0_0.length : Int) then (if a1 = 0 then (none) else (some (Int.tmod (Go.bits .xor .i64 (wrap64 ((wrap64 ((wrap64 ((wrap64 ((wrap64 (rd s0_0 (ji14))) * 131)) + (wrap64 ((wrap64 (rd s0_0 (ji17))) * 1117)))) + (wrap64 ((wrap64 ((wrap64 (s0_1 + 1)) - 1)) * 29)))) + (wrap64 ((wrap64 (Int.tdiv (wrap64 ((wrap64 (s0_1 + 1)) - 1)) (s0_0.length : Int))) * 53)))) (wrap64 (Int.tdiv (wrap64 ((wrap64 ((wrap64 ((wrap64 ((wrap64 (rd s0_0 (ji14))) * 131)) + (wrap64 ((wrap64 (rd s0_0 (ji17))) * 1117)))) + (wrap64 ((wrap64 ((wrap64 (s0_1 + 1)) - 1)) * 29)))) + (wrap64 ((wrap64 (Int.tdiv (wrap64 ((wrap64 (s0_1 + 1)) - 1)) (s0_0.length : Int))) * 53)))) 64))) a1, (wrap64 (s0_1 + 1))))) else (none)) else (none)) = some (r1, r2) := by first | (rw [hji17] at H; exact H) | (simp only [hji17] at H ⊢; exact H)
   replace H := iD H
   obtain ⟨c18b0, H⟩ := H
   replace H := iD H
   obtain ⟨c19b0, H⟩ := H
   by_cases c20 : a1 = 0
   ·rw [if_pos c20] at H
    exact absurd H (by simp)
   rw [if_neg c20] at H
   have c20b0 : (a1 == 0) = false := beq_eq_false_iff_ne.mpr c20
   have c20b1 : (a1 != 0) = true := bne_iff_ne.mpr c20
   simp only [Option.some.injEq, Prod.mk.injEq] at H
   obtain ⟨rfl, rfl⟩ := H
   obtain ⟨ASz21_0, cSz21_0, HGz21, hgz21, HSz21_0⟩ := HI0.out
   have hcz21_0 := cellS72_0 HGz21
   have hcz21_1 := cellS72_1 HGz21
   have hfz21_1 := blk_frozen HGz21 1
   clear HGz21 hgz21
   obtain ⟨ad222, e222, hx222_0⟩ := Kd.at_int HSz21_0 (ji14) oD oD
   cases e222
   replace hx222_0 := pw_cell_below HB.out hx222_0
   have p222 := eq_true (oD : 0 ≤ ((ji14) : Int))
   have q222 := eq_true (oD : (ji14) < (s0_0.length : Int))
   obtain ⟨ad223, e223, hx223_0⟩ := Kd.at_int HSz21_0 (ji17) oD oD
   obtain rfl : ad222 = ad223 := (by injection e223)
   replace hx223_0 := pw_cell_below HB.out hx223_0
   have p223 := eq_true (oD : 0 ≤ ((ji17) : Int))
   have q223 := eq_true (oD : (ji17) < (s0_0.length : Int))
   go_wp2
   repeat (go_quiet (fail); try go_wp2)
   go_ret
   exact ⟨by first | rfl | (simp [errW_none, errW_some] <;> rfl) | (simp only [← hji14, ← hji17]; first | rfl | (simp [errW_none, errW_some] <;> rfl)) | (simp [*, errW_none, errW_some] <;> rfl), iS72 HI0.out, wS72 HB.out, kB HK.out⟩
def spec_reader_one.f (k : Nat) (s0_0 : List Int) (s0_1 : Int) (l1 : List Int) : Option (Int × Int) := (spec_reader_pick.f k s0_0 s0_1 (l1.length : Int)).bind fun bt224 => (if 0 ≤ bt224.1 then (if bt224.1 < (l1.length : Int) then (some (rd l1 bt224.1, bt224.2)) else (none)) else (none))
theorem spec_reader_one.mono : ∀ a0 a1 a2 k, LeO (spec_reader_one.f k a0 a1 a2) (spec_reader_one.f (k + 1) a0 a1 a2) := by
 intro a0 a1 a2 k
 unfold spec_reader_one.f
 repeat' first | (with_reducible first | exact spec_reader_pick.mono _ _ _ _ | exact lR | exact lN | refine lI ?_ ?_ | refine lB ?_ fun _ => ?_) | exact spec_reader_pick.mono _ _ _ _ | exact lN | refine lI ?_ ?_ | refine lB ?_ fun _ => ?_
set_option maxHeartbeats 8000000 in
set_option maxRecDepth 100000 in
theorem spec_reader_one.calls (k : Nat) (g : Nat) (s0_0 : List Int) (s0_1 : Int) (A1 : Option Addr) (c1 : Nat) (l1 : List Int) (r1 : Int) (r2 : Int) (w0 w : World) (hI : IsS72 w0 w g s0_0 s0_1) (hB : Below w0.heap.size w0 w) (hr1 : Kd.C (Kd.int .i64) w A1 l1.length l1) (hc1 : l1.length ≤ c1) (hf1 : ∀ ad, A1 = some ad → 0 < l1.length → ad.block ≠ g) (h : spec_reader_one.f k s0_0 s0_1 l1 = some (r1, r2)) :
  Calls Try.prog 81 #[.pointer (some ⟨g, 0, none⟩), .slice A1 l1.length c1] w fun e w' => e = .returned (.int .i64 r1) ∧ IsS72 w0 w' g s0_0 r2 ∧ Below w0.heap.size w0 w' ∧ KeepBut w w' g none := by
 have HR1 := aM hr1
 have HC1 := aM hc1
 clear hr1 hc1
 have HI0 := aM hI
 have HK := aM (KeepBut.refl w g none)
 have HL := aM hB.size
 clear hI
 have HW0 := aM hB.size
 have HB := aM hB
 clear hB
 unfold spec_reader_one.f at h
 have H := h
 clear h
 replace H := Option.bind_eq_some_iff.mp H
 obtain ⟨⟨t224, t225⟩, A30, H⟩ := H
 replace H : (if 0 ≤ t224 then (if t224 < (l1.length : Int) then (some (rd l1 t224, t225)) else (none)) else (none)) = some (r1, r2) := H
 have A3 := aM A30
 clear A30
 replace H := iD H
 obtain ⟨c4b0, H⟩ := H
 replace H := iD H
 obtain ⟨c5b0, H⟩ := H
 simp only [Option.some.injEq, Prod.mk.injEq] at H
 obtain ⟨rfl, rfl⟩ := H
 go_enter Try.func81, Try.ntmps81
 go_wp2_with (first | ((with_reducible refine gate_callee (f := 57) rfl ?_); refine gL (some 9) Try.func57 #[.pointer (some ⟨g, 0, none⟩), .int .i64 (l1.length : Int)] ?_; (with_reducible refine (spec_reader_pick.calls k g s0_0 s0_1 (l1.length : Int) t224 t225 w0 _ ?side1 ?side2 A3.out).mono ?_); (case side1 => exact iS72 HI0.out); (case side2 => exact wS72 HB.out); rintro e w6 ⟨rfl, hi, hb, hk⟩; refine ⟨_, rfl, ?_⟩; replace HK := aM (KeepBut.trans (kB HK.out) hk (.inl rfl)); replace HB := aM (hb); replace HI0 := aM (hi); clear hb hk hi; have p226 : 0 ≤ (t224 : Int) := oD; have q226 : t224 < (l1.length : Int) := oD; obtain ⟨ad226, e226, hx226_0⟩ := Kd.at_int HR1.out t224 p226 q226; cases e226; replace hx226_0 := keep_cell HK.out hx226_0 (by first | (rw [add_block]; exact hf1 _ rfl (by omega)) | exact hf1 _ rfl (by omega) | exact hf1 ad226 rfl (by omega)); replace p226 := eq_true p226; replace q226 := eq_true q226))
 go_ret
 exact ⟨qX, iS72 HI0.out, wS72 HB.out, kB HK.out⟩
def spec_spoilImage.f (k : Nat) (s0_0 : List Int) (s0_1 : Int) (a1_0 : Int) (a1_1 : Int) (a1_2 : Int) (l1_3 : List Int) : Option (Int × Int × Int × List Int × Int) := (spec_reader_pick.f k s0_0 s0_1 40).bind fun bt229 => (if bt229.1 = 0 then ((spec_reader_one.f k s0_0 bt229.2 (([0, 17, wrap64 (a1_0 + 1)] : List Int))).bind fun bt234 => (some (bt234.1, a1_1, a1_2, l1_3, bt234.2))) else (if bt229.1 = 1 then (if 1 ≤ (l1_3.length : Int) then (some (a1_0, a1_1, a1_2, (l1_3.drop (1 : Int).toNat), bt229.2)) else (none)) else (if bt229.1 = 2 then ((spec_reader_one.f k s0_0 bt229.2 (([(-1), 256] : List Int))).bind fun bt242 => (if 0 < (l1_3.length : Int) then (some (a1_0, a1_1, a1_2, (l1_3.set (0 : Int).toNat bt242.1), bt242.2)) else (none))) else (if bt229.1 = 3 then ((spec_reader_one.f k s0_0 bt229.2 (([0, 5] : List Int))).bind fun bt248 => (some (a1_0, a1_1, bt248.1, l1_3, bt248.2))) else (some (a1_0, a1_1, a1_2, l1_3, bt229.2))))))
theorem spec_spoilImage.mono : ∀ a0 a1 a2 a3 a4 a5 k, LeO (spec_spoilImage.f k a0 a1 a2 a3 a4 a5) (spec_spoilImage.f (k + 1) a0 a1 a2 a3 a4 a5) := by
 intro a0 a1 a2 a3 a4 a5 k
 unfold spec_spoilImage.f
 repeat' first | (with_reducible first | exact spec_reader_one.mono _ _ _ _ | exact spec_reader_pick.mono _ _ _ _ | exact lR | exact lN | refine lI ?_ ?_ | refine lB ?_ fun _ => ?_) | exact spec_reader_one.mono _ _ _ _ | exact spec_reader_pick.mono _ _ _ _ | exact lN | refine lI ?_ ?_ | refine lB ?_ fun _ => ?_
set_option maxHeartbeats 8000000 in
set_option maxRecDepth 100000 in
theorem spec_spoilImage.calls (k : Nat) (g : Nat) (s0_0 : List Int) (s0_1 : Int) (a1_0 : Int) (a1_1 : Int) (a1_2 : Int) (P1_3_ : Nat → Prop) (u9000_ : Value) (l1_3 : List Int) (r1 : Int) (r2 : Int) (r3 : Int) (r4 : List Int) (r5 : Int) (w0 w : World) (hI : IsS72 w0 w g s0_0 s0_1) (hB : Below w0.heap.size w0 w) (ho1_3 : Kd.R (Kd.int .i64) 3 w w0.heap.size P1_3_ u9000_ l1_3) (h : spec_spoilImage.f k s0_0 s0_1 a1_0 a1_1 a1_2 l1_3 = some (r1, r2, r3, r4, r5)) :
  Calls Try.prog 59 #[.pointer (some ⟨g, 0, none⟩), .agg #[.int .i64 a1_0, .int .i64 a1_1, .int .i64 a1_2, u9000_]] w fun e w' => ∃ v3_ : Value, e = .returned (.agg #[.int .i64 r1, .int .i64 r2, .int .i64 r3, v3_]) ∧ Kd.Q (Kd.int .i64) 3 w' w0.heap.size (fun k_ => (P1_3_ k_ ∨ w.heap.size ≤ k_)) v3_ r4 ∧ IsS72 w0 w' g s0_0 r5 ∧ Below w0.heap.size w0 w' ∧ Kept w w' (fun k_ => (P1_3_ k_) ∨ k_ = g) := by
 have hu26 := Try.underlying26
 have HO1_3 := aM (show Kd.R (Kd.int .i64) 3 w w0.heap.size (fun k_ => (P1_3_ k_ ∨ w.heap.size ≤ k_)) u9000_ l1_3 from Kd.R_mono ho1_3 (fun k_ hk => (.inl hk)))
 have HI0 := aM hI
 have HL := aM hB.size
 clear hI
 have HK := aM (Kept.refl w (fun k_ => (P1_3_ k_) ∨ k_ = g))
 have HW0 := aM hB.size
 have HB := aM hB
 clear hB
 unfold spec_spoilImage.f at h
 have H := h
 clear h
 replace H := Option.bind_eq_some_iff.mp H
 obtain ⟨⟨t229, t230⟩, A30, H⟩ := H
 replace H : (if t229 = 0 then ((spec_reader_one.f k s0_0 t230 (([0, 17, wrap64 (a1_0 + 1)] : List Int))).bind fun bt234 => (some (bt234.1, a1_1, a1_2, l1_3, bt234.2))) else (if t229 = 1 then (if 1 ≤ (l1_3.length : Int) then (some (a1_0, a1_1, a1_2, (l1_3.drop (1 : Int).toNat), t230)) else (none)) else (if t229 = 2 then ((spec_reader_one.f k s0_0 t230 (([(-1), 256] : List Int))).bind fun bt242 => (if 0 < (l1_3.length : Int) then (some (a1_0, a1_1, a1_2, (l1_3.set (0 : Int).toNat bt242.1), bt242.2)) else (none))) else (if t229 = 3 then ((spec_reader_one.f k s0_0 t230 (([0, 5] : List Int))).bind fun bt248 => (some (a1_0, a1_1, bt248.1, l1_3, bt248.2))) else (some (a1_0, a1_1, a1_2, l1_3, t230)))))) = some (r1, r2, r3, r4, r5) := H
 have A3 := aM A30
 clear A30
 by_cases c4 : t229 = 0
 ·rw [if_pos c4] at H
  have c4b0 : (t229 == 0) = true := beq_iff_eq.mpr c4
  have c4b1 : (t229 != 0) = false := bne_eq_false_iff_eq.mpr c4
  clear c4
  obtain ⟨y231, hy231⟩ : ∃ y_ : List Int, y_ = (([0, 17, wrap64 (a1_0 + 1)] : List Int)) := ⟨_, rfl⟩
  replace H : ((spec_reader_one.f k s0_0 t230 y231).bind fun bt234 => (some (bt234.1, a1_1, a1_2, l1_3, bt234.2))) = some (r1, r2, r3, r4, r5) := rY hy231 H
  have Ny231 := aM hy231
  clear hy231
  replace H := Option.bind_eq_some_iff.mp H
  obtain ⟨⟨t234, t235⟩, A50, H⟩ := H
  replace H : (some (t234, a1_1, a1_2, l1_3, t235)) = some (r1, r2, r3, r4, r5) := H
  have A5 := aM A50
  clear A50
  simp only [Option.some.injEq, Prod.mk.injEq] at H
  obtain ⟨rfl, rfl, rfl, rfl, rfl⟩ := H
  obtain ⟨Ao6, co6, rfl⟩ := sL HO1_3
  go_enter Try.func59, Try.ntmps59
  go_wp2_with (first | ((with_reducible refine gate_dst (N := 3) rfl ?_); refine bxE (N := 3) (cs := #[.int .i64 a1_0, .int .i64 a1_1, .int .i64 a1_2, .slice Ao6 l1_3.length co6]) (t := 26) ?_; intro gb227 hg w7 hbox hb; replace HO1_3 := aM (Kd.R_below (qR HO1_3.out) hb); have BK227 := aM (hbox); have GW227 := aM ((by rw [hg]; exact (by first | exact HK.out.1 | exact (show Kept w _ (fun k_ => (P1_3_ k_) ∨ k_ = g) from kP HK.out).1) : w.heap.size ≤ gb227)); replace HK := aM (Kept.below (S := (fun k_ => (P1_3_ k_) ∨ k_ = g)) (kP HK.out) hb); have GE227 := aM ((by rw [hg]; exact (below_size (wS72 HB.out)) : w0.heap.size ≤ gb227)); replace HB := aM (below_step (wS72 HB.out) hb); have NB0_227 := aM ((by rw [hg]; exact Nat.ne_of_lt (IsS72.lt (show IsS72 w0 _ g s0_0 s0_1 from iS72 HI0.out)) : g ≠ gb227)); have NB227_0 := aM ((by rw [hg]; exact Nat.ne_of_gt (IsS72.lt (show IsS72 w0 _ g s0_0 s0_1 from iS72 HI0.out)) : gb227 ≠ g)); replace HI0 := aM (IsS72.below (iS72 HI0.out) hb); clear hb hbox hg) | ((with_reducible refine gate_dst (N := 4) rfl ?_); refine bxE (N := 4) (cs := #[.int .i64 0, .int .i64 0, .int .i64 0, .slice none 0 0]) (t := 26) ?_; intro gb228 hg w8 hbox hb; replace HO1_3 := aM (Kd.R_below (qR HO1_3.out) hb); have BK228 := aM (hbox); have GW228 := aM ((by rw [hg]; exact (by first | exact HK.out.1 | exact (show Kept w _ (fun k_ => (P1_3_ k_) ∨ k_ = g) from kP HK.out).1) : w.heap.size ≤ gb228)); replace HK := aM (Kept.below (S := (fun k_ => (P1_3_ k_) ∨ k_ = g)) (kP HK.out) hb); have GE228 := aM ((by rw [hg]; exact (below_size (wS72 HB.out)) : w0.heap.size ≤ gb228)); replace HB := aM (below_step (wS72 HB.out) hb); have NB227_228 := nL hg BK227; have NB228_227 := nG hg BK227; replace BK227 := bB BK227 hb; have NB0_228 := aM ((by rw [hg]; exact Nat.ne_of_lt (IsS72.lt (show IsS72 w0 _ g s0_0 s0_1 from iS72 HI0.out)) : g ≠ gb228)); have NB228_0 := aM ((by rw [hg]; exact Nat.ne_of_gt (IsS72.lt (show IsS72 w0 _ g s0_0 s0_1 from iS72 HI0.out)) : gb228 ≠ g)); replace HI0 := aM (IsS72.below (iS72 HI0.out) hb); clear hb hbox hg) | ((with_reducible refine gate_callee (f := 57) rfl ?_); refine gL (some 6) Try.func57 #[.pointer (some ⟨g, 0, none⟩), .int .i64 40] ?_; (with_reducible refine (spec_reader_pick.calls k g s0_0 s0_1 40 t229 t230 w0 _ ?side1 ?side2 A3.out).mono ?_); (case side1 => exact iS72 HI0.out); (case side2 => exact wS72 HB.out); rintro e w9 ⟨rfl, hi, hb, hk⟩; refine ⟨_, rfl, ?_⟩; replace HO1_3 := aM (Kd.R_mono (Kd.R_keep (IsS72.apart (show IsS72 w0 _ g s0_0 s0_1 from iS72 HI0.out) (qR HO1_3.out) (by decide)) hk (fun _ h => h.2)) (fun _ h => h.1)); replace BK227 := bK hk BK227 NB227_0; replace BK228 := bK hk BK228 NB228_0; replace HK := aM (Kept.of_keep (S := (fun k_ => (P1_3_ k_) ∨ k_ = g)) (kP HK.out) hk (.inl (.inr rfl))); replace HB := aM (hb); replace HI0 := aM (hi); clear hb hk hi; have hnb10 := NB227_228.out; have hnc10 := NB228_227.out; have hnb11 := NB227_0.out; have hnc11 := NB0_227.out; obtain ⟨⟨hcz12_0, hcz12_1, hcz12_2, hcz12_3⟩, hfz12_0, hfz12_1, hfz12_2, hfz12_3⟩ := cf4 BK227) | ((with_reducible refine gate_dst (N := 13) rfl ?_); refine iL ([0, 17, wrap64 (a1_0 + 1)] : List Int) [.int .i64 0, .int .i64 17, .int .i64 (wrap64 (a1_0 + 1))] ?_; intro v232 w13 ho14 hb hg_ hnew_; clear hg_ hnew_; (first | rw [← Ny231.out] at ho14 | (simp only [Int.reduceToNat] at ho14; rw [← Ny231.out] at ho14)); have HO233 := aM (Kd.R_lower (Kd.R_new' (Kd.R_newM (M := fun k_ => (P1_3_ k_ ∨ w.heap.size ≤ k_)) ho14 (by first | exact HK.out.1 | exact (show Kept w _ (fun k_ => (P1_3_ k_) ∨ k_ = g) from kP HK.out).1) (fun k_ h_ => .inr h_)) (Kd.R_lt (qR HO1_3.out))) (below_size (wS72 HB.out))); replace HO1_3 := aM (Kd.R_elder' (qR HO1_3.out) (Kd.R_base ho14) hb); replace BK227 := bB BK227 hb; replace BK228 := bB BK228 hb; replace HK := aM (Kept.below (S := (fun k_ => (P1_3_ k_) ∨ k_ = g)) (kP HK.out) hb); replace HB := aM (below_step (wS72 HB.out) hb); replace HI0 := aM (IsS72.below (iS72 HI0.out) hb); clear hb ho14; obtain ⟨Ao15, co15, rfl⟩ := sL HO233) | ((with_reducible refine gate_callee (f := 81) rfl ?_); refine gL (some 14) Try.func81 #[.pointer (some ⟨g, 0, none⟩), .slice Ao15 y231.length co15] ?_; (with_reducible refine (spec_reader_one.calls k g s0_0 t230 _ _ y231 t234 t235 w0 _ ?side1 ?side2 ?side3 ?side4 ?side5 A5.out).mono ?_); (case side1 => exact iS72 HI0.out); (case side2 => exact wS72 HB.out); (case side3 => exact qC (Kd.R_reads' HO233.out).2.2); (case side4 => exact (Kd.R_reads' HO233.out).2.1); (case side5 => exact far_slice (IsS72.own_ne HI0.out HO233.out (by decide))); rintro e w16 ⟨rfl, hi, hb, hk⟩; refine ⟨_, rfl, ?_⟩; replace HO1_3 := aM (Kd.R_mono (Kd.R_keep (IsS72.apart (show IsS72 w0 _ g s0_0 t230 from iS72 HI0.out) (qR HO1_3.out) (by decide)) hk (fun _ h => h.2)) (fun _ h => h.1)); replace BK227 := bK hk BK227 NB227_0; replace BK228 := bK hk BK228 NB228_0; replace HO233 := aM (Kd.R_mono (Kd.R_keep (IsS72.apart (show IsS72 w0 _ g s0_0 t230 from iS72 HI0.out) (qR HO233.out) (by decide)) hk (fun _ h => h.2)) (fun _ h => h.1)); replace HK := aM (Kept.of_keep (S := (fun k_ => (P1_3_ k_) ∨ k_ = g)) (kP HK.out) hk (.inl (.inr rfl))); replace HB := aM (hb); replace HI0 := aM (hi); clear hb hk hi; obtain ⟨⟨hcz17_0, hcz17_1, hcz17_2, hcz17_3⟩, hfz17_0, hfz17_1, hfz17_2, hfz17_3⟩ := cf4 BK227; have hnb18 := NB228_0.out; have hnc18 := NB0_228.out; obtain ⟨⟨hcz19_0, hcz19_1, hcz19_2, hcz19_3⟩, hfz19_0, hfz19_1, hfz19_2, hfz19_3⟩ := cf4 BK228))
  refine bodyPost_ret (results_cell_row rfl _ _ gb228 26 #[.int .i64 t234, .int .i64 a1_1, .int .i64 a1_2, .slice Ao6 l1_3.length co6] (0, 0) _ rfl (by refine qB ?_; refine blk_put (cs := #[.int .i64 t234, .int .i64 a1_1, .int .i64 a1_2, .slice none 0 0]) ?_ 3 _ rfl; refine qB ?_; refine blk_put (cs := #[.int .i64 t234, .int .i64 a1_1, .int .i64 0, .slice none 0 0]) ?_ 2 _ rfl; refine qB ?_; refine blk_put (cs := #[.int .i64 t234, .int .i64 0, .int .i64 0, .slice none 0 0]) ?_ 1 _ rfl; refine qB ?_; refine blk_put (cs := #[.int .i64 0, .int .i64 0, .int .i64 0, .slice none 0 0]) ?_ 0 _ rfl; refine qB ?_; refine blk_far ?_ NB228_227.out _; refine qB ?_; exact BK228.out) Try.underlying26 rfl (by kernel_rfl)) rfl ?_
  exact ⟨_, qX, Kd.Q_of_R (by refine qR ?_; exact Kd.R_mono (Kd.R_far (p := ⟨gb228, 3, none⟩) (Kd.R_far (p := ⟨gb228, 2, none⟩) (Kd.R_far (p := ⟨gb228, 1, none⟩) (Kd.R_far (p := ⟨gb228, 0, none⟩) (Kd.R_far (p := ⟨gb227, 0, none⟩) (Kd.R_types (Kd.R_types HO1_3.out BK227.out (by decide)) BK228.out (by decide)) (fun _ hk => hk.1.2) (.int .i64 t234)) (fun _ hk => hk.2) (.int .i64 t234)) (fun _ hk => hk.2) (.int .i64 a1_1)) (fun _ hk => hk.2) (.int .i64 a1_2)) (fun _ hk => hk.2) (.slice Ao6 l1_3.length co6)) (fun _ hk => hk.1.1.1)), iS72 HI0.out, wS72 HB.out, kP HK.out⟩
 rw [if_neg c4] at H
 have c4b0 : (t229 == 0) = false := beq_eq_false_iff_ne.mpr c4
 have c4b1 : (t229 != 0) = true := bne_iff_ne.mpr c4
 by_cases c20 : t229 = 1
 ·rw [if_pos c20] at H
  have c20b0 : (t229 == 1) = true := beq_iff_eq.mpr c20
  have c20b1 : (t229 != 1) = false := bne_eq_false_iff_eq.mpr c20
  clear c20
  replace H := iS H
  obtain ⟨c21, H⟩ := H
  have c21b0 := eq_true c21
  have c21b1 : decide (1 ≤ (l1_3.length : Int)) = true := decide_eq_true c21
  clear c21
  obtain ⟨y236, hy236⟩ : ∃ y_ : List Int, y_ = (l1_3.drop (1 : Int).toNat) := ⟨_, rfl⟩
  replace H : (some (a1_0, a1_1, a1_2, y236, t230)) = some (r1, r2, r3, r4, r5) := rY hy236 H
  have Ny236 := aM hy236
  clear hy236
  simp only [Option.some.injEq, Prod.mk.injEq] at H
  obtain ⟨rfl, rfl, rfl, rfl, rfl⟩ := H
  obtain ⟨Ao22, co22, rfl⟩ := sL HO1_3
  go_enter Try.func59, Try.ntmps59
  go_wp2_with (first | ((with_reducible refine gate_dst (N := 3) rfl ?_); refine bxE (N := 3) (cs := #[.int .i64 a1_0, .int .i64 a1_1, .int .i64 a1_2, .slice Ao22 l1_3.length co22]) (t := 26) ?_; intro gb227 hg w23 hbox hb; replace HO1_3 := aM (Kd.R_below (qR HO1_3.out) hb); have BK227 := aM (hbox); have GW227 := aM ((by rw [hg]; exact (by first | exact HK.out.1 | exact (show Kept w _ (fun k_ => (P1_3_ k_) ∨ k_ = g) from kP HK.out).1) : w.heap.size ≤ gb227)); replace HK := aM (Kept.below (S := (fun k_ => (P1_3_ k_) ∨ k_ = g)) (kP HK.out) hb); have GE227 := aM ((by rw [hg]; exact (below_size (wS72 HB.out)) : w0.heap.size ≤ gb227)); replace HB := aM (below_step (wS72 HB.out) hb); have NB0_227 := aM ((by rw [hg]; exact Nat.ne_of_lt (IsS72.lt (show IsS72 w0 _ g s0_0 s0_1 from iS72 HI0.out)) : g ≠ gb227)); have NB227_0 := aM ((by rw [hg]; exact Nat.ne_of_gt (IsS72.lt (show IsS72 w0 _ g s0_0 s0_1 from iS72 HI0.out)) : gb227 ≠ g)); replace HI0 := aM (IsS72.below (iS72 HI0.out) hb); clear hb hbox hg) | ((with_reducible refine gate_dst (N := 4) rfl ?_); refine bxE (N := 4) (cs := #[.int .i64 0, .int .i64 0, .int .i64 0, .slice none 0 0]) (t := 26) ?_; intro gb228 hg w24 hbox hb; replace HO1_3 := aM (Kd.R_below (qR HO1_3.out) hb); have BK228 := aM (hbox); have GW228 := aM ((by rw [hg]; exact (by first | exact HK.out.1 | exact (show Kept w _ (fun k_ => (P1_3_ k_) ∨ k_ = g) from kP HK.out).1) : w.heap.size ≤ gb228)); replace HK := aM (Kept.below (S := (fun k_ => (P1_3_ k_) ∨ k_ = g)) (kP HK.out) hb); have GE228 := aM ((by rw [hg]; exact (below_size (wS72 HB.out)) : w0.heap.size ≤ gb228)); replace HB := aM (below_step (wS72 HB.out) hb); have NB227_228 := nL hg BK227; have NB228_227 := nG hg BK227; replace BK227 := bB BK227 hb; have NB0_228 := aM ((by rw [hg]; exact Nat.ne_of_lt (IsS72.lt (show IsS72 w0 _ g s0_0 s0_1 from iS72 HI0.out)) : g ≠ gb228)); have NB228_0 := aM ((by rw [hg]; exact Nat.ne_of_gt (IsS72.lt (show IsS72 w0 _ g s0_0 s0_1 from iS72 HI0.out)) : gb228 ≠ g)); replace HI0 := aM (IsS72.below (iS72 HI0.out) hb); clear hb hbox hg) | ((with_reducible refine gate_callee (f := 57) rfl ?_); refine gL (some 6) Try.func57 #[.pointer (some ⟨g, 0, none⟩), .int .i64 40] ?_; (with_reducible refine (spec_reader_pick.calls k g s0_0 s0_1 40 t229 t230 w0 _ ?side1 ?side2 A3.out).mono ?_); (case side1 => exact iS72 HI0.out); (case side2 => exact wS72 HB.out); rintro e w25 ⟨rfl, hi, hb, hk⟩; refine ⟨_, rfl, ?_⟩; replace HO1_3 := aM (Kd.R_mono (Kd.R_keep (IsS72.apart (show IsS72 w0 _ g s0_0 s0_1 from iS72 HI0.out) (qR HO1_3.out) (by decide)) hk (fun _ h => h.2)) (fun _ h => h.1)); replace BK227 := bK hk BK227 NB227_0; replace BK228 := bK hk BK228 NB228_0; replace HK := aM (Kept.of_keep (S := (fun k_ => (P1_3_ k_) ∨ k_ = g)) (kP HK.out) hk (.inl (.inr rfl))); replace HB := aM (hb); replace HI0 := aM (hi); clear hb hk hi; have hnb26 := NB227_228.out; have hnc26 := NB228_227.out; have hnb27 := NB227_0.out; have hnc27 := NB0_227.out; obtain ⟨⟨hcz28_0, hcz28_1, hcz28_2, hcz28_3⟩, hfz28_0, hfz28_1, hfz28_2, hfz28_3⟩ := cf4 BK227; have q29 : (1 : Int) ≤ ((l1_3.length : Int) : Int) := oD; obtain ⟨i029, hi029, _, hsz29, _⟩ := info_parts info3; have hcut29 := cut_from (P := Try.prog) 22 3 .i64 Try.underlying22 hi029 1 hsz29 Ao22 l1_3.length co22 1 (by omega) q29; have hr29 := Kd.Q_drop (k := (1 : Int).toNat) (Kd.Q_of_R HO1_3.out) (by omega); obtain ⟨A29, hA29⟩ : ∃ A1, A1 = (if co22 = (1 : Int).toNat then Ao22 else (Ao22 : Option Addr).map (·.add ((1 : Int).toNat * 1))) := ⟨_, rfl⟩; obtain ⟨c29, hc29⟩ : ∃ c1, c1 = co22 - (1 : Int).toNat := ⟨_, rfl⟩; have hy29 : y236.length = l1_3.length - (1 : Int).toNat := (by rw [Ny236.out, List.length_drop]); rw [← Ny236.out] at hr29; rw [← hy29, ← hA29, ← hc29] at hcut29; replace hr29 : Kd.Q (Kd.int .i64) 3 w25 w0.heap.size (fun k_ => (P1_3_ k_ ∨ w.heap.size ≤ k_)) (.slice A29 y236.length c29) y236 := (by rw [hA29, hc29, hy29]; exact hr29); have HE29 : Aside0 ((Value.slice A29 y236.length c29).ownBlock = (.slice Ao22 l1_3.length co22 : Value).ownBlock) := ⟨by rw [hA29]; split <;> (cases (Ao22 : Option Addr) <;> rfl)⟩; clear hy29 hi029 hsz29 HO1_3 hA29 hc29; have HO238 := aM hr29; clear hr29; replace q29 := eq_true q29; have hnb30 := NB228_0.out; have hnc30 := NB0_228.out; obtain ⟨⟨hcz31_0, hcz31_1, hcz31_2, hcz31_3⟩, hfz31_0, hfz31_1, hfz31_2, hfz31_3⟩ := cf4 BK228))
  refine bodyPost_ret (results_cell_row rfl _ _ gb228 26 #[.int .i64 a1_0, .int .i64 a1_1, .int .i64 a1_2, .slice A29 y236.length c29] (0, 0) _ rfl (by refine qB ?_; refine blk_put (cs := #[.int .i64 a1_0, .int .i64 a1_1, .int .i64 a1_2, .slice none 0 0]) ?_ 3 _ rfl; refine qB ?_; refine blk_put (cs := #[.int .i64 a1_0, .int .i64 a1_1, .int .i64 0, .slice none 0 0]) ?_ 2 _ rfl; refine qB ?_; refine blk_put (cs := #[.int .i64 a1_0, .int .i64 0, .int .i64 0, .slice none 0 0]) ?_ 1 _ rfl; refine qB ?_; refine blk_put (cs := #[.int .i64 0, .int .i64 0, .int .i64 0, .slice none 0 0]) ?_ 0 _ rfl; refine qB ?_; refine blk_far ?_ NB228_227.out _; refine qB ?_; exact BK228.out) Try.underlying26 rfl (by kernel_rfl)) rfl ?_
  exact ⟨_, qX, by (with_reducible repeat (first | apply Kd.Q_alloc | apply Kd.Q_drewN | apply Kd.Q_drew)); exact Kd.Q_mono (Kd.Q_far (p := ⟨gb228, 3, none⟩) (Kd.Q_far (p := ⟨gb228, 2, none⟩) (Kd.Q_far (p := ⟨gb228, 1, none⟩) (Kd.Q_far (p := ⟨gb228, 0, none⟩) (Kd.Q_far (p := ⟨gb227, 3, none⟩) (Kd.Q_types (Kd.Q_types HO238.out BK227.out (by decide)) BK228.out (by decide)) (fun _ hk => hk.1.2) (.slice A29 y236.length c29)) (fun _ hk => hk.2) (.int .i64 a1_0)) (fun _ hk => hk.2) (.int .i64 a1_1)) (fun _ hk => hk.2) (.int .i64 a1_2)) (fun _ hk => hk.2) (.slice A29 y236.length c29)) (fun _ hk => hk.1.1), iS72 HI0.out, wS72 HB.out, kP HK.out⟩
 rw [if_neg c20] at H
 have c20b0 : (t229 == 1) = false := beq_eq_false_iff_ne.mpr c20
 have c20b1 : (t229 != 1) = true := bne_iff_ne.mpr c20
 by_cases c32 : t229 = 2
 rotate_left
 ·rw [if_neg c32] at H
  have c32b0 : (t229 == 2) = false := beq_eq_false_iff_ne.mpr c32
  have c32b1 : (t229 != 2) = true := bne_iff_ne.mpr c32
  by_cases c52 : t229 = 3
  rotate_left
  ·rw [if_neg c52] at H
   have c52b0 : (t229 == 3) = false := beq_eq_false_iff_ne.mpr c52
   have c52b1 : (t229 != 3) = true := bne_iff_ne.mpr c52
   simp only [Option.some.injEq, Prod.mk.injEq] at H
   obtain ⟨rfl, rfl, rfl, rfl, rfl⟩ := H
   obtain ⟨Ao67, co67, rfl⟩ := sL HO1_3
   go_enter Try.func59, Try.ntmps59
   go_wp2_with (first | ((with_reducible refine gate_dst (N := 3) rfl ?_); refine bxE (N := 3) (cs := #[.int .i64 a1_0, .int .i64 a1_1, .int .i64 a1_2, .slice Ao67 l1_3.length co67]) (t := 26) ?_; intro gb227 hg w68 hbox hb; replace HO1_3 := aM (Kd.R_below (qR HO1_3.out) hb); have BK227 := aM (hbox); have GW227 := aM ((by rw [hg]; exact (by first | exact HK.out.1 | exact (show Kept w _ (fun k_ => (P1_3_ k_) ∨ k_ = g) from kP HK.out).1) : w.heap.size ≤ gb227)); replace HK := aM (Kept.below (S := (fun k_ => (P1_3_ k_) ∨ k_ = g)) (kP HK.out) hb); have GE227 := aM ((by rw [hg]; exact (below_size (wS72 HB.out)) : w0.heap.size ≤ gb227)); replace HB := aM (below_step (wS72 HB.out) hb); have NB0_227 := aM ((by rw [hg]; exact Nat.ne_of_lt (IsS72.lt (show IsS72 w0 _ g s0_0 s0_1 from iS72 HI0.out)) : g ≠ gb227)); have NB227_0 := aM ((by rw [hg]; exact Nat.ne_of_gt (IsS72.lt (show IsS72 w0 _ g s0_0 s0_1 from iS72 HI0.out)) : gb227 ≠ g)); replace HI0 := aM (IsS72.below (iS72 HI0.out) hb); clear hb hbox hg) | ((with_reducible refine gate_dst (N := 4) rfl ?_); refine bxE (N := 4) (cs := #[.int .i64 0, .int .i64 0, .int .i64 0, .slice none 0 0]) (t := 26) ?_; intro gb228 hg w69 hbox hb; replace HO1_3 := aM (Kd.R_below (qR HO1_3.out) hb); have BK228 := aM (hbox); have GW228 := aM ((by rw [hg]; exact (by first | exact HK.out.1 | exact (show Kept w _ (fun k_ => (P1_3_ k_) ∨ k_ = g) from kP HK.out).1) : w.heap.size ≤ gb228)); replace HK := aM (Kept.below (S := (fun k_ => (P1_3_ k_) ∨ k_ = g)) (kP HK.out) hb); have GE228 := aM ((by rw [hg]; exact (below_size (wS72 HB.out)) : w0.heap.size ≤ gb228)); replace HB := aM (below_step (wS72 HB.out) hb); have NB227_228 := nL hg BK227; have NB228_227 := nG hg BK227; replace BK227 := bB BK227 hb; have NB0_228 := aM ((by rw [hg]; exact Nat.ne_of_lt (IsS72.lt (show IsS72 w0 _ g s0_0 s0_1 from iS72 HI0.out)) : g ≠ gb228)); have NB228_0 := aM ((by rw [hg]; exact Nat.ne_of_gt (IsS72.lt (show IsS72 w0 _ g s0_0 s0_1 from iS72 HI0.out)) : gb228 ≠ g)); replace HI0 := aM (IsS72.below (iS72 HI0.out) hb); clear hb hbox hg) | ((with_reducible refine gate_callee (f := 57) rfl ?_); refine gL (some 6) Try.func57 #[.pointer (some ⟨g, 0, none⟩), .int .i64 40] ?_; (with_reducible refine (spec_reader_pick.calls k g s0_0 s0_1 40 t229 t230 w0 _ ?side1 ?side2 A3.out).mono ?_); (case side1 => exact iS72 HI0.out); (case side2 => exact wS72 HB.out); rintro e w70 ⟨rfl, hi, hb, hk⟩; refine ⟨_, rfl, ?_⟩; replace HO1_3 := aM (Kd.R_mono (Kd.R_keep (IsS72.apart (show IsS72 w0 _ g s0_0 s0_1 from iS72 HI0.out) (qR HO1_3.out) (by decide)) hk (fun _ h => h.2)) (fun _ h => h.1)); replace BK227 := bK hk BK227 NB227_0; replace BK228 := bK hk BK228 NB228_0; replace HK := aM (Kept.of_keep (S := (fun k_ => (P1_3_ k_) ∨ k_ = g)) (kP HK.out) hk (.inl (.inr rfl))); replace HB := aM (hb); replace HI0 := aM (hi); clear hb hk hi; have hnb71 := NB227_228.out; have hnc71 := NB228_227.out; have hnb72 := NB227_0.out; have hnc72 := NB0_227.out; obtain ⟨⟨hcz73_0, hcz73_1, hcz73_2, hcz73_3⟩, hfz73_0, hfz73_1, hfz73_2, hfz73_3⟩ := cf4 BK227; have hnb74 := NB228_0.out; have hnc74 := NB0_228.out; obtain ⟨⟨hcz75_0, hcz75_1, hcz75_2, hcz75_3⟩, hfz75_0, hfz75_1, hfz75_2, hfz75_3⟩ := cf4 BK228))
   refine bodyPost_ret (results_cell_row rfl _ _ gb228 26 #[.int .i64 a1_0, .int .i64 a1_1, .int .i64 a1_2, .slice Ao67 l1_3.length co67] (0, 0) _ rfl (by exact bP BK228.out) Try.underlying26 rfl (by kernel_rfl)) rfl ?_
   exact ⟨_, qX, Kd.Q_of_R (by refine qR ?_; exact Kd.R_mono (rT HO1_3 BK228) (fun _ hk => hk.1)), iS72 HI0.out, wS72 HB.out, kP HK.out⟩
  rw [if_pos c52] at H
  have c52b0 : (t229 == 3) = true := beq_iff_eq.mpr c52
  have c52b1 : (t229 != 3) = false := bne_eq_false_iff_eq.mpr c52
  clear c52
  obtain ⟨y245, hy245⟩ : ∃ y_ : List Int, y_ = (([0, 5] : List Int)) := ⟨_, rfl⟩
  replace H : ((spec_reader_one.f k s0_0 t230 y245).bind fun bt248 => (some (a1_0, a1_1, bt248.1, l1_3, bt248.2))) = some (r1, r2, r3, r4, r5) := rY hy245 H
  have Ny245 := aM hy245
  clear hy245
  replace H := Option.bind_eq_some_iff.mp H
  obtain ⟨⟨t248, t249⟩, A530, H⟩ := H
  replace H : (some (a1_0, a1_1, t248, l1_3, t249)) = some (r1, r2, r3, r4, r5) := H
  have A53 := aM A530
  clear A530
  simp only [Option.some.injEq, Prod.mk.injEq] at H
  obtain ⟨rfl, rfl, rfl, rfl, rfl⟩ := H
  obtain ⟨Ao54, co54, rfl⟩ := sL HO1_3
  go_enter Try.func59, Try.ntmps59
  go_wp2_with (first | ((with_reducible refine gate_dst (N := 3) rfl ?_); refine bxE (N := 3) (cs := #[.int .i64 a1_0, .int .i64 a1_1, .int .i64 a1_2, .slice Ao54 l1_3.length co54]) (t := 26) ?_; intro gb227 hg w55 hbox hb; replace HO1_3 := aM (Kd.R_below (qR HO1_3.out) hb); have BK227 := aM (hbox); have GW227 := aM ((by rw [hg]; exact (by first | exact HK.out.1 | exact (show Kept w _ (fun k_ => (P1_3_ k_) ∨ k_ = g) from kP HK.out).1) : w.heap.size ≤ gb227)); replace HK := aM (Kept.below (S := (fun k_ => (P1_3_ k_) ∨ k_ = g)) (kP HK.out) hb); have GE227 := aM ((by rw [hg]; exact (below_size (wS72 HB.out)) : w0.heap.size ≤ gb227)); replace HB := aM (below_step (wS72 HB.out) hb); have NB0_227 := aM ((by rw [hg]; exact Nat.ne_of_lt (IsS72.lt (show IsS72 w0 _ g s0_0 s0_1 from iS72 HI0.out)) : g ≠ gb227)); have NB227_0 := aM ((by rw [hg]; exact Nat.ne_of_gt (IsS72.lt (show IsS72 w0 _ g s0_0 s0_1 from iS72 HI0.out)) : gb227 ≠ g)); replace HI0 := aM (IsS72.below (iS72 HI0.out) hb); clear hb hbox hg) | ((with_reducible refine gate_dst (N := 4) rfl ?_); refine bxE (N := 4) (cs := #[.int .i64 0, .int .i64 0, .int .i64 0, .slice none 0 0]) (t := 26) ?_; intro gb228 hg w56 hbox hb; replace HO1_3 := aM (Kd.R_below (qR HO1_3.out) hb); have BK228 := aM (hbox); have GW228 := aM ((by rw [hg]; exact (by first | exact HK.out.1 | exact (show Kept w _ (fun k_ => (P1_3_ k_) ∨ k_ = g) from kP HK.out).1) : w.heap.size ≤ gb228)); replace HK := aM (Kept.below (S := (fun k_ => (P1_3_ k_) ∨ k_ = g)) (kP HK.out) hb); have GE228 := aM ((by rw [hg]; exact (below_size (wS72 HB.out)) : w0.heap.size ≤ gb228)); replace HB := aM (below_step (wS72 HB.out) hb); have NB227_228 := nL hg BK227; have NB228_227 := nG hg BK227; replace BK227 := bB BK227 hb; have NB0_228 := aM ((by rw [hg]; exact Nat.ne_of_lt (IsS72.lt (show IsS72 w0 _ g s0_0 s0_1 from iS72 HI0.out)) : g ≠ gb228)); have NB228_0 := aM ((by rw [hg]; exact Nat.ne_of_gt (IsS72.lt (show IsS72 w0 _ g s0_0 s0_1 from iS72 HI0.out)) : gb228 ≠ g)); replace HI0 := aM (IsS72.below (iS72 HI0.out) hb); clear hb hbox hg) | ((with_reducible refine gate_callee (f := 57) rfl ?_); refine gL (some 6) Try.func57 #[.pointer (some ⟨g, 0, none⟩), .int .i64 40] ?_; (with_reducible refine (spec_reader_pick.calls k g s0_0 s0_1 40 t229 t230 w0 _ ?side1 ?side2 A3.out).mono ?_); (case side1 => exact iS72 HI0.out); (case side2 => exact wS72 HB.out); rintro e w57 ⟨rfl, hi, hb, hk⟩; refine ⟨_, rfl, ?_⟩; replace HO1_3 := aM (Kd.R_mono (Kd.R_keep (IsS72.apart (show IsS72 w0 _ g s0_0 s0_1 from iS72 HI0.out) (qR HO1_3.out) (by decide)) hk (fun _ h => h.2)) (fun _ h => h.1)); replace BK227 := bK hk BK227 NB227_0; replace BK228 := bK hk BK228 NB228_0; replace HK := aM (Kept.of_keep (S := (fun k_ => (P1_3_ k_) ∨ k_ = g)) (kP HK.out) hk (.inl (.inr rfl))); replace HB := aM (hb); replace HI0 := aM (hi); clear hb hk hi) | ((with_reducible refine gate_dst (N := 33) rfl ?_); refine iL ([0, 5] : List Int) [.int .i64 0, .int .i64 5] ?_; intro v246 w58 ho59 hb hg_ hnew_; clear hg_ hnew_; (first | rw [← Ny245.out] at ho59 | (simp only [Int.reduceToNat] at ho59; rw [← Ny245.out] at ho59)); have HO247 := aM (Kd.R_lower (Kd.R_new' (Kd.R_newM (M := fun k_ => (P1_3_ k_ ∨ w.heap.size ≤ k_)) ho59 (by first | exact HK.out.1 | exact (show Kept w _ (fun k_ => (P1_3_ k_) ∨ k_ = g) from kP HK.out).1) (fun k_ h_ => .inr h_)) (Kd.R_lt (qR HO1_3.out))) (below_size (wS72 HB.out))); replace HO1_3 := aM (Kd.R_elder' (qR HO1_3.out) (Kd.R_base ho59) hb); replace BK227 := bB BK227 hb; replace BK228 := bB BK228 hb; replace HK := aM (Kept.below (S := (fun k_ => (P1_3_ k_) ∨ k_ = g)) (kP HK.out) hb); replace HB := aM (below_step (wS72 HB.out) hb); replace HI0 := aM (IsS72.below (iS72 HI0.out) hb); clear hb ho59; obtain ⟨Ao60, co60, rfl⟩ := sL HO247) | ((with_reducible refine gate_callee (f := 81) rfl ?_); refine gL (some 34) Try.func81 #[.pointer (some ⟨g, 0, none⟩), .slice Ao60 y245.length co60] ?_; (with_reducible refine (spec_reader_one.calls k g s0_0 t230 _ _ y245 t248 t249 w0 _ ?side1 ?side2 ?side3 ?side4 ?side5 A53.out).mono ?_); (case side1 => exact iS72 HI0.out); (case side2 => exact wS72 HB.out); (case side3 => exact qC (Kd.R_reads' HO247.out).2.2); (case side4 => exact (Kd.R_reads' HO247.out).2.1); (case side5 => exact far_slice (IsS72.own_ne HI0.out HO247.out (by decide))); rintro e w61 ⟨rfl, hi, hb, hk⟩; refine ⟨_, rfl, ?_⟩; replace HO1_3 := aM (Kd.R_mono (Kd.R_keep (IsS72.apart (show IsS72 w0 _ g s0_0 t230 from iS72 HI0.out) (qR HO1_3.out) (by decide)) hk (fun _ h => h.2)) (fun _ h => h.1)); replace BK227 := bK hk BK227 NB227_0; replace BK228 := bK hk BK228 NB228_0; replace HO247 := aM (Kd.R_mono (Kd.R_keep (IsS72.apart (show IsS72 w0 _ g s0_0 t230 from iS72 HI0.out) (qR HO247.out) (by decide)) hk (fun _ h => h.2)) (fun _ h => h.1)); replace HK := aM (Kept.of_keep (S := (fun k_ => (P1_3_ k_) ∨ k_ = g)) (kP HK.out) hk (.inl (.inr rfl))); replace HB := aM (hb); replace HI0 := aM (hi); clear hb hk hi; have hnb62 := NB227_228.out; have hnc62 := NB228_227.out; have hnb63 := NB227_0.out; have hnc63 := NB0_227.out; obtain ⟨⟨hcz64_0, hcz64_1, hcz64_2, hcz64_3⟩, hfz64_0, hfz64_1, hfz64_2, hfz64_3⟩ := cf4 BK227; have hnb65 := NB228_0.out; have hnc65 := NB0_228.out; obtain ⟨⟨hcz66_0, hcz66_1, hcz66_2, hcz66_3⟩, hfz66_0, hfz66_1, hfz66_2, hfz66_3⟩ := cf4 BK228))
  refine bodyPost_ret (results_cell_row rfl _ _ gb228 26 #[.int .i64 a1_0, .int .i64 a1_1, .int .i64 t248, .slice Ao54 l1_3.length co54] (0, 0) _ rfl (by refine qB ?_; refine blk_put (cs := #[.int .i64 a1_0, .int .i64 a1_1, .int .i64 t248, .slice none 0 0]) ?_ 3 _ rfl; refine qB ?_; refine blk_put (cs := #[.int .i64 a1_0, .int .i64 a1_1, .int .i64 0, .slice none 0 0]) ?_ 2 _ rfl; refine qB ?_; refine blk_put (cs := #[.int .i64 a1_0, .int .i64 0, .int .i64 0, .slice none 0 0]) ?_ 1 _ rfl; refine qB ?_; refine blk_put (cs := #[.int .i64 0, .int .i64 0, .int .i64 0, .slice none 0 0]) ?_ 0 _ rfl; refine qB ?_; refine blk_far ?_ NB228_227.out _; refine qB ?_; exact BK228.out) Try.underlying26 rfl (by kernel_rfl)) rfl ?_
  exact ⟨_, qX, Kd.Q_of_R (by refine qR ?_; exact Kd.R_mono (Kd.R_far (p := ⟨gb228, 3, none⟩) (Kd.R_far (p := ⟨gb228, 2, none⟩) (Kd.R_far (p := ⟨gb228, 1, none⟩) (Kd.R_far (p := ⟨gb228, 0, none⟩) (Kd.R_far (p := ⟨gb227, 2, none⟩) (Kd.R_types (Kd.R_types HO1_3.out BK227.out (by decide)) BK228.out (by decide)) (fun _ hk => hk.1.2) (.int .i64 t248)) (fun _ hk => hk.2) (.int .i64 a1_0)) (fun _ hk => hk.2) (.int .i64 a1_1)) (fun _ hk => hk.2) (.int .i64 t248)) (fun _ hk => hk.2) (.slice Ao54 l1_3.length co54)) (fun _ hk => hk.1.1.1)), iS72 HI0.out, wS72 HB.out, kP HK.out⟩
 rw [if_pos c32] at H
 have c32b0 : (t229 == 2) = true := beq_iff_eq.mpr c32
 have c32b1 : (t229 != 2) = false := bne_eq_false_iff_eq.mpr c32
 clear c32
 obtain ⟨y239, hy239⟩ : ∃ y_ : List Int, y_ = (([(-1), 256] : List Int)) := ⟨_, rfl⟩
 replace H : ((spec_reader_one.f k s0_0 t230 y239).bind fun bt242 => (if 0 < (l1_3.length : Int) then (some (a1_0, a1_1, a1_2, (l1_3.set (0 : Int).toNat bt242.1), bt242.2)) else (none))) = some (r1, r2, r3, r4, r5) := rY hy239 H
 have Ny239 := aM hy239
 clear hy239
 replace H := Option.bind_eq_some_iff.mp H
 obtain ⟨⟨t242, t243⟩, A330, H⟩ := H
 replace H : (if 0 < (l1_3.length : Int) then (some (a1_0, a1_1, a1_2, (l1_3.set (0 : Int).toNat t242), t243)) else (none)) = some (r1, r2, r3, r4, r5) := H
 have A33 := aM A330
 clear A330
 replace H := iS H
 obtain ⟨c34, H⟩ := H
 have c34b0 : decide (0 < (l1_3.length : Int)) = true := decide_eq_true c34
 have c34b1 : decide (0 < l1_3.length) = true := decide_eq_true (by omega)
 clear c34
 obtain ⟨y244, hy244⟩ : ∃ y_ : List Int, y_ = (l1_3.set (0 : Int).toNat t242) := ⟨_, rfl⟩
 replace H : (some (a1_0, a1_1, a1_2, y244, t243)) = some (r1, r2, r3, r4, r5) := rY hy244 H
 have Ny244 := aM hy244
 clear hy244
 simp only [Option.some.injEq, Prod.mk.injEq] at H
 obtain ⟨rfl, rfl, rfl, rfl, rfl⟩ := H
 obtain ⟨Ao36, co36, rfl⟩ := sL HO1_3
 go_enter Try.func59, Try.ntmps59
 try go_wp2_with (first | ((with_reducible refine gate_dst (N := 3) rfl ?_); refine bxE (N := 3) (cs := #[.int .i64 a1_0, .int .i64 a1_1, .int .i64 a1_2, .slice Ao36 l1_3.length co36]) (t := 26) ?_; intro gb227 hg w37 hbox hb; replace HO1_3 := aM (Kd.R_below (qR HO1_3.out) hb); have BK227 := aM (hbox); have GW227 := aM ((by rw [hg]; exact (by first | exact HK.out.1 | exact (show Kept w _ (fun k_ => (P1_3_ k_) ∨ k_ = g) from kP HK.out).1) : w.heap.size ≤ gb227)); replace HK := aM (Kept.below (S := (fun k_ => (P1_3_ k_) ∨ k_ = g)) (kP HK.out) hb); have GE227 := aM ((by rw [hg]; exact (below_size (wS72 HB.out)) : w0.heap.size ≤ gb227)); replace HB := aM (below_step (wS72 HB.out) hb); have NB0_227 := aM ((by rw [hg]; exact Nat.ne_of_lt (IsS72.lt (show IsS72 w0 _ g s0_0 s0_1 from iS72 HI0.out)) : g ≠ gb227)); have NB227_0 := aM ((by rw [hg]; exact Nat.ne_of_gt (IsS72.lt (show IsS72 w0 _ g s0_0 s0_1 from iS72 HI0.out)) : gb227 ≠ g)); replace HI0 := aM (IsS72.below (iS72 HI0.out) hb); clear hb hbox hg) | ((with_reducible refine gate_dst (N := 4) rfl ?_); refine bxE (N := 4) (cs := #[.int .i64 0, .int .i64 0, .int .i64 0, .slice none 0 0]) (t := 26) ?_; intro gb228 hg w38 hbox hb; replace HO1_3 := aM (Kd.R_below (qR HO1_3.out) hb); have BK228 := aM (hbox); have GW228 := aM ((by rw [hg]; exact (by first | exact HK.out.1 | exact (show Kept w _ (fun k_ => (P1_3_ k_) ∨ k_ = g) from kP HK.out).1) : w.heap.size ≤ gb228)); replace HK := aM (Kept.below (S := (fun k_ => (P1_3_ k_) ∨ k_ = g)) (kP HK.out) hb); have GE228 := aM ((by rw [hg]; exact (below_size (wS72 HB.out)) : w0.heap.size ≤ gb228)); replace HB := aM (below_step (wS72 HB.out) hb); have NB227_228 := nL hg BK227; have NB228_227 := nG hg BK227; replace BK227 := bB BK227 hb; have NB0_228 := aM ((by rw [hg]; exact Nat.ne_of_lt (IsS72.lt (show IsS72 w0 _ g s0_0 s0_1 from iS72 HI0.out)) : g ≠ gb228)); have NB228_0 := aM ((by rw [hg]; exact Nat.ne_of_gt (IsS72.lt (show IsS72 w0 _ g s0_0 s0_1 from iS72 HI0.out)) : gb228 ≠ g)); replace HI0 := aM (IsS72.below (iS72 HI0.out) hb); clear hb hbox hg) | ((with_reducible refine gate_callee (f := 57) rfl ?_); refine gL (some 6) Try.func57 #[.pointer (some ⟨g, 0, none⟩), .int .i64 40] ?_; (with_reducible refine (spec_reader_pick.calls k g s0_0 s0_1 40 t229 t230 w0 _ ?side1 ?side2 A3.out).mono ?_); (case side1 => exact iS72 HI0.out); (case side2 => exact wS72 HB.out); rintro e w39 ⟨rfl, hi, hb, hk⟩; refine ⟨_, rfl, ?_⟩; replace HO1_3 := aM (Kd.R_mono (Kd.R_keep (IsS72.apart (show IsS72 w0 _ g s0_0 s0_1 from iS72 HI0.out) (qR HO1_3.out) (by decide)) hk (fun _ h => h.2)) (fun _ h => h.1)); replace BK227 := bK hk BK227 NB227_0; replace BK228 := bK hk BK228 NB228_0; replace HK := aM (Kept.of_keep (S := (fun k_ => (P1_3_ k_) ∨ k_ = g)) (kP HK.out) hk (.inl (.inr rfl))); replace HB := aM (hb); replace HI0 := aM (hi); clear hb hk hi))
 replace HO1_3 := aM (Kd.R_drew HO1_3.out)
 replace BK227 := aM (blk_drew BK227.out)
 replace BK228 := aM (blk_drew BK228.out)
 replace HI0 := aM (IsS72.drew HI0.out)
 replace HK := aM (Kept.drew HK.out)
 replace HB := aM (below_drew1 HB.out)
 refine start_ (n := 7) (S := fun w' => w'.cell? ⟨gb227, 0, none⟩ = some (.int .i64 a1_0) ∧ w'.cell? ⟨gb227, 1, none⟩ = some (.int .i64 a1_1) ∧ w'.cell? ⟨gb227, 2, none⟩ = some (.int .i64 a1_2) ∧ w'.cell? ⟨gb227, 3, none⟩ = some (.slice Ao36 l1_3.length co36)) (ds := [6]) (bA 7 0) (by kernel_rfl) rfl rfl ⟨(blk_cell BK227.out 0).trans rfl, (blk_cell BK227.out 1).trans rfl, (blk_cell BK227.out 2).trans rfl, (blk_cell BK227.out 3).trans rfl⟩ (fun hHeld => ?_)
 generalize w39.drew = w40 at HO1_3 BK227 BK228 HI0 HK HB hHeld ⊢
 refine pure_ (i := 0) (N := some 24) (v := ?_) (a' := ?_) (bA 7 1) rfl rfl (by kernel_rfl) (fun _ _ _ h => h) (Or.inl ⟨by rfl, ?_⟩) ?_ ?_
 rotate_left
 ·intro w'
  go_simp
  with_reducible rfl
 rotate_left
 ·refine pZ ?_
  rfl
 refine pure_ (i := 2) (N := some 26) (v := ?_) (a' := ?_) (bA 7 5) rfl rfl (by kernel_rfl) (fun _ _ _ h => h) (Or.inl ⟨by rfl, ?_⟩) ?_ ?_
 rotate_left
 ·intro w'
  go_simp
  with_reducible rfl
 rotate_left
 ·refine pZ ?_
  rfl
 refine take_ (i := 1) (N := some 25) (v := ?_) (a' := ?_) (bA 7 7) rfl rfl (by kernel_rfl) (fun _ _ _ h => h) (Or.inl ⟨by rfl, ?_⟩) hHeld ?_ ?_
 rotate_left
 ·rintro w' ⟨s0, s1, s2, s3⟩
  go_simp
  with_reducible rfl
 rotate_left
 ·refine pZ ?_
  rfl
 refine one_ (i := 3) (N := some 27) (bA 7 15) rfl rfl (by kernel_rfl) (by decide) (fun K hK => ?_)
 refine Kd.R_lit_step (Kd.int .i64) _ 3 ?hg (N := 27) ?hd (xs := ([(-1), 256] : List Int)) (inner := [.int .i64 (-1), .int .i64 256]) (ok := fun _ => True) (okp := fun _ => True) ?hr ?hp (fun _ hk => hk) trivial (Below.refl _ _) (Nat.le_refl _) (by simp) ?_; (case hd => rfl); (case hg => rfl); (case hr => first | (go_simp; done) | (go_simp; rfl)); (case hp => exact (Reps.one (show Kd.M (Kd.int .i64) _ _ _ (-1) [.int .i64 (-1)] from rfl) (Reps.one (show Kd.M (Kd.int .i64) _ _ _ 256 [.int .i64 256] from rfl) (Reps.none _ _))))
 intro v240 w41 ho42 hb hg_ hnew_
 clear hg_ hnew_
 (first | rw [← Ny239.out] at ho42 | (simp only [Int.reduceToNat] at ho42; rw [← Ny239.out] at ho42))
 have HO241 := aM (Kd.R_lower (Kd.R_new' (Kd.R_newM (M := fun k_ => (P1_3_ k_ ∨ w.heap.size ≤ k_)) ho42 (by first | exact HK.out.1 | exact (show Kept w _ (fun k_ => (P1_3_ k_) ∨ k_ = g) from kP HK.out).1) (fun k_ h_ => .inr h_)) (Kd.R_lt (qR HO1_3.out))) (below_size (wS72 HB.out)))
 replace HO1_3 := aM (Kd.R_elder' (qR HO1_3.out) (Kd.R_base ho42) hb)
 replace BK227 := bB BK227 hb
 replace BK228 := bB BK228 hb
 replace HK := aM (Kept.below (S := (fun k_ => (P1_3_ k_) ∨ k_ = g)) (kP HK.out) hb)
 replace HB := aM (below_step (wS72 HB.out) hb)
 replace HI0 := aM (IsS72.below (iS72 HI0.out) hb)
 clear hb ho42
 obtain ⟨Ao43, co43, eo43⟩ := Kd.R_slice HO241.out
 (first | subst eo43 | (injection eo43 with f1_ f2_ f3_; have f4_ := f1_.symm; have f5_ := f3_.symm; clear f1_ f2_ f3_; subst f4_; subst f5_))
 refine hK.out _ _ ⟨(blk_cell BK227.out 0).trans rfl, (blk_cell BK227.out 1).trans rfl, (blk_cell BK227.out 2).trans rfl, (blk_cell BK227.out 3).trans rfl⟩ (fun hHeld => ?_)
 clear hK K
 refine norm_ (a' := ?_) ?_ ?_
 rotate_left
 ·show Act.put _ (some 27) _ = _
  refine pZ ?_
  rfl
 refine one_ (i := 4) (N := some 28) (bA 7 31) rfl rfl (by kernel_rfl) (by decide) (fun K hK => ?_)
 refine goes_ Try.func81 (by kernel_rfl) rfl #[.pointer (some ⟨g, 0, none⟩), .slice Ao43 y239.length co43] (by rfl) rfl rfl qM ?_
 with_reducible refine (spec_reader_one.calls k g s0_0 t230 _ _ y239 t242 t243 w0 _ ?side1 ?side2 ?side3 ?side4 ?side5 A33.out).mono ?_
 (case side1 => exact iS72 HI0.out)
 (case side2 => exact wS72 HB.out)
 (case side3 => exact qC (Kd.R_reads' HO241.out).2.2)
 (case side4 => exact (Kd.R_reads' HO241.out).2.1)
 (case side5 => exact far_slice (IsS72.own_ne HI0.out HO241.out (by decide)))
 rintro e w44 ⟨rfl, hi, hb, hk⟩
 refine ⟨_, rfl, ?_⟩
 replace HO1_3 := aM (Kd.R_mono (Kd.R_keep (IsS72.apart (show IsS72 w0 _ g s0_0 t230 from iS72 HI0.out) (qR HO1_3.out) (by decide)) hk (fun _ h => h.2)) (fun _ h => h.1))
 replace BK227 := bK hk BK227 NB227_0
 replace BK228 := bK hk BK228 NB228_0
 replace HO241 := aM (Kd.R_mono (Kd.R_keep (IsS72.apart (show IsS72 w0 _ g s0_0 t230 from iS72 HI0.out) (qR HO241.out) (by decide)) hk (fun _ h => h.2)) (fun _ h => h.1))
 replace HK := aM (Kept.of_keep (S := (fun k_ => (P1_3_ k_) ∨ k_ = g)) (kP HK.out) hk (.inl (.inr rfl)))
 replace HB := aM (hb)
 replace HI0 := aM (hi)
 (try clear hb)
 (try clear hb2)
 (try clear hk)
 (try clear hi)
 have p35 : 0 ≤ (0 : Int) := (by omega)
 have q35 : (0 : Int) < ((l1_3.length : Int) : Int) := oD
 have qi35 : (0 < l1_3.length) = True := eq_true (by omega)
 obtain ⟨go35, co35, eo35, gb35, gl35, cl35, HG35⟩ := Kd.R_form HO1_3.out (by omega)
 (first | cases eo35 | (injection eo35 with ea_ en_ ec_; (first | subst ea_ | (injection ea_ with ea_; subst ea_)); subst ec_; clear en_))
 have GB35 := aM gb35
 have GG35 := aM HG35
 clear gb35 gl35 HG35
 have HMgo35 := aM (show (P1_3_ go35 ∨ w.heap.size ≤ go35) from (HO1_3.out.1 _ rfl).1)
 obtain ⟨hx35_0, hf35_0⟩ := Kd.R_celln 0 HO1_3.out (0 : Int) p35 q35
 (try rw [show ((0 : Int)).toNat = 0 from rfl] at hx35_0)
 (try simp only [Nat.reduceMul, Nat.zero_mul, Nat.zero_add, Nat.reduceAdd] at hx35_0)
 (try rw [show ((0 : Int)).toNat = 0 from rfl] at hf35_0)
 (try simp only [Nat.reduceMul, Nat.zero_mul, Nat.zero_add, Nat.reduceAdd] at hf35_0)
 replace p35 := eq_true p35
 replace q35 := eq_true q35
 have HN0_go35 := aM (show g ≠ go35 from by have h_ := IsS72.own_ne HI0.out HO1_3.out (by decide); intro e_; exact h_ (by rw [e_]; rfl))
 have HP45 := Kd.R_putn HO1_3.out (0 : Int) t242
 rw [← Ny244.out] at HP45
 have HQ45 := aM HP45
 clear HP45
 refine hK.out _ _ ⟨(blk_cell BK227.out 0).trans rfl, (blk_cell BK227.out 1).trans rfl, (blk_cell BK227.out 2).trans rfl, (blk_cell BK227.out 3).trans rfl⟩ (fun hHeld => ?_)
 clear hK K
 refine norm_ (a' := ?_) ?_ ?_
 rotate_left
 ·show Act.put _ (some 28) _ = _
  refine pZ ?_
  rfl
 refine pure_ (i := 5) (N := some 29) (v := ?_) (a' := ?_) (bA 7 63) rfl rfl (by kernel_rfl) (fun _ _ _ h => h) (Or.inl ⟨by rfl, ?_⟩) ?_ ?_
 rotate_left
 ·intro w'
  go_simp
  with_reducible rfl
 rotate_left
 ·refine pZ ?_
  rfl
 refine last_ (i := 6) (N := none) (bA 7 127) rfl rfl (by kernel_rfl) (by decide) (fun K hK => ?_)
 refine skip_ (w1 := ?_) (by rfl) rfl ?_ ?_
 rotate_left
 ·go_simp
  rfl
 refine hK.out _ _ ?_
 clear hK K
 refine done_ (by kernel_rfl) ?_
 have n0_ : Aside0 (Kd.R (Kd.int .i64) 3 (w44.setCell ⟨go35, 0, none⟩ (.int .i64 t242)) w0.heap.size (fun k_ => (P1_3_ k_ ∨ w.heap.size ≤ k_) ∧ some k_ ≠ (.slice Ao43 y239.length co43 : Value).ownBlock) (.slice (some ⟨go35, 0, none⟩) l1_3.length co36) y244) := ⟨by refine qR ?_; exact HQ45.out⟩
 have n1_ : Aside0 (Kd.R (Kd.int .i64) 3 (w44.setCell ⟨go35, 0, none⟩ (.int .i64 t242)) w0.heap.size (fun k_ => (P1_3_ k_ ∨ w.heap.size ≤ k_) ∧ some k_ ≠ (.slice (some ⟨go35, 0, none⟩) l1_3.length co36 : Value).ownBlock) (.slice Ao43 y239.length co43) y239) := ⟨by refine qR ?_; exact Kd.R_mono (Kd.R_far (p := ⟨go35, 0, none⟩) (Kd.R_mono HO241.out (fun k_ hk => (⟨hk, fun e_ => hk.2 (by rw [e_]; rfl)⟩ : _ ∧ k_ ≠ go35))) (fun _ hk => hk.2) (.int .i64 t242)) (fun _ hk => by first | exact ⟨hk.1.1.1, hk.1.2⟩ | (revert hk; simp only [and_imp]; intros; and_intros <;> assumption))⟩
 have n2_ : Aside0 ((w44.setCell ⟨go35, 0, none⟩ (.int .i64 t242)).heap[gb227]? = some (.cells #[.int .i64 a1_0, .int .i64 a1_1, .int .i64 a1_2, .slice (some ⟨go35, 0, none⟩) l1_3.length co36] 26 (0, 0))) := ⟨by refine qB ?_; refine blk_far ?_ (by have h_ := Kd.R_ne HO1_3.out BK227.out (by decide); intro e_; exact h_ (by rw [e_]; rfl)) _; refine qB ?_; exact BK227.out⟩
 have n3_ : Aside0 ((w44.setCell ⟨go35, 0, none⟩ (.int .i64 t242)).heap[gb228]? = some (.cells #[.int .i64 0, .int .i64 0, .int .i64 0, .slice none 0 0] 26 (0, 0))) := ⟨by refine qB ?_; refine blk_far ?_ (by have h_ := Kd.R_ne HO1_3.out BK228.out (by decide); intro e_; exact h_ (by rw [e_]; rfl)) _; refine qB ?_; exact BK228.out⟩
 have n4_ : Aside0 (IsS72 w0 (w44.setCell ⟨go35, 0, none⟩ (.int .i64 t242)) g s0_0 t243) := ⟨by repeat (first | (with_reducible first | exact HI0.out | apply IsS72.alloc | apply IsS72.drewN | apply IsS72.drew | apply IsS72.set_1 | refine IsS72.far ?_ HN0_go35.out _ | refine IsS72.far ?_ NB0_227.out _ | refine IsS72.far ?_ NB0_228.out _) | exact HI0.out)⟩
 have n5_ : Aside0 (Kept w (w44.setCell ⟨go35, 0, none⟩ (.int .i64 t242)) (fun k_ => (P1_3_ k_) ∨ k_ = g)) := ⟨by repeat (first | (with_reducible first | exact HK.out | apply Kept.alloc | apply Kept.drewN | apply Kept.drew | refine Kept.setCell ?_ (Or.imp_left Or.inl HMgo35.out) _ | refine Kept.setCell ?_ (.inl (.inr rfl)) _ | refine Kept.setCell ?_ (.inr GW227.out) _ | refine Kept.setCell ?_ (.inr GW228.out) _) | exact HK.out)⟩
 have n6_ : Aside0 (Below w0.heap.size w0 (w44.setCell ⟨go35, 0, none⟩ (.int .i64 t242))) := ⟨wS72 HB.out⟩
 (try clear HO1_3)
 (try clear HO241)
 (try clear BK227)
 (try clear BK228)
 (try clear HI0)
 (try clear HK)
 (try clear HB)
 generalize (w44.setCell ⟨go35, 0, none⟩ (.int .i64 t242)) = w46 at n0_ n1_ n2_ n3_ n4_ n5_ n6_ ⊢
 have HO1_3 := n0_
 have HO241 := n1_
 have BK227 := n2_
 have BK228 := n3_
 have HI0 := n4_
 have HK := n5_
 have HB := n6_
 clear n0_ n1_ n2_ n3_ n4_ n5_ n6_
 have hnb47 := NB227_228.out
 have hnc47 := NB228_227.out
 have hnb48 := NB227_0.out
 have hnc48 := NB0_227.out
 obtain ⟨⟨hcz49_0, hcz49_1, hcz49_2, hcz49_3⟩, hfz49_0, hfz49_1, hfz49_2, hfz49_3⟩ := cf4 BK227
 have hnb50 := NB228_0.out
 have hnc50 := NB0_228.out
 obtain ⟨⟨hcz51_0, hcz51_1, hcz51_2, hcz51_3⟩, hfz51_0, hfz51_1, hfz51_2, hfz51_3⟩ := cf4 BK228
 try go_wp2
 refine bodyPost_ret (results_cell_row rfl _ _ gb228 26 #[.int .i64 a1_0, .int .i64 a1_1, .int .i64 a1_2, .slice (some ⟨go35, 0, none⟩) l1_3.length co36] (0, 0) _ rfl (by exact bP BK228.out) Try.underlying26 rfl (by kernel_rfl)) rfl ?_
 exact ⟨_, qX, Kd.Q_of_R (by refine qR ?_; exact Kd.R_mono (rT HO1_3 BK228) (fun _ hk => hk.1.1)), iS72 HI0.out, wS72 HB.out, kP HK.out⟩
end Go.Proofs.Ytnamhlcdlbjcfaa.P
