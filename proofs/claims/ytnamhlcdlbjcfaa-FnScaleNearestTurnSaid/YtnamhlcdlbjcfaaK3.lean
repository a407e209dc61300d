/- Contracts and row, written by a program of this place out of the translation: the call answers true and its argument reads as before, for every input; no condition. -/
import Derived.Test.YtnamhlcdlbjcfaaK0
import Derived.Test.YtnamhlcdlbjcfaaK1
import Derived.Test.YtnamhlcdlbjcfaaK2
namespace Go.Proofs.Ytnamhlcdlbjcfaa.P
open Go.RowKit Go.Proofs.YtnamhlcdlbjcfaaW.PrintWords Go.Proofs.YtnamhlcdlbjcfaaW.PrintLast Go.Proofs.YtnamhlcdlbjcfaaW.PrintMore
attribute [local go_sem] max2_int min2_int max_two min_two max_three min_three max_four min_four   -- for this text's walks alone
set_option linter.unusedVariables false
set_option linter.unusedSimpArgs false
mutual
def spec_ScaleArea.j0 : Nat → Int → Int → Bool → Int → Int → Int → List Int → Option (Int × Int × Int × List Int)
 | 0, _, _, _, _, _, _, _ => none
 | k + 1, x1, x2, x22, x687000, x687001, x687002, x687003 => if x22 = true then (some (0, 0, 0, ([] : List Int))) else ((spec_newImage.f x1 x2 x687002).bind fun bt690 => (spec_ScaleArea.l0 k x1 x2 (wrap64 (x687000 * x687001)) 0 x687000 x687001 x687002 x687003 bt690.1 bt690.2.1 bt690.2.2.1 bt690.2.2.2))
def spec_ScaleArea.l0 : Nat → Int → Int → Int → Int → Int → Int → Int → List Int → Int → Int → Int → List Int → Option (Int × Int × Int × List Int)
 | 0, _, _, _, _, _, _, _, _, _, _, _, _ => none
 | k + 1, x1, x2, x8, x9, x687000, x687001, x687002, x687003, x697000, x697001, x697002, x697003 => if x9 < x2 then (spec_ScaleArea.l1 k x1 x2 x8 x9 0 x687000 x687001 x687002 x687003 x697000 x697001 x697002 x697003) else (some (x697000, x697001, x697002, x697003))
def spec_ScaleArea.l1 : Nat → Int → Int → Int → Int → Int → Int → Int → Int → List Int → Int → Int → Int → List Int → Option (Int × Int × Int × List Int)
 | 0, _, _, _, _, _, _, _, _, _, _, _, _, _ => none
 | k + 1, x1, x2, x8, x9, x10, x687000, x687001, x687002, x687003, x697000, x697001, x697002, x697003 => if x10 < x1 then (spec_ScaleArea.l2 k x1 x2 x8 x9 x10 0 x687000 x687001 x687002 x687003 x697000 x697001 x697002 x697003) else (spec_ScaleArea.l0 k x1 x2 x8 (wrap64 (x9 + 1)) x687000 x687001 x687002 x687003 x697000 x697001 x697002 x697003)
def spec_ScaleArea.l2 : Nat → Int → Int → Int → Int → Int → Int → Int → Int → Int → List Int → Int → Int → Int → List Int → Option (Int × Int × Int × List Int)
 | 0, _, _, _, _, _, _, _, _, _, _, _, _, _, _ => none
 | k + 1, x1, x2, x8, x9, x10, x11, x687000, x687001, x687002, x687003, x697000, x697001, x697002, x697003 => if x11 < x687002 then ((spec_areaSum.f k x687000 x687001 x687002 x687003 x1 x2 x10 x9 x11).bind fun t697 => (if (wrap64 (2 * x8)) = 0 then (none) else (if 0 ≤ (wrap64 ((wrap64 ((wrap64 ((wrap64 (x9 * x1)) + x10)) * x687002)) + x11)) then (if (wrap64 ((wrap64 ((wrap64 ((wrap64 (x9 * x1)) + x10)) * x687002)) + x11)) < (x697003.length : Int) then (spec_ScaleArea.l2 k x1 x2 x8 x9 x10 (wrap64 (x11 + 1)) x687000 x687001 x687002 x687003 x697000 x697001 x697002 (x697003.set ((wrap64 ((wrap64 ((wrap64 ((wrap64 (x9 * x1)) + x10)) * x687002)) + x11)) : Int).toNat (wrap64 (Int.tdiv (wrap64 ((wrap64 (2 * t697)) + x8)) (wrap64 (2 * x8)))))) else (none)) else (none)))) else (spec_ScaleArea.l1 k x1 x2 x8 x9 (wrap64 (x10 + 1)) x687000 x687001 x687002 x687003 x697000 x697001 x697002 x697003)
end
def spec_ScaleArea.f (k : Nat) (a0_0 : Int) (a0_1 : Int) (a0_2 : Int) (l0_3 : List Int) (a1 : Int) (a2 : Int) : Option (Int × Int × Int × List Int) := (spec_validImage.f k a0_0 a0_1 a0_2 l0_3).bind fun t688 => (if t688 = true then ((spec_validShape.f a1 a2 a0_2).bind fun t689 => (spec_ScaleArea.j0 k a1 a2 (!t689) a0_0 a0_1 a0_2 l0_3)) else (spec_ScaleArea.j0 k a1 a2 true a0_0 a0_1 a0_2 l0_3))
theorem spec_ScaleArea.mono_l : ∀ k, (∀ y0 y1 y2 y3 y4 y5 y6, LeO (spec_ScaleArea.j0 k y0 y1 y2 y3 y4 y5 y6) (spec_ScaleArea.j0 (k + 1) y0 y1 y2 y3 y4 y5 y6)) ∧ (∀ y0 y1 y2 y3 y4 y5 y6 y7 y8 y9 y10 y11, LeO (spec_ScaleArea.l0 k y0 y1 y2 y3 y4 y5 y6 y7 y8 y9 y10 y11) (spec_ScaleArea.l0 (k + 1) y0 y1 y2 y3 y4 y5 y6 y7 y8 y9 y10 y11)) ∧ (∀ y0 y1 y2 y3 y4 y5 y6 y7 y8 y9 y10 y11 y12, LeO (spec_ScaleArea.l1 k y0 y1 y2 y3 y4 y5 y6 y7 y8 y9 y10 y11 y12) (spec_ScaleArea.l1 (k + 1) y0 y1 y2 y3 y4 y5 y6 y7 y8 y9 y10 y11 y12)) ∧ (∀ y0 y1 y2 y3 y4 y5 y6 y7 y8 y9 y10 y11 y12 y13, LeO (spec_ScaleArea.l2 k y0 y1 y2 y3 y4 y5 y6 y7 y8 y9 y10 y11 y12 y13) (spec_ScaleArea.l2 (k + 1) y0 y1 y2 y3 y4 y5 y6 y7 y8 y9 y10 y11 y12 y13))
 | 0 => ⟨fun _ _ _ _ _ _ _ r h => by simp [spec_ScaleArea.j0] at h, fun _ _ _ _ _ _ _ _ _ _ _ _ r h => by simp [spec_ScaleArea.l0] at h, fun _ _ _ _ _ _ _ _ _ _ _ _ _ r h => by simp [spec_ScaleArea.l1] at h, fun _ _ _ _ _ _ _ _ _ _ _ _ _ _ r h => by simp [spec_ScaleArea.l2] at h⟩
 | k + 1 => by
  obtain ⟨ih0, ih1, ih2, ih3⟩ := spec_ScaleArea.mono_l k
  refine ⟨?_, ?_, ?_, ?_⟩
  all_goals intros
  all_goals first | unfold spec_ScaleArea.j0 | unfold spec_ScaleArea.l0 | unfold spec_ScaleArea.l1 | unfold spec_ScaleArea.l2
  all_goals repeat' first | (with_reducible first | exact ih0 _ _ _ _ _ _ _ | exact ih1 _ _ _ _ _ _ _ _ _ _ _ _ | exact ih2 _ _ _ _ _ _ _ _ _ _ _ _ _ | exact ih3 _ _ _ _ _ _ _ _ _ _ _ _ _ _ | exact spec_areaSum.mono _ _ _ _ _ _ _ _ _ _ | exact spec_validImage.mono _ _ _ _ _ | exact lR | exact lN | refine lI ?_ ?_ | refine lB ?_ fun _ => ?_) | exact ih0 _ _ _ _ _ _ _ | exact ih1 _ _ _ _ _ _ _ _ _ _ _ _ | exact ih2 _ _ _ _ _ _ _ _ _ _ _ _ _ | exact ih3 _ _ _ _ _ _ _ _ _ _ _ _ _ _ | exact spec_areaSum.mono _ _ _ _ _ _ _ _ _ _ | exact spec_validImage.mono _ _ _ _ _ | exact lN | refine lI ?_ ?_ | refine lB ?_ fun _ => ?_
theorem spec_ScaleArea.mono : ∀ a0 a1 a2 a3 a4 a5 k, LeO (spec_ScaleArea.f k a0 a1 a2 a3 a4 a5) (spec_ScaleArea.f (k + 1) a0 a1 a2 a3 a4 a5) := by
 intro a0 a1 a2 a3 a4 a5 k
 obtain ⟨ih0, ih1, ih2, ih3⟩ := spec_ScaleArea.mono_l k
 unfold spec_ScaleArea.f
 repeat' first | (with_reducible first | exact ih0 _ _ _ _ _ _ _ | exact ih1 _ _ _ _ _ _ _ _ _ _ _ _ | exact ih2 _ _ _ _ _ _ _ _ _ _ _ _ _ | exact ih3 _ _ _ _ _ _ _ _ _ _ _ _ _ _ | exact spec_areaSum.mono _ _ _ _ _ _ _ _ _ _ | exact spec_validImage.mono _ _ _ _ _ | exact lR | exact lN | refine lI ?_ ?_ | refine lB ?_ fun _ => ?_) | exact ih0 _ _ _ _ _ _ _ | exact ih1 _ _ _ _ _ _ _ _ _ _ _ _ | exact ih2 _ _ _ _ _ _ _ _ _ _ _ _ _ | exact ih3 _ _ _ _ _ _ _ _ _ _ _ _ _ _ | exact spec_areaSum.mono _ _ _ _ _ _ _ _ _ _ | exact spec_validImage.mono _ _ _ _ _ | exact lN | refine lI ?_ ?_ | refine lB ?_ fun _ => ?_
def spec_ScaleArea.T14 : Bool × List (List Nat × List Nat) := (true, [([], []), ([0], [0]), ([], []), ([], []), ([2, 3], [2, 3]), ([], []), ([4, 5], [4, 5]), ([], []), ([7], [7]), ([6, 8], [6, 8]), ([], []), ([9, 10], [9, 10]), ([], []), ([], []), ([], []), ([], []), ([], []), ([], []), ([12, 13, 14, 15, 16, 17], [12, 13, 14, 15, 16, 17]), ([18], [18]), ([], []), ([19, 20], [19, 20]), ([], []), ([22], [22]), ([21, 23], [21, 23]), ([1, 11, 0, 1, 2, 3, 4, 5, 6, 7, 8, 9, 10, 11, 12, 13, 14, 15, 16, 17, 18, 19, 20, 21, 22, 23, 24], [1, 11]), ([25, 24, 18, 0, 1, 2, 3, 4, 5, 6, 7, 8, 9, 10, 11, 12, 13, 14, 15, 16, 17, 18, 19, 20, 21, 22, 23, 24], [24, 25])])
def spec_ScaleArea.B14 : List Nat := [0, 1, 0, 0, 12, 0, 60, 0, 128, 508, 0, 2044, 0, 0, 0, 0, 0, 0, 258048, 520192, 0, 2093056, 0, 4194304, 16773120, 33554431, 67108863]
theorem spec_ScaleArea.tab14 : rtab .any (opsOf Try.f32 14) = spec_ScaleArea.T14 := by kernel_rfl
theorem spec_ScaleArea.bits14 : waitsOk spec_ScaleArea.T14.2 spec_ScaleArea.B14 = true := by kernel_rfl
set_option maxHeartbeats 8000000 in
set_option maxRecDepth 100000 in
theorem spec_ScaleArea.calls (k : Nat) (a0_0 : Int) (a0_1 : Int) (a0_2 : Int) (A0_3 : Option Addr) (c0_3 : Nat) (l0_3 : List Int) (a1 : Int) (a2 : Int) (r1 : Int) (r2 : Int) (r3 : Int) (r4 : List Int) (w : World) (hr0_3 : Kd.C (Kd.int .i64) w A0_3 l0_3.length l0_3) (hc0_3 : l0_3.length ≤ c0_3) (h : spec_ScaleArea.f k a0_0 a0_1 a0_2 l0_3 a1 a2 = some (r1, r2, r3, r4)) :
  Calls Try.prog 32 #[.agg #[.int .i64 a0_0, .int .i64 a0_1, .int .i64 a0_2, .slice A0_3 l0_3.length c0_3], .int .i64 a1, .int .i64 a2] w fun e w' => ∃ v3_ : Value, e = .returned (.agg #[.int .i64 r1, .int .i64 r2, .int .i64 r3, v3_]) ∧ Kd.R (Kd.int .i64) 3 w' w.heap.size (fun _ => True) v3_ r4 ∧ Below w.heap.size w w' := by
 have hu26 := Try.underlying26
 have HR0_3 := aM hr0_3
 have HC0_3 := aM hc0_3
 clear hr0_3 hc0_3
 have HB := aM (Below.refl w.heap.size w)
 unfold spec_ScaleArea.f at h
 have H := h
 clear h
 have HC4 := aM H
 clear H
 go_enter Try.func32, Try.ntmps32
 go_upto_region 1 with (first | ((with_reducible refine gate_dst (N := 3) rfl ?_); refine bxE (N := 3) (cs := #[.int .i64 a0_0, .int .i64 a0_1, .int .i64 a0_2, .slice A0_3 l0_3.length c0_3]) (t := 26) ?_; intro gb686 hg w5 hbox hb; have BK686 := aM (hbox); have GW686 := gW hg HB; have GE686 := gW hg HB; replace HB := bS HB hb; clear hb hbox hg) | ((with_reducible refine gate_dst (N := 6) rfl ?_); refine bxE (N := 6) (cs := #[.int .i64 0, .int .i64 0, .int .i64 0, .slice none 0 0]) (t := 26) ?_; intro gb687 hg w6 hbox hb; have BK687 := aM (hbox); have GW687 := gW hg HB; have GE687 := gW hg HB; replace HB := bS HB hb; have NB686_687 := nL hg BK686; have NB687_686 := nG hg BK686; replace BK686 := bB BK686 hb; clear hb hbox hg))
 (try simp only [Act.put, List.setIfInBounds_toArray, List.set_cons_zero, List.set_cons_succ])
 go_cut [22] (fun v22 wc => ∃ (kq : Nat) (x22_3 : Bool), v22 = .bool x22_3 ∧ Aside0 (spec_ScaleArea.j0 kq a1 a2 x22_3 a0_0 a0_1 a0_2 l0_3 = some (r1, r2, r3, r4)) ∧ Aside0 (kq ≤ k) ∧ Aside0 (wc.heap[gb686]? = some (.cells #[.int .i64 a0_0, .int .i64 a0_1, .int .i64 a0_2, (.slice A0_3 l0_3.length c0_3)] 26 (0, 0))) ∧ Aside0 (wc.heap[gb687]? = some (.cells #[.int .i64 0, .int .i64 0, .int .i64 0, (.slice none 0 0)] 26 (0, 0))) ∧ Aside0 (Below w.heap.size w wc))
 case first =>
  have H := HC4.out
  clear HC4
  replace H := Option.bind_eq_some_iff.mp H
  obtain ⟨t688, A70, H⟩ := H
  replace H : (if t688 = true then ((spec_validShape.f a1 a2 a0_2).bind fun t689 => (spec_ScaleArea.j0 k a1 a2 (!t689) a0_0 a0_1 a0_2 l0_3)) else (spec_ScaleArea.j0 k a1 a2 true a0_0 a0_1 a0_2 l0_3)) = some (r1, r2, r3, r4) := H
  have A7 := aM A70
  clear A70
  by_cases c8 : t688 = true
  rotate_left
  ·replace c8 := Bool.eq_false_iff.mpr c8
   subst c8
   have H1 : (spec_ScaleArea.j0 k a1 a2 true a0_0 a0_1 a0_2 l0_3) = some (r1, r2, r3, r4) := by rw [if_neg (show ¬ (false = true) by decide)] at H; exact H
   clear H
   have H := H1
   clear H1
   have H' := aM H
   clear H
   have hnb14 := NB686_687.out
   have hnc14 := NB687_686.out
   obtain ⟨⟨hcz15_0, hcz15_1, hcz15_2, hcz15_3⟩, hfz15_0, hfz15_1, hfz15_2, hfz15_3⟩ := cf4 BK686
   go_wp2_with (first | ((with_reducible refine gate_callee (f := 44) rfl ?_); refine gL (some 13) Try.func44 #[.agg #[.int .i64 a0_0, .int .i64 a0_1, .int .i64 a0_2, .slice A0_3 l0_3.length c0_3]] ?_; (with_reducible refine (spec_validImage.calls k a0_0 a0_1 a0_2 _ _ l0_3 false _ ?side1 ?side2 A7.out).mono ?_); (case side1 => exact qC (Kd.C_below HR0_3.out HB.out)); (case side2 => exact HC0_3.out); rintro e w16 ⟨rfl, hb⟩; refine ⟨_, rfl, ?_⟩; replace BK686 := bB BK686 hb; replace BK687 := bB BK687 hb; replace HB := bS HB hb; clear hb))
   go_meet
   case rel => exact ⟨_, (true), qE, H', ⟨by first | omega | exact Nat.le_refl _⟩, ⟨by refine qB ?_; exact BK686.out⟩, ⟨by refine qB ?_; exact BK687.out⟩, ⟨by exact qW HB.out⟩⟩
  subst c8
  have H1 : ((spec_validShape.f a1 a2 a0_2).bind fun t689 => (spec_ScaleArea.j0 k a1 a2 (!t689) a0_0 a0_1 a0_2 l0_3)) = some (r1, r2, r3, r4) := by rw [if_pos rfl] at H; exact H
  clear H
  have H := H1
  clear H1
  replace H := Option.bind_eq_some_iff.mp H
  obtain ⟨t689, A90, H⟩ := H
  replace H : (spec_ScaleArea.j0 k a1 a2 (!t689) a0_0 a0_1 a0_2 l0_3) = some (r1, r2, r3, r4) := H
  have A9 := aM A90
  clear A90
  have H' := aM H
  clear H
  have hnb10 := NB686_687.out
  have hnc10 := NB687_686.out
  obtain ⟨⟨hcz11_0, hcz11_1, hcz11_2, hcz11_3⟩, hfz11_0, hfz11_1, hfz11_2, hfz11_3⟩ := cf4 BK686
  go_wp2_with (first | ((with_reducible refine gate_callee (f := 44) rfl ?_); refine gL (some 13) Try.func44 #[.agg #[.int .i64 a0_0, .int .i64 a0_1, .int .i64 a0_2, .slice A0_3 l0_3.length c0_3]] ?_; (with_reducible refine (spec_validImage.calls k a0_0 a0_1 a0_2 _ _ l0_3 true _ ?side1 ?side2 A7.out).mono ?_); (case side1 => exact qC (Kd.C_below HR0_3.out HB.out)); (case side2 => exact HC0_3.out); rintro e w12 ⟨rfl, hb⟩; refine ⟨_, rfl, ?_⟩; replace BK686 := bB BK686 hb; replace BK687 := bB BK687 hb; replace HB := bS HB hb; clear hb; obtain ⟨⟨hcz13_0, hcz13_1, hcz13_2, hcz13_3⟩, hfz13_0, hfz13_1, hfz13_2, hfz13_3⟩ := cf4 BK686) | (go_at_call 64; (with_reducible refine (spec_validShape.calls a1 a2 a0_2 t689 _ A9.out).mono ?_); rintro e w' ⟨rfl, ⟨nd, rfl⟩⟩))
  go_meet
  case rel => exact ⟨_, (!t689), qE, H', ⟨by first | omega | exact Nat.le_refl _⟩, ⟨by refine qB ?_; exact BK686.out⟩, ⟨by refine qB ?_; exact BK687.out⟩, ⟨by exact qW HB.out⟩⟩
 case rest =>
  clear HC4
  try clear c8
  try clear hcz11_0 hcz11_1 hcz11_2 hcz11_3 hfz11_0 hfz11_1 hfz11_2 hfz11_3
  try clear hcz13_0 hcz13_1 hcz13_2 hcz13_3 hfz13_0 hfz13_1 hfz13_2 hfz13_3
  try clear hcz15_0 hcz15_1 hcz15_2 hcz15_3 hfz15_0 hfz15_1 hfz15_2 hfz15_3
  obtain ⟨kq, x22_3, rfl, HA, HJ3, BK686, BK687, HB⟩ := hcut
  cases kq with
  | zero => exact absurd HA.out (by simp [spec_ScaleArea.j0])
  | succ kj3 =>
   have H := HA.out
   clear HA
   simp only [spec_ScaleArea.j0] at H
   by_cases c17 : x22_3 = true
   ·subst c17
    have H1 : (some (0, 0, 0, ([] : List Int))) = some (r1, r2, r3, r4) := by rw [if_pos rfl] at H; exact H
    clear H
    have H := H1
    clear H1
    simp only [Option.some.injEq, Prod.mk.injEq] at H
    obtain ⟨rfl, rfl, rfl, rfl⟩ := H
    have hnb18 := NB687_686.out
    have hnc18 := NB686_687.out
    obtain ⟨⟨hcz19_0, hcz19_1, hcz19_2, hcz19_3⟩, hfz19_0, hfz19_1, hfz19_2, hfz19_3⟩ := cf4 BK687
    go_wp2
    refine bodyPost_ret (results_cell_row rfl _ _ gb687 26 #[.int .i64 0, .int .i64 0, .int .i64 0, .slice none 0 0] (0, 0) _ rfl (by exact bP BK687.out) Try.underlying26 rfl (by kernel_rfl)) rfl ?_
    exact ⟨_, qX, qN, by exact qW HB.out⟩
   replace c17 := Bool.eq_false_iff.mpr c17
   subst c17
   have H1 : ((spec_newImage.f a1 a2 a0_2).bind fun bt690 => (spec_ScaleArea.l0 kj3 a1 a2 (wrap64 (a0_0 * a0_1)) 0 a0_0 a0_1 a0_2 l0_3 bt690.1 bt690.2.1 bt690.2.2.1 bt690.2.2.2)) = some (r1, r2, r3, r4) := by rw [if_neg (show ¬ (false = true) by decide)] at H; exact H
   clear H
   have H := H1
   clear H1
   replace H := Option.bind_eq_some_iff.mp H
   obtain ⟨⟨t690, t691, t692, t693⟩, A200, H⟩ := H
   replace H : (spec_ScaleArea.l0 kj3 a1 a2 (wrap64 (a0_0 * a0_1)) 0 a0_0 a0_1 a0_2 l0_3 t690 t691 t692 t693) = some (r1, r2, r3, r4) := H
   have A20 := aM A200
   clear A200
   have H' := aM H
   clear H
   have hnb21 := NB686_687.out
   have hnc21 := NB687_686.out
   obtain ⟨⟨hcz22_0, hcz22_1, hcz22_2, hcz22_3⟩, hfz22_0, hfz22_1, hfz22_2, hfz22_3⟩ := cf4 BK686
   go_wp2_with (first | ((with_reducible refine gate_callee (f := 45) rfl ?_); refine gL (some 28) Try.func45 #[.int .i64 a1, .int .i64 a2, .int .i64 a0_2] ?_; (with_reducible refine (spec_newImage.calls a1 a2 a0_2 t690 t691 t692 t693 _ A20.out).mono ?_); rintro e w23 ⟨v694, rfl, ho0, hb⟩; refine ⟨_, rfl, ?_⟩; have HO695 := oR ho0 HB; replace BK686 := bB BK686 hb; replace BK687 := bB BK687 hb; replace HB := bS HB hb; clear hb ho0) | ((with_reducible refine gate_dst (N := 7) rfl ?_); refine bxE (N := 7) (cs := #[.int .i64 0, .int .i64 0, .int .i64 0, .slice none 0 0]) (t := 26) ?_; intro gb696 hg w24 hbox hb; replace HO695 := aM (Kd.R_below (qR HO695.out) hb); have BK696 := aM (hbox); have GW696 := gW hg HB; have GE696 := gW hg HB; replace HB := bS HB hb; have NB686_696 := nL hg BK686; have NB696_686 := nG hg BK686; replace BK686 := bB BK686 hb; have NB687_696 := nL hg BK687; have NB696_687 := nG hg BK687; replace BK687 := bB BK687 hb; clear hb hbox hg; have hnb25 := NB696_686.out; have hnc25 := NB686_696.out; have hnb26 := NB696_687.out; have hnc26 := NB687_696.out; obtain ⟨⟨hcz27_0, hcz27_1, hcz27_2, hcz27_3⟩, hfz27_0, hfz27_1, hfz27_2, hfz27_3⟩ := cf4 BK696; obtain ⟨Ao28, co28, rfl⟩ := sL HO695; obtain ⟨⟨hcz29_0, hcz29_1, hcz29_2, hcz29_3⟩, hfz29_0, hfz29_1, hfz29_2, hfz29_3⟩ := cf4 BK686))
   go_loopg [9] kj3 (fun kq v9 w' => ∃ (x9_2 : Int) (x697003_2 : List Int) (u697003 : Value), v9 = .int .i64 x9_2 ∧ Aside0 (spec_ScaleArea.l0 kq a1 a2 (wrap64 (a0_0 * a0_1)) x9_2 a0_0 a0_1 a0_2 l0_3 t690 t691 t692 x697003_2 = some (r1, r2, r3, r4)) ∧ Aside0 (kq ≤ kj3) ∧ Aside0 (Kd.R (Kd.int .i64) 3 w' w.heap.size (fun _ => True) u697003 x697003_2) ∧ Aside0 (w'.heap[gb686]? = some (.cells #[.int .i64 a0_0, .int .i64 a0_1, .int .i64 a0_2, (.slice A0_3 l0_3.length c0_3)] 26 (0, 0))) ∧ Aside0 (w'.heap[gb687]? = some (.cells #[.int .i64 0, .int .i64 0, .int .i64 0, (.slice none 0 0)] 26 (0, 0))) ∧ Aside0 (w'.heap[gb696]? = some (.cells #[.int .i64 t690, .int .i64 t691, .int .i64 t692, u697003] 26 (0, 0))) ∧ Aside0 (Below w.heap.size w w'))
   case atStart => exact ⟨(0), (t693), (.slice Ao28 t693.length co28), qE, H', ⟨Nat.le_refl _⟩, ⟨by refine qR ?_; exact Kd.R_mono (rT HO695 BK696) (fun _ hk => trivial)⟩, ⟨by refine qB ?_; refine blk_far ?_ NB686_696.out _; refine qB ?_; refine blk_far ?_ NB686_696.out _; refine qB ?_; refine blk_far ?_ NB686_696.out _; refine qB ?_; refine blk_far ?_ NB686_696.out _; refine qB ?_; exact BK686.out⟩, ⟨by refine qB ?_; refine blk_far ?_ NB687_696.out _; refine qB ?_; refine blk_far ?_ NB687_696.out _; refine qB ?_; refine blk_far ?_ NB687_696.out _; refine qB ?_; refine blk_far ?_ NB687_696.out _; refine qB ?_; exact BK687.out⟩, ⟨by exact bP BK696.out⟩, ⟨by exact qW HB.out⟩⟩
   case round =>
    clear H'
    try clear c8
    try clear c17
    try clear hcz11_0 hcz11_1 hcz11_2 hcz11_3 hfz11_0 hfz11_1 hfz11_2 hfz11_3
    try clear hcz13_0 hcz13_1 hcz13_2 hcz13_3 hfz13_0 hfz13_1 hfz13_2 hfz13_3
    try clear hcz15_0 hcz15_1 hcz15_2 hcz15_3 hfz15_0 hfz15_1 hfz15_2 hfz15_3
    try clear hcz19_0 hcz19_1 hcz19_2 hcz19_3 hfz19_0 hfz19_1 hfz19_2 hfz19_3
    try clear hcz22_0 hcz22_1 hcz22_2 hcz22_3 hfz22_0 hfz22_1 hfz22_2 hfz22_3
    try clear hcz27_0 hcz27_1 hcz27_2 hcz27_3 hfz27_0 hfz27_1 hfz27_2 hfz27_3
    try clear hcz29_0 hcz29_1 hcz29_2 hcz29_3 hfz29_0 hfz29_1 hfz29_2 hfz29_3
    obtain ⟨x9_2, x697003_2, u697003, rfl, HA, HK2, HO_697003, BK686, BK687, BK696, HB⟩ := hrel
    cases gk with
    | zero => exact absurd HA.out (by simp [spec_ScaleArea.l0])
    | succ k2 =>
     have H := HA.out
     clear HA
     simp only [spec_ScaleArea.l0] at H
     by_cases c30 : x9_2 < a2
     rotate_left
     ·rw [if_neg c30] at H
      have c30b0 : decide (x9_2 < a2) = false := decide_eq_false c30
      clear c30
      simp only [Option.some.injEq, Prod.mk.injEq] at H
      obtain ⟨rfl, rfl, rfl, rfl⟩ := H
      have hnb48 := NB696_686.out
      have hnc48 := NB686_696.out
      have hnb49 := NB696_687.out
      have hnc49 := NB687_696.out
      obtain ⟨⟨hcz50_0, hcz50_1, hcz50_2, hcz50_3⟩, hfz50_0, hfz50_1, hfz50_2, hfz50_3⟩ := cf4 BK696
      have hnb51 := NB687_686.out
      have hnc51 := NB686_687.out
      obtain ⟨⟨hcz52_0, hcz52_1, hcz52_2, hcz52_3⟩, hfz52_0, hfz52_1, hfz52_2, hfz52_3⟩ := cf4 BK687
      obtain ⟨Ao53, co53, rfl⟩ := sL HO_697003
      go_wp2
      refine bodyPost_ret (results_cell_row rfl _ _ gb687 26 #[.int .i64 t690, .int .i64 t691, .int .i64 t692, .slice Ao53 x697003_2.length co53] (0, 0) _ rfl (by exact bP BK687.out) Try.underlying26 rfl (by kernel_rfl)) rfl ?_
      exact ⟨_, qX, by refine qR ?_; exact Kd.R_mono (rT HO_697003 BK687) (fun _ hk => trivial), by exact qW HB.out⟩
     rw [if_pos c30] at H
     have c30b0 : decide (x9_2 < a2) = true := decide_eq_true c30
     clear c30
     have H' := aM H
     clear H
     go_wp2
     go_loopg [10] k2 (fun kq v10 w' => ∃ (x10_3 : Int) (x697003_3 : List Int) (u697003 : Value), v10 = .int .i64 x10_3 ∧ Aside0 (spec_ScaleArea.l1 kq a1 a2 (wrap64 (a0_0 * a0_1)) x9_2 x10_3 a0_0 a0_1 a0_2 l0_3 t690 t691 t692 x697003_3 = some (r1, r2, r3, r4)) ∧ Aside0 (kq ≤ k2) ∧ Aside0 (Kd.R (Kd.int .i64) 3 w' w.heap.size (fun _ => True) u697003 x697003_3) ∧ Aside0 (w'.heap[gb686]? = some (.cells #[.int .i64 a0_0, .int .i64 a0_1, .int .i64 a0_2, (.slice A0_3 l0_3.length c0_3)] 26 (0, 0))) ∧ Aside0 (w'.heap[gb687]? = some (.cells #[.int .i64 0, .int .i64 0, .int .i64 0, (.slice none 0 0)] 26 (0, 0))) ∧ Aside0 (w'.heap[gb696]? = some (.cells #[.int .i64 t690, .int .i64 t691, .int .i64 t692, u697003] 26 (0, 0))) ∧ Aside0 (Below w.heap.size w w'))
     case atStart => exact ⟨(0), (x697003_2), (u697003), qE, H', ⟨Nat.le_refl _⟩, ⟨by refine qR ?_; exact HO_697003.out⟩, ⟨by refine qB ?_; exact BK686.out⟩, ⟨by refine qB ?_; exact BK687.out⟩, ⟨by refine qB ?_; exact BK696.out⟩, ⟨by exact qW HB.out⟩⟩
     case round =>
      clear H'
      try clear c8
      try clear c17
      try clear c30
      try clear c30b0
      try clear hcz11_0 hcz11_1 hcz11_2 hcz11_3 hfz11_0 hfz11_1 hfz11_2 hfz11_3
      try clear hcz13_0 hcz13_1 hcz13_2 hcz13_3 hfz13_0 hfz13_1 hfz13_2 hfz13_3
      try clear hcz15_0 hcz15_1 hcz15_2 hcz15_3 hfz15_0 hfz15_1 hfz15_2 hfz15_3
      try clear hcz19_0 hcz19_1 hcz19_2 hcz19_3 hfz19_0 hfz19_1 hfz19_2 hfz19_3
      try clear hcz22_0 hcz22_1 hcz22_2 hcz22_3 hfz22_0 hfz22_1 hfz22_2 hfz22_3
      try clear hcz27_0 hcz27_1 hcz27_2 hcz27_3 hfz27_0 hfz27_1 hfz27_2 hfz27_3
      try clear hcz29_0 hcz29_1 hcz29_2 hcz29_3 hfz29_0 hfz29_1 hfz29_2 hfz29_3
      obtain ⟨x10_3, x697003_3, u697003, rfl, HA, HK3, HO_697003, BK686, BK687, BK696, HB⟩ := hrel
      cases gk with
      | zero => exact absurd HA.out (by simp [spec_ScaleArea.l1])
      | succ k3 =>
       have H := HA.out
       clear HA
       simp only [spec_ScaleArea.l1] at H
       by_cases c31 : x10_3 < a1
       rotate_left
       ·rw [if_neg c31] at H
        have c31b0 : decide (x10_3 < a1) = false := decide_eq_false c31
        clear c31
        have H' := aM H
        clear H
        go_wp2
        go_roundg k3
        case measure => have := HJ3.out; have := HK2.out; have := HK3.out; omega
        case rel => exact ⟨(wrap64 (x9_2 + 1)), (x697003_3), (u697003), qE, H', ⟨by have := HJ3.out; have := HK2.out; have := HK3.out; omega⟩, ⟨by refine qR ?_; exact HO_697003.out⟩, ⟨by refine qB ?_; exact BK686.out⟩, ⟨by refine qB ?_; exact BK687.out⟩, ⟨by refine qB ?_; exact BK696.out⟩, ⟨by exact qW HB.out⟩⟩
       rw [if_pos c31] at H
       have c31b0 : decide (x10_3 < a1) = true := decide_eq_true c31
       clear c31
       have H' := aM H
       clear H
       go_wp2
       go_loopg [11] k3 (fun kq v11 w' => ∃ (x11_4 : Int) (x697003_4 : List Int) (u697003 : Value), v11 = .int .i64 x11_4 ∧ Aside0 (spec_ScaleArea.l2 kq a1 a2 (wrap64 (a0_0 * a0_1)) x9_2 x10_3 x11_4 a0_0 a0_1 a0_2 l0_3 t690 t691 t692 x697003_4 = some (r1, r2, r3, r4)) ∧ Aside0 (kq ≤ k3) ∧ Aside0 (Kd.R (Kd.int .i64) 3 w' w.heap.size (fun _ => True) u697003 x697003_4) ∧ Aside0 (w'.heap[gb686]? = some (.cells #[.int .i64 a0_0, .int .i64 a0_1, .int .i64 a0_2, (.slice A0_3 l0_3.length c0_3)] 26 (0, 0))) ∧ Aside0 (w'.heap[gb687]? = some (.cells #[.int .i64 0, .int .i64 0, .int .i64 0, (.slice none 0 0)] 26 (0, 0))) ∧ Aside0 (w'.heap[gb696]? = some (.cells #[.int .i64 t690, .int .i64 t691, .int .i64 t692, u697003] 26 (0, 0))) ∧ Aside0 (Below w.heap.size w w'))
       case atStart => exact ⟨(0), (x697003_3), (u697003), qE, H', ⟨Nat.le_refl _⟩, ⟨by refine qR ?_; exact HO_697003.out⟩, ⟨by refine qB ?_; exact BK686.out⟩, ⟨by refine qB ?_; exact BK687.out⟩, ⟨by refine qB ?_; exact BK696.out⟩, ⟨by exact qW HB.out⟩⟩
       case round =>
        clear H'
        try clear c8
        try clear c17
        try clear c30
        try clear c30b0
        try clear c31
        try clear c31b0
        try clear hcz11_0 hcz11_1 hcz11_2 hcz11_3 hfz11_0 hfz11_1 hfz11_2 hfz11_3
        try clear hcz13_0 hcz13_1 hcz13_2 hcz13_3 hfz13_0 hfz13_1 hfz13_2 hfz13_3
        try clear hcz15_0 hcz15_1 hcz15_2 hcz15_3 hfz15_0 hfz15_1 hfz15_2 hfz15_3
        try clear hcz19_0 hcz19_1 hcz19_2 hcz19_3 hfz19_0 hfz19_1 hfz19_2 hfz19_3
        try clear hcz22_0 hcz22_1 hcz22_2 hcz22_3 hfz22_0 hfz22_1 hfz22_2 hfz22_3
        try clear hcz27_0 hcz27_1 hcz27_2 hcz27_3 hfz27_0 hfz27_1 hfz27_2 hfz27_3
        try clear hcz29_0 hcz29_1 hcz29_2 hcz29_3 hfz29_0 hfz29_1 hfz29_2 hfz29_3
        obtain ⟨x11_4, x697003_4, u697003, rfl, HA, HK4, HO_697003, BK686, BK687, BK696, HB⟩ := hrel
        cases gk with
        | zero => exact absurd HA.out (by simp [spec_ScaleArea.l2])
        | succ k4 =>
         have H := HA.out
         clear HA
         simp only [spec_ScaleArea.l2] at H
         by_cases c32 : x11_4 < a0_2
         rotate_left
         ·rw [if_neg c32] at H
          have c32b0 : decide (x11_4 < a0_2) = false := decide_eq_false c32
          clear c32
          have H' := aM H
          clear H
          have hnb45 := NB686_687.out
          have hnc45 := NB687_686.out
          have hnb46 := NB686_696.out
          have hnc46 := NB696_686.out
          obtain ⟨⟨hcz47_0, hcz47_1, hcz47_2, hcz47_3⟩, hfz47_0, hfz47_1, hfz47_2, hfz47_3⟩ := cf4 BK686
          go_wp2
          go_roundg k4
          case measure => have := HJ3.out; have := HK2.out; have := HK3.out; have := HK4.out; omega
          case rel => exact ⟨(wrap64 (x10_3 + 1)), (x697003_4), (u697003), qE, H', ⟨by have := HJ3.out; have := HK2.out; have := HK3.out; have := HK4.out; omega⟩, ⟨by refine qR ?_; exact HO_697003.out⟩, ⟨by refine qB ?_; exact BK686.out⟩, ⟨by refine qB ?_; exact BK687.out⟩, ⟨by refine qB ?_; exact BK696.out⟩, ⟨by exact qW HB.out⟩⟩
         rw [if_pos c32] at H
         have c32b0 : decide (x11_4 < a0_2) = true := decide_eq_true c32
         clear c32
         replace H := Option.bind_eq_some_iff.mp H
         obtain ⟨t697, A330, H⟩ := H
         replace H : (if (wrap64 (2 * (wrap64 (a0_0 * a0_1)))) = 0 then (none) else (if 0 ≤ (wrap64 ((wrap64 ((wrap64 ((wrap64 (x9_2 * a1)) + x10_3)) * a0_2)) + x11_4)) then (if (wrap64 ((wrap64 ((wrap64 ((wrap64 (x9_2 * a1)) + x10_3)) * a0_2)) + x11_4)) < (x697003_4.length : Int) then (spec_ScaleArea.l2 k4 a1 a2 (wrap64 (a0_0 * a0_1)) x9_2 x10_3 (wrap64 (x11_4 + 1)) a0_0 a0_1 a0_2 l0_3 t690 t691 t692 (x697003_4.set ((wrap64 ((wrap64 ((wrap64 ((wrap64 (x9_2 * a1)) + x10_3)) * a0_2)) + x11_4)) : Int).toNat (wrap64 (Int.tdiv (wrap64 ((wrap64 (2 * t697)) + (wrap64 (a0_0 * a0_1)))) (wrap64 (2 * (wrap64 (a0_0 * a0_1)))))))) else (none)) else (none))) = some (r1, r2, r3, r4) := H
         have A33 := aM A330
         clear A330
         by_cases c34 : (wrap64 (2 * (wrap64 (a0_0 * a0_1)))) = 0
         ·rw [if_pos c34] at H
          exact absurd H (by simp)
         rw [if_neg c34] at H
         have c34b0 : ((wrap64 (2 * (wrap64 (a0_0 * a0_1)))) == 0) = false := beq_eq_false_iff_ne.mpr c34
         have c34b1 : ((wrap64 (2 * (wrap64 (a0_0 * a0_1)))) != 0) = true := bne_iff_ne.mpr c34
         obtain ⟨ji35, hji35⟩ : ∃ j_ : Int, (wrap64 ((wrap64 ((wrap64 ((wrap64 (x9_2 * a1)) + x10_3)) * a0_2)) + x11_4)) = j_ := ⟨_, rfl⟩
         replace H : (if 0 ≤ (ji35) then (if (ji35) < (x697003_4.length : Int) then (spec_ScaleArea.l2 k4 a1 a2 (wrap64 (a0_0 * a0_1)) x9_2 x10_3 (wrap64 (x11_4 + 1)) a0_0 a0_1 a0_2 l0_3 t690 t691 t692 (x697003_4.set ((ji35) : Int).toNat (wrap64 (Int.tdiv (wrap64 ((wrap64 (2 * t697)) + (wrap64 (a0_0 * a0_1)))) (wrap64 (2 * (wrap64 (a0_0 * a0_1)))))))) else (none)) else (none)) = some (r1, r2, r3, r4) := by first | (rw [hji35] at H; exact H) | (simp only [hji35] at H ⊢; exact H)
         (try rw [hji35] at A33)
         have hji35w : (IntKind.i64.wrap ((wrap64 ((wrap64 ((wrap64 (x9_2 * a1)) + x10_3)) * a0_2)) + x11_4)) = ji35 := (i64_w _).trans hji35
         replace H := iD H
         obtain ⟨c36b0, H⟩ := H
         replace H := iD H
         obtain ⟨c37b0, H⟩ := H
         obtain ⟨y698, hy698⟩ : ∃ y_ : List Int, y_ = (x697003_4.set ((ji35) : Int).toNat (wrap64 (Int.tdiv (wrap64 ((wrap64 (2 * t697)) + (wrap64 (a0_0 * a0_1)))) (wrap64 (2 * (wrap64 (a0_0 * a0_1))))))) := ⟨_, rfl⟩
         replace H : (spec_ScaleArea.l2 k4 a1 a2 (wrap64 (a0_0 * a0_1)) x9_2 x10_3 (wrap64 (x11_4 + 1)) a0_0 a0_1 a0_2 l0_3 t690 t691 t692 y698) = some (r1, r2, r3, r4) := rY hy698 H
         have Ny698 := aM hy698
         clear hy698
         have H' := aM H
         clear H
         have hnb39 := NB686_687.out
         have hnc39 := NB687_686.out
         have hnb40 := NB686_696.out
         have hnc40 := NB696_686.out
         obtain ⟨⟨hcz41_0, hcz41_1, hcz41_2, hcz41_3⟩, hfz41_0, hfz41_1, hfz41_2, hfz41_3⟩ := cf4 BK686
         try go_wp2
         replace HO_697003 := aM (Kd.R_drew HO_697003.out)
         replace BK686 := aM (blk_drew BK686.out)
         replace BK687 := aM (blk_drew BK687.out)
         replace BK696 := aM (blk_drew BK696.out)
         replace HB := aM (below_drew1 HB.out)
         refine start_ (n := 27) (S := fun w' => w'.cell? ⟨gb696, 0, none⟩ = some (.int .i64 t690) ∧ w'.cell? ⟨gb696, 1, none⟩ = some (.int .i64 t691) ∧ w'.cell? ⟨gb696, 2, none⟩ = some (.int .i64 t692) ∧ w'.cell? ⟨gb696, 3, none⟩ = some (u697003) ∧ w'.cell? ⟨gb686, 0, none⟩ = some (.int .i64 a0_0) ∧ w'.cell? ⟨gb686, 1, none⟩ = some (.int .i64 a0_1) ∧ w'.cell? ⟨gb686, 2, none⟩ = some (.int .i64 a0_2) ∧ w'.cell? ⟨gb686, 3, none⟩ = some (.slice A0_3 l0_3.length c0_3)) (ds := [26]) (bA 27 0) (by kernel_rfl) rfl rfl ⟨(blk_cell BK696.out 0).trans rfl, (blk_cell BK696.out 1).trans rfl, (blk_cell BK696.out 2).trans rfl, (blk_cell BK696.out 3).trans rfl, (blk_cell BK686.out 0).trans rfl, (blk_cell BK686.out 1).trans rfl, (blk_cell BK686.out 2).trans rfl, (blk_cell BK686.out 3).trans rfl⟩ (fun hHeld => ?_); refine with_tabW spec_ScaleArea.tab14 spec_ScaleArea.bits14 (fun HT_ HW_ => ?_)
         generalize wr.drew = w42 at HO_697003 BK686 BK687 BK696 HB hHeld ⊢
         refine pQ 0 50 HT_ (bA 27 1) ?_
         refine pQ 2 52 HT_ (bA 27 5) ?_
         refine pQ 3 53 HT_ (bA 27 13) ?_
         refine pQ 4 54 HT_ (bA 27 29) ?_
         refine pQ 5 55 HT_ (bA 27 61) ?_
         refine pQ 6 56 HT_ (bA 27 125) ?_
         refine pQ 7 57 HT_ (bA 27 253) ?_
         refine pQ 10 60 HT_ (bA 27 1277) ?_
         refine pQ 13 63 HT_ (bA 27 9469) ?_
         refine pQ 14 64 HT_ (bA 27 25853) ?_
         refine pQ 15 65 HT_ (bA 27 58621) ?_
         refine pQ 16 66 HT_ (bA 27 124157) ?_
         refine pQ 17 67 HT_ (bA 27 255229) ?_
         refine pQ 20 70 HT_ (bA 27 1303805) ?_
         refine pQ 22 72 HT_ (bA 27 5498109) ?_
         refine pQ 23 73 HT_ (bA 27 13886717) ?_
         refine take_ (i := 1) (N := some 51) (v := ?_) (a' := ?_) (bA 27 13886719) rfl rfl (take_ofW HT_.out HW_.out (by kernel_rfl)) (fun _ _ _ h => h) (Or.inl ⟨by rfl, ?_⟩) hHeld ?_ ?_
         rotate_left
         ·rintro w' ⟨s0, s1, s2, s3, s4, s5, s6, s7⟩
          go_simp
          with_reducible rfl
         rotate_left
         ·refine pZ ?_
          rfl
         refine take_ (i := 8) (N := some 58) (v := ?_) (a' := ?_) (bA 27 13886975) rfl rfl (take_ofW HT_.out HW_.out (by kernel_rfl)) (fun _ _ _ h => h) (Or.inl ⟨by rfl, ?_⟩) hHeld ?_ ?_
         rotate_left
         ·rintro w' ⟨s0, s1, s2, s3, s4, s5, s6, s7⟩
          go_simp
          with_reducible rfl
         rotate_left
         ·refine pZ ?_
          rfl
         refine pQ 9 59 HT_ (bA 27 13887487) ?_
         refine pQ 11 61 HT_ (bA 27 13889535) ?_
         refine take_ (i := 12) (N := some 62) (v := ?_) (a' := ?_) (bA 27 13893631) rfl rfl (take_ofW HT_.out HW_.out (by kernel_rfl)) (fun _ _ _ h => h) (Or.inl ⟨by rfl, ?_⟩) hHeld ?_ ?_
         rotate_left
         ·rintro w' ⟨s0, s1, s2, s3, s4, s5, s6, s7⟩
          go_simp
          with_reducible rfl
         rotate_left
         ·refine pZ ?_
          rfl
         refine one_ (i := 18) (N := some 68) (bA 27 14155775) rfl rfl (one_of HT_.out (by kernel_rfl)) (by decide) (fun K hK => ?_)
         refine goes_ Try.func72 (by kernel_rfl) rfl #[.agg #[.int .i64 a0_0, .int .i64 a0_1, .int .i64 a0_2, .slice A0_3 l0_3.length c0_3], .int .i64 a1, .int .i64 a2, .int .i64 x10_3, .int .i64 x9_2, .int .i64 x11_4] (by rfl) rfl rfl qM ?_
         with_reducible refine (spec_areaSum.calls k4 a0_0 a0_1 a0_2 _ _ l0_3 a1 a2 x10_3 x9_2 x11_4 t697 _ ?side1 ?side2 A33.out).mono ?_
         (case side1 => exact qC (Kd.C_below HR0_3.out HB.out))
         (case side2 => exact HC0_3.out)
         rintro e w43 ⟨rfl, hb⟩
         refine ⟨_, rfl, ?_⟩
         replace HO_697003 := aM (Kd.R_below (qR HO_697003.out) hb)
         replace BK686 := bB BK686 hb
         replace BK687 := bB BK687 hb
         replace BK696 := bB BK696 hb
         replace HB := bS HB hb
         (try clear hb)
         (try clear hb2)
         (try clear hk)
         (try clear hi)
         have p38 : 0 ≤ ((ji35) : Int) := oD
         have q38 : ((ji35) : Int) < ((x697003_4.length : Int) : Int) := oD
         obtain ⟨go38, co38, eo38, gb38, gl38, cl38, HG38⟩ := Kd.R_form HO_697003.out (by omega)
         (first | cases eo38 | (injection eo38 with ea_ en_ ec_; (first | subst ea_ | (injection ea_ with ea_; subst ea_)); subst ec_; clear en_))
         have GB38 := aM gb38
         have GG38 := aM HG38
         clear gb38 gl38 HG38
         obtain ⟨hx38_0, hf38_0⟩ := Kd.R_celln 0 HO_697003.out ((ji35) : Int) p38 q38
         replace p38 := eq_true p38
         replace q38 := eq_true q38
         have HP44 := Kd.R_putn HO_697003.out ((ji35) : Int) (wrap64 (Int.tdiv (wrap64 ((wrap64 (2 * t697)) + (wrap64 (a0_0 * a0_1)))) (wrap64 (2 * (wrap64 (a0_0 * a0_1))))))
         rw [← Ny698.out] at HP44
         have HQ44 := aM HP44
         clear HP44
         refine hK.out _ _ ⟨(blk_cell BK696.out 0).trans rfl, (blk_cell BK696.out 1).trans rfl, (blk_cell BK696.out 2).trans rfl, (blk_cell BK696.out 3).trans rfl, (blk_cell BK686.out 0).trans rfl, (blk_cell BK686.out 1).trans rfl, (blk_cell BK686.out 2).trans rfl, (blk_cell BK686.out 3).trans rfl⟩ (fun hHeld => ?_)
         clear hK K
         refine norm_ (a' := ?_) ?_ ?_
         rotate_left
         ·show Act.put _ (some 68) _ = _
          refine pZ ?_
          rfl
         refine pQ 19 69 HT_ (bA 27 14680063) ?_
         refine pQ 21 71 HT_ (bA 27 16777215) ?_
         refine pQ 24 74 HT_ (bA 27 33554431) ?_
         refine pQ 25 75 HT_ (bA 27 67108863) ?_
         refine last_ (i := 26) (N := none) (bA 27 134217727) rfl rfl (one_of HT_.out (by kernel_rfl)) (by decide) (fun K hK => ?_)
         refine skip_ (w1 := ?_) (by rfl) rfl ?_ ?_
         rotate_left
         ·go_simp
          rfl
         refine hK.out _ _ ?_
         clear hK K
         refine done_ (done_of HT_.out (by kernel_rfl)) ?_
         try go_wp2
         go_roundg k4
         case measure => have := HJ3.out; have := HK2.out; have := HK3.out; have := HK4.out; omega
         case rel => exact ⟨(wrap64 (x11_4 + 1)), (y698), (.slice (some ⟨go38, 0, none⟩) x697003_4.length co38), qE, H', ⟨by have := HJ3.out; have := HK2.out; have := HK3.out; have := HK4.out; omega⟩, ⟨by refine qR ?_; exact HQ44.out⟩, ⟨by refine qB ?_; refine blk_far ?_ (by have h_ := Kd.R_ne HO_697003.out BK686.out (by decide); intro e_; exact h_ (by rw [e_]; rfl)) _; refine qB ?_; exact BK686.out⟩, ⟨by refine qB ?_; refine blk_far ?_ (by have h_ := Kd.R_ne HO_697003.out BK687.out (by decide); intro e_; exact h_ (by rw [e_]; rfl)) _; refine qB ?_; exact BK687.out⟩, ⟨by refine qB ?_; refine blk_far ?_ (by have h_ := Kd.R_ne HO_697003.out BK696.out (by decide); intro e_; exact h_ (by rw [e_]; rfl)) _; refine qB ?_; exact BK696.out⟩, ⟨by exact qW HB.out⟩⟩
mutual
def spec_ScaleNearest.j0 : Nat → Int → Int → Bool → Int → Int → Int → List Int → Option (Int × Int × Int × List Int)
 | 0, _, _, _, _, _, _, _ => none
 | k + 1, x1, x2, x20, x462000, x462001, x462002, x462003 => if x20 = true then (some (0, 0, 0, ([] : List Int))) else ((spec_newImage.f x1 x2 x462002).bind fun bt465 => (spec_ScaleNearest.l0 k x1 x2 0 x462000 x462001 x462002 x462003 bt465.1 bt465.2.1 bt465.2.2.1 bt465.2.2.2))
def spec_ScaleNearest.l0 : Nat → Int → Int → Int → Int → Int → Int → List Int → Int → Int → Int → List Int → Option (Int × Int × Int × List Int)
 | 0, _, _, _, _, _, _, _, _, _, _, _ => none
 | k + 1, x1, x2, x8, x462000, x462001, x462002, x462003, x472000, x472001, x472002, x472003 => if x8 < x2 then (spec_ScaleNearest.l1 k x1 x2 x8 0 x462000 x462001 x462002 x462003 x472000 x472001 x472002 x472003) else (some (x472000, x472001, x472002, x472003))
def spec_ScaleNearest.l1 : Nat → Int → Int → Int → Int → Int → Int → Int → List Int → Int → Int → Int → List Int → Option (Int × Int × Int × List Int)
 | 0, _, _, _, _, _, _, _, _, _, _, _, _ => none
 | k + 1, x1, x2, x8, x9, x462000, x462001, x462002, x462003, x472000, x472001, x472002, x472003 => if x9 < x1 then (if x1 = 0 then (none) else (if x2 = 0 then (none) else ((spec_pixelAt.f x462000 x462001 x462002 x462003 (wrap64 (Int.tdiv (wrap64 (x9 * x462000)) x1)) (wrap64 (Int.tdiv (wrap64 (x8 * x462001)) x2))).bind fun t472 => ((spec_setPixel.f k x472000 x472001 x472002 x472003 x9 x8 t472).bind fun t475 => (spec_ScaleNearest.l1 k x1 x2 x8 (wrap64 (x9 + 1)) x462000 x462001 x462002 x462003 x472000 x472001 x472002 t475))))) else (spec_ScaleNearest.l0 k x1 x2 (wrap64 (x8 + 1)) x462000 x462001 x462002 x462003 x472000 x472001 x472002 x472003)
end
def spec_ScaleNearest.f (k : Nat) (a0_0 : Int) (a0_1 : Int) (a0_2 : Int) (l0_3 : List Int) (a1 : Int) (a2 : Int) : Option (Int × Int × Int × List Int) := (spec_validImage.f k a0_0 a0_1 a0_2 l0_3).bind fun t463 => (if t463 = true then ((spec_validShape.f a1 a2 a0_2).bind fun t464 => (spec_ScaleNearest.j0 k a1 a2 (!t464) a0_0 a0_1 a0_2 l0_3)) else (spec_ScaleNearest.j0 k a1 a2 true a0_0 a0_1 a0_2 l0_3))
theorem spec_ScaleNearest.mono_l : ∀ k, (∀ y0 y1 y2 y3 y4 y5 y6, LeO (spec_ScaleNearest.j0 k y0 y1 y2 y3 y4 y5 y6) (spec_ScaleNearest.j0 (k + 1) y0 y1 y2 y3 y4 y5 y6)) ∧ (∀ y0 y1 y2 y3 y4 y5 y6 y7 y8 y9 y10, LeO (spec_ScaleNearest.l0 k y0 y1 y2 y3 y4 y5 y6 y7 y8 y9 y10) (spec_ScaleNearest.l0 (k + 1) y0 y1 y2 y3 y4 y5 y6 y7 y8 y9 y10)) ∧ (∀ y0 y1 y2 y3 y4 y5 y6 y7 y8 y9 y10 y11, LeO (spec_ScaleNearest.l1 k y0 y1 y2 y3 y4 y5 y6 y7 y8 y9 y10 y11) (spec_ScaleNearest.l1 (k + 1) y0 y1 y2 y3 y4 y5 y6 y7 y8 y9 y10 y11))
 | 0 => ⟨fun _ _ _ _ _ _ _ r h => by simp [spec_ScaleNearest.j0] at h, fun _ _ _ _ _ _ _ _ _ _ _ r h => by simp [spec_ScaleNearest.l0] at h, fun _ _ _ _ _ _ _ _ _ _ _ _ r h => by simp [spec_ScaleNearest.l1] at h⟩
 | k + 1 => by
  obtain ⟨ih0, ih1, ih2⟩ := spec_ScaleNearest.mono_l k
  refine ⟨?_, ?_, ?_⟩
  all_goals intros
  all_goals first | unfold spec_ScaleNearest.j0 | unfold spec_ScaleNearest.l0 | unfold spec_ScaleNearest.l1
  all_goals repeat' first | (with_reducible first | exact ih0 _ _ _ _ _ _ _ | exact ih1 _ _ _ _ _ _ _ _ _ _ _ | exact ih2 _ _ _ _ _ _ _ _ _ _ _ _ | exact spec_setPixel.mono _ _ _ _ _ _ _ _ | exact spec_validImage.mono _ _ _ _ _ | exact lR | exact lN | refine lI ?_ ?_ | refine lB ?_ fun _ => ?_) | exact ih0 _ _ _ _ _ _ _ | exact ih1 _ _ _ _ _ _ _ _ _ _ _ | exact ih2 _ _ _ _ _ _ _ _ _ _ _ _ | exact spec_setPixel.mono _ _ _ _ _ _ _ _ | exact spec_validImage.mono _ _ _ _ _ | exact lN | refine lI ?_ ?_ | refine lB ?_ fun _ => ?_
theorem spec_ScaleNearest.mono : ∀ a0 a1 a2 a3 a4 a5 k, LeO (spec_ScaleNearest.f k a0 a1 a2 a3 a4 a5) (spec_ScaleNearest.f (k + 1) a0 a1 a2 a3 a4 a5) := by
 intro a0 a1 a2 a3 a4 a5 k
 obtain ⟨ih0, ih1, ih2⟩ := spec_ScaleNearest.mono_l k
 unfold spec_ScaleNearest.f
 repeat' first | (with_reducible first | exact ih0 _ _ _ _ _ _ _ | exact ih1 _ _ _ _ _ _ _ _ _ _ _ | exact ih2 _ _ _ _ _ _ _ _ _ _ _ _ | exact spec_setPixel.mono _ _ _ _ _ _ _ _ | exact spec_validImage.mono _ _ _ _ _ | exact lR | exact lN | refine lI ?_ ?_ | refine lB ?_ fun _ => ?_) | exact ih0 _ _ _ _ _ _ _ | exact ih1 _ _ _ _ _ _ _ _ _ _ _ | exact ih2 _ _ _ _ _ _ _ _ _ _ _ _ | exact spec_setPixel.mono _ _ _ _ _ _ _ _ | exact spec_validImage.mono _ _ _ _ _ | exact lN | refine lI ?_ ?_ | refine lB ?_ fun _ => ?_
def spec_ScaleNearest.T10 : Bool × List (List Nat × List Nat) := (true, [([], []), ([], []), ([], []), ([], []), ([], []), ([], []), ([5], [5]), ([4, 6], [4, 6]), ([], []), ([7, 8], [7, 8]), ([], []), ([], []), ([11], [11]), ([10, 12], [10, 12]), ([], []), ([13, 14], [13, 14]), ([3, 9, 15], [3, 9, 15]), ([0, 1, 2, 16, 16], [0, 1, 2, 16])])
def spec_ScaleNearest.B10 : List Nat := [0, 0, 0, 0, 0, 0, 32, 112, 0, 496, 0, 0, 2048, 7168, 0, 31744, 65528, 131071]
theorem spec_ScaleNearest.tab10 : rtab .any (opsOf Try.f27 10) = spec_ScaleNearest.T10 := by kernel_rfl
theorem spec_ScaleNearest.bits10 : waitsOk spec_ScaleNearest.T10.2 spec_ScaleNearest.B10 = true := by kernel_rfl
set_option maxHeartbeats 8000000 in
set_option maxRecDepth 100000 in
theorem spec_ScaleNearest.calls (k : Nat) (a0_0 : Int) (a0_1 : Int) (a0_2 : Int) (A0_3 : Option Addr) (c0_3 : Nat) (l0_3 : List Int) (a1 : Int) (a2 : Int) (r1 : Int) (r2 : Int) (r3 : Int) (r4 : List Int) (w : World) (hr0_3 : Kd.C (Kd.int .i64) w A0_3 l0_3.length l0_3) (hc0_3 : l0_3.length ≤ c0_3) (h : spec_ScaleNearest.f k a0_0 a0_1 a0_2 l0_3 a1 a2 = some (r1, r2, r3, r4)) :
  Calls Try.prog 27 #[.agg #[.int .i64 a0_0, .int .i64 a0_1, .int .i64 a0_2, .slice A0_3 l0_3.length c0_3], .int .i64 a1, .int .i64 a2] w fun e w' => ∃ v3_ : Value, e = .returned (.agg #[.int .i64 r1, .int .i64 r2, .int .i64 r3, v3_]) ∧ Kd.R (Kd.int .i64) 3 w' w.heap.size (fun _ => True) v3_ r4 ∧ Below w.heap.size w w' := by
 have hu26 := Try.underlying26
 have HR0_3 := aM hr0_3
 have HC0_3 := aM hc0_3
 clear hr0_3 hc0_3
 have HB := aM (Below.refl w.heap.size w)
 unfold spec_ScaleNearest.f at h
 have H := h
 clear h
 have HC4 := aM H
 clear H
 go_enter Try.func27, Try.ntmps27
 go_upto_region 1 with (first | ((with_reducible refine gate_dst (N := 3) rfl ?_); refine bxE (N := 3) (cs := #[.int .i64 a0_0, .int .i64 a0_1, .int .i64 a0_2, .slice A0_3 l0_3.length c0_3]) (t := 26) ?_; intro gb461 hg w5 hbox hb; have BK461 := aM (hbox); have GW461 := gW hg HB; have GE461 := gW hg HB; replace HB := bS HB hb; clear hb hbox hg) | ((with_reducible refine gate_dst (N := 6) rfl ?_); refine bxE (N := 6) (cs := #[.int .i64 0, .int .i64 0, .int .i64 0, .slice none 0 0]) (t := 26) ?_; intro gb462 hg w6 hbox hb; have BK462 := aM (hbox); have GW462 := gW hg HB; have GE462 := gW hg HB; replace HB := bS HB hb; have NB461_462 := nL hg BK461; have NB462_461 := nG hg BK461; replace BK461 := bB BK461 hb; clear hb hbox hg))
 (try simp only [Act.put, List.setIfInBounds_toArray, List.set_cons_zero, List.set_cons_succ])
 go_cut [20] (fun v20 wc => ∃ (kq : Nat) (x20_3 : Bool), v20 = .bool x20_3 ∧ Aside0 (spec_ScaleNearest.j0 kq a1 a2 x20_3 a0_0 a0_1 a0_2 l0_3 = some (r1, r2, r3, r4)) ∧ Aside0 (kq ≤ k) ∧ Aside0 (wc.heap[gb461]? = some (.cells #[.int .i64 a0_0, .int .i64 a0_1, .int .i64 a0_2, (.slice A0_3 l0_3.length c0_3)] 26 (0, 0))) ∧ Aside0 (wc.heap[gb462]? = some (.cells #[.int .i64 0, .int .i64 0, .int .i64 0, (.slice none 0 0)] 26 (0, 0))) ∧ Aside0 (Below w.heap.size w wc))
 case first =>
  have H := HC4.out
  clear HC4
  replace H := Option.bind_eq_some_iff.mp H
  obtain ⟨t463, A70, H⟩ := H
  replace H : (if t463 = true then ((spec_validShape.f a1 a2 a0_2).bind fun t464 => (spec_ScaleNearest.j0 k a1 a2 (!t464) a0_0 a0_1 a0_2 l0_3)) else (spec_ScaleNearest.j0 k a1 a2 true a0_0 a0_1 a0_2 l0_3)) = some (r1, r2, r3, r4) := H
  have A7 := aM A70
  clear A70
  by_cases c8 : t463 = true
  rotate_left
  ·replace c8 := Bool.eq_false_iff.mpr c8
   subst c8
   have H1 : (spec_ScaleNearest.j0 k a1 a2 true a0_0 a0_1 a0_2 l0_3) = some (r1, r2, r3, r4) := by rw [if_neg (show ¬ (false = true) by decide)] at H; exact H
   clear H
   have H := H1
   clear H1
   have H' := aM H
   clear H
   have hnb14 := NB461_462.out
   have hnc14 := NB462_461.out
   obtain ⟨⟨hcz15_0, hcz15_1, hcz15_2, hcz15_3⟩, hfz15_0, hfz15_1, hfz15_2, hfz15_3⟩ := cf4 BK461
   go_wp2_with (first | ((with_reducible refine gate_callee (f := 44) rfl ?_); refine gL (some 11) Try.func44 #[.agg #[.int .i64 a0_0, .int .i64 a0_1, .int .i64 a0_2, .slice A0_3 l0_3.length c0_3]] ?_; (with_reducible refine (spec_validImage.calls k a0_0 a0_1 a0_2 _ _ l0_3 false _ ?side1 ?side2 A7.out).mono ?_); (case side1 => exact qC (Kd.C_below HR0_3.out HB.out)); (case side2 => exact HC0_3.out); rintro e w16 ⟨rfl, hb⟩; refine ⟨_, rfl, ?_⟩; replace BK461 := bB BK461 hb; replace BK462 := bB BK462 hb; replace HB := bS HB hb; clear hb))
   go_meet
   case rel => exact ⟨_, (true), qE, H', ⟨by first | omega | exact Nat.le_refl _⟩, ⟨by refine qB ?_; exact BK461.out⟩, ⟨by refine qB ?_; exact BK462.out⟩, ⟨by exact qW HB.out⟩⟩
  subst c8
  have H1 : ((spec_validShape.f a1 a2 a0_2).bind fun t464 => (spec_ScaleNearest.j0 k a1 a2 (!t464) a0_0 a0_1 a0_2 l0_3)) = some (r1, r2, r3, r4) := by rw [if_pos rfl] at H; exact H
  clear H
  have H := H1
  clear H1
  replace H := Option.bind_eq_some_iff.mp H
  obtain ⟨t464, A90, H⟩ := H
  replace H : (spec_ScaleNearest.j0 k a1 a2 (!t464) a0_0 a0_1 a0_2 l0_3) = some (r1, r2, r3, r4) := H
  have A9 := aM A90
  clear A90
  have H' := aM H
  clear H
  have hnb10 := NB461_462.out
  have hnc10 := NB462_461.out
  obtain ⟨⟨hcz11_0, hcz11_1, hcz11_2, hcz11_3⟩, hfz11_0, hfz11_1, hfz11_2, hfz11_3⟩ := cf4 BK461
  go_wp2_with (first | ((with_reducible refine gate_callee (f := 44) rfl ?_); refine gL (some 11) Try.func44 #[.agg #[.int .i64 a0_0, .int .i64 a0_1, .int .i64 a0_2, .slice A0_3 l0_3.length c0_3]] ?_; (with_reducible refine (spec_validImage.calls k a0_0 a0_1 a0_2 _ _ l0_3 true _ ?side1 ?side2 A7.out).mono ?_); (case side1 => exact qC (Kd.C_below HR0_3.out HB.out)); (case side2 => exact HC0_3.out); rintro e w12 ⟨rfl, hb⟩; refine ⟨_, rfl, ?_⟩; replace BK461 := bB BK461 hb; replace BK462 := bB BK462 hb; replace HB := bS HB hb; clear hb; obtain ⟨⟨hcz13_0, hcz13_1, hcz13_2, hcz13_3⟩, hfz13_0, hfz13_1, hfz13_2, hfz13_3⟩ := cf4 BK461) | (go_at_call 64; (with_reducible refine (spec_validShape.calls a1 a2 a0_2 t464 _ A9.out).mono ?_); rintro e w' ⟨rfl, ⟨nd, rfl⟩⟩))
  go_meet
  case rel => exact ⟨_, (!t464), qE, H', ⟨by first | omega | exact Nat.le_refl _⟩, ⟨by refine qB ?_; exact BK461.out⟩, ⟨by refine qB ?_; exact BK462.out⟩, ⟨by exact qW HB.out⟩⟩
 case rest =>
  clear HC4
  try clear c8
  try clear hcz11_0 hcz11_1 hcz11_2 hcz11_3 hfz11_0 hfz11_1 hfz11_2 hfz11_3
  try clear hcz13_0 hcz13_1 hcz13_2 hcz13_3 hfz13_0 hfz13_1 hfz13_2 hfz13_3
  try clear hcz15_0 hcz15_1 hcz15_2 hcz15_3 hfz15_0 hfz15_1 hfz15_2 hfz15_3
  obtain ⟨kq, x20_3, rfl, HA, HJ3, BK461, BK462, HB⟩ := hcut
  cases kq with
  | zero => exact absurd HA.out (by simp [spec_ScaleNearest.j0])
  | succ kj3 =>
   have H := HA.out
   clear HA
   simp only [spec_ScaleNearest.j0] at H
   by_cases c17 : x20_3 = true
   ·subst c17
    have H1 : (some (0, 0, 0, ([] : List Int))) = some (r1, r2, r3, r4) := by rw [if_pos rfl] at H; exact H
    clear H
    have H := H1
    clear H1
    simp only [Option.some.injEq, Prod.mk.injEq] at H
    obtain ⟨rfl, rfl, rfl, rfl⟩ := H
    have hnb18 := NB462_461.out
    have hnc18 := NB461_462.out
    obtain ⟨⟨hcz19_0, hcz19_1, hcz19_2, hcz19_3⟩, hfz19_0, hfz19_1, hfz19_2, hfz19_3⟩ := cf4 BK462
    go_wp2
    refine bodyPost_ret (results_cell_row rfl _ _ gb462 26 #[.int .i64 0, .int .i64 0, .int .i64 0, .slice none 0 0] (0, 0) _ rfl (by exact bP BK462.out) Try.underlying26 rfl (by kernel_rfl)) rfl ?_
    exact ⟨_, qX, qN, by exact qW HB.out⟩
   replace c17 := Bool.eq_false_iff.mpr c17
   subst c17
   have H1 : ((spec_newImage.f a1 a2 a0_2).bind fun bt465 => (spec_ScaleNearest.l0 kj3 a1 a2 0 a0_0 a0_1 a0_2 l0_3 bt465.1 bt465.2.1 bt465.2.2.1 bt465.2.2.2)) = some (r1, r2, r3, r4) := by rw [if_neg (show ¬ (false = true) by decide)] at H; exact H
   clear H
   have H := H1
   clear H1
   replace H := Option.bind_eq_some_iff.mp H
   obtain ⟨⟨t465, t466, t467, t468⟩, A200, H⟩ := H
   replace H : (spec_ScaleNearest.l0 kj3 a1 a2 0 a0_0 a0_1 a0_2 l0_3 t465 t466 t467 t468) = some (r1, r2, r3, r4) := H
   have A20 := aM A200
   clear A200
   have H' := aM H
   clear H
   have hnb21 := NB461_462.out
   have hnc21 := NB462_461.out
   obtain ⟨⟨hcz22_0, hcz22_1, hcz22_2, hcz22_3⟩, hfz22_0, hfz22_1, hfz22_2, hfz22_3⟩ := cf4 BK461
   go_wp2_with (first | ((with_reducible refine gate_callee (f := 45) rfl ?_); refine gL (some 26) Try.func45 #[.int .i64 a1, .int .i64 a2, .int .i64 a0_2] ?_; (with_reducible refine (spec_newImage.calls a1 a2 a0_2 t465 t466 t467 t468 _ A20.out).mono ?_); rintro e w23 ⟨v469, rfl, ho0, hb⟩; refine ⟨_, rfl, ?_⟩; have HO470 := oR ho0 HB; replace BK461 := bB BK461 hb; replace BK462 := bB BK462 hb; replace HB := bS HB hb; clear hb ho0) | ((with_reducible refine gate_dst (N := 7) rfl ?_); refine bxE (N := 7) (cs := #[.int .i64 0, .int .i64 0, .int .i64 0, .slice none 0 0]) (t := 26) ?_; intro gb471 hg w24 hbox hb; replace HO470 := aM (Kd.R_below (qR HO470.out) hb); have BK471 := aM (hbox); have GW471 := gW hg HB; have GE471 := gW hg HB; replace HB := bS HB hb; have NB461_471 := nL hg BK461; have NB471_461 := nG hg BK461; replace BK461 := bB BK461 hb; have NB462_471 := nL hg BK462; have NB471_462 := nG hg BK462; replace BK462 := bB BK462 hb; clear hb hbox hg; have hnb25 := NB471_461.out; have hnc25 := NB461_471.out; have hnb26 := NB471_462.out; have hnc26 := NB462_471.out; obtain ⟨⟨hcz27_0, hcz27_1, hcz27_2, hcz27_3⟩, hfz27_0, hfz27_1, hfz27_2, hfz27_3⟩ := cf4 BK471; obtain ⟨Ao28, co28, rfl⟩ := sL HO470))
   go_loopg [8] kj3 (fun kq v8 w' => ∃ (x8_2 : Int) (x472003_2 : List Int) (u472003 : Value), v8 = .int .i64 x8_2 ∧ Aside0 (spec_ScaleNearest.l0 kq a1 a2 x8_2 a0_0 a0_1 a0_2 l0_3 t465 t466 t467 x472003_2 = some (r1, r2, r3, r4)) ∧ Aside0 (kq ≤ kj3) ∧ Aside0 (Kd.R (Kd.int .i64) 3 w' w.heap.size (fun _ => True) u472003 x472003_2) ∧ Aside0 (w'.heap[gb461]? = some (.cells #[.int .i64 a0_0, .int .i64 a0_1, .int .i64 a0_2, (.slice A0_3 l0_3.length c0_3)] 26 (0, 0))) ∧ Aside0 (w'.heap[gb462]? = some (.cells #[.int .i64 0, .int .i64 0, .int .i64 0, (.slice none 0 0)] 26 (0, 0))) ∧ Aside0 (w'.heap[gb471]? = some (.cells #[.int .i64 t465, .int .i64 t466, .int .i64 t467, u472003] 26 (0, 0))) ∧ Aside0 (Below w.heap.size w w'))
   case atStart => exact ⟨(0), (t468), (.slice Ao28 t468.length co28), qE, H', ⟨Nat.le_refl _⟩, ⟨by refine qR ?_; exact Kd.R_mono (rT HO470 BK471) (fun _ hk => trivial)⟩, ⟨by refine qB ?_; refine blk_far ?_ NB461_471.out _; refine qB ?_; refine blk_far ?_ NB461_471.out _; refine qB ?_; refine blk_far ?_ NB461_471.out _; refine qB ?_; refine blk_far ?_ NB461_471.out _; refine qB ?_; exact BK461.out⟩, ⟨by refine qB ?_; refine blk_far ?_ NB462_471.out _; refine qB ?_; refine blk_far ?_ NB462_471.out _; refine qB ?_; refine blk_far ?_ NB462_471.out _; refine qB ?_; refine blk_far ?_ NB462_471.out _; refine qB ?_; exact BK462.out⟩, ⟨by exact bP BK471.out⟩, ⟨by exact qW HB.out⟩⟩
   case round =>
    clear H'
    try clear c8
    try clear c17
    try clear hcz11_0 hcz11_1 hcz11_2 hcz11_3 hfz11_0 hfz11_1 hfz11_2 hfz11_3
    try clear hcz13_0 hcz13_1 hcz13_2 hcz13_3 hfz13_0 hfz13_1 hfz13_2 hfz13_3
    try clear hcz15_0 hcz15_1 hcz15_2 hcz15_3 hfz15_0 hfz15_1 hfz15_2 hfz15_3
    try clear hcz19_0 hcz19_1 hcz19_2 hcz19_3 hfz19_0 hfz19_1 hfz19_2 hfz19_3
    try clear hcz22_0 hcz22_1 hcz22_2 hcz22_3 hfz22_0 hfz22_1 hfz22_2 hfz22_3
    try clear hcz27_0 hcz27_1 hcz27_2 hcz27_3 hfz27_0 hfz27_1 hfz27_2 hfz27_3
    obtain ⟨x8_2, x472003_2, u472003, rfl, HA, HK2, HO_472003, BK461, BK462, BK471, HB⟩ := hrel
    cases gk with
    | zero => exact absurd HA.out (by simp [spec_ScaleNearest.l0])
    | succ k2 =>
     have H := HA.out
     clear HA
     simp only [spec_ScaleNearest.l0] at H
     by_cases c29 : x8_2 < a2
     rotate_left
     ·rw [if_neg c29] at H
      have c29b0 : decide (x8_2 < a2) = false := decide_eq_false c29
      clear c29
      simp only [Option.some.injEq, Prod.mk.injEq] at H
      obtain ⟨rfl, rfl, rfl, rfl⟩ := H
      have hnb40 := NB471_461.out
      have hnc40 := NB461_471.out
      have hnb41 := NB471_462.out
      have hnc41 := NB462_471.out
      obtain ⟨⟨hcz42_0, hcz42_1, hcz42_2, hcz42_3⟩, hfz42_0, hfz42_1, hfz42_2, hfz42_3⟩ := cf4 BK471
      have hnb43 := NB462_461.out
      have hnc43 := NB461_462.out
      obtain ⟨⟨hcz44_0, hcz44_1, hcz44_2, hcz44_3⟩, hfz44_0, hfz44_1, hfz44_2, hfz44_3⟩ := cf4 BK462
      obtain ⟨Ao45, co45, rfl⟩ := sL HO_472003
      go_wp2
      refine bodyPost_ret (results_cell_row rfl _ _ gb462 26 #[.int .i64 t465, .int .i64 t466, .int .i64 t467, .slice Ao45 x472003_2.length co45] (0, 0) _ rfl (by exact bP BK462.out) Try.underlying26 rfl (by kernel_rfl)) rfl ?_
      exact ⟨_, qX, by refine qR ?_; exact Kd.R_mono (rT HO_472003 BK462) (fun _ hk => trivial), by exact qW HB.out⟩
     rw [if_pos c29] at H
     have c29b0 : decide (x8_2 < a2) = true := decide_eq_true c29
     clear c29
     have H' := aM H
     clear H
     go_wp2
     go_loopg [9] k2 (fun kq v9 w' => ∃ (x9_3 : Int) (x472003_3 : List Int) (u472003 : Value), v9 = .int .i64 x9_3 ∧ Aside0 (spec_ScaleNearest.l1 kq a1 a2 x8_2 x9_3 a0_0 a0_1 a0_2 l0_3 t465 t466 t467 x472003_3 = some (r1, r2, r3, r4)) ∧ Aside0 (kq ≤ k2) ∧ Aside0 (Kd.R (Kd.int .i64) 3 w' w.heap.size (fun _ => True) u472003 x472003_3) ∧ Aside0 (w'.heap[gb461]? = some (.cells #[.int .i64 a0_0, .int .i64 a0_1, .int .i64 a0_2, (.slice A0_3 l0_3.length c0_3)] 26 (0, 0))) ∧ Aside0 (w'.heap[gb462]? = some (.cells #[.int .i64 0, .int .i64 0, .int .i64 0, (.slice none 0 0)] 26 (0, 0))) ∧ Aside0 (w'.heap[gb471]? = some (.cells #[.int .i64 t465, .int .i64 t466, .int .i64 t467, u472003] 26 (0, 0))) ∧ Aside0 (Below w.heap.size w w'))
     case atStart => exact ⟨(0), (x472003_2), (u472003), qE, H', ⟨Nat.le_refl _⟩, ⟨by refine qR ?_; exact HO_472003.out⟩, ⟨by refine qB ?_; exact BK461.out⟩, ⟨by refine qB ?_; exact BK462.out⟩, ⟨by refine qB ?_; exact BK471.out⟩, ⟨by exact qW HB.out⟩⟩
     case round =>
      clear H'
      try clear c8
      try clear c17
      try clear c29
      try clear c29b0
      try clear hcz11_0 hcz11_1 hcz11_2 hcz11_3 hfz11_0 hfz11_1 hfz11_2 hfz11_3
      try clear hcz13_0 hcz13_1 hcz13_2 hcz13_3 hfz13_0 hfz13_1 hfz13_2 hfz13_3
      try clear hcz15_0 hcz15_1 hcz15_2 hcz15_3 hfz15_0 hfz15_1 hfz15_2 hfz15_3
      try clear hcz19_0 hcz19_1 hcz19_2 hcz19_3 hfz19_0 hfz19_1 hfz19_2 hfz19_3
      try clear hcz22_0 hcz22_1 hcz22_2 hcz22_3 hfz22_0 hfz22_1 hfz22_2 hfz22_3
      try clear hcz27_0 hcz27_1 hcz27_2 hcz27_3 hfz27_0 hfz27_1 hfz27_2 hfz27_3
      obtain ⟨x9_3, x472003_3, u472003, rfl, HA, HK3, HO_472003, BK461, BK462, BK471, HB⟩ := hrel
      cases gk with
      | zero => exact absurd HA.out (by simp [spec_ScaleNearest.l1])
      | succ k3 =>
       have H := HA.out
       clear HA
       simp only [spec_ScaleNearest.l1] at H
       by_cases c30 : x9_3 < a1
       rotate_left
       ·rw [if_neg c30] at H
        have c30b0 : decide (x9_3 < a1) = false := decide_eq_false c30
        clear c30
        have H' := aM H
        clear H
        go_wp2
        go_roundg k3
        case measure => have := HJ3.out; have := HK2.out; have := HK3.out; omega
        case rel => exact ⟨(wrap64 (x8_2 + 1)), (x472003_3), (u472003), qE, H', ⟨by have := HJ3.out; have := HK2.out; have := HK3.out; omega⟩, ⟨by refine qR ?_; exact HO_472003.out⟩, ⟨by refine qB ?_; exact BK461.out⟩, ⟨by refine qB ?_; exact BK462.out⟩, ⟨by refine qB ?_; exact BK471.out⟩, ⟨by exact qW HB.out⟩⟩
       rw [if_pos c30] at H
       have c30b0 : decide (x9_3 < a1) = true := decide_eq_true c30
       clear c30
       by_cases c31 : a1 = 0
       ·rw [if_pos c31] at H
        exact absurd H (by simp)
       rw [if_neg c31] at H
       have c31b0 : (a1 == 0) = false := beq_eq_false_iff_ne.mpr c31
       have c31b1 : (a1 != 0) = true := bne_iff_ne.mpr c31
       by_cases c32 : a2 = 0
       ·rw [if_pos c32] at H
        exact absurd H (by simp)
       rw [if_neg c32] at H
       have c32b0 : (a2 == 0) = false := beq_eq_false_iff_ne.mpr c32
       have c32b1 : (a2 != 0) = true := bne_iff_ne.mpr c32
       replace H := Option.bind_eq_some_iff.mp H
       obtain ⟨t472, A330, H⟩ := H
       replace H : ((spec_setPixel.f k3 t465 t466 t467 x472003_3 x9_3 x8_2 t472).bind fun t475 => (spec_ScaleNearest.l1 k3 a1 a2 x8_2 (wrap64 (x9_3 + 1)) a0_0 a0_1 a0_2 l0_3 t465 t466 t467 t475)) = some (r1, r2, r3, r4) := H
       have A33 := aM A330
       clear A330
       replace H := Option.bind_eq_some_iff.mp H
       obtain ⟨t475, A340, H⟩ := H
       replace H : (spec_ScaleNearest.l1 k3 a1 a2 x8_2 (wrap64 (x9_3 + 1)) a0_0 a0_1 a0_2 l0_3 t465 t466 t467 t475) = some (r1, r2, r3, r4) := H
       have A34 := aM A340
       clear A340
       have H' := aM H
       clear H
       try go_wp2
       replace HO_472003 := aM (Kd.R_drew HO_472003.out)
       replace BK461 := aM (blk_drew BK461.out)
       replace BK462 := aM (blk_drew BK462.out)
       replace BK471 := aM (blk_drew BK471.out)
       replace HB := aM (below_drew1 HB.out)
       refine start_ (n := 18) (S := fun w' => w'.cell? ⟨gb471, 0, none⟩ = some (.int .i64 t465) ∧ w'.cell? ⟨gb471, 1, none⟩ = some (.int .i64 t466) ∧ w'.cell? ⟨gb471, 2, none⟩ = some (.int .i64 t467) ∧ w'.cell? ⟨gb471, 3, none⟩ = some (u472003) ∧ w'.cell? ⟨gb461, 0, none⟩ = some (.int .i64 a0_0) ∧ w'.cell? ⟨gb461, 1, none⟩ = some (.int .i64 a0_1) ∧ w'.cell? ⟨gb461, 2, none⟩ = some (.int .i64 a0_2) ∧ w'.cell? ⟨gb461, 3, none⟩ = some (.slice A0_3 l0_3.length c0_3)) (ds := []) (bA 18 0) (by kernel_rfl) rfl rfl ⟨(blk_cell BK471.out 0).trans rfl, (blk_cell BK471.out 1).trans rfl, (blk_cell BK471.out 2).trans rfl, (blk_cell BK471.out 3).trans rfl, (blk_cell BK461.out 0).trans rfl, (blk_cell BK461.out 1).trans rfl, (blk_cell BK461.out 2).trans rfl, (blk_cell BK461.out 3).trans rfl⟩ (fun hHeld => ?_); refine with_tabW spec_ScaleNearest.tab10 spec_ScaleNearest.bits10 (fun HT_ HW_ => ?_)
       generalize wr.drew = w35 at HO_472003 BK461 BK462 BK471 HB hHeld ⊢
       refine pQ 1 38 HT_ (bA 18 2) ?_
       refine pQ 2 39 HT_ (bA 18 6) ?_
       refine pQ 4 41 HT_ (bA 18 22) ?_
       refine pQ 5 42 HT_ (bA 18 54) ?_
       refine pQ 8 45 HT_ (bA 18 310) ?_
       refine pQ 10 47 HT_ (bA 18 1334) ?_
       refine pQ 11 48 HT_ (bA 18 3382) ?_
       refine pQ 14 51 HT_ (bA 18 19766) ?_
       refine take_ (i := 0) (N := some 37) (v := ?_) (a' := ?_) (bA 18 19767) rfl rfl (take_ofW HT_.out HW_.out (by kernel_rfl)) (fun _ _ _ h => h) (Or.inl ⟨by rfl, ?_⟩) hHeld ?_ ?_
       rotate_left
       ·rintro w' ⟨s0, s1, s2, s3, s4, s5, s6, s7⟩
        go_simp
        with_reducible rfl
       rotate_left
       ·refine pZ ?_
        rfl
       refine take_ (i := 3) (N := some 40) (v := ?_) (a' := ?_) (bA 18 19775) rfl rfl (take_ofW HT_.out HW_.out (by kernel_rfl)) (fun _ _ _ h => h) (Or.inl ⟨by rfl, ?_⟩) hHeld ?_ ?_
       rotate_left
       ·rintro w' ⟨s0, s1, s2, s3, s4, s5, s6, s7⟩
        go_simp
        with_reducible rfl
       rotate_left
       ·refine pZ ?_
        rfl
       refine take_ (i := 6) (N := some 43) (v := ?_) (a' := ?_) (bA 18 19839) rfl rfl (take_ofW HT_.out HW_.out (by kernel_rfl)) (fun _ _ _ h => h) (Or.inl ⟨by rfl, ?_⟩) hHeld ?_ ?_
       rotate_left
       ·rintro w' ⟨s0, s1, s2, s3, s4, s5, s6, s7⟩
        go_simp
        with_reducible rfl
       rotate_left
       ·refine pZ ?_
        rfl
       refine pQ 7 44 HT_ (bA 18 19967) ?_
       refine pQ 9 46 HT_ (bA 18 20479) ?_
       refine take_ (i := 12) (N := some 49) (v := ?_) (a' := ?_) (bA 18 24575) rfl rfl (take_ofW HT_.out HW_.out (by kernel_rfl)) (fun _ _ _ h => h) (Or.inl ⟨by rfl, ?_⟩) hHeld ?_ ?_
       rotate_left
       ·rintro w' ⟨s0, s1, s2, s3, s4, s5, s6, s7⟩
        go_simp
        with_reducible rfl
       rotate_left
       ·refine pZ ?_
        rfl
       refine pQ 13 50 HT_ (bA 18 32767) ?_
       refine pQ 15 52 HT_ (bA 18 65535) ?_
       refine one_ (i := 16) (N := some 53) (bA 18 131071) rfl rfl (one_of HT_.out (by kernel_rfl)) (by decide) (fun K hK => ?_)
       refine goes_ Try.func66 (by kernel_rfl) rfl #[.agg #[.int .i64 a0_0, .int .i64 a0_1, .int .i64 a0_2, .slice A0_3 l0_3.length c0_3], .int .i64 (wrap64 (Int.tdiv (wrap64 (x9_3 * a0_0)) a1)), .int .i64 (wrap64 (Int.tdiv (wrap64 (x8_2 * a0_1)) a2))] (by rfl) rfl rfl qM ?_
       with_reducible refine (spec_pixelAt.calls a0_0 a0_1 a0_2 _ _ l0_3 (wrap64 (Int.tdiv (wrap64 (x9_3 * a0_0)) a1)) (wrap64 (Int.tdiv (wrap64 (x8_2 * a0_1)) a2)) t472 _ ?side1 ?side2 A33.out).mono ?_
       (case side1 => exact qC (Kd.C_below HR0_3.out HB.out))
       (case side2 => exact HC0_3.out)
       rintro e w36 ⟨v473, rfl, ho0, hb⟩
       refine ⟨_, rfl, ?_⟩
       have HO474 := nR ho0 HO_472003 HB
       replace HO_472003 := aM (Kd.R_elder' (qR HO_472003.out) (Kd.R_base ho0) hb)
       replace BK461 := bB BK461 hb
       replace BK462 := bB BK462 hb
       replace BK471 := bB BK471 hb
       replace HB := bS HB hb
       (try clear hb)
       (try clear hb2)
       (try clear hk)
       (try clear hi)
       (try clear ho0)
       obtain ⟨Ao37, co37, eo37⟩ := Kd.R_slice HO_472003.out
       (first | subst eo37 | (injection eo37 with f1_ f2_ f3_; have f4_ := f1_.symm; have f5_ := f3_.symm; clear f1_ f2_ f3_; subst f4_; subst f5_))
       obtain ⟨Ao38, co38, eo38⟩ := Kd.R_slice HO474.out
       (first | subst eo38 | (injection eo38 with f1_ f2_ f3_; have f4_ := f1_.symm; have f5_ := f3_.symm; clear f1_ f2_ f3_; subst f4_; subst f5_))
       refine hK.out _ _ ⟨(blk_cell BK471.out 0).trans rfl, (blk_cell BK471.out 1).trans rfl, (blk_cell BK471.out 2).trans rfl, (blk_cell BK471.out 3).trans rfl, (blk_cell BK461.out 0).trans rfl, (blk_cell BK461.out 1).trans rfl, (blk_cell BK461.out 2).trans rfl, (blk_cell BK461.out 3).trans rfl⟩ (fun hHeld => ?_)
       clear hK K
       refine norm_ (a' := ?_) ?_ ?_
       rotate_left
       ·show Act.put _ (some 53) _ = _
        refine pZ ?_
        rfl
       refine one_ (i := 17) (N := some 54) (bA 18 262143) rfl rfl (one_of HT_.out (by kernel_rfl)) (by decide) (fun K hK => ?_)
       refine goes_ Try.func65 (by kernel_rfl) rfl #[.agg #[.int .i64 t465, .int .i64 t466, .int .i64 t467, .slice Ao37 x472003_3.length co37], .int .i64 x9_3, .int .i64 x8_2, .slice Ao38 t472.length co38] (by rfl) rfl rfl qM ?_
       with_reducible refine (spec_setPixel.calls k3 t465 t466 t467 (fun k_ => some k_ = (.slice Ao37 x472003_3.length co37 : Value).ownBlock) (.slice Ao37 x472003_3.length co37) x472003_3 x9_3 x8_2 _ _ t472 t475 w _ ?side1 ?side2 ?side3 ?side4 A34.out).mono ?_
       (case side1 => exact qW HB.out)
       (case side2 => exact Kd.R_tight rfl HO_472003.out)
       (case side3 => exact Kd.C_kept_own (HO474.out) (fun k_ hk_ hs_ => (hk_.2) hs_))
       (case side4 => exact (Kd.R_reads' HO474.out).2.1)
       rintro e w39 ⟨rfl, hy0, hb, hkp⟩
       refine ⟨_, rfl, ?_⟩
       replace BK461 := aM (blk_kept (qB BK461.out) hkp (fun hs_ => (fun e_ => (Kd.R_ne HO_472003.out BK461.out (by decide)) e_) hs_))
       replace BK462 := aM (blk_kept (qB BK462.out) hkp (fun hs_ => (fun e_ => (Kd.R_ne HO_472003.out BK462.out (by decide)) e_) hs_))
       replace BK471 := aM (blk_kept (qB BK471.out) hkp (fun hs_ => (fun e_ => (Kd.R_ne HO_472003.out BK471.out (by decide)) e_) hs_))
       replace HO_472003 := aM (Kd.R_reok rfl hy0 (fun k_ e_ => HO_472003.out.1 k_ e_))
       replace HO474 := aM (Kd.R_mono (ok' := fun k_ => some k_ ≠ (.slice Ao37 x472003_3.length co37 : Value).ownBlock) (Kd.R_keptB (HO474.out) hkp (fun k_ hk_ hs_ => (hk_.2) hs_)) (fun k_ hk_ => hk_.1.2))
       replace HB := aM (hb)
       (try clear hb)
       (try clear hkp)
       (try clear hy0)
       refine hK.out _ _ ⟨(blk_cell BK471.out 0).trans rfl, (blk_cell BK471.out 1).trans rfl, (blk_cell BK471.out 2).trans rfl, (blk_cell BK471.out 3).trans rfl, (blk_cell BK461.out 0).trans rfl, (blk_cell BK461.out 1).trans rfl, (blk_cell BK461.out 2).trans rfl, (blk_cell BK461.out 3).trans rfl⟩ (fun hHeld => ?_)
       clear hK K
       refine norm_ (a' := ?_) ?_ ?_
       rotate_left
       ·show Act.put _ (some 54) _ = _
        refine pZ ?_
        rfl
       refine done_ (done_of HT_.out (by kernel_rfl)) ?_
       try go_wp2
       go_roundg k3
       case measure => have := HJ3.out; have := HK2.out; have := HK3.out; omega
       case rel => exact ⟨(wrap64 (x9_3 + 1)), (t475), (.slice Ao37 x472003_3.length co37), qE, H', ⟨by have := HJ3.out; have := HK2.out; have := HK3.out; omega⟩, ⟨by refine qR ?_; exact Kd.R_mono HO_472003.out (fun _ hk => trivial)⟩, ⟨by refine qB ?_; exact BK461.out⟩, ⟨by refine qB ?_; exact BK462.out⟩, ⟨by refine qB ?_; exact BK471.out⟩, ⟨by exact qW HB.out⟩⟩
set_option maxHeartbeats 8000000 in
set_option maxRecDepth 100000 in
theorem scaleNearestPix (w : World) (B1 B2 B3 : Nat) (a0 a1 a2 : Int) (A : Option Addr) (c : Nat) (l : List Int) (n m : Int)
  (b1 : w.heap[B1]? = some (.cells #[.int .i64 a0, .int .i64 a1, .int .i64 a2, .slice A l.length c] 26 (0, 0))) (b2 : w.heap[B2]? = some (.cells #[.int .i64 n] 3 (0, 0))) (b3 : w.heap[B3]? = some (.cells #[.int .i64 m] 3 (0, 0)))
  (hr : Kd.C (Kd.int .i64) w A l.length l) (hc : l.length ≤ c) (V : ImgOk a0 a1 a2 l) (hn : 1 ≤ n) (hn' : n ≤ 16) (hm : 1 ≤ m) (hm' : m ≤ 16) :
  PixAt 67 #[.pointer (some ⟨B1, 0, none⟩), .pointer (some ⟨B2, 0, none⟩), .pointer (some ⟨B3, 0, none⟩)] (fun x y => pixOf l a0 a2 (x * a0 / n) (y * a1 / m)) n m w := fun W x y hb hx hx' hy hy' => by
 obtain ⟨⟨v0, v0'⟩, ⟨v1, v1'⟩, ⟨v2, v2'⟩, hlen, _⟩ := V
 obtain ⟨p1, p2, p3, p4, p5⟩ := scaled hx hx' (a := a0) (by omega) v0' hn'
 obtain ⟨q1, q2, q3, q4, q5⟩ := scaled hy hy' (a := a1) (by omega) v1' hm'
 have hfit := pix_fits (a0 := a0) (a1 := a1) (a2 := a2) (x := x * a0 / n) (y := y * a1 / m) (by omega) (by omega) (p4 v0) q3 (q4 v1)
 rw [← hlen] at hfit
 have BK1 := aM (blk_below b1 hb)
 have BK2 := aM (blk_below b2 hb)
 have BK3 := aM (blk_below b3 hb)
 have hcall := fun (W' : World) (hb' : Below W.heap.size W W') => impl_at.calls a0 a1 a2 A c l (x * a0 / n) (y * a1 / m) W' (Kd.C_below (Kd.C_below hr hb) hb') hc (by omega) v0' (by omega) (by omega) p3 (by omega) q3 (by omega) hfit
 have HC := aM hcall
 have hn0 : ¬ n = 0 := by omega
 have hm0 : ¬ m = 0 := by omega
 clear hcall hfit hlen hr hc b1 b2 b3 hb
 have hz1_0 : W.cell? ⟨B1, 0, none⟩ = some (.int .i64 a0) := (blk_cell BK1.out 0).trans rfl
 have hz1_1 : W.cell? ⟨B1, 1, none⟩ = some (.int .i64 a1) := (blk_cell BK1.out 1).trans rfl
 have hz1_2 : W.cell? ⟨B1, 2, none⟩ = some (.int .i64 a2) := (blk_cell BK1.out 2).trans rfl
 have hz1_3 : W.cell? ⟨B1, 3, none⟩ = some (.slice A l.length c) := (blk_cell BK1.out 3).trans rfl
 have hz2 : W.cell? ⟨B2, 0, none⟩ = some (.int .i64 n) := (blk_cell BK2.out 0).trans rfl
 have hz3 : W.cell? ⟨B3, 0, none⟩ = some (.int .i64 m) := (blk_cell BK3.out 0).trans rfl
 have HB := aM (Below.refl W.heap.size W)
 dsimp only
 generalize pixOf l a0 a2 (x * a0 / n) (y * a1 / m) = px at HC ⊢
 go_enter Try.func67, Try.ntmps67
 go_wp2
 go_still_tail 13, (by kernel_rfl)
 change wpList _ _ _ _ _ W.drew
 have hd : Below W.heap.size W W.drew := below_drew (Below.refl _ _)
 have HD := aM hd
 clear hd
 generalize W.drew = w2 at HD ⊢
 go_wp2_with (go_at_call 51; refine (HC.out _ HD.out).mono ?_; rintro e w' ⟨A', c', rfl, hr', hl', hb'⟩)
 go_ret
 exact ⟨A', c', rfl, hr', hl', HD.out.trans (hb'.mono HD.out.size)⟩
end Go.Proofs.Ytnamhlcdlbjcfaa.P
