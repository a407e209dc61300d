/- Contracts and row, written by a program of this place out of the translation: the call answers true and its argument reads as before, for every input; no condition. -/
import Derived.Test.YtchahbdmdcllaaaK0
import Derived.Test.YtchahbdmdcllaaaK1
namespace Go.Proofs.Ytchahbdmdcllaaa.P
open Go.RowKit Go.Proofs.YtchahbdmdcllaaaW.PrintWords Go.Proofs.YtchahbdmdcllaaaW.PrintLast Go.Proofs.YtchahbdmdcllaaaW.PrintMore
attribute [local go_sem] max2_int min2_int max_two min_two max_three min_three max_four min_four   -- for this text's walks alone
set_option linter.unusedVariables false
set_option linter.unusedSimpArgs false

/-! ### impl_expandTokens: function 44 -/
mutual
def impl_expandTokens.l0 : Nat → List Int → List (S54) → Int → Int → Option (List Int × Bool)
 | 0, _, _, _, _ => none
 | k + 1, x4, x8, x9, x10 => if x10 < x9 then (if 0 ≤ x10 then (if x10 < (x8.length : Int) then (if ((rd_T54 x8 x10).f1) = 0 then (if ((rd_T54 x8 x10).f2) = 0 then (if ((rd_T54 x8 x10).f0) ≥ 0 then (impl_expandTokens.j1 k x4 x8 x9 x10 (decide (((rd_T54 x8 x10).f0) ≤ 255)) ((rd_T54 x8 x10).f0) ((rd_T54 x8 x10).f1) ((rd_T54 x8 x10).f2)) else (impl_expandTokens.j1 k x4 x8 x9 x10 false ((rd_T54 x8 x10).f0) ((rd_T54 x8 x10).f1) ((rd_T54 x8 x10).f2))) else (impl_expandTokens.j1 k x4 x8 x9 x10 false ((rd_T54 x8 x10).f0) ((rd_T54 x8 x10).f1) ((rd_T54 x8 x10).f2))) else (impl_expandTokens.j1 k x4 x8 x9 x10 false ((rd_T54 x8 x10).f0) ((rd_T54 x8 x10).f1) ((rd_T54 x8 x10).f2))) else (none)) else (none)) else (some (x4, true))
def impl_expandTokens.j1 : Nat → List Int → List (S54) → Int → Int → Bool → Int → Int → Int → Option (List Int × Bool)
 | 0, _, _, _, _, _, _, _, _ => none
 | k + 1, x4, x8, x9, x10, x14, x350000, x350001, x350002 => if x14 = true then (if x4.length < 17592186044416 then ((some (x4 ++ [x350000] : List Int)).bind fun y350 => (if (y350.length : Int) > 1200 then (some (([] : List Int), false)) else (impl_expandTokens.l0 k y350 x8 x9 (wrap64 (x10 + 1))))) else (none)) else (if x350000 = 0 then (if x350001 ≥ 3 then (if x350001 ≤ 18 then (if x350002 ≥ 1 then (if x350002 ≤ 64 then (impl_expandTokens.j2 k x4 x8 x9 x10 (decide (x350002 ≤ (x4.length : Int))) x350000 x350001 x350002) else (impl_expandTokens.j2 k x4 x8 x9 x10 false x350000 x350001 x350002)) else (impl_expandTokens.j2 k x4 x8 x9 x10 false x350000 x350001 x350002)) else (impl_expandTokens.j2 k x4 x8 x9 x10 false x350000 x350001 x350002)) else (impl_expandTokens.j2 k x4 x8 x9 x10 false x350000 x350001 x350002)) else (impl_expandTokens.j2 k x4 x8 x9 x10 false x350000 x350001 x350002))
def impl_expandTokens.j2 : Nat → List Int → List (S54) → Int → Int → Bool → Int → Int → Int → Option (List Int × Bool)
 | 0, _, _, _, _, _, _, _, _ => none
 | k + 1, x4, x8, x9, x10, x38, x350000, x350001, x350002 => if x38 = true then (impl_expandTokens.l1 k x4 x8 x9 x10 x350001 0 x350000 x350001 x350002) else (some (([] : List Int), false))
def impl_expandTokens.l1 : Nat → List Int → List (S54) → Int → Int → Int → Int → Int → Int → Int → Option (List Int × Bool)
 | 0, _, _, _, _, _, _, _, _, _ => none
 | k + 1, x4, x8, x9, x10, x70, x71, x350000, x350001, x350002 => if x71 < x70 then (if 0 ≤ (wrap64 ((x4.length : Int) - x350002)) then (if (wrap64 ((x4.length : Int) - x350002)) < (x4.length : Int) then (if x4.length < 17592186044416 then (impl_expandTokens.l1 k (x4 ++ [rd x4 (wrap64 ((x4.length : Int) - x350002))]) x8 x9 x10 x70 (wrap64 (x71 + 1)) x350000 x350001 x350002) else (none)) else (none)) else (none)) else (if (x4.length : Int) > 1200 then (some (([] : List Int), false)) else (impl_expandTokens.l0 k x4 x8 x9 (wrap64 (x10 + 1))))
end
def impl_expandTokens.f (k : Nat) (l0 : List (S54)) : Option (List Int × Bool) := impl_expandTokens.l0 k (([] : List Int)) l0 (l0.length : Int) 0
theorem impl_expandTokens.mono_l : ∀ k, (∀ y0 y1 y2 y3, LeO (impl_expandTokens.l0 k y0 y1 y2 y3) (impl_expandTokens.l0 (k + 1) y0 y1 y2 y3)) ∧ (∀ y0 y1 y2 y3 y4 y5 y6 y7, LeO (impl_expandTokens.j1 k y0 y1 y2 y3 y4 y5 y6 y7) (impl_expandTokens.j1 (k + 1) y0 y1 y2 y3 y4 y5 y6 y7)) ∧ (∀ y0 y1 y2 y3 y4 y5 y6 y7, LeO (impl_expandTokens.j2 k y0 y1 y2 y3 y4 y5 y6 y7) (impl_expandTokens.j2 (k + 1) y0 y1 y2 y3 y4 y5 y6 y7)) ∧ (∀ y0 y1 y2 y3 y4 y5 y6 y7 y8, LeO (impl_expandTokens.l1 k y0 y1 y2 y3 y4 y5 y6 y7 y8) (impl_expandTokens.l1 (k + 1) y0 y1 y2 y3 y4 y5 y6 y7 y8))
 | 0 => ⟨fun _ _ _ _ r h => by simp [impl_expandTokens.l0] at h, fun _ _ _ _ _ _ _ _ r h => by simp [impl_expandTokens.j1] at h, fun _ _ _ _ _ _ _ _ r h => by simp [impl_expandTokens.j2] at h, fun _ _ _ _ _ _ _ _ _ r h => by simp [impl_expandTokens.l1] at h⟩
 | k + 1 => by
  obtain ⟨ih0, ih1, ih2, ih3⟩ := impl_expandTokens.mono_l k
  refine ⟨?_, ?_, ?_, ?_⟩
  ·
   intro y0 y1 y2 y3
   unfold impl_expandTokens.l0
   repeat' first
   | (with_reducible exact ih0 _ _ _ _)
   | (with_reducible exact ih1 _ _ _ _ _ _ _ _)
   | (with_reducible exact ih2 _ _ _ _ _ _ _ _)
   | (with_reducible exact ih3 _ _ _ _ _ _ _ _ _)
   | (with_reducible exact LeO.refl _)
   | (with_reducible exact LeO.none _)
   | (with_reducible refine LeO.ite ?_ ?_)
   | (with_reducible refine LeO.bind ?_ (fun _ => ?_))
   | exact ih0 _ _ _ _
   | exact ih1 _ _ _ _ _ _ _ _
   | exact ih2 _ _ _ _ _ _ _ _
   | exact ih3 _ _ _ _ _ _ _ _ _
   | exact LeO.none _
   | refine LeO.ite ?_ ?_
   | refine LeO.bind ?_ (fun _ => ?_)
  ·
   intro y0 y1 y2 y3 y4 y5 y6 y7
   unfold impl_expandTokens.j1
   repeat' first
   | (with_reducible exact ih0 _ _ _ _)
   | (with_reducible exact ih1 _ _ _ _ _ _ _ _)
   | (with_reducible exact ih2 _ _ _ _ _ _ _ _)
   | (with_reducible exact ih3 _ _ _ _ _ _ _ _ _)
   | (with_reducible exact LeO.refl _)
   | (with_reducible exact LeO.none _)
   | (with_reducible refine LeO.ite ?_ ?_)
   | (with_reducible refine LeO.bind ?_ (fun _ => ?_))
   | exact ih0 _ _ _ _
   | exact ih1 _ _ _ _ _ _ _ _
   | exact ih2 _ _ _ _ _ _ _ _
   | exact ih3 _ _ _ _ _ _ _ _ _
   | exact LeO.none _
   | refine LeO.ite ?_ ?_
   | refine LeO.bind ?_ (fun _ => ?_)
  ·
   intro y0 y1 y2 y3 y4 y5 y6 y7
   unfold impl_expandTokens.j2
   repeat' first
   | (with_reducible exact ih0 _ _ _ _)
   | (with_reducible exact ih1 _ _ _ _ _ _ _ _)
   | (with_reducible exact ih2 _ _ _ _ _ _ _ _)
   | (with_reducible exact ih3 _ _ _ _ _ _ _ _ _)
   | (with_reducible exact LeO.refl _)
   | (with_reducible exact LeO.none _)
   | (with_reducible refine LeO.ite ?_ ?_)
   | (with_reducible refine LeO.bind ?_ (fun _ => ?_))
   | exact ih0 _ _ _ _
   | exact ih1 _ _ _ _ _ _ _ _
   | exact ih2 _ _ _ _ _ _ _ _
   | exact ih3 _ _ _ _ _ _ _ _ _
   | exact LeO.none _
   | refine LeO.ite ?_ ?_
   | refine LeO.bind ?_ (fun _ => ?_)
  ·
   intro y0 y1 y2 y3 y4 y5 y6 y7 y8
   unfold impl_expandTokens.l1
   repeat' first
   | (with_reducible exact ih0 _ _ _ _)
   | (with_reducible exact ih1 _ _ _ _ _ _ _ _)
   | (with_reducible exact ih2 _ _ _ _ _ _ _ _)
   | (with_reducible exact ih3 _ _ _ _ _ _ _ _ _)
   | (with_reducible exact LeO.refl _)
   | (with_reducible exact LeO.none _)
   | (with_reducible refine LeO.ite ?_ ?_)
   | (with_reducible refine LeO.bind ?_ (fun _ => ?_))
   | exact ih0 _ _ _ _
   | exact ih1 _ _ _ _ _ _ _ _
   | exact ih2 _ _ _ _ _ _ _ _
   | exact ih3 _ _ _ _ _ _ _ _ _
   | exact LeO.none _
   | refine LeO.ite ?_ ?_
   | refine LeO.bind ?_ (fun _ => ?_)
theorem impl_expandTokens.mono : ∀ a0 k, LeO (impl_expandTokens.f k a0) (impl_expandTokens.f (k + 1) a0) := by
 intro a0 k
 obtain ⟨ih0, ih1, ih2, ih3⟩ := impl_expandTokens.mono_l k
 unfold impl_expandTokens.f
 repeat' first
   | (with_reducible exact ih0 _ _ _ _)
   | (with_reducible exact ih1 _ _ _ _ _ _ _ _)
   | (with_reducible exact ih2 _ _ _ _ _ _ _ _)
   | (with_reducible exact ih3 _ _ _ _ _ _ _ _ _)
   | (with_reducible exact LeO.refl _)
   | (with_reducible exact LeO.none _)
   | (with_reducible refine LeO.ite ?_ ?_)
   | (with_reducible refine LeO.bind ?_ (fun _ => ?_))
   | exact ih0 _ _ _ _
   | exact ih1 _ _ _ _ _ _ _ _
   | exact ih2 _ _ _ _ _ _ _ _
   | exact ih3 _ _ _ _ _ _ _ _ _
   | exact LeO.none _
   | refine LeO.ite ?_ ?_
   | refine LeO.bind ?_ (fun _ => ?_)
set_option maxHeartbeats 8000000 in
set_option maxRecDepth 100000 in
theorem impl_expandTokens.calls (k : Nat) (A0 : Option Addr) (c0 : Nat) (l0 : List (S54)) (r1 : List Int) (r2 : Bool) (w : World) (hr0 : Kd.C k54 w A0 l0.length l0) (hc0 : l0.length ≤ c0) (h : impl_expandTokens.f k l0 = some (r1, r2)) :
  Calls Try.prog 44 #[.slice A0 l0.length c0] w fun e w' => ∃ v0_ : Value, e = .returned (.tuple #[v0_, .bool r2]) ∧ Kd.R (Kd.int .i64) 3 w' w.heap.size (fun _ => True) v0_ r1 ∧ Below w.heap.size w w' := by
 have hu54 := Try.underlying54
 have HR0 := aM hr0
 have HC0 := aM hc0
 clear hr0 hc0
 have HB := aM (Below.refl w.heap.size w)
 have H : (impl_expandTokens.l0 k (([] : List Int)) l0 (l0.length : Int) 0) = some (r1, r2) := h
 clear h
 obtain ⟨y345, hy345⟩ : ∃ y_ : List Int, y_ = (([] : List Int)) := ⟨_, rfl⟩
 replace H : (impl_expandTokens.l0 k y345 l0 (l0.length : Int) 0) = some (r1, r2) := rY hy345 H
 have Ny345 := aM hy345
 clear hy345
 have H' := aM H
 clear H
 go_enter Try.func44, Try.ntmps44
 go_wp2_with (first | ((with_reducible refine gate_dst (N := 7) rfl ?_); (try (refine gate_guard (by rfl) ?_; dsimp only)); refine Kd.R_lit (Kd.int .i64) _ 3 ?hg (N := 7) ?hd (xs := ([] : List Int)) (inner := []) (ok := fun _ => True) (okp := fun _ => True) ?hr ?hp (fun _ hk => hk) trivial (Below.refl _ _) (Nat.le_refl _) (by simp) ?_; (case hd => rfl); (case hg => rfl); (case hr => first | (go_simp; done) | (go_simp; rfl)); (case hp => exact (Reps.none _ _)); intro v346 w2 ho3 hb hg_ hnew_; clear hg_ hnew_; (first | rw [← Ny345.out] at ho3 | (simp only [Int.reduceToNat] at ho3; rw [← Ny345.out] at ho3)); have HO347 := aM (Kd.R_lower ho3 (below_size (qW HB.out))); replace HB := aM (below_step (qW HB.out) hb); clear hb ho3))
 go_loopg [4, 10] k (fun kq v4 v10 w' => ∃ (x4_1 : List Int) (x10_1 : Int), v10 = .int .i64 x10_1 ∧ Aside0 (impl_expandTokens.l0 kq x4_1 l0 (l0.length : Int) x10_1 = some (r1, r2)) ∧ Aside0 (kq ≤ k) ∧ Aside0 (Kd.R (Kd.int .i64) 3 w' w.heap.size (fun _ => True) v4 x4_1) ∧ Aside0 (Below w.heap.size w w'))
 case atStart => exact ⟨(y345), (0), qE, H', ⟨Nat.le_refl _⟩, ⟨by refine qR ?_; exact HO347.out⟩, ⟨by exact qW HB.out⟩⟩
 case round =>
  clear H'
  try clear p2
  obtain ⟨x4_1, x10_1, rfl, HA, HK1, HO_4, HB⟩ := hrel
  cases gk with
  | zero => exact absurd HA.out (by simp [impl_expandTokens.l0])
  | succ k1 =>
   have H := HA.out
   clear HA
   simp only [impl_expandTokens.l0] at H
   by_cases c4 : x10_1 < (l0.length : Int)
   rotate_left
   ·
    rw [if_neg c4] at H
    have c4b0 : decide (x10_1 < (l0.length : Int)) = false := decide_eq_false c4
    clear c4
    simp only [Option.some.injEq, Prod.mk.injEq] at H
    obtain ⟨rfl, rfl⟩ := H
    go_wp2
    go_ret2
    exact ⟨_, qX, by refine qR ?_; exact HO_4.out, by exact qW HB.out⟩
   rw [if_pos c4] at H
   have c4b0 : decide (x10_1 < (l0.length : Int)) = true := decide_eq_true c4
   clear c4
   by_cases c5 : 0 ≤ x10_1
   rotate_left
   ·
    rw [if_neg c5] at H
    exact absurd H (by simp)
   rw [if_pos c5] at H
   have c5b0 : decide (0 ≤ x10_1) = true := decide_eq_true c5
   clear c5
   by_cases c6 : x10_1 < (l0.length : Int)
   rotate_left
   ·
    rw [if_neg c6] at H
    exact absurd H (by simp)
   rw [if_pos c6] at H
   have c6b0 : decide (x10_1 < (l0.length : Int)) = true := decide_eq_true c6
   clear c6
   have HC7 := aM H
   clear H
   have p348 : 0 ≤ (x10_1 : Int) := oD
   have q348 : x10_1 < (l0.length : Int) := oD
   obtain ⟨ad348, e348, hx348_0, hx348_1, hx348_2⟩ := at_T54 HR0.out x10_1 p348 q348
   cases e348
   replace hx348_0 := bD HB hx348_0
   replace hx348_1 := bD HB hx348_1
   replace hx348_2 := bD HB hx348_2
   replace p348 := eq_true p348
   replace q348 := eq_true q348
   go_upto_region 6 with (first | ((with_reducible refine gate_dst (N := 6) rfl ?_); (try (refine gate_guard (by rfl) ?_; dsimp only)); refine box_event ?hg (N := 6) ?hd (cs := #[.int .i64 0, .int .i64 0, .int .i64 0]) (t := 54) ?hr ?_; (case hd => rfl); (case hg => rfl); (case hr => first | (go_simp; done) | (go_simp; rfl)); intro gb349 hg w8 hbox hb; replace HO_4 := aM (Kd.R_below (qR HO_4.out) hb); have BK349 := aM (hbox); have GW349 := aM ((by rw [hg]; exact (below_size (qW HB.out)) : w.heap.size ≤ gb349)); have GE349 := aM ((by rw [hg]; exact (below_size (qW HB.out)) : w.heap.size ≤ gb349)); replace HB := aM (below_step (qW HB.out) hb); clear hb hbox hg; obtain ⟨hcz9_0, hcz9_1, hcz9_2⟩ := cz3 BK349.out; obtain ⟨hfz9_0, hfz9_1, hfz9_2⟩ := fz3 BK349.out))
   (try simp only [Act.put, List.setIfInBounds_toArray, List.set_cons_zero, List.set_cons_succ])
   go_cut [14] (fun v14 wc => ∃ (kq : Nat) (x14_6 : Bool), v14 = .bool x14_6 ∧ Aside0 (impl_expandTokens.j1 kq x4_1 l0 (l0.length : Int) x10_1 x14_6 ((rd_T54 l0 x10_1).f0) ((rd_T54 l0 x10_1).f1) ((rd_T54 l0 x10_1).f2) = some (r1, r2)) ∧ Aside0 (kq ≤ k1) ∧ Aside0 (Kd.R (Kd.int .i64) 3 wc w.heap.size (fun _ => True) u4 x4_1) ∧ Aside0 (wc.heap[gb349]? = some (.cells #[.int .i64 ((rd_T54 l0 x10_1).f0), .int .i64 ((rd_T54 l0 x10_1).f1), .int .i64 ((rd_T54 l0 x10_1).f2)] 54 (0, 0))) ∧ Aside0 (Below w.heap.size w wc))
   case first =>
    have H := HC7.out
    clear HC7
    by_cases c10 : ((rd_T54 l0 x10_1).f1) = 0
    rotate_left
    ·
     rw [if_neg c10] at H
     have c10b0 : (((rd_T54 l0 x10_1).f1) == 0) = false := beq_eq_false_iff_ne.mpr c10
     have c10b1 : (((rd_T54 l0 x10_1).f1) != 0) = true := bne_iff_ne.mpr c10
     (first | rw [c10b0] | (simp only [i64_w, i32_w]; rw [c10b0]) | skip)
     have H' := aM H
     clear H
     obtain ⟨hcz16_0, hcz16_1, hcz16_2⟩ := cz3 BK349.out
     obtain ⟨hfz16_0, hfz16_1, hfz16_2⟩ := fz3 BK349.out
     go_wp2
     go_meet
     case rel => exact ⟨_, (false), qE, H', ⟨by have := HK1.out; first | omega | exact Nat.le_refl _⟩, ⟨by refine qR ?_; exact Kd.R_mono (Kd.R_far (p := ⟨gb349, 2, none⟩) (Kd.R_far (p := ⟨gb349, 1, none⟩) (Kd.R_far (p := ⟨gb349, 0, none⟩) (Kd.R_types HO_4.out BK349.out (by decide)) (fun _ hk => hk.2) (.int .i64 ((rd_T54 l0 x10_1).f0))) (fun _ hk => hk.2) (.int .i64 ((rd_T54 l0 x10_1).f1))) (fun _ hk => hk.2) (.int .i64 ((rd_T54 l0 x10_1).f2))) (fun _ hk => trivial)⟩, ⟨by refine qB ?_; refine blk_put (cs := #[.int .i64 ((rd_T54 l0 x10_1).f0), .int .i64 ((rd_T54 l0 x10_1).f1), .int .i64 0]) ?_ 2 _ rfl; refine qB ?_; refine blk_put (cs := #[.int .i64 ((rd_T54 l0 x10_1).f0), .int .i64 0, .int .i64 0]) ?_ 1 _ rfl; refine qB ?_; refine blk_put (cs := #[.int .i64 0, .int .i64 0, .int .i64 0]) ?_ 0 _ rfl; refine qB ?_; exact BK349.out⟩, ⟨by exact qW HB.out⟩⟩
    rw [if_pos c10] at H
    have c10b0 : (((rd_T54 l0 x10_1).f1) == 0) = true := beq_iff_eq.mpr c10
    have c10b1 : (((rd_T54 l0 x10_1).f1) != 0) = false := bne_eq_false_iff_eq.mpr c10
    clear c10
    (first | rw [c10b0] | (simp only [i64_w, i32_w]; rw [c10b0]) | skip)
    by_cases c11 : ((rd_T54 l0 x10_1).f2) = 0
    rotate_left
    ·
     rw [if_neg c11] at H
     have c11b0 : (((rd_T54 l0 x10_1).f2) == 0) = false := beq_eq_false_iff_ne.mpr c11
     have c11b1 : (((rd_T54 l0 x10_1).f2) != 0) = true := bne_iff_ne.mpr c11
     have H' := aM H
     clear H
     obtain ⟨hcz15_0, hcz15_1, hcz15_2⟩ := cz3 BK349.out
     obtain ⟨hfz15_0, hfz15_1, hfz15_2⟩ := fz3 BK349.out
     go_wp2
     go_meet
     case rel => exact ⟨_, (false), qE, H', ⟨by have := HK1.out; first | omega | exact Nat.le_refl _⟩, ⟨by refine qR ?_; exact Kd.R_mono (Kd.R_far (p := ⟨gb349, 2, none⟩) (Kd.R_far (p := ⟨gb349, 1, none⟩) (Kd.R_far (p := ⟨gb349, 0, none⟩) (Kd.R_types HO_4.out BK349.out (by decide)) (fun _ hk => hk.2) (.int .i64 ((rd_T54 l0 x10_1).f0))) (fun _ hk => hk.2) (.int .i64 ((rd_T54 l0 x10_1).f1))) (fun _ hk => hk.2) (.int .i64 ((rd_T54 l0 x10_1).f2))) (fun _ hk => trivial)⟩, ⟨by refine qB ?_; refine blk_put (cs := #[.int .i64 ((rd_T54 l0 x10_1).f0), .int .i64 ((rd_T54 l0 x10_1).f1), .int .i64 0]) ?_ 2 _ rfl; refine qB ?_; refine blk_put (cs := #[.int .i64 ((rd_T54 l0 x10_1).f0), .int .i64 0, .int .i64 0]) ?_ 1 _ rfl; refine qB ?_; refine blk_put (cs := #[.int .i64 0, .int .i64 0, .int .i64 0]) ?_ 0 _ rfl; refine qB ?_; exact BK349.out⟩, ⟨by exact qW HB.out⟩⟩
    rw [if_pos c11] at H
    have c11b0 : (((rd_T54 l0 x10_1).f2) == 0) = true := beq_iff_eq.mpr c11
    have c11b1 : (((rd_T54 l0 x10_1).f2) != 0) = false := bne_eq_false_iff_eq.mpr c11
    clear c11
    by_cases c12 : ((rd_T54 l0 x10_1).f0) ≥ 0
    rotate_left
    ·
     rw [if_neg c12] at H
     have c12b0 : decide (0 ≤ ((rd_T54 l0 x10_1).f0)) = false := decide_eq_false c12
     clear c12
     have H' := aM H
     clear H
     obtain ⟨hcz14_0, hcz14_1, hcz14_2⟩ := cz3 BK349.out
     obtain ⟨hfz14_0, hfz14_1, hfz14_2⟩ := fz3 BK349.out
     go_wp2
     go_meet
     case rel => exact ⟨_, (false), qE, H', ⟨by have := HK1.out; first | omega | exact Nat.le_refl _⟩, ⟨by refine qR ?_; exact Kd.R_mono (Kd.R_far (p := ⟨gb349, 2, none⟩) (Kd.R_far (p := ⟨gb349, 1, none⟩) (Kd.R_far (p := ⟨gb349, 0, none⟩) (Kd.R_types HO_4.out BK349.out (by decide)) (fun _ hk => hk.2) (.int .i64 ((rd_T54 l0 x10_1).f0))) (fun _ hk => hk.2) (.int .i64 ((rd_T54 l0 x10_1).f1))) (fun _ hk => hk.2) (.int .i64 ((rd_T54 l0 x10_1).f2))) (fun _ hk => trivial)⟩, ⟨by refine qB ?_; refine blk_put (cs := #[.int .i64 ((rd_T54 l0 x10_1).f0), .int .i64 ((rd_T54 l0 x10_1).f1), .int .i64 0]) ?_ 2 _ rfl; refine qB ?_; refine blk_put (cs := #[.int .i64 ((rd_T54 l0 x10_1).f0), .int .i64 0, .int .i64 0]) ?_ 1 _ rfl; refine qB ?_; refine blk_put (cs := #[.int .i64 0, .int .i64 0, .int .i64 0]) ?_ 0 _ rfl; refine qB ?_; exact BK349.out⟩, ⟨by exact qW HB.out⟩⟩
    rw [if_pos c12] at H
    have c12b0 : decide (0 ≤ ((rd_T54 l0 x10_1).f0)) = true := decide_eq_true c12
    clear c12
    have H' := aM H
    clear H
    obtain ⟨hcz13_0, hcz13_1, hcz13_2⟩ := cz3 BK349.out
    obtain ⟨hfz13_0, hfz13_1, hfz13_2⟩ := fz3 BK349.out
    go_wp2
    go_meet
    case rel => exact ⟨_, (decide (((rd_T54 l0 x10_1).f0) ≤ 255)), qE, H', ⟨by have := HK1.out; first | omega | exact Nat.le_refl _⟩, ⟨by refine qR ?_; exact Kd.R_mono (Kd.R_far (p := ⟨gb349, 2, none⟩) (Kd.R_far (p := ⟨gb349, 1, none⟩) (Kd.R_far (p := ⟨gb349, 0, none⟩) (Kd.R_types HO_4.out BK349.out (by decide)) (fun _ hk => hk.2) (.int .i64 ((rd_T54 l0 x10_1).f0))) (fun _ hk => hk.2) (.int .i64 ((rd_T54 l0 x10_1).f1))) (fun _ hk => hk.2) (.int .i64 ((rd_T54 l0 x10_1).f2))) (fun _ hk => trivial)⟩, ⟨by refine qB ?_; refine blk_put (cs := #[.int .i64 ((rd_T54 l0 x10_1).f0), .int .i64 ((rd_T54 l0 x10_1).f1), .int .i64 0]) ?_ 2 _ rfl; refine qB ?_; refine blk_put (cs := #[.int .i64 ((rd_T54 l0 x10_1).f0), .int .i64 0, .int .i64 0]) ?_ 1 _ rfl; refine qB ?_; refine blk_put (cs := #[.int .i64 0, .int .i64 0, .int .i64 0]) ?_ 0 _ rfl; refine qB ?_; exact BK349.out⟩, ⟨by exact qW HB.out⟩⟩
   case rest =>
    clear HC7
    try clear c1
    try clear p2
    try clear p3
    try clear q3
    try clear hx3
    try clear c4
    try clear c4b0
    try clear c5
    try clear c5b0
    try clear c6
    try clear c6b0
    try clear c10
    try clear c10b0
    try clear c10b1
    try clear c11
    try clear c11b0
    try clear c11b1
    try clear c12
    try clear c12b0
    try clear hcz13_0 hcz13_1 hcz13_2 hfz13_0 hfz13_1 hfz13_2
    try clear hcz14_0 hcz14_1 hcz14_2 hfz14_0 hfz14_1 hfz14_2
    try clear hcz15_0 hcz15_1 hcz15_2 hfz15_0 hfz15_1 hfz15_2
    try clear hcz16_0 hcz16_1 hcz16_2 hfz16_0 hfz16_1 hfz16_2
    try clear hcz9_0 hcz9_1 hcz9_2 hfz9_0 hfz9_1 hfz9_2
    try clear hx348_0
    try clear hx348_1
    try clear hx348_2
    try clear p2
    try clear p348
    try clear q348
    obtain ⟨kq, x14_6, rfl, HA, HJ6, HO_4, BK349, HB⟩ := hcut
    cases kq with
    | zero => exact absurd HA.out (by simp [impl_expandTokens.j1])
    | succ kj6 =>
     have H := HA.out
     clear HA
     simp only [impl_expandTokens.j1] at H
     by_cases c17 : x14_6 = true
     ·
      subst c17
      have H1 : (if x4_1.length < 17592186044416 then ((some (x4_1 ++ [((rd_T54 l0 x10_1).f0)] : List Int)).bind fun y350 => (if (y350.length : Int) > 1200 then (some (([] : List Int), false)) else (impl_expandTokens.l0 kj6 y350 l0 (l0.length : Int) (wrap64 (x10_1 + 1))))) else (none)) = some (r1, r2) := by rw [if_pos rfl] at H; exact H
      clear H
      have H := H1
      clear H1
      by_cases c18 : x4_1.length < 17592186044416
      rotate_left
      ·
       rw [if_neg c18] at H
       exact absurd H (by simp)
      rw [if_pos c18] at H
      have LMc18 := aM c18
      clear c18
      obtain ⟨y350, hy350⟩ : ∃ y_ : List Int, y_ = (x4_1 ++ [((rd_T54 l0 x10_1).f0)]) := ⟨_, rfl⟩
      replace H : (if (y350.length : Int) > 1200 then (some (([] : List Int), false)) else (impl_expandTokens.l0 kj6 y350 l0 (l0.length : Int) (wrap64 (x10_1 + 1)))) = some (r1, r2) := rY hy350 H
      have Ny350 := aM hy350
      clear hy350
      by_cases c19 : (y350.length : Int) > 1200
      ·
       rw [if_pos c19] at H
       have c19b0 : decide (1200 < (y350.length : Int)) = true := decide_eq_true c19
       have c19b1 : decide (1200 < y350.length) = true := decide_eq_true (by omega)
       clear c19
       simp only [Option.some.injEq, Prod.mk.injEq] at H
       obtain ⟨rfl, rfl⟩ := H
       obtain ⟨hcz20_0, hcz20_1, hcz20_2⟩ := cz3 BK349.out
       obtain ⟨hfz20_0, hfz20_1, hfz20_2⟩ := fz3 BK349.out
       go_wp2_with (first | ((with_reducible refine gate_builtin (b := .append) (xs := #[.tmp 33, .tmp 36]) rfl ?_); (try (refine gate_guard (by rfl) ?_; dsimp only)); at_builtin; refine Kd.R_append (Kd.int .i64) (w0 := w) w.heap.size rfl (.tmp 33) (.tmp 36) 22 3 (.int .i64 0) 8 rfl Try.underlying22 info3 rfl (by decide) (by omega) u4 x4_1 ((rd_T54 l0 x10_1).f0) [.int .i64 ((rd_T54 l0 x10_1).f0)] (fun _ => True) (fun _ => False) rfl rfl ?aP (fun _ hk => hk.elim) ?aF ?aO ?aB ?aS ?aL ?_; (case aP => exact rfl); (case aB => exact (qW HB.out)); (case aF => exact (fun _ _ => trivial)); (case aO => exact (qR HO_4.out)); (case aS => exact (below_size (qW HB.out))); (case aL => have := LMc18.out; omega); intro v351 w21 ho hb hg hat; rw [← Ny350.out] at ho; replace BK349 := aM (blk_grown (g := gb349) (o := .cells #[.int .i64 ((rd_T54 l0 x10_1).f0), .int .i64 ((rd_T54 l0 x10_1).f1), .int .i64 ((rd_T54 l0 x10_1).f2)] 54 (0, 0)) (qB BK349.out) hg (Kd.R_ne HO_4.out BK349.out (by decide))); replace HB := aM (hb); have HO352 := aM (ho); clear HO_4; clear ho hb hg hat; obtain ⟨Ao22, co22, eo22⟩ := Kd.R_slice HO352.out; subst eo22))
       go_ret2
       exact ⟨_, qX, qN, by exact qW HB.out⟩
      rw [if_neg c19] at H
      have c19b0 : decide (1200 < (y350.length : Int)) = false := decide_eq_false c19
      have c19b1 : decide (1200 < y350.length) = false := decide_eq_false (by omega)
      clear c19
      have H' := aM H
      clear H
      obtain ⟨hcz23_0, hcz23_1, hcz23_2⟩ := cz3 BK349.out
      obtain ⟨hfz23_0, hfz23_1, hfz23_2⟩ := fz3 BK349.out
      go_wp2_with (first | ((with_reducible refine gate_builtin (b := .append) (xs := #[.tmp 33, .tmp 36]) rfl ?_); (try (refine gate_guard (by rfl) ?_; dsimp only)); at_builtin; refine Kd.R_append (Kd.int .i64) (w0 := w) w.heap.size rfl (.tmp 33) (.tmp 36) 22 3 (.int .i64 0) 8 rfl Try.underlying22 info3 rfl (by decide) (by omega) u4 x4_1 ((rd_T54 l0 x10_1).f0) [.int .i64 ((rd_T54 l0 x10_1).f0)] (fun _ => True) (fun _ => False) rfl rfl ?aP (fun _ hk => hk.elim) ?aF ?aO ?aB ?aS ?aL ?_; (case aP => exact rfl); (case aB => exact (qW HB.out)); (case aF => exact (fun _ _ => trivial)); (case aO => exact (qR HO_4.out)); (case aS => exact (below_size (qW HB.out))); (case aL => have := LMc18.out; omega); intro v351 w24 ho hb hg hat; rw [← Ny350.out] at ho; replace BK349 := aM (blk_grown (g := gb349) (o := .cells #[.int .i64 ((rd_T54 l0 x10_1).f0), .int .i64 ((rd_T54 l0 x10_1).f1), .int .i64 ((rd_T54 l0 x10_1).f2)] 54 (0, 0)) (qB BK349.out) hg (Kd.R_ne HO_4.out BK349.out (by decide))); replace HB := aM (hb); have HO352 := aM (ho); clear HO_4; clear ho hb hg hat; obtain ⟨Ao25, co25, eo25⟩ := Kd.R_slice HO352.out; subst eo25))
      go_roundg kj6
      case measure => have := HK1.out; have := HJ6.out; omega
      case rel => exact ⟨(y350), (wrap64 (x10_1 + 1)), qE, H', ⟨by have := HK1.out; have := HJ6.out; omega⟩, ⟨by refine qR ?_; exact HO352.out⟩, ⟨by exact qW HB.out⟩⟩
     replace c17 := Bool.eq_false_iff.mpr c17
     subst c17
     have H1 : (if ((rd_T54 l0 x10_1).f0) = 0 then (if ((rd_T54 l0 x10_1).f1) ≥ 3 then (if ((rd_T54 l0 x10_1).f1) ≤ 18 then (if ((rd_T54 l0 x10_1).f2) ≥ 1 then (if ((rd_T54 l0 x10_1).f2) ≤ 64 then (impl_expandTokens.j2 kj6 x4_1 l0 (l0.length : Int) x10_1 (decide (((rd_T54 l0 x10_1).f2) ≤ (x4_1.length : Int))) ((rd_T54 l0 x10_1).f0) ((rd_T54 l0 x10_1).f1) ((rd_T54 l0 x10_1).f2)) else (impl_expandTokens.j2 kj6 x4_1 l0 (l0.length : Int) x10_1 false ((rd_T54 l0 x10_1).f0) ((rd_T54 l0 x10_1).f1) ((rd_T54 l0 x10_1).f2))) else (impl_expandTokens.j2 kj6 x4_1 l0 (l0.length : Int) x10_1 false ((rd_T54 l0 x10_1).f0) ((rd_T54 l0 x10_1).f1) ((rd_T54 l0 x10_1).f2))) else (impl_expandTokens.j2 kj6 x4_1 l0 (l0.length : Int) x10_1 false ((rd_T54 l0 x10_1).f0) ((rd_T54 l0 x10_1).f1) ((rd_T54 l0 x10_1).f2))) else (impl_expandTokens.j2 kj6 x4_1 l0 (l0.length : Int) x10_1 false ((rd_T54 l0 x10_1).f0) ((rd_T54 l0 x10_1).f1) ((rd_T54 l0 x10_1).f2))) else (impl_expandTokens.j2 kj6 x4_1 l0 (l0.length : Int) x10_1 false ((rd_T54 l0 x10_1).f0) ((rd_T54 l0 x10_1).f1) ((rd_T54 l0 x10_1).f2))) = some (r1, r2) := by rw [if_neg (show ¬ (false = true) by decide)] at H; exact H
     clear H
     have H := H1
     clear H1
     have HC26 := aM H
     clear H
     go_upto_region 8 with (fail)
     go_cut [38] (fun v38 wc => ∃ (kq : Nat) (x38_25 : Bool), v38 = .bool x38_25 ∧ Aside0 (impl_expandTokens.j2 kq x4_1 l0 (l0.length : Int) x10_1 x38_25 ((rd_T54 l0 x10_1).f0) ((rd_T54 l0 x10_1).f1) ((rd_T54 l0 x10_1).f2) = some (r1, r2)) ∧ Aside0 (kq ≤ kj6) ∧ Aside0 (Kd.R (Kd.int .i64) 3 wc w.heap.size (fun _ => True) u4 x4_1) ∧ Aside0 (wc.heap[gb349]? = some (.cells #[.int .i64 ((rd_T54 l0 x10_1).f0), .int .i64 ((rd_T54 l0 x10_1).f1), .int .i64 ((rd_T54 l0 x10_1).f2)] 54 (0, 0))) ∧ Aside0 (Below w.heap.size w wc))
     case first =>
      have H := HC26.out
      clear HC26
      by_cases c27 : ((rd_T54 l0 x10_1).f0) = 0
      rotate_left
      ·
       rw [if_neg c27] at H
       have c27b0 : (((rd_T54 l0 x10_1).f0) == 0) = false := beq_eq_false_iff_ne.mpr c27
       have c27b1 : (((rd_T54 l0 x10_1).f0) != 0) = true := bne_iff_ne.mpr c27
       (first | rw [c27b0] | (simp only [i64_w, i32_w]; rw [c27b0]) | skip)
       have H' := aM H
       clear H
       obtain ⟨hcz38_0, hcz38_1, hcz38_2⟩ := cz3 BK349.out
       obtain ⟨hfz38_0, hfz38_1, hfz38_2⟩ := fz3 BK349.out
       go_wp2
       go_meet
       case rel => exact ⟨_, (false), qE, H', ⟨by have := HK1.out; have := HJ6.out; first | omega | exact Nat.le_refl _⟩, ⟨by refine qR ?_; exact HO_4.out⟩, ⟨by refine qB ?_; exact BK349.out⟩, ⟨by exact qW HB.out⟩⟩
      rw [if_pos c27] at H
      have c27b0 : (((rd_T54 l0 x10_1).f0) == 0) = true := beq_iff_eq.mpr c27
      have c27b1 : (((rd_T54 l0 x10_1).f0) != 0) = false := bne_eq_false_iff_eq.mpr c27
      clear c27
      (first | rw [c27b0] | (simp only [i64_w, i32_w]; rw [c27b0]) | skip)
      by_cases c28 : ((rd_T54 l0 x10_1).f1) ≥ 3
      rotate_left
      ·
       rw [if_neg c28] at H
       have c28b0 : decide (3 ≤ ((rd_T54 l0 x10_1).f1)) = false := decide_eq_false c28
       clear c28
       have H' := aM H
       clear H
       obtain ⟨hcz37_0, hcz37_1, hcz37_2⟩ := cz3 BK349.out
       obtain ⟨hfz37_0, hfz37_1, hfz37_2⟩ := fz3 BK349.out
       go_wp2
       go_meet
       case rel => exact ⟨_, (false), qE, H', ⟨by have := HK1.out; have := HJ6.out; first | omega | exact Nat.le_refl _⟩, ⟨by refine qR ?_; exact HO_4.out⟩, ⟨by refine qB ?_; exact BK349.out⟩, ⟨by exact qW HB.out⟩⟩
      rw [if_pos c28] at H
      have c28b0 : decide (3 ≤ ((rd_T54 l0 x10_1).f1)) = true := decide_eq_true c28
      clear c28
      by_cases c29 : ((rd_T54 l0 x10_1).f1) ≤ 18
      rotate_left
      ·
       rw [if_neg c29] at H
       have c29b0 : decide (((rd_T54 l0 x10_1).f1) ≤ 18) = false := decide_eq_false c29
       clear c29
       have H' := aM H
       clear H
       obtain ⟨hcz36_0, hcz36_1, hcz36_2⟩ := cz3 BK349.out
       obtain ⟨hfz36_0, hfz36_1, hfz36_2⟩ := fz3 BK349.out
       go_wp2
       go_meet
       case rel => exact ⟨_, (false), qE, H', ⟨by have := HK1.out; have := HJ6.out; first | omega | exact Nat.le_refl _⟩, ⟨by refine qR ?_; exact HO_4.out⟩, ⟨by refine qB ?_; exact BK349.out⟩, ⟨by exact qW HB.out⟩⟩
      rw [if_pos c29] at H
      have c29b0 : decide (((rd_T54 l0 x10_1).f1) ≤ 18) = true := decide_eq_true c29
      clear c29
      by_cases c30 : ((rd_T54 l0 x10_1).f2) ≥ 1
      rotate_left
      ·
       rw [if_neg c30] at H
       have c30b0 : decide (1 ≤ ((rd_T54 l0 x10_1).f2)) = false := decide_eq_false c30
       clear c30
       have H' := aM H
       clear H
       obtain ⟨hcz35_0, hcz35_1, hcz35_2⟩ := cz3 BK349.out
       obtain ⟨hfz35_0, hfz35_1, hfz35_2⟩ := fz3 BK349.out
       go_wp2
       go_meet
       case rel => exact ⟨_, (false), qE, H', ⟨by have := HK1.out; have := HJ6.out; first | omega | exact Nat.le_refl _⟩, ⟨by refine qR ?_; exact HO_4.out⟩, ⟨by refine qB ?_; exact BK349.out⟩, ⟨by exact qW HB.out⟩⟩
      rw [if_pos c30] at H
      have c30b0 : decide (1 ≤ ((rd_T54 l0 x10_1).f2)) = true := decide_eq_true c30
      clear c30
      by_cases c31 : ((rd_T54 l0 x10_1).f2) ≤ 64
      rotate_left
      ·
       rw [if_neg c31] at H
       have c31b0 : decide (((rd_T54 l0 x10_1).f2) ≤ 64) = false := decide_eq_false c31
       clear c31
       have H' := aM H
       clear H
       obtain ⟨hcz34_0, hcz34_1, hcz34_2⟩ := cz3 BK349.out
       obtain ⟨hfz34_0, hfz34_1, hfz34_2⟩ := fz3 BK349.out
       go_wp2
       go_meet
       case rel => exact ⟨_, (false), qE, H', ⟨by have := HK1.out; have := HJ6.out; first | omega | exact Nat.le_refl _⟩, ⟨by refine qR ?_; exact HO_4.out⟩, ⟨by refine qB ?_; exact BK349.out⟩, ⟨by exact qW HB.out⟩⟩
      rw [if_pos c31] at H
      have c31b0 : decide (((rd_T54 l0 x10_1).f2) ≤ 64) = true := decide_eq_true c31
      clear c31
      have H' := aM H
      clear H
      obtain ⟨hcz32_0, hcz32_1, hcz32_2⟩ := cz3 BK349.out
      obtain ⟨hfz32_0, hfz32_1, hfz32_2⟩ := fz3 BK349.out
      obtain ⟨Ao33, co33, eo33⟩ := Kd.R_slice HO_4.out
      subst eo33
      go_wp2
      go_meet
      case rel => exact ⟨_, (decide (((rd_T54 l0 x10_1).f2) ≤ (x4_1.length : Int))), qE, H', ⟨by have := HK1.out; have := HJ6.out; first | omega | exact Nat.le_refl _⟩, ⟨by refine qR ?_; exact HO_4.out⟩, ⟨by refine qB ?_; exact BK349.out⟩, ⟨by exact qW HB.out⟩⟩
     case rest =>
      clear HC26
      try clear c1
      try clear c2
      try clear p2
      try clear c3
      try clear p3
      try clear q3
      try clear hx3
      try clear c4
      try clear c4b0
      try clear c5
      try clear c5b0
      try clear c6
      try clear c6b0
      try clear p6
      try clear c10
      try clear c10b0
      try clear c10b1
      try clear c11
      try clear c11b0
      try clear c11b1
      try clear c12
      try clear c12b0
      try clear c17
      try clear c18
      try clear c19
      try clear c19b0
      try clear c19b1
      try clear c27
      try clear c27b0
      try clear c27b1
      try clear c28
      try clear c28b0
      try clear c29
      try clear c29b0
      try clear c30
      try clear c30b0
      try clear c31
      try clear c31b0
      try clear p34
      try clear q34
      try clear hx34
      try clear hcz13_0 hcz13_1 hcz13_2 hfz13_0 hfz13_1 hfz13_2
      try clear hcz14_0 hcz14_1 hcz14_2 hfz14_0 hfz14_1 hfz14_2
      try clear hcz15_0 hcz15_1 hcz15_2 hfz15_0 hfz15_1 hfz15_2
      try clear hcz16_0 hcz16_1 hcz16_2 hfz16_0 hfz16_1 hfz16_2
      try clear hcz20_0 hcz20_1 hcz20_2 hfz20_0 hfz20_1 hfz20_2
      try clear hcz23_0 hcz23_1 hcz23_2 hfz23_0 hfz23_1 hfz23_2
      try clear hcz32_0 hcz32_1 hcz32_2 hfz32_0 hfz32_1 hfz32_2
      try clear hcz34_0 hcz34_1 hcz34_2 hfz34_0 hfz34_1 hfz34_2
      try clear hcz35_0 hcz35_1 hcz35_2 hfz35_0 hfz35_1 hfz35_2
      try clear hcz36_0 hcz36_1 hcz36_2 hfz36_0 hfz36_1 hfz36_2
      try clear hcz37_0 hcz37_1 hcz37_2 hfz37_0 hfz37_1 hfz37_2
      try clear hcz38_0 hcz38_1 hcz38_2 hfz38_0 hfz38_1 hfz38_2
      try clear hcz9_0 hcz9_1 hcz9_2 hfz9_0 hfz9_1 hfz9_2
      try clear hx348_0
      try clear hx348_1
      try clear hx348_2
      try clear p2
      try clear p3
      try clear p348
      try clear q3
      try clear q348
      obtain ⟨kq, x38_25, rfl, HA, HJ25, HO_4, BK349, HB⟩ := hcut
      cases kq with
      | zero => exact absurd HA.out (by simp [impl_expandTokens.j2])
      | succ kj25 =>
       have H := HA.out
       clear HA
       simp only [impl_expandTokens.j2] at H
       by_cases c39 : x38_25 = true
       rotate_left
       ·
        replace c39 := Bool.eq_false_iff.mpr c39
        subst c39
        have H1 : (some (([] : List Int), false)) = some (r1, r2) := by rw [if_neg (show ¬ (false = true) by decide)] at H; exact H
        clear H
        have H := H1
        clear H1
        simp only [Option.some.injEq, Prod.mk.injEq] at H
        obtain ⟨rfl, rfl⟩ := H
        go_wp2
        go_ret2
        exact ⟨_, qX, qN, by exact qW HB.out⟩
       subst c39
       have H1 : (impl_expandTokens.l1 kj25 x4_1 l0 (l0.length : Int) x10_1 ((rd_T54 l0 x10_1).f1) 0 ((rd_T54 l0 x10_1).f0) ((rd_T54 l0 x10_1).f1) ((rd_T54 l0 x10_1).f2)) = some (r1, r2) := by rw [if_pos rfl] at H; exact H
       clear H
       have H := H1
       clear H1
       have H' := aM H
       clear H
       obtain ⟨hcz40_0, hcz40_1, hcz40_2⟩ := cz3 BK349.out
       obtain ⟨hfz40_0, hfz40_1, hfz40_2⟩ := fz3 BK349.out
       go_wp2
       go_loopg [4, 71] kj25 (fun kq v4 v71 w' => ∃ (x4_4 : List Int) (x71_4 : Int), v71 = .int .i64 x71_4 ∧ Aside0 (impl_expandTokens.l1 kq x4_4 l0 (l0.length : Int) x10_1 ((rd_T54 l0 x10_1).f1) x71_4 ((rd_T54 l0 x10_1).f0) ((rd_T54 l0 x10_1).f1) ((rd_T54 l0 x10_1).f2) = some (r1, r2)) ∧ Aside0 (kq ≤ kj25) ∧ Aside0 (Kd.R (Kd.int .i64) 3 w' w.heap.size (fun _ => True) v4 x4_4) ∧ Aside0 (w'.heap[gb349]? = some (.cells #[.int .i64 ((rd_T54 l0 x10_1).f0), .int .i64 ((rd_T54 l0 x10_1).f1), .int .i64 ((rd_T54 l0 x10_1).f2)] 54 (0, 0))) ∧ Aside0 (Below w.heap.size w w'))
       case atStart => exact ⟨(x4_1), (0), qE, H', ⟨Nat.le_refl _⟩, ⟨by refine qR ?_; exact HO_4.out⟩, ⟨by refine qB ?_; exact BK349.out⟩, ⟨by exact qW HB.out⟩⟩
       case round =>
        clear H'
        try clear c1
        try clear c2
        try clear p2
        try clear c3
        try clear p3
        try clear q3
        try clear hx3
        try clear c4
        try clear c4b0
        try clear c5
        try clear c5b0
        try clear c6
        try clear c6b0
        try clear p6
        try clear c10
        try clear c10b0
        try clear c10b1
        try clear c11
        try clear c11b0
        try clear c11b1
        try clear c12
        try clear c12b0
        try clear c17
        try clear c18
        try clear c19
        try clear c19b0
        try clear c19b1
        try clear c27
        try clear c27b0
        try clear c27b1
        try clear c28
        try clear c28b0
        try clear c29
        try clear c29b0
        try clear c30
        try clear c30b0
        try clear c31
        try clear c31b0
        try clear p34
        try clear q34
        try clear hx34
        try clear c39
        try clear hcz13_0 hcz13_1 hcz13_2 hfz13_0 hfz13_1 hfz13_2
        try clear hcz14_0 hcz14_1 hcz14_2 hfz14_0 hfz14_1 hfz14_2
        try clear hcz15_0 hcz15_1 hcz15_2 hfz15_0 hfz15_1 hfz15_2
        try clear hcz16_0 hcz16_1 hcz16_2 hfz16_0 hfz16_1 hfz16_2
        try clear hcz20_0 hcz20_1 hcz20_2 hfz20_0 hfz20_1 hfz20_2
        try clear hcz23_0 hcz23_1 hcz23_2 hfz23_0 hfz23_1 hfz23_2
        try clear hcz32_0 hcz32_1 hcz32_2 hfz32_0 hfz32_1 hfz32_2
        try clear hcz34_0 hcz34_1 hcz34_2 hfz34_0 hfz34_1 hfz34_2
        try clear hcz35_0 hcz35_1 hcz35_2 hfz35_0 hfz35_1 hfz35_2
        try clear hcz36_0 hcz36_1 hcz36_2 hfz36_0 hfz36_1 hfz36_2
        try clear hcz37_0 hcz37_1 hcz37_2 hfz37_0 hfz37_1 hfz37_2
        try clear hcz38_0 hcz38_1 hcz38_2 hfz38_0 hfz38_1 hfz38_2
        try clear hcz40_0 hcz40_1 hcz40_2 hfz40_0 hfz40_1 hfz40_2
        try clear hcz9_0 hcz9_1 hcz9_2 hfz9_0 hfz9_1 hfz9_2
        try clear hx348_0
        try clear hx348_1
        try clear hx348_2
        try clear p2
        try clear p3
        try clear p34
        try clear p348
        try clear p6
        try clear q3
        try clear q34
        try clear q348
        obtain ⟨x4_4, x71_4, rfl, HA, HK4, HO_4, BK349, HB⟩ := hrel
        cases gk with
        | zero => exact absurd HA.out (by simp [impl_expandTokens.l1])
        | succ k4 =>
         have H := HA.out
         clear HA
         simp only [impl_expandTokens.l1] at H
         by_cases c41 : x71_4 < ((rd_T54 l0 x10_1).f1)
         rotate_left
         ·
          rw [if_neg c41] at H
          have c41b0 : decide (x71_4 < ((rd_T54 l0 x10_1).f1)) = false := decide_eq_false c41
          clear c41
          by_cases c49 : (x4_4.length : Int) > 1200
          ·
           rw [if_pos c49] at H
           have c49b0 : decide (1200 < (x4_4.length : Int)) = true := decide_eq_true c49
           have c49b1 : decide (1200 < x4_4.length) = true := decide_eq_true (by omega)
           clear c49
           simp only [Option.some.injEq, Prod.mk.injEq] at H
           obtain ⟨rfl, rfl⟩ := H
           obtain ⟨Ao50, co50, eo50⟩ := Kd.R_slice HO_4.out
           subst eo50
           go_wp2
           go_ret2
           exact ⟨_, qX, qN, by exact qW HB.out⟩
          rw [if_neg c49] at H
          have c49b0 : decide (1200 < (x4_4.length : Int)) = false := decide_eq_false c49
          have c49b1 : decide (1200 < x4_4.length) = false := decide_eq_false (by omega)
          clear c49
          have H' := aM H
          clear H
          obtain ⟨Ao51, co51, eo51⟩ := Kd.R_slice HO_4.out
          subst eo51
          go_wp2
          go_roundg k4
          case measure => have := HK1.out; have := HJ6.out; have := HJ25.out; have := HK4.out; omega
          case rel => exact ⟨(x4_4), (wrap64 (x10_1 + 1)), qE, H', ⟨by have := HK1.out; have := HJ6.out; have := HJ25.out; have := HK4.out; omega⟩, ⟨by refine qR ?_; exact HO_4.out⟩, ⟨by exact qW HB.out⟩⟩
         rw [if_pos c41] at H
         have c41b0 : decide (x71_4 < ((rd_T54 l0 x10_1).f1)) = true := decide_eq_true c41
         clear c41
         obtain ⟨ji42, hji42⟩ : ∃ j_ : Int, (wrap64 ((x4_4.length : Int) - ((rd_T54 l0 x10_1).f2))) = j_ := ⟨_, rfl⟩
         replace H : (if 0 ≤ (ji42) then (if (ji42) < (x4_4.length : Int) then (if x4_4.length < 17592186044416 then (impl_expandTokens.l1 k4 (x4_4 ++ [rd x4_4 (ji42)]) l0 (l0.length : Int) x10_1 ((rd_T54 l0 x10_1).f1) (wrap64 (x71_4 + 1)) ((rd_T54 l0 x10_1).f0) ((rd_T54 l0 x10_1).f1) ((rd_T54 l0 x10_1).f2)) else (none)) else (none)) else (none)) = some (r1, r2) := by first | (rw [hji42] at H; exact H) | (simp only [hji42] at H ⊢; exact H)
         have hji42w : (IntKind.i64.wrap ((x4_4.length : Int) - ((rd_T54 l0 x10_1).f2))) = ji42 := (i64_w _).trans hji42
         by_cases c43 : 0 ≤ (ji42)
         rotate_left
         ·
          rw [if_neg c43] at H
          exact absurd H (by simp)
         rw [if_pos c43] at H
         have c43b0 : decide (0 ≤ (ji42)) = true := decide_eq_true c43
         clear c43
         by_cases c44 : (ji42) < (x4_4.length : Int)
         rotate_left
         ·
          rw [if_neg c44] at H
          exact absurd H (by simp)
         rw [if_pos c44] at H
         have c44b0 : decide ((ji42) < (x4_4.length : Int)) = true := decide_eq_true c44
         clear c44
         by_cases c45 : x4_4.length < 17592186044416
         rotate_left
         ·
          rw [if_neg c45] at H
          exact absurd H (by simp)
         rw [if_pos c45] at H
         have LMc45 := aM c45
         clear c45
         obtain ⟨y354, hy354⟩ : ∃ y_ : List Int, y_ = (x4_4 ++ [rd x4_4 (ji42)]) := ⟨_, rfl⟩
         replace H : (impl_expandTokens.l1 k4 y354 l0 (l0.length : Int) x10_1 ((rd_T54 l0 x10_1).f1) (wrap64 (x71_4 + 1)) ((rd_T54 l0 x10_1).f0) ((rd_T54 l0 x10_1).f1) ((rd_T54 l0 x10_1).f2)) = some (r1, r2) := rY hy354 H
         have Ny354 := aM hy354
         clear hy354
         have H' := aM H
         clear H
         obtain ⟨Ao46, co46, eo46⟩ := Kd.R_slice HO_4.out
         subst eo46
         obtain ⟨hcz47_0, hcz47_1, hcz47_2⟩ := cz3 BK349.out
         obtain ⟨hfz47_0, hfz47_1, hfz47_2⟩ := fz3 BK349.out
         have p353 : 0 ≤ ((ji42) : Int) := oD
         have q353 : (ji42) < (x4_4.length : Int) := oD
         obtain ⟨ad353, e353, hx353_0⟩ := Kd.at_int (Kd.R_reads' HO_4.out).2.2 (ji42) p353 q353
         cases e353
         replace p353 := eq_true p353
         replace q353 := eq_true q353
         go_wp2_with (first | ((with_reducible refine gate_builtin (b := .append) (xs := #[.tmp 73, .tmp 82]) rfl ?_); (try (refine gate_guard (by rfl) ?_; dsimp only)); at_builtin; refine Kd.R_append (Kd.int .i64) (w0 := w) w.heap.size rfl (.tmp 73) (.tmp 82) 22 3 (.int .i64 0) 8 rfl Try.underlying22 info3 rfl (by decide) (by omega) (.slice (some ad353) x4_4.length co46) x4_4 (rd x4_4 (ji42)) [.int .i64 (rd x4_4 (ji42))] (fun _ => True) (fun _ => False) rfl rfl ?aP (fun _ hk => hk.elim) ?aF ?aO ?aB ?aS ?aL ?_; (case aP => exact rfl); (case aB => exact (qW HB.out)); (case aF => exact (fun _ _ => trivial)); (case aO => exact (qR HO_4.out)); (case aS => exact (below_size (qW HB.out))); (case aL => have := LMc45.out; omega); intro v355 w48 ho hb hg hat; rw [← Ny354.out] at ho; replace BK349 := aM (blk_grown (g := gb349) (o := .cells #[.int .i64 ((rd_T54 l0 x10_1).f0), .int .i64 ((rd_T54 l0 x10_1).f1), .int .i64 ((rd_T54 l0 x10_1).f2)] 54 (0, 0)) (qB BK349.out) hg (Kd.R_ne HO_4.out BK349.out (by decide))); replace HB := aM (hb); have HO356 := aM (ho); clear HO_4; clear ho hb hg hat))
         go_roundg k4
         case measure => have := HK1.out; have := HJ6.out; have := HJ25.out; have := HK4.out; omega
         case rel => exact ⟨(y354), (wrap64 (x71_4 + 1)), qE, H', ⟨by have := HK1.out; have := HJ6.out; have := HJ25.out; have := HK4.out; omega⟩, ⟨by refine qR ?_; exact HO356.out⟩, ⟨by refine qB ?_; exact BK349.out⟩, ⟨by exact qW HB.out⟩⟩

/-! ### spec_adler: function 65 -/
def spec_adler.l0 : Nat → List Int → Int → Int → Int → Option (Int)
 | 0, _, _, _, _ => none
 | k + 1, x0, x3, x4, x5 => if x5 < (x0.length : Int) then (if 0 ≤ x5 then (spec_adler.l0 k x0 (Int.tmod (wrap64 (x3 + (rd x0 x5))) 251) (Int.tmod (wrap64 (x4 + (Int.tmod (wrap64 (x3 + (rd x0 x5))) 251))) 251) (wrap64 (x5 + 1))) else (none)) else (some (wrap64 ((wrap64 (256 * x4)) + x3)))
def spec_adler.f (k : Nat) (l0 : List Int) : Option (Int) := spec_adler.l0 k l0 1 0 0
theorem spec_adler.mono_l : ∀ k, (∀ y0 y1 y2 y3, LeO (spec_adler.l0 k y0 y1 y2 y3) (spec_adler.l0 (k + 1) y0 y1 y2 y3))
 | 0 => fun _ _ _ _ r h => by simp [spec_adler.l0] at h
 | k + 1 => by
  have ih0 := spec_adler.mono_l k
  ·
   intro y0 y1 y2 y3
   unfold spec_adler.l0
   repeat' first
   | (with_reducible exact ih0 _ _ _ _)
   | (with_reducible exact LeO.refl _)
   | (with_reducible exact LeO.none _)
   | (with_reducible refine LeO.ite ?_ ?_)
   | (with_reducible refine LeO.bind ?_ (fun _ => ?_))
   | exact ih0 _ _ _ _
   | exact LeO.none _
   | refine LeO.ite ?_ ?_
   | refine LeO.bind ?_ (fun _ => ?_)
theorem spec_adler.mono : ∀ a0 k, LeO (spec_adler.f k a0) (spec_adler.f (k + 1) a0) := by
 intro a0 k
 have ih0 := spec_adler.mono_l k
 unfold spec_adler.f
 repeat' first
   | (with_reducible exact ih0 _ _ _ _)
   | (with_reducible exact LeO.refl _)
   | (with_reducible exact LeO.none _)
   | (with_reducible refine LeO.ite ?_ ?_)
   | (with_reducible refine LeO.bind ?_ (fun _ => ?_))
   | exact ih0 _ _ _ _
   | exact LeO.none _
   | refine LeO.ite ?_ ?_
   | refine LeO.bind ?_ (fun _ => ?_)
set_option maxHeartbeats 8000000 in
set_option maxRecDepth 100000 in
theorem spec_adler.calls (k : Nat) (A0 : Option Addr) (c0 : Nat) (l0 : List Int) (r : Int) (w : World) (hr0 : Kd.C (Kd.int .i64) w A0 l0.length l0) (hc0 : l0.length ≤ c0) (h : spec_adler.f k l0 = some r) :
  Calls Try.prog 65 #[.slice A0 l0.length c0] w fun e w' => e = .returned (.int .i64 r) ∧ Drawn0 w w' := by
 have HR0 := aM hr0
 have HC0 := aM hc0
 clear hr0 hc0
 have H : (spec_adler.l0 k l0 1 0 0) = some r := h
 clear h
 have H' := aM H
 clear H
 go_enter Try.func65, Try.ntmps65
 go_wp2
 go_loopg [3, 4, 5] k (fun kq v3 v4 v5 w' => ∃ (x3_1 : Int) (x4_1 : Int) (x5_1 : Int), v3 = .int .i64 x3_1 ∧ v4 = .int .i64 x4_1 ∧ v5 = .int .i64 x5_1 ∧ Aside0 (spec_adler.l0 kq l0 x3_1 x4_1 x5_1 = some r) ∧ Aside0 (kq ≤ k) ∧ Drawn0 w w')
 case atStart => exact ⟨(1), (0), (0), qE, qE, qE, H', ⟨Nat.le_refl _⟩, by repeat (first | exact Drawn0.refl _ | apply Drawn0.step)⟩
 case round =>
  clear H'
  obtain ⟨x3_1, x4_1, x5_1, rfl, rfl, rfl, HA, HK1, ⟨m1, rfl⟩⟩ := hrel
  cases gk with
  | zero => exact absurd HA.out (by simp [spec_adler.l0])
  | succ k1 =>
   have H := HA.out
   clear HA
   simp only [spec_adler.l0] at H
   by_cases c2 : x5_1 < (l0.length : Int)
   rotate_left
   ·
    rw [if_neg c2] at H
    have c2b0 : decide (x5_1 < (l0.length : Int)) = false := decide_eq_false c2
    clear c2
    obtain rfl := Option.some.inj H
    go_wp2
    go_ret
    exact ⟨by first | rfl | (simp; done) | (simp [*]; done), by repeat (first | exact Drawn0.refl _ | apply Drawn0.step)⟩
   rw [if_pos c2] at H
   have c2b0 : decide (x5_1 < (l0.length : Int)) = true := decide_eq_true c2
   clear c2
   by_cases c3 : 0 ≤ x5_1
   rotate_left
   ·
    rw [if_neg c3] at H
    exact absurd H (by simp)
   rw [if_pos c3] at H
   have c3b0 : decide (0 ≤ x5_1) = true := decide_eq_true c3
   clear c3
   have H' := aM H
   clear H
   have p283 : 0 ≤ (x5_1 : Int) := oD
   have q283 : x5_1 < (l0.length : Int) := oD
   obtain ⟨ad283, e283, hx283_0⟩ := Kd.at_int HR0.out x5_1 p283 q283
   cases e283
   replace p283 := eq_true p283
   replace q283 := eq_true q283
   go_wp2
   go_roundg k1
   case measure => have := HK1.out; omega
   case rel => exact ⟨(Int.tmod (wrap64 (x3_1 + (rd l0 x5_1))) 251), (Int.tmod (wrap64 (x4_1 + (Int.tmod (wrap64 (x3_1 + (rd l0 x5_1))) 251))) 251), (wrap64 (x5_1 + 1)), qE, qE, qE, H', ⟨by have := HK1.out; omega⟩, by repeat (first | exact Drawn0.refl _ | apply Drawn0.step)⟩

/-! ### impl_checkOf: function 70 -/
def impl_checkOf.l0 : Nat → Int → Int → List Int → Int → Int → Option (Int)
 | 0, _, _, _, _, _ => none
 | k + 1, x3, x4, x7, x8, x9 => if x9 < x8 then (if 0 ≤ x9 then (if x9 < (x7.length : Int) then (impl_checkOf.l0 k (Int.tmod (wrap64 (x3 + (rd x7 x9))) 251) (Int.tmod (wrap64 (x4 + (Int.tmod (wrap64 (x3 + (rd x7 x9))) 251))) 251) x7 x8 (wrap64 (x9 + 1))) else (none)) else (none)) else (some (wrap64 ((wrap64 (256 * x4)) + x3)))
def impl_checkOf.f (k : Nat) (l0 : List Int) : Option (Int) := impl_checkOf.l0 k 1 0 l0 (l0.length : Int) 0
theorem impl_checkOf.mono_l : ∀ k, (∀ y0 y1 y2 y3 y4, LeO (impl_checkOf.l0 k y0 y1 y2 y3 y4) (impl_checkOf.l0 (k + 1) y0 y1 y2 y3 y4))
 | 0 => fun _ _ _ _ _ r h => by simp [impl_checkOf.l0] at h
 | k + 1 => by
  have ih0 := impl_checkOf.mono_l k
  ·
   intro y0 y1 y2 y3 y4
   unfold impl_checkOf.l0
   repeat' first
   | (with_reducible exact ih0 _ _ _ _ _)
   | (with_reducible exact LeO.refl _)
   | (with_reducible exact LeO.none _)
   | (with_reducible refine LeO.ite ?_ ?_)
   | (with_reducible refine LeO.bind ?_ (fun _ => ?_))
   | exact ih0 _ _ _ _ _
   | exact LeO.none _
   | refine LeO.ite ?_ ?_
   | refine LeO.bind ?_ (fun _ => ?_)
theorem impl_checkOf.mono : ∀ a0 k, LeO (impl_checkOf.f k a0) (impl_checkOf.f (k + 1) a0) := by
 intro a0 k
 have ih0 := impl_checkOf.mono_l k
 unfold impl_checkOf.f
 repeat' first
   | (with_reducible exact ih0 _ _ _ _ _)
   | (with_reducible exact LeO.refl _)
   | (with_reducible exact LeO.none _)
   | (with_reducible refine LeO.ite ?_ ?_)
   | (with_reducible refine LeO.bind ?_ (fun _ => ?_))
   | exact ih0 _ _ _ _ _
   | exact LeO.none _
   | refine LeO.ite ?_ ?_
   | refine LeO.bind ?_ (fun _ => ?_)
set_option maxHeartbeats 8000000 in
set_option maxRecDepth 100000 in
theorem impl_checkOf.calls (k : Nat) (A0 : Option Addr) (c0 : Nat) (l0 : List Int) (r : Int) (w : World) (hr0 : Kd.C (Kd.int .i64) w A0 l0.length l0) (hc0 : l0.length ≤ c0) (h : impl_checkOf.f k l0 = some r) :
  Calls Try.prog 70 #[.slice A0 l0.length c0] w fun e w' => e = .returned (.int .i64 r) ∧ Drawn0 w w' := by
 have HR0 := aM hr0
 have HC0 := aM hc0
 clear hr0 hc0
 have H : (impl_checkOf.l0 k 1 0 l0 (l0.length : Int) 0) = some r := h
 clear h
 have H' := aM H
 clear H
 go_enter Try.func70, Try.ntmps70
 go_wp2
 go_loopg [3, 4, 9] k (fun kq v3 v4 v9 w' => ∃ (x3_1 : Int) (x4_1 : Int) (x9_1 : Int), v3 = .int .i64 x3_1 ∧ v4 = .int .i64 x4_1 ∧ v9 = .int .i64 x9_1 ∧ Aside0 (impl_checkOf.l0 kq x3_1 x4_1 l0 (l0.length : Int) x9_1 = some r) ∧ Aside0 (kq ≤ k) ∧ Drawn0 w w')
 case atStart => exact ⟨(1), (0), (0), qE, qE, qE, H', ⟨Nat.le_refl _⟩, by repeat (first | exact Drawn0.refl _ | apply Drawn0.step)⟩
 case round =>
  clear H'
  obtain ⟨x3_1, x4_1, x9_1, rfl, rfl, rfl, HA, HK1, ⟨m1, rfl⟩⟩ := hrel
  cases gk with
  | zero => exact absurd HA.out (by simp [impl_checkOf.l0])
  | succ k1 =>
   have H := HA.out
   clear HA
   simp only [impl_checkOf.l0] at H
   by_cases c2 : x9_1 < (l0.length : Int)
   rotate_left
   ·
    rw [if_neg c2] at H
    have c2b0 : decide (x9_1 < (l0.length : Int)) = false := decide_eq_false c2
    clear c2
    obtain rfl := Option.some.inj H
    go_wp2
    go_ret
    exact ⟨by first | rfl | (simp; done) | (simp [*]; done), by repeat (first | exact Drawn0.refl _ | apply Drawn0.step)⟩
   rw [if_pos c2] at H
   have c2b0 : decide (x9_1 < (l0.length : Int)) = true := decide_eq_true c2
   clear c2
   by_cases c3 : 0 ≤ x9_1
   rotate_left
   ·
    rw [if_neg c3] at H
    exact absurd H (by simp)
   rw [if_pos c3] at H
   have c3b0 : decide (0 ≤ x9_1) = true := decide_eq_true c3
   clear c3
   by_cases c4 : x9_1 < (l0.length : Int)
   rotate_left
   ·
    rw [if_neg c4] at H
    exact absurd H (by simp)
   rw [if_pos c4] at H
   have c4b0 : decide (x9_1 < (l0.length : Int)) = true := decide_eq_true c4
   clear c4
   have H' := aM H
   clear H
   have p451 : 0 ≤ (x9_1 : Int) := oD
   have q451 : x9_1 < (l0.length : Int) := oD
   obtain ⟨ad451, e451, hx451_0⟩ := Kd.at_int HR0.out x9_1 p451 q451
   cases e451
   replace p451 := eq_true p451
   replace q451 := eq_true q451
   go_wp2
   go_roundg k1
   case measure => have := HK1.out; omega
   case rel => exact ⟨(Int.tmod (wrap64 (x3_1 + (rd l0 x9_1))) 251), (Int.tmod (wrap64 (x4_1 + (Int.tmod (wrap64 (x3_1 + (rd l0 x9_1))) 251))) 251), (wrap64 (x9_1 + 1)), qE, qE, qE, H', ⟨by have := HK1.out; omega⟩, by repeat (first | exact Drawn0.refl _ | apply Drawn0.step)⟩

/-! ### spec_validShape: function 37 -/
def spec_validShape.f (a0 : Int) (a1 : Int) (a2 : Int) : Option (Bool) := (spec_inRange.f a0 1 16).bind fun t104 => (if t104 = true then ((spec_inRange.f a1 1 16).bind fun t105 => (if t105 = true then ((spec_inRange.f a2 1 4).bind fun t106 => (some t106)) else (some false))) else (some false))
set_option maxHeartbeats 8000000 in
set_option maxRecDepth 100000 in
theorem spec_validShape.calls (a0 : Int) (a1 : Int) (a2 : Int) (r : Bool) (w : World) (h : spec_validShape.f a0 a1 a2 = some r) :
  Calls Try.prog 37 #[.int .i64 a0, .int .i64 a1, .int .i64 a2] w fun e w' => e = .returned (.bool r) ∧ Drawn0 w w' := by
 have H : ((spec_inRange.f a0 1 16).bind fun t104 => (if t104 = true then ((spec_inRange.f a1 1 16).bind fun t105 => (if t105 = true then ((spec_inRange.f a2 1 4).bind fun t106 => (some t106)) else (some false))) else (some false))) = some r := h
 clear h
 replace H := Option.bind_eq_some_iff.mp H
 obtain ⟨t104, A40, H⟩ := H
 replace H : (if t104 = true then ((spec_inRange.f a1 1 16).bind fun t105 => (if t105 = true then ((spec_inRange.f a2 1 4).bind fun t106 => (some t106)) else (some false))) else (some false)) = some r := H
 have A4 := aM A40
 clear A40
 by_cases c5 : t104 = true
 rotate_left
 ·
  replace c5 := Bool.eq_false_iff.mpr c5
  subst c5
  have H1 : (some false) = some r := by rw [if_neg (show ¬ (false = true) by decide)] at H; exact H
  clear H
  have H := H1
  clear H1
  obtain rfl := Option.some.inj H
  go_enter Try.func37, Try.ntmps37
  go_wp2_with (first | ((with_reducible refine gate_callee (f := 59) rfl ?_); refine goesL_ (some 8) rfl rfl Try.func59 (by kernel_rfl) rfl #[.int .i64 a0, .int .i64 1, .int .i64 16] rfl qM ?_; (with_reducible refine (spec_inRange.calls a0 1 16 false _ A4.out).mono ?_); rintro e w' ⟨rfl, ⟨nd, rfl⟩⟩; refine ⟨_, rfl, ?_⟩))
  go_ret
  exact ⟨by first | rfl | (simp; done) | (simp [*]; done), by repeat (first | exact Drawn0.refl _ | apply Drawn0.step)⟩
 subst c5
 have H1 : ((spec_inRange.f a1 1 16).bind fun t105 => (if t105 = true then ((spec_inRange.f a2 1 4).bind fun t106 => (some t106)) else (some false))) = some r := by rw [if_pos rfl] at H; exact H
 clear H
 have H := H1
 clear H1
 replace H := Option.bind_eq_some_iff.mp H
 obtain ⟨t105, A60, H⟩ := H
 replace H : (if t105 = true then ((spec_inRange.f a2 1 4).bind fun t106 => (some t106)) else (some false)) = some r := H
 have A6 := aM A60
 clear A60
 by_cases c7 : t105 = true
 rotate_left
 ·
  replace c7 := Bool.eq_false_iff.mpr c7
  subst c7
  have H1 : (some false) = some r := by rw [if_neg (show ¬ (false = true) by decide)] at H; exact H
  clear H
  have H := H1
  clear H1
  obtain rfl := Option.some.inj H
  go_enter Try.func37, Try.ntmps37
  go_wp2_with (first | ((with_reducible refine gate_callee (f := 59) rfl ?_); refine goesL_ (some 8) rfl rfl Try.func59 (by kernel_rfl) rfl #[.int .i64 a0, .int .i64 1, .int .i64 16] rfl qM ?_; (with_reducible refine (spec_inRange.calls a0 1 16 true _ A4.out).mono ?_); rintro e w' ⟨rfl, ⟨nd, rfl⟩⟩; refine ⟨_, rfl, ?_⟩) | (go_at_call 59; (with_reducible refine (spec_inRange.calls a1 1 16 false _ A6.out).mono ?_); rintro e w' ⟨rfl, ⟨nd, rfl⟩⟩))
  go_ret
  exact ⟨by first | rfl | (simp; done) | (simp [*]; done), by repeat (first | exact Drawn0.refl _ | apply Drawn0.step)⟩
 subst c7
 have H1 : ((spec_inRange.f a2 1 4).bind fun t106 => (some t106)) = some r := by rw [if_pos rfl] at H; exact H
 clear H
 have H := H1
 clear H1
 replace H := Option.bind_eq_some_iff.mp H
 obtain ⟨t106, A80, H⟩ := H
 replace H : (some t106) = some r := H
 have A8 := aM A80
 clear A80
 obtain rfl := Option.some.inj H
 go_enter Try.func37, Try.ntmps37
 go_wp2_with (first | ((with_reducible refine gate_callee (f := 59) rfl ?_); refine goesL_ (some 8) rfl rfl Try.func59 (by kernel_rfl) rfl #[.int .i64 a0, .int .i64 1, .int .i64 16] rfl qM ?_; (with_reducible refine (spec_inRange.calls a0 1 16 true _ A4.out).mono ?_); rintro e w' ⟨rfl, ⟨nd, rfl⟩⟩; refine ⟨_, rfl, ?_⟩) | (go_at_call 59; (with_reducible refine (spec_inRange.calls a1 1 16 true _ A6.out).mono ?_); rintro e w' ⟨rfl, ⟨nd, rfl⟩⟩) | (go_at_call 59; (with_reducible refine (spec_inRange.calls a2 1 4 t106 _ A8.out).mono ?_); rintro e w' ⟨rfl, ⟨nd, rfl⟩⟩))
 go_ret
 exact ⟨by first | rfl | (simp; done) | (simp [*]; done), by repeat (first | exact Drawn0.refl _ | apply Drawn0.step)⟩

/-! ### spec_newImage: function 61 -/
def spec_newImage.f (a0 : Int) (a1 : Int) (a2 : Int) : Option (Int × Int × Int × List Int) := if 0 ≤ (wrap64 ((wrap64 (a0 * a1)) * a2)) then (if (wrap64 ((wrap64 (a0 * a1)) * a2) : Int).toNat ≤ 35184372088832 then (some (a0, a1, a2, (List.replicate (wrap64 ((wrap64 (a0 * a1)) * a2) : Int).toNat 0))) else (none)) else (none)
set_option maxHeartbeats 8000000 in
set_option maxRecDepth 100000 in
theorem spec_newImage.calls (a0 : Int) (a1 : Int) (a2 : Int) (r1 : Int) (r2 : Int) (r3 : Int) (r4 : List Int) (w : World) (h : spec_newImage.f a0 a1 a2 = some (r1, r2, r3, r4)) :
  Calls Try.prog 61 #[.int .i64 a0, .int .i64 a1, .int .i64 a2] w fun e w' => ∃ v3_ : Value, e = .returned (.agg #[.int .i64 r1, .int .i64 r2, .int .i64 r3, v3_]) ∧ Kd.R (Kd.int .i64) 3 w' w.heap.size (fun _ => True) v3_ r4 ∧ Below w.heap.size w w' := by
 have hu24 := Try.underlying24
 have HB := aM (Below.refl w.heap.size w)
 have H : (if 0 ≤ (wrap64 ((wrap64 (a0 * a1)) * a2)) then (if (wrap64 ((wrap64 (a0 * a1)) * a2) : Int).toNat ≤ 35184372088832 then (some (a0, a1, a2, (List.replicate (wrap64 ((wrap64 (a0 * a1)) * a2) : Int).toNat 0))) else (none)) else (none)) = some (r1, r2, r3, r4) := h
 clear h
 obtain ⟨ji4, hji4⟩ : ∃ j_ : Int, (wrap64 ((wrap64 (a0 * a1)) * a2)) = j_ := ⟨_, rfl⟩
 replace H : (if 0 ≤ (ji4) then (if (ji4 : Int).toNat ≤ 35184372088832 then (some (a0, a1, a2, (List.replicate (ji4 : Int).toNat 0))) else (none)) else (none)) = some (r1, r2, r3, r4) := by first | (rw [hji4] at H; exact H) | (simp only [hji4] at H ⊢; exact H)
 have hji4w : (IntKind.i64.wrap ((wrap64 (a0 * a1)) * a2)) = ji4 := (i64_w _).trans hji4
 by_cases c5 : 0 ≤ (ji4)
 rotate_left
 ·
  rw [if_neg c5] at H
  exact absurd H (by simp)
 rw [if_pos c5] at H
 have c5b0 := eq_true c5
 have c5b1 : decide (0 ≤ (ji4)) = true := decide_eq_true c5
 clear c5
 by_cases c6 : (ji4 : Int).toNat ≤ 35184372088832
 rotate_left
 ·
  rw [if_neg c6] at H
  exact absurd H (by simp)
 rw [if_pos c6] at H
 have c6b0 := eq_true c6
 have c6b1 : decide ((ji4 : Int).toNat ≤ 35184372088832) = true := decide_eq_true c6
 clear c6
 obtain ⟨y141, hy141⟩ : ∃ y_ : List Int, y_ = (List.replicate (ji4 : Int).toNat 0) := ⟨_, rfl⟩
 replace H : (some (a0, a1, a2, y141)) = some (r1, r2, r3, r4) := rY hy141 H
 have Ny141 := aM hy141
 clear hy141
 simp only [Option.some.injEq, Prod.mk.injEq] at H
 obtain ⟨rfl, rfl, rfl, rfl⟩ := H
 go_enter Try.func61, Try.ntmps61
 go_wp2_with (first | ((with_reducible refine gate_dst (N := 6) rfl ?_); refine box_event ?hg (N := 6) ?hd (cs := #[.int .i64 0, .int .i64 0, .int .i64 0, .slice none 0 0]) (t := 24) ?hr ?_; (case hd => rfl); (case hg => rfl); (case hr => first | (go_simp; done) | (go_simp; rfl)); intro gb140 hg w7 hbox hb; have BK140 := aM (hbox); have GW140 := aM ((by rw [hg]; exact (below_size (qW HB.out)) : w.heap.size ≤ gb140)); have GE140 := aM ((by rw [hg]; exact (below_size (qW HB.out)) : w.heap.size ≤ gb140)); replace HB := aM (below_step (qW HB.out) hb); clear hb hbox hg) | ((with_reducible refine gate_dst (N := 15) rfl ?_); refine Kd.R_make (Kd.int .i64) _ 3 rfl (N := 15) rfl 22 _ _ rfl ji4 rfl rfl Try.underlying22 (.int .i64 0) 8 info3 rfl (by decide) (by omega) 0 (ok := fun _ => True) (okp := fun _ => True) rfl (fun _ hk => hk) trivial oD (Nat.le_trans (Nat.mul_le_mul_right _ (oD : ji4.toNat ≤ 35184372088832)) (by omega)) (Below.refl _ _) (Nat.le_refl _) ?_; intro v142 w8 ho9 hb hg_ hnew_; clear hg_ hnew_; (first | rw [← Ny141.out] at ho9 | (simp only [Int.reduceToNat] at ho9; rw [← Ny141.out] at ho9)); have HO143 := aM (Kd.R_lower ho9 (below_size (qW HB.out))); replace BK140 := bB BK140 hb; replace HB := aM (below_step (qW HB.out) hb); clear hb ho9; obtain ⟨Ao10, co10, eo10⟩ := Kd.R_slice HO143.out; subst eo10; obtain ⟨hcz11_0, hcz11_1, hcz11_2, hcz11_3⟩ := cz4 BK140.out; obtain ⟨hfz11_0, hfz11_1, hfz11_2, hfz11_3⟩ := fz4 BK140.out))
 refine bodyPost_ret (results_cell_row rfl _ _ gb140 24 #[.int .i64 a0, .int .i64 a1, .int .i64 a2, .slice Ao10 y141.length co10] (0, 0) _ rfl (by refine qB ?_; refine blk_put (cs := #[.int .i64 a0, .int .i64 a1, .int .i64 a2, .slice none 0 0]) ?_ 3 _ rfl; refine qB ?_; refine blk_put (cs := #[.int .i64 a0, .int .i64 a1, .int .i64 0, .slice none 0 0]) ?_ 2 _ rfl; refine qB ?_; refine blk_put (cs := #[.int .i64 a0, .int .i64 0, .int .i64 0, .slice none 0 0]) ?_ 1 _ rfl; refine qB ?_; refine blk_put (cs := #[.int .i64 0, .int .i64 0, .int .i64 0, .slice none 0 0]) ?_ 0 _ rfl; refine qB ?_; exact BK140.out) Try.underlying24 rfl (by kernel_rfl)) rfl ?_
 exact ⟨_, by first | rfl | (simp [errW_none, errW_some] <;> rfl) | (simp only [← hji4]; first | rfl | (simp [errW_none, errW_some] <;> rfl)) | (simp [*, errW_none, errW_some] <;> rfl), by refine qR ?_; exact Kd.R_mono (Kd.R_far (p := ⟨gb140, 3, none⟩) (Kd.R_far (p := ⟨gb140, 2, none⟩) (Kd.R_far (p := ⟨gb140, 1, none⟩) (Kd.R_far (p := ⟨gb140, 0, none⟩) (Kd.R_types HO143.out BK140.out (by decide)) (fun _ hk => hk.2) (.int .i64 a0)) (fun _ hk => hk.2) (.int .i64 a1)) (fun _ hk => hk.2) (.int .i64 a2)) (fun _ hk => hk.2) (.slice Ao10 y141.length co10)) (fun _ hk => trivial), by exact qW HB.out⟩

/-! ### spec_validImage: function 54 -/
def spec_validImage.f (k : Nat) (a0_0 : Int) (a0_1 : Int) (a0_2 : Int) (l0_3 : List Int) : Option (Bool) := (spec_validShape.f a0_0 a0_1 a0_2).bind fun t579 => (if t579 = true then (if (l0_3.length : Int) = (wrap64 ((wrap64 (a0_0 * a0_1)) * a0_2)) then ((spec_allIn.f k l0_3 0 255).bind fun t580 => (some t580)) else (some false)) else (some false))
theorem spec_validImage.mono : ∀ a0 a1 a2 a3 k, LeO (spec_validImage.f k a0 a1 a2 a3) (spec_validImage.f (k + 1) a0 a1 a2 a3) := by
 intro a0 a1 a2 a3 k
 unfold spec_validImage.f
 repeat' first
   | (with_reducible exact spec_allIn.mono _ _ _ _)
   | (with_reducible exact LeO.refl _)
   | (with_reducible exact LeO.none _)
   | (with_reducible refine LeO.ite ?_ ?_)
   | (with_reducible refine LeO.bind ?_ (fun _ => ?_))
   | exact spec_allIn.mono _ _ _ _
   | exact LeO.none _
   | refine LeO.ite ?_ ?_
   | refine LeO.bind ?_ (fun _ => ?_)
set_option maxHeartbeats 8000000 in
set_option maxRecDepth 100000 in
theorem spec_validImage.calls (k : Nat) (a0_0 : Int) (a0_1 : Int) (a0_2 : Int) (A0_3 : Option Addr) (c0_3 : Nat) (l0_3 : List Int) (r : Bool) (w : World) (hr0_3 : Kd.C (Kd.int .i64) w A0_3 l0_3.length l0_3) (hc0_3 : l0_3.length ≤ c0_3) (h : spec_validImage.f k a0_0 a0_1 a0_2 l0_3 = some r) :
  Calls Try.prog 54 #[.agg #[.int .i64 a0_0, .int .i64 a0_1, .int .i64 a0_2, .slice A0_3 l0_3.length c0_3]] w fun e w' => e = .returned (.bool r) ∧ Below w.heap.size w w' := by
 have hu24 := Try.underlying24
 have HR0_3 := aM hr0_3
 have HC0_3 := aM hc0_3
 clear hr0_3 hc0_3
 have HB := aM (Below.refl w.heap.size w)
 have H : ((spec_validShape.f a0_0 a0_1 a0_2).bind fun t579 => (if t579 = true then (if (l0_3.length : Int) = (wrap64 ((wrap64 (a0_0 * a0_1)) * a0_2)) then ((spec_allIn.f k l0_3 0 255).bind fun t580 => (some t580)) else (some false)) else (some false))) = some r := h
 clear h
 replace H := Option.bind_eq_some_iff.mp H
 obtain ⟨t579, A20, H⟩ := H
 replace H : (if t579 = true then (if (l0_3.length : Int) = (wrap64 ((wrap64 (a0_0 * a0_1)) * a0_2)) then ((spec_allIn.f k l0_3 0 255).bind fun t580 => (some t580)) else (some false)) else (some false)) = some r := H
 have A2 := aM A20
 clear A20
 by_cases c3 : t579 = true
 rotate_left
 ·
  replace c3 := Bool.eq_false_iff.mpr c3
  subst c3
  have H1 : (some false) = some r := by rw [if_neg (show ¬ (false = true) by decide)] at H; exact H
  clear H
  have H := H1
  clear H1
  obtain rfl := Option.some.inj H
  go_enter Try.func54, Try.ntmps54
  go_wp2_with (first | ((with_reducible refine gate_dst (N := 1) rfl ?_); (try (refine gate_guard (by rfl) ?_; dsimp only)); refine box_event ?hg (N := 1) ?hd (cs := #[.int .i64 a0_0, .int .i64 a0_1, .int .i64 a0_2, .slice A0_3 l0_3.length c0_3]) (t := 24) ?hr ?_; (case hd => rfl); (case hg => rfl); (case hr => first | (go_simp; done) | (go_simp; rfl)); intro gb578 hg w10 hbox hb; have BK578 := aM (hbox); have GW578 := aM ((by rw [hg]; exact (below_size (qW HB.out)) : w.heap.size ≤ gb578)); have GE578 := aM ((by rw [hg]; exact (below_size (qW HB.out)) : w.heap.size ≤ gb578)); replace HB := aM (below_step (qW HB.out) hb); clear hb hbox hg; obtain ⟨hcz11_0, hcz11_1, hcz11_2, hcz11_3⟩ := cz4 BK578.out; obtain ⟨hfz11_0, hfz11_1, hfz11_2, hfz11_3⟩ := fz4 BK578.out) | ((with_reducible refine gate_callee (f := 37) rfl ?_); refine goesL_ (some 9) rfl rfl Try.func37 (by kernel_rfl) rfl #[.int .i64 a0_0, .int .i64 a0_1, .int .i64 a0_2] rfl qM ?_; (with_reducible refine (spec_validShape.calls a0_0 a0_1 a0_2 false _ A2.out).mono ?_); rintro e w' ⟨rfl, ⟨nd, rfl⟩⟩; refine ⟨_, rfl, ?_⟩))
  go_ret
  exact ⟨qX, by exact qW HB.out⟩
 subst c3
 have H1 : (if (l0_3.length : Int) = (wrap64 ((wrap64 (a0_0 * a0_1)) * a0_2)) then ((spec_allIn.f k l0_3 0 255).bind fun t580 => (some t580)) else (some false)) = some r := by rw [if_pos rfl] at H; exact H
 clear H
 have H := H1
 clear H1
 by_cases c4 : (l0_3.length : Int) = (wrap64 ((wrap64 (a0_0 * a0_1)) * a0_2))
 rotate_left
 ·
  rw [if_neg c4] at H
  have c4b0 : ((l0_3.length : Int) == (wrap64 ((wrap64 (a0_0 * a0_1)) * a0_2))) = false := beq_eq_false_iff_ne.mpr c4
  have c4b1 : ((l0_3.length : Int) != (wrap64 ((wrap64 (a0_0 * a0_1)) * a0_2))) = true := bne_iff_ne.mpr c4
  obtain rfl := Option.some.inj H
  go_enter Try.func54, Try.ntmps54
  go_wp2_with (first | ((with_reducible refine gate_dst (N := 1) rfl ?_); (try (refine gate_guard (by rfl) ?_; dsimp only)); refine box_event ?hg (N := 1) ?hd (cs := #[.int .i64 a0_0, .int .i64 a0_1, .int .i64 a0_2, .slice A0_3 l0_3.length c0_3]) (t := 24) ?hr ?_; (case hd => rfl); (case hg => rfl); (case hr => first | (go_simp; done) | (go_simp; rfl)); intro gb578 hg w8 hbox hb; have BK578 := aM (hbox); have GW578 := aM ((by rw [hg]; exact (below_size (qW HB.out)) : w.heap.size ≤ gb578)); have GE578 := aM ((by rw [hg]; exact (below_size (qW HB.out)) : w.heap.size ≤ gb578)); replace HB := aM (below_step (qW HB.out) hb); clear hb hbox hg; obtain ⟨hcz9_0, hcz9_1, hcz9_2, hcz9_3⟩ := cz4 BK578.out; obtain ⟨hfz9_0, hfz9_1, hfz9_2, hfz9_3⟩ := fz4 BK578.out) | ((with_reducible refine gate_callee (f := 37) rfl ?_); refine goesL_ (some 9) rfl rfl Try.func37 (by kernel_rfl) rfl #[.int .i64 a0_0, .int .i64 a0_1, .int .i64 a0_2] rfl qM ?_; (with_reducible refine (spec_validShape.calls a0_0 a0_1 a0_2 true _ A2.out).mono ?_); rintro e w' ⟨rfl, ⟨nd, rfl⟩⟩; refine ⟨_, rfl, ?_⟩))
  go_ret
  exact ⟨qX, by exact qW HB.out⟩
 rw [if_pos c4] at H
 have c4b0 : ((l0_3.length : Int) == (wrap64 ((wrap64 (a0_0 * a0_1)) * a0_2))) = true := beq_iff_eq.mpr c4
 have c4b1 : ((l0_3.length : Int) != (wrap64 ((wrap64 (a0_0 * a0_1)) * a0_2))) = false := bne_eq_false_iff_eq.mpr c4
 clear c4
 replace H := Option.bind_eq_some_iff.mp H
 obtain ⟨t580, A50, H⟩ := H
 replace H : (some t580) = some r := H
 have A5 := aM A50
 clear A50
 obtain rfl := Option.some.inj H
 go_enter Try.func54, Try.ntmps54
 go_wp2_with (first | ((with_reducible refine gate_dst (N := 1) rfl ?_); (try (refine gate_guard (by rfl) ?_; dsimp only)); refine box_event ?hg (N := 1) ?hd (cs := #[.int .i64 a0_0, .int .i64 a0_1, .int .i64 a0_2, .slice A0_3 l0_3.length c0_3]) (t := 24) ?hr ?_; (case hd => rfl); (case hg => rfl); (case hr => first | (go_simp; done) | (go_simp; rfl)); intro gb578 hg w6 hbox hb; have BK578 := aM (hbox); have GW578 := aM ((by rw [hg]; exact (below_size (qW HB.out)) : w.heap.size ≤ gb578)); have GE578 := aM ((by rw [hg]; exact (below_size (qW HB.out)) : w.heap.size ≤ gb578)); replace HB := aM (below_step (qW HB.out) hb); clear hb hbox hg; obtain ⟨hcz7_0, hcz7_1, hcz7_2, hcz7_3⟩ := cz4 BK578.out; obtain ⟨hfz7_0, hfz7_1, hfz7_2, hfz7_3⟩ := fz4 BK578.out) | ((with_reducible refine gate_callee (f := 37) rfl ?_); refine goesL_ (some 9) rfl rfl Try.func37 (by kernel_rfl) rfl #[.int .i64 a0_0, .int .i64 a0_1, .int .i64 a0_2] rfl qM ?_; (with_reducible refine (spec_validShape.calls a0_0 a0_1 a0_2 true _ A2.out).mono ?_); rintro e w' ⟨rfl, ⟨nd, rfl⟩⟩; refine ⟨_, rfl, ?_⟩) | (go_at_call 57; (with_reducible refine (spec_allIn.calls k _ _ l0_3 0 255 t580 _ ?side1 ?side2 A5.out).mono ?_); (case side1 => exact qC (Kd.C_below HR0_3.out (qW HB.out))); (case side2 => exact HC0_3.out); rintro e w' ⟨rfl, ⟨nd, rfl⟩⟩))
 go_ret
 exact ⟨qX, by exact qW HB.out⟩

/-! ### impl_isSide: function 84 -/
def impl_isSide.f (a0 : Int) : Option (Bool) := if a0 ≥ 1 then (some (decide (a0 ≤ 16))) else (some false)
set_option maxHeartbeats 8000000 in
set_option maxRecDepth 100000 in
theorem impl_isSide.calls (a0 : Int) (r : Bool) (w : World) (h : impl_isSide.f a0 = some r) :
  Calls Try.prog 84 #[.int .i64 a0] w fun e w' => e = .returned (.bool r) ∧ Drawn0 w w' := by
 have H : (if a0 ≥ 1 then (some (decide (a0 ≤ 16))) else (some false)) = some r := h
 clear h
 by_cases c2 : a0 ≥ 1
 ·
  rw [if_pos c2] at H
  have c2b0 : decide (1 ≤ a0) = true := decide_eq_true c2
  clear c2
  obtain rfl := Option.some.inj H
  go_enter Try.func84, Try.ntmps84
  go_wp2
  go_ret
  exact ⟨by first | rfl | (simp; done) | (simp [*]; done), by repeat (first | exact Drawn0.refl _ | apply Drawn0.step)⟩
 rw [if_neg c2] at H
 have c2b0 : decide (1 ≤ a0) = false := decide_eq_false c2
 clear c2
 obtain rfl := Option.some.inj H
 go_enter Try.func84, Try.ntmps84
 go_wp2
 go_ret
 exact ⟨by first | rfl | (simp; done) | (simp [*]; done), by repeat (first | exact Drawn0.refl _ | apply Drawn0.step)⟩

/-! ### impl_isShape: function 67 -/
def impl_isShape.f (a0 : Int) (a1 : Int) (a2 : Int) : Option (Bool) := (impl_isSide.f a0).bind fun t357 => (if t357 = true then ((impl_isSide.f a1).bind fun t358 => (if t358 = true then (if a2 ≥ 1 then (some (decide (a2 ≤ 4))) else (some false)) else (some false))) else (some false))
set_option maxHeartbeats 8000000 in
set_option maxRecDepth 100000 in
theorem impl_isShape.calls (a0 : Int) (a1 : Int) (a2 : Int) (r : Bool) (w : World) (h : impl_isShape.f a0 a1 a2 = some r) :
  Calls Try.prog 67 #[.int .i64 a0, .int .i64 a1, .int .i64 a2] w fun e w' => e = .returned (.bool r) ∧ Drawn0 w w' := by
 have H : ((impl_isSide.f a0).bind fun t357 => (if t357 = true then ((impl_isSide.f a1).bind fun t358 => (if t358 = true then (if a2 ≥ 1 then (some (decide (a2 ≤ 4))) else (some false)) else (some false))) else (some false))) = some r := h
 clear h
 replace H := Option.bind_eq_some_iff.mp H
 obtain ⟨t357, A40, H⟩ := H
 replace H : (if t357 = true then ((impl_isSide.f a1).bind fun t358 => (if t358 = true then (if a2 ≥ 1 then (some (decide (a2 ≤ 4))) else (some false)) else (some false))) else (some false)) = some r := H
 have A4 := aM A40
 clear A40
 by_cases c5 : t357 = true
 rotate_left
 ·
  replace c5 := Bool.eq_false_iff.mpr c5
  subst c5
  have H1 : (some false) = some r := by rw [if_neg (show ¬ (false = true) by decide)] at H; exact H
  clear H
  have H := H1
  clear H1
  obtain rfl := Option.some.inj H
  go_enter Try.func67, Try.ntmps67
  go_wp2_with (first | ((with_reducible refine gate_callee (f := 84) rfl ?_); refine goesL_ (some 8) rfl rfl Try.func84 (by kernel_rfl) rfl #[.int .i64 a0] rfl qM ?_; (with_reducible refine (impl_isSide.calls a0 false _ A4.out).mono ?_); rintro e w' ⟨rfl, ⟨nd, rfl⟩⟩; refine ⟨_, rfl, ?_⟩))
  go_ret
  exact ⟨by first | rfl | (simp; done) | (simp [*]; done), by repeat (first | exact Drawn0.refl _ | apply Drawn0.step)⟩
 subst c5
 have H1 : ((impl_isSide.f a1).bind fun t358 => (if t358 = true then (if a2 ≥ 1 then (some (decide (a2 ≤ 4))) else (some false)) else (some false))) = some r := by rw [if_pos rfl] at H; exact H
 clear H
 have H := H1
 clear H1
 replace H := Option.bind_eq_some_iff.mp H
 obtain ⟨t358, A60, H⟩ := H
 replace H : (if t358 = true then (if a2 ≥ 1 then (some (decide (a2 ≤ 4))) else (some false)) else (some false)) = some r := H
 have A6 := aM A60
 clear A60
 by_cases c7 : t358 = true
 rotate_left
 ·
  replace c7 := Bool.eq_false_iff.mpr c7
  subst c7
  have H1 : (some false) = some r := by rw [if_neg (show ¬ (false = true) by decide)] at H; exact H
  clear H
  have H := H1
  clear H1
  obtain rfl := Option.some.inj H
  go_enter Try.func67, Try.ntmps67
  go_wp2_with (first | ((with_reducible refine gate_callee (f := 84) rfl ?_); refine goesL_ (some 8) rfl rfl Try.func84 (by kernel_rfl) rfl #[.int .i64 a0] rfl qM ?_; (with_reducible refine (impl_isSide.calls a0 true _ A4.out).mono ?_); rintro e w' ⟨rfl, ⟨nd, rfl⟩⟩; refine ⟨_, rfl, ?_⟩) | (go_at_call 84; (with_reducible refine (impl_isSide.calls a1 false _ A6.out).mono ?_); rintro e w' ⟨rfl, ⟨nd, rfl⟩⟩))
  go_ret
  exact ⟨by first | rfl | (simp; done) | (simp [*]; done), by repeat (first | exact Drawn0.refl _ | apply Drawn0.step)⟩
 subst c7
 have H1 : (if a2 ≥ 1 then (some (decide (a2 ≤ 4))) else (some false)) = some r := by rw [if_pos rfl] at H; exact H
 clear H
 have H := H1
 clear H1
 by_cases c8 : a2 ≥ 1
 ·
  rw [if_pos c8] at H
  have c8b0 : decide (1 ≤ a2) = true := decide_eq_true c8
  clear c8
  obtain rfl := Option.some.inj H
  go_enter Try.func67, Try.ntmps67
  go_wp2_with (first | ((with_reducible refine gate_callee (f := 84) rfl ?_); refine goesL_ (some 8) rfl rfl Try.func84 (by kernel_rfl) rfl #[.int .i64 a0] rfl qM ?_; (with_reducible refine (impl_isSide.calls a0 true _ A4.out).mono ?_); rintro e w' ⟨rfl, ⟨nd, rfl⟩⟩; refine ⟨_, rfl, ?_⟩) | (go_at_call 84; (with_reducible refine (impl_isSide.calls a1 true _ A6.out).mono ?_); rintro e w' ⟨rfl, ⟨nd, rfl⟩⟩))
  go_ret
  exact ⟨by first | rfl | (simp; done) | (simp [*]; done), by repeat (first | exact Drawn0.refl _ | apply Drawn0.step)⟩
 rw [if_neg c8] at H
 have c8b0 : decide (1 ≤ a2) = false := decide_eq_false c8
 clear c8
 obtain rfl := Option.some.inj H
 go_enter Try.func67, Try.ntmps67
 go_wp2_with (first | ((with_reducible refine gate_callee (f := 84) rfl ?_); refine goesL_ (some 8) rfl rfl Try.func84 (by kernel_rfl) rfl #[.int .i64 a0] rfl qM ?_; (with_reducible refine (impl_isSide.calls a0 true _ A4.out).mono ?_); rintro e w' ⟨rfl, ⟨nd, rfl⟩⟩; refine ⟨_, rfl, ?_⟩) | (go_at_call 84; (with_reducible refine (impl_isSide.calls a1 true _ A6.out).mono ?_); rintro e w' ⟨rfl, ⟨nd, rfl⟩⟩))
 go_ret
 exact ⟨by first | rfl | (simp; done) | (simp [*]; done), by repeat (first | exact Drawn0.refl _ | apply Drawn0.step)⟩

/-! ### impl_isImage: function 52 -/
def impl_isImage.f (a0_0 : Int) (a0_1 : Int) (a0_2 : Int) (l0_3 : List Int) : Option (Bool) := (impl_isShape.f a0_0 a0_1 a0_2).bind fun t723 => (if t723 = true then (if (l0_3.length : Int) = (wrap64 ((wrap64 (a0_0 * a0_1)) * a0_2)) then ((impl_areBytes.f l0_3).bind fun t724 => (some t724)) else (some false)) else (some false))
set_option maxHeartbeats 8000000 in
set_option maxRecDepth 100000 in
theorem impl_isImage.calls (a0_0 : Int) (a0_1 : Int) (a0_2 : Int) (A0_3 : Option Addr) (c0_3 : Nat) (l0_3 : List Int) (r : Bool) (w : World) (hr0_3 : Kd.C (Kd.int .i64) w A0_3 l0_3.length l0_3) (hc0_3 : l0_3.length ≤ c0_3) (h : impl_isImage.f a0_0 a0_1 a0_2 l0_3 = some r) :
  Calls Try.prog 52 #[.agg #[.int .i64 a0_0, .int .i64 a0_1, .int .i64 a0_2, .slice A0_3 l0_3.length c0_3]] w fun e w' => e = .returned (.bool r) ∧ Below w.heap.size w w' := by
 have hu24 := Try.underlying24
 have HR0_3 := aM hr0_3
 have HC0_3 := aM hc0_3
 clear hr0_3 hc0_3
 have HB := aM (Below.refl w.heap.size w)
 have H : ((impl_isShape.f a0_0 a0_1 a0_2).bind fun t723 => (if t723 = true then (if (l0_3.length : Int) = (wrap64 ((wrap64 (a0_0 * a0_1)) * a0_2)) then ((impl_areBytes.f l0_3).bind fun t724 => (some t724)) else (some false)) else (some false))) = some r := h
 clear h
 replace H := Option.bind_eq_some_iff.mp H
 obtain ⟨t723, A20, H⟩ := H
 replace H : (if t723 = true then (if (l0_3.length : Int) = (wrap64 ((wrap64 (a0_0 * a0_1)) * a0_2)) then ((impl_areBytes.f l0_3).bind fun t724 => (some t724)) else (some false)) else (some false)) = some r := H
 have A2 := aM A20
 clear A20
 by_cases c3 : t723 = true
 rotate_left
 ·
  replace c3 := Bool.eq_false_iff.mpr c3
  subst c3
  have H1 : (some false) = some r := by rw [if_neg (show ¬ (false = true) by decide)] at H; exact H
  clear H
  have H := H1
  clear H1
  obtain rfl := Option.some.inj H
  go_enter Try.func52, Try.ntmps52
  go_wp2_with (first | ((with_reducible refine gate_dst (N := 1) rfl ?_); (try (refine gate_guard (by rfl) ?_; dsimp only)); refine box_event ?hg (N := 1) ?hd (cs := #[.int .i64 a0_0, .int .i64 a0_1, .int .i64 a0_2, .slice A0_3 l0_3.length c0_3]) (t := 24) ?hr ?_; (case hd => rfl); (case hg => rfl); (case hr => first | (go_simp; done) | (go_simp; rfl)); intro gb722 hg w10 hbox hb; have BK722 := aM (hbox); have GW722 := aM ((by rw [hg]; exact (below_size (qW HB.out)) : w.heap.size ≤ gb722)); have GE722 := aM ((by rw [hg]; exact (below_size (qW HB.out)) : w.heap.size ≤ gb722)); replace HB := aM (below_step (qW HB.out) hb); clear hb hbox hg; obtain ⟨hcz11_0, hcz11_1, hcz11_2, hcz11_3⟩ := cz4 BK722.out; obtain ⟨hfz11_0, hfz11_1, hfz11_2, hfz11_3⟩ := fz4 BK722.out) | ((with_reducible refine gate_callee (f := 67) rfl ?_); refine goesL_ (some 9) rfl rfl Try.func67 (by kernel_rfl) rfl #[.int .i64 a0_0, .int .i64 a0_1, .int .i64 a0_2] rfl qM ?_; (with_reducible refine (impl_isShape.calls a0_0 a0_1 a0_2 false _ A2.out).mono ?_); rintro e w' ⟨rfl, ⟨nd, rfl⟩⟩; refine ⟨_, rfl, ?_⟩))
  go_ret
  exact ⟨qX, by exact qW HB.out⟩
 subst c3
 have H1 : (if (l0_3.length : Int) = (wrap64 ((wrap64 (a0_0 * a0_1)) * a0_2)) then ((impl_areBytes.f l0_3).bind fun t724 => (some t724)) else (some false)) = some r := by rw [if_pos rfl] at H; exact H
 clear H
 have H := H1
 clear H1
 by_cases c4 : (l0_3.length : Int) = (wrap64 ((wrap64 (a0_0 * a0_1)) * a0_2))
 rotate_left
 ·
  rw [if_neg c4] at H
  have c4b0 : ((l0_3.length : Int) == (wrap64 ((wrap64 (a0_0 * a0_1)) * a0_2))) = false := beq_eq_false_iff_ne.mpr c4
  have c4b1 : ((l0_3.length : Int) != (wrap64 ((wrap64 (a0_0 * a0_1)) * a0_2))) = true := bne_iff_ne.mpr c4
  obtain rfl := Option.some.inj H
  go_enter Try.func52, Try.ntmps52
  go_wp2_with (first | ((with_reducible refine gate_dst (N := 1) rfl ?_); (try (refine gate_guard (by rfl) ?_; dsimp only)); refine box_event ?hg (N := 1) ?hd (cs := #[.int .i64 a0_0, .int .i64 a0_1, .int .i64 a0_2, .slice A0_3 l0_3.length c0_3]) (t := 24) ?hr ?_; (case hd => rfl); (case hg => rfl); (case hr => first | (go_simp; done) | (go_simp; rfl)); intro gb722 hg w8 hbox hb; have BK722 := aM (hbox); have GW722 := aM ((by rw [hg]; exact (below_size (qW HB.out)) : w.heap.size ≤ gb722)); have GE722 := aM ((by rw [hg]; exact (below_size (qW HB.out)) : w.heap.size ≤ gb722)); replace HB := aM (below_step (qW HB.out) hb); clear hb hbox hg; obtain ⟨hcz9_0, hcz9_1, hcz9_2, hcz9_3⟩ := cz4 BK722.out; obtain ⟨hfz9_0, hfz9_1, hfz9_2, hfz9_3⟩ := fz4 BK722.out) | ((with_reducible refine gate_callee (f := 67) rfl ?_); refine goesL_ (some 9) rfl rfl Try.func67 (by kernel_rfl) rfl #[.int .i64 a0_0, .int .i64 a0_1, .int .i64 a0_2] rfl qM ?_; (with_reducible refine (impl_isShape.calls a0_0 a0_1 a0_2 true _ A2.out).mono ?_); rintro e w' ⟨rfl, ⟨nd, rfl⟩⟩; refine ⟨_, rfl, ?_⟩))
  go_ret
  exact ⟨qX, by exact qW HB.out⟩
 rw [if_pos c4] at H
 have c4b0 : ((l0_3.length : Int) == (wrap64 ((wrap64 (a0_0 * a0_1)) * a0_2))) = true := beq_iff_eq.mpr c4
 have c4b1 : ((l0_3.length : Int) != (wrap64 ((wrap64 (a0_0 * a0_1)) * a0_2))) = false := bne_eq_false_iff_eq.mpr c4
 clear c4
 replace H := Option.bind_eq_some_iff.mp H
 obtain ⟨t724, A50, H⟩ := H
 replace H : (some t724) = some r := H
 have A5 := aM A50
 clear A50
 obtain rfl := Option.some.inj H
 go_enter Try.func52, Try.ntmps52
 go_wp2_with (first | ((with_reducible refine gate_dst (N := 1) rfl ?_); (try (refine gate_guard (by rfl) ?_; dsimp only)); refine box_event ?hg (N := 1) ?hd (cs := #[.int .i64 a0_0, .int .i64 a0_1, .int .i64 a0_2, .slice A0_3 l0_3.length c0_3]) (t := 24) ?hr ?_; (case hd => rfl); (case hg => rfl); (case hr => first | (go_simp; done) | (go_simp; rfl)); intro gb722 hg w6 hbox hb; have BK722 := aM (hbox); have GW722 := aM ((by rw [hg]; exact (below_size (qW HB.out)) : w.heap.size ≤ gb722)); have GE722 := aM ((by rw [hg]; exact (below_size (qW HB.out)) : w.heap.size ≤ gb722)); replace HB := aM (below_step (qW HB.out) hb); clear hb hbox hg; obtain ⟨hcz7_0, hcz7_1, hcz7_2, hcz7_3⟩ := cz4 BK722.out; obtain ⟨hfz7_0, hfz7_1, hfz7_2, hfz7_3⟩ := fz4 BK722.out) | ((with_reducible refine gate_callee (f := 67) rfl ?_); refine goesL_ (some 9) rfl rfl Try.func67 (by kernel_rfl) rfl #[.int .i64 a0_0, .int .i64 a0_1, .int .i64 a0_2] rfl qM ?_; (with_reducible refine (impl_isShape.calls a0_0 a0_1 a0_2 true _ A2.out).mono ?_); rintro e w' ⟨rfl, ⟨nd, rfl⟩⟩; refine ⟨_, rfl, ?_⟩) | (go_at_call 66; (with_reducible refine (impl_areBytes.calls _ _ l0_3 t724 _ ?side1 ?side2 A5.out).mono ?_); (case side1 => exact qC (Kd.C_below HR0_3.out (qW HB.out))); (case side2 => exact HC0_3.out); rintro e w' ⟨rfl, ⟨nd, rfl⟩⟩))
 go_ret
 exact ⟨qX, by exact qW HB.out⟩

/-- A valid image. -/
def ImgOk (a0 a1 a2 : Int) (l : List Int) : Prop := (1 ≤ a0 ∧ a0 ≤ 16) ∧ (1 ≤ a1 ∧ a1 ≤ 16) ∧ (1 ≤ a2 ∧ a2 ≤ 4) ∧ (l.length : Int) = a0 * a1 * a2 ∧ ∀ x ∈ l, 0 ≤ x ∧ x ≤ 255
theorem img_bounds {a0 a1 a2 : Int} (h0 : 1 ≤ a0 ∧ a0 ≤ 16) (h1 : 1 ≤ a1 ∧ a1 ≤ 16) (h2 : 1 ≤ a2 ∧ a2 ≤ 4) : 1 ≤ a0 * a1 ∧ a0 * a1 ≤ 256 ∧ 1 ≤ a0 * a1 * a2 ∧ a0 * a1 * a2 ≤ 1024 := by
 have p1 : 1 * 1 ≤ a0 * a1 := Int.mul_le_mul h0.1 h1.1 (by omega) (by omega)
 have p2 : a0 * a1 ≤ 16 * 16 := Int.mul_le_mul h0.2 h1.2 (by omega) (by omega)
 have p3 : 1 * 1 ≤ a0 * a1 * a2 := Int.mul_le_mul (by omega) h2.1 (by omega) (by omega)
 have p4 : a0 * a1 * a2 ≤ 256 * 4 := Int.mul_le_mul (by omega) h2.2 (by omega) (by omega)
 omega
theorem isSide_some (a : Int) : impl_isSide.f a = some (decide (1 ≤ a ∧ a ≤ 16)) := by
 unfold impl_isSide.f
 split
 ·
  rename_i h; simp [show 1 ≤ a from h]
 rename_i h; simp [show ¬ 1 ≤ a from h]
theorem isShape_some (a b c : Int) : impl_isShape.f a b c = some (decide ((1 ≤ a ∧ a ≤ 16) ∧ (1 ≤ b ∧ b ≤ 16) ∧ (1 ≤ c ∧ c ≤ 4))) := by
 unfold impl_isShape.f
 rw [isSide_some, isSide_some]
 simp only [Option.bind_some, decide_eq_true_eq]
 by_cases h1 : 1 ≤ a ∧ a ≤ 16 <;> by_cases h2 : 1 ≤ b ∧ b ≤ 16 <;> by_cases h3 : 1 ≤ c
 rotate_left
 ·
  rw [if_pos h1, if_pos h2, if_neg h3]; simp [h1, h2, h3]
 ·
  rw [if_pos h1, if_neg h2]; simp [h1, h2]
 ·
  rw [if_pos h1, if_neg h2]; simp [h1, h2]
 ·
  rw [if_neg h1]; simp [h1]
 ·
  rw [if_neg h1]; simp [h1]
 ·
  rw [if_neg h1]; simp [h1]
 ·
  rw [if_neg h1]; simp [h1]
 rw [if_pos h1, if_pos h2, if_pos h3]; simp [h1, h2, h3]
theorem wrap_small {x : Int} (h0 : -9223372036854775808 ≤ x) (h1 : x ≤ 9223372036854775807) : wrap64 x = x := by
 unfold wrap64
 omega
theorem any_bytes (l : List Int) : (!(l.any fun n => decide (n < 0) || decide (255 < n))) = true ↔ ∀ x ∈ l, 0 ≤ x ∧ x ≤ 255 := by
 simp only [Bool.not_eq_true', List.any_eq_false, Bool.or_eq_true, decide_eq_true_eq, not_or, Int.not_lt]
/-- isImage answers, and yes exactly at valid images. -/
theorem isImage_some (a b c : Int) (l : List Int) : ∃ r, impl_isImage.f a b c l = some r ∧ (r = true ↔ ImgOk a b c l) := by
 unfold impl_isImage.f
 rw [isShape_some]
 simp only [Option.bind_some, decide_eq_true_eq]
 by_cases h : (1 ≤ a ∧ a ≤ 16) ∧ (1 ≤ b ∧ b ≤ 16) ∧ (1 ≤ c ∧ c ≤ 4)
 rotate_left
 ·
  rw [if_neg h]
  exact ⟨_, rfl, by simp, fun e => absurd ⟨e.1, e.2.1, e.2.2.1⟩ h⟩
 rw [if_pos h]
 have hb := img_bounds h.1 h.2.1 h.2.2
 rw [wrap_small (x := a * b) (by omega) (by omega), wrap_small (x := a * b * c) (by omega) (by omega)]
 by_cases hl : (l.length : Int) = a * b * c
 rotate_left
 ·
  rw [if_neg hl]
  exact ⟨_, rfl, by simp, fun e => absurd e.2.2.2.1 hl⟩
 rw [if_pos hl]
 unfold impl_areBytes.f
 simp only [Option.bind_some]
 exact ⟨_, rfl, (any_bytes l).trans ⟨fun e => ⟨h.1, h.2.1, h.2.2, hl, e⟩, fun e => e.2.2.2.2⟩⟩
theorem isImage_true {a b c : Int} {l : List Int} (h : impl_isImage.f a b c l = some true) : ImgOk a b c l := by
 obtain ⟨r, hr, hi⟩ := isImage_some a b c l
 rw [h] at hr
 exact hi.1 (Option.some.inj hr).symm
theorem pix_fits {a0 a1 a2 x y : Int} (h1 : 0 ≤ a0) (h2 : 0 ≤ a2) (hx : x < a0) (hy0 : 0 ≤ y) (hy : y < a1) : (y * a0 + x) * a2 + a2 ≤ a0 * a1 * a2 := by
 have e1 : y * a0 + x + 1 ≤ a0 * a1 := by
  have : (y + 1) * a0 ≤ a1 * a0 := Int.mul_le_mul_of_nonneg_right (by omega) h1
  rw [Int.add_mul, Int.one_mul] at this
  rw [Int.mul_comm a0 a1]
  omega
 have e2 : (y * a0 + x + 1) * a2 ≤ a0 * a1 * a2 := Int.mul_le_mul_of_nonneg_right e1 h2
 rw [Int.add_mul, Int.one_mul] at e2
 exact e2
theorem scaled {x a n : Int} (hx : 0 ≤ x) (hx' : x < n) (ha : 0 ≤ a) (ha' : a ≤ 16) (hn : n ≤ 16) : 0 ≤ x * a ∧ x * a ≤ 256 ∧ 0 ≤ x * a / n ∧ (1 ≤ a → x * a / n < a) ∧ x * a / n ≤ 256 := by
 have p1 : 0 ≤ x * a := Int.mul_nonneg hx ha
 have p2 : x * a ≤ 16 * 16 := Int.mul_le_mul (by omega) ha' ha (by omega)
 refine ⟨p1, by omega, Int.ediv_nonneg p1 (by omega), fun h1 => ?_, ?_⟩
 rotate_left
 ·
  exact Int.le_trans (Int.ediv_le_self _ p1) (by omega)
 refine Int.ediv_lt_of_lt_mul (by omega) ?_
 rw [Int.mul_comm a n]
 exact Int.mul_lt_mul_of_pos_right hx' (by omega)
theorem isSide_true {a : Int} (h : impl_isSide.f a = some true) : 1 ≤ a ∧ a ≤ 16 := by
 rw [isSide_some] at h
 exact of_decide_eq_true (Option.some.inj h)

/-! ### spec_distance: function 92 -/
def spec_distance.f (a0 : Int) : Option (Int) := if a0 < 0 then (some (wrap64 (-a0))) else (some a0)
set_option maxHeartbeats 8000000 in
set_option maxRecDepth 100000 in
theorem spec_distance.calls (a0 : Int) (r : Int) (w : World) (h : spec_distance.f a0 = some r) :
  Calls Try.prog 92 #[.int .i64 a0] w fun e w' => e = .returned (.int .i64 r) ∧ Drawn0 w w' := by
 have H : (if a0 < 0 then (some (wrap64 (-a0))) else (some a0)) = some r := h
 clear h
 by_cases c2 : a0 < 0
 ·
  rw [if_pos c2] at H
  have c2b0 : decide (a0 < 0) = true := decide_eq_true c2
  clear c2
  obtain rfl := Option.some.inj H
  go_enter Try.func92, Try.ntmps92
  go_wp2
  go_ret
  exact ⟨by first | rfl | (simp; done) | (simp [*]; done), by repeat (first | exact Drawn0.refl _ | apply Drawn0.step)⟩
 rw [if_neg c2] at H
 have c2b0 : decide (a0 < 0) = false := decide_eq_false c2
 clear c2
 obtain rfl := Option.some.inj H
 go_enter Try.func92, Try.ntmps92
 go_wp2
 go_ret
 exact ⟨by first | rfl | (simp; done) | (simp [*]; done), by repeat (first | exact Drawn0.refl _ | apply Drawn0.step)⟩

/-! ### spec_paeth: function 88 -/
def spec_paeth.j0 : Nat → Int → Int → Int → Int → Int → Bool → Option (Int)
 | 0, _, _, _, _, _, _ => none
 | k + 1, x0, x1, x2, x9, x10, x35 => if x35 = true then (some x0) else (if x9 ≤ x10 then (some x1) else (some x2))
def spec_paeth.f (k : Nat) (a0 : Int) (a1 : Int) (a2 : Int) : Option (Int) := (spec_distance.f (wrap64 ((wrap64 ((wrap64 (a0 + a1)) - a2)) - a0))).bind fun t144 => ((spec_distance.f (wrap64 ((wrap64 ((wrap64 (a0 + a1)) - a2)) - a1))).bind fun t145 => ((spec_distance.f (wrap64 ((wrap64 ((wrap64 (a0 + a1)) - a2)) - a2))).bind fun t146 => (if t144 ≤ t145 then (spec_paeth.j0 k a0 a1 a2 t145 t146 (decide (t144 ≤ t146))) else (spec_paeth.j0 k a0 a1 a2 t145 t146 false))))
theorem spec_paeth.mono_l : ∀ k, (∀ y0 y1 y2 y3 y4 y5, LeO (spec_paeth.j0 k y0 y1 y2 y3 y4 y5) (spec_paeth.j0 (k + 1) y0 y1 y2 y3 y4 y5))
 | 0 => fun _ _ _ _ _ _ r h => by simp [spec_paeth.j0] at h
 | k + 1 => by
  have ih0 := spec_paeth.mono_l k
  ·
   intro y0 y1 y2 y3 y4 y5
   unfold spec_paeth.j0
   repeat' first
   | (with_reducible exact ih0 _ _ _ _ _ _)
   | (with_reducible exact LeO.refl _)
   | (with_reducible exact LeO.none _)
   | (with_reducible refine LeO.ite ?_ ?_)
   | (with_reducible refine LeO.bind ?_ (fun _ => ?_))
   | exact ih0 _ _ _ _ _ _
   | exact LeO.none _
   | refine LeO.ite ?_ ?_
   | refine LeO.bind ?_ (fun _ => ?_)
theorem spec_paeth.mono : ∀ a0 a1 a2 k, LeO (spec_paeth.f k a0 a1 a2) (spec_paeth.f (k + 1) a0 a1 a2) := by
 intro a0 a1 a2 k
 have ih0 := spec_paeth.mono_l k
 unfold spec_paeth.f
 repeat' first
   | (with_reducible exact ih0 _ _ _ _ _ _)
   | (with_reducible exact LeO.refl _)
   | (with_reducible exact LeO.none _)
   | (with_reducible refine LeO.ite ?_ ?_)
   | (with_reducible refine LeO.bind ?_ (fun _ => ?_))
   | exact ih0 _ _ _ _ _ _
   | exact LeO.none _
   | refine LeO.ite ?_ ?_
   | refine LeO.bind ?_ (fun _ => ?_)
set_option maxHeartbeats 8000000 in
set_option maxRecDepth 100000 in
theorem spec_paeth.calls (k : Nat) (a0 : Int) (a1 : Int) (a2 : Int) (r : Int) (w : World) (h : spec_paeth.f k a0 a1 a2 = some r) :
  Calls Try.prog 88 #[.int .i64 a0, .int .i64 a1, .int .i64 a2] w fun e w' => e = .returned (.int .i64 r) ∧ Drawn0 w w' := by
 have H : ((spec_distance.f (wrap64 ((wrap64 ((wrap64 (a0 + a1)) - a2)) - a0))).bind fun t144 => ((spec_distance.f (wrap64 ((wrap64 ((wrap64 (a0 + a1)) - a2)) - a1))).bind fun t145 => ((spec_distance.f (wrap64 ((wrap64 ((wrap64 (a0 + a1)) - a2)) - a2))).bind fun t146 => (if t144 ≤ t145 then (spec_paeth.j0 k a0 a1 a2 t145 t146 (decide (t144 ≤ t146))) else (spec_paeth.j0 k a0 a1 a2 t145 t146 false))))) = some r := h
 clear h
 replace H := Option.bind_eq_some_iff.mp H
 obtain ⟨t144, A40, H⟩ := H
 replace H : ((spec_distance.f (wrap64 ((wrap64 ((wrap64 (a0 + a1)) - a2)) - a1))).bind fun t145 => ((spec_distance.f (wrap64 ((wrap64 ((wrap64 (a0 + a1)) - a2)) - a2))).bind fun t146 => (if t144 ≤ t145 then (spec_paeth.j0 k a0 a1 a2 t145 t146 (decide (t144 ≤ t146))) else (spec_paeth.j0 k a0 a1 a2 t145 t146 false)))) = some r := H
 have A4 := aM A40
 clear A40
 replace H := Option.bind_eq_some_iff.mp H
 obtain ⟨t145, A50, H⟩ := H
 replace H : ((spec_distance.f (wrap64 ((wrap64 ((wrap64 (a0 + a1)) - a2)) - a2))).bind fun t146 => (if t144 ≤ t145 then (spec_paeth.j0 k a0 a1 a2 t145 t146 (decide (t144 ≤ t146))) else (spec_paeth.j0 k a0 a1 a2 t145 t146 false))) = some r := H
 have A5 := aM A50
 clear A50
 replace H := Option.bind_eq_some_iff.mp H
 obtain ⟨t146, A60, H⟩ := H
 replace H : (if t144 ≤ t145 then (spec_paeth.j0 k a0 a1 a2 t145 t146 (decide (t144 ≤ t146))) else (spec_paeth.j0 k a0 a1 a2 t145 t146 false)) = some r := H
 have A6 := aM A60
 clear A60
 have HC7 := aM H
 clear H
 go_enter Try.func88, Try.ntmps88
 go_upto_region 5 with (first | ((with_reducible refine gate_callee (f := 92) rfl ?_); refine goesL_ (some 19) rfl rfl Try.func92 (by kernel_rfl) rfl #[.int .i64 (wrap64 ((wrap64 ((wrap64 (a0 + a1)) - a2)) - a0))] rfl qM ?_; (with_reducible refine (spec_distance.calls (wrap64 ((wrap64 ((wrap64 (a0 + a1)) - a2)) - a0)) t144 _ A4.out).mono ?_); rintro e w' ⟨rfl, ⟨nd, rfl⟩⟩; refine ⟨_, rfl, ?_⟩) | ((with_reducible refine gate_callee (f := 92) rfl ?_); refine goesL_ (some 23) rfl rfl Try.func92 (by kernel_rfl) rfl #[.int .i64 (wrap64 ((wrap64 ((wrap64 (a0 + a1)) - a2)) - a1))] rfl qM ?_; (with_reducible refine (spec_distance.calls (wrap64 ((wrap64 ((wrap64 (a0 + a1)) - a2)) - a1)) t145 _ A5.out).mono ?_); rintro e w' ⟨rfl, ⟨nd, rfl⟩⟩; refine ⟨_, rfl, ?_⟩) | ((with_reducible refine gate_callee (f := 92) rfl ?_); refine goesL_ (some 27) rfl rfl Try.func92 (by kernel_rfl) rfl #[.int .i64 (wrap64 ((wrap64 ((wrap64 (a0 + a1)) - a2)) - a2))] rfl qM ?_; (with_reducible refine (spec_distance.calls (wrap64 ((wrap64 ((wrap64 (a0 + a1)) - a2)) - a2)) t146 _ A6.out).mono ?_); rintro e w' ⟨rfl, ⟨nd, rfl⟩⟩; refine ⟨_, rfl, ?_⟩))
 (try simp only [Act.put, List.setIfInBounds_toArray, List.set_cons_zero, List.set_cons_succ])
 go_cut [35] (fun v35 wc => ∃ (kq : Nat) (x35_6 : Bool), v35 = .bool x35_6 ∧ Aside0 (spec_paeth.j0 kq a0 a1 a2 t145 t146 x35_6 = some r) ∧ Aside0 (kq ≤ k) ∧ Drawn0 w wc)
 case first =>
  have H := HC7.out
  clear HC7
  by_cases c8 : t144 ≤ t145
  rotate_left
  ·
   rw [if_neg c8] at H
   have c8b0 : decide (t144 ≤ t145) = false := decide_eq_false c8
   clear c8
   (first | rw [c8b0] | (simp only [i64_w, i32_w]; rw [c8b0]) | skip)
   have H' := aM H
   clear H
   go_wp2
   go_meet
   case rel => exact ⟨_, (false), qE, H', ⟨by first | omega | exact Nat.le_refl _⟩, by repeat (first | exact Drawn0.refl _ | apply Drawn0.step)⟩
  rw [if_pos c8] at H
  have c8b0 : decide (t144 ≤ t145) = true := decide_eq_true c8
  clear c8
  (first | rw [c8b0] | (simp only [i64_w, i32_w]; rw [c8b0]) | skip)
  have H' := aM H
  clear H
  go_wp2
  go_meet
  case rel => exact ⟨_, (decide (t144 ≤ t146)), qE, H', ⟨by first | omega | exact Nat.le_refl _⟩, by repeat (first | exact Drawn0.refl _ | apply Drawn0.step)⟩
 case rest =>
  clear HC7
  try clear p2
  try clear p6
  try clear c8
  try clear c8b0
  obtain ⟨kq, x35_6, rfl, HA, HJ6, ⟨mc6, rfl⟩⟩ := hcut
  cases kq with
  | zero => exact absurd HA.out (by simp [spec_paeth.j0])
  | succ kj6 =>
   have H := HA.out
   clear HA
   simp only [spec_paeth.j0] at H
   by_cases c9 : x35_6 = true
   ·
    subst c9
    have H1 : (some a0) = some r := by rw [if_pos rfl] at H; exact H
    clear H
    have H := H1
    clear H1
    obtain rfl := Option.some.inj H
    go_wp2
    go_ret
    exact ⟨by first | rfl | (simp; done) | (simp [*]; done), by repeat (first | exact Drawn0.refl _ | apply Drawn0.step)⟩
   replace c9 := Bool.eq_false_iff.mpr c9
   subst c9
   have H1 : (if t145 ≤ t146 then (some a1) else (some a2)) = some r := by rw [if_neg (show ¬ (false = true) by decide)] at H; exact H
   clear H
   have H := H1
   clear H1
   by_cases c10 : t145 ≤ t146
   ·
    rw [if_pos c10] at H
    have c10b0 : decide (t145 ≤ t146) = true := decide_eq_true c10
    clear c10
    obtain rfl := Option.some.inj H
    go_wp2
    go_ret
    exact ⟨by first | rfl | (simp; done) | (simp [*]; done), by repeat (first | exact Drawn0.refl _ | apply Drawn0.step)⟩
   rw [if_neg c10] at H
   have c10b0 : decide (t145 ≤ t146) = false := decide_eq_false c10
   clear c10
   obtain rfl := Option.some.inj H
   go_wp2
   go_ret
   exact ⟨by first | rfl | (simp; done) | (simp [*]; done), by repeat (first | exact Drawn0.refl _ | apply Drawn0.step)⟩

/-! ### spec_guess: function 80 -/
def spec_guess.j0 : Nat → Int → List Int → Int → Int → Int → Option (Int)
 | 0, _, _, _, _, _ => none
 | k + 1, x0, x2, x4, x11, x12 => if x0 = 1 then (some x11) else (if x0 = 2 then (if 0 ≤ x4 then (if x4 < (x2.length : Int) then (some (rd x2 x4)) else (none)) else (none)) else (if x0 = 3 then (if 0 ≤ x4 then (if x4 < (x2.length : Int) then (some (wrap64 (Int.tdiv (wrap64 (x11 + (rd x2 x4))) 2))) else (none)) else (none)) else (if x0 = 4 then (if 0 ≤ x4 then (if x4 < (x2.length : Int) then ((spec_paeth.f k x11 (rd x2 x4) x12).bind fun t152 => (some t152)) else (none)) else (none)) else (some 0))))
def spec_guess.f (k : Nat) (a0 : Int) (l1 : List Int) (l2 : List Int) (a3 : Int) (a4 : Int) : Option (Int) := if a4 ≥ a3 then (if 0 ≤ (wrap64 (a4 - a3)) then (if (wrap64 (a4 - a3)) < (l1.length : Int) then (if (wrap64 (a4 - a3)) < (l2.length : Int) then (spec_guess.j0 k a0 l2 a4 (rd l1 (wrap64 (a4 - a3))) (rd l2 (wrap64 (a4 - a3)))) else (none)) else (none)) else (none)) else (spec_guess.j0 k a0 l2 a4 0 0)
theorem spec_guess.mono_l : ∀ k, (∀ y0 y1 y2 y3 y4, LeO (spec_guess.j0 k y0 y1 y2 y3 y4) (spec_guess.j0 (k + 1) y0 y1 y2 y3 y4))
 | 0 => fun _ _ _ _ _ r h => by simp [spec_guess.j0] at h
 | k + 1 => by
  have ih0 := spec_guess.mono_l k
  ·
   intro y0 y1 y2 y3 y4
   unfold spec_guess.j0
   repeat' first
   | (with_reducible exact ih0 _ _ _ _ _)
   | (with_reducible exact spec_paeth.mono _ _ _ _)
   | (with_reducible exact LeO.refl _)
   | (with_reducible exact LeO.none _)
   | (with_reducible refine LeO.ite ?_ ?_)
   | (with_reducible refine LeO.bind ?_ (fun _ => ?_))
   | exact ih0 _ _ _ _ _
   | exact spec_paeth.mono _ _ _ _
   | exact LeO.none _
   | refine LeO.ite ?_ ?_
   | refine LeO.bind ?_ (fun _ => ?_)
theorem spec_guess.mono : ∀ a0 a1 a2 a3 a4 k, LeO (spec_guess.f k a0 a1 a2 a3 a4) (spec_guess.f (k + 1) a0 a1 a2 a3 a4) := by
 intro a0 a1 a2 a3 a4 k
 have ih0 := spec_guess.mono_l k
 unfold spec_guess.f
 repeat' first
   | (with_reducible exact ih0 _ _ _ _ _)
   | (with_reducible exact spec_paeth.mono _ _ _ _)
   | (with_reducible exact LeO.refl _)
   | (with_reducible exact LeO.none _)
   | (with_reducible refine LeO.ite ?_ ?_)
   | (with_reducible refine LeO.bind ?_ (fun _ => ?_))
   | exact ih0 _ _ _ _ _
   | exact spec_paeth.mono _ _ _ _
   | exact LeO.none _
   | refine LeO.ite ?_ ?_
   | refine LeO.bind ?_ (fun _ => ?_)
set_option maxHeartbeats 8000000 in
set_option maxRecDepth 100000 in
theorem spec_guess.calls (k : Nat) (a0 : Int) (A1 : Option Addr) (c1 : Nat) (l1 : List Int) (A2 : Option Addr) (c2 : Nat) (l2 : List Int) (a3 : Int) (a4 : Int) (r : Int) (w : World) (hr1 : Kd.C (Kd.int .i64) w A1 l1.length l1) (hc1 : l1.length ≤ c1) (hr2 : Kd.C (Kd.int .i64) w A2 l2.length l2) (hc2 : l2.length ≤ c2) (h : spec_guess.f k a0 l1 l2 a3 a4 = some r) :
  Calls Try.prog 80 #[.int .i64 a0, .slice A1 l1.length c1, .slice A2 l2.length c2, .int .i64 a3, .int .i64 a4] w fun e w' => e = .returned (.int .i64 r) ∧ Drawn0 w w' := by
 have HR1 := aM hr1
 have HC1 := aM hc1
 clear hr1 hc1
 have HR2 := aM hr2
 have HC2 := aM hc2
 clear hr2 hc2
 have H : (if a4 ≥ a3 then (if 0 ≤ (wrap64 (a4 - a3)) then (if (wrap64 (a4 - a3)) < (l1.length : Int) then (if (wrap64 (a4 - a3)) < (l2.length : Int) then (spec_guess.j0 k a0 l2 a4 (rd l1 (wrap64 (a4 - a3))) (rd l2 (wrap64 (a4 - a3)))) else (none)) else (none)) else (none)) else (spec_guess.j0 k a0 l2 a4 0 0)) = some r := h
 clear h
 have HC6 := aM H
 clear H
 go_enter Try.func80, Try.ntmps80
 go_upto_if 15 with (fail)
 go_cut [11, 12] (fun v11 v12 wc => ∃ (kq : Nat) (x11_5 : Int) (x12_5 : Int), v11 = .int .i64 x11_5 ∧ v12 = .int .i64 x12_5 ∧ Aside0 (spec_guess.j0 kq a0 l2 a4 x11_5 x12_5 = some r) ∧ Aside0 (kq ≤ k) ∧ Drawn0 w wc)
 case first =>
  have H := HC6.out
  clear HC6
  by_cases c7 : a4 ≥ a3
  rotate_left
  ·
   rw [if_neg c7] at H
   have c7b0 : decide (a3 ≤ a4) = false := decide_eq_false c7
   clear c7
   (first | rw [c7b0] | (simp only [i64_w, i32_w]; rw [c7b0]) | skip)
   have H' := aM H
   clear H
   go_wp2
   go_meet
   case rel => exact ⟨_, (0), (0), qE, qE, H', ⟨by first | omega | exact Nat.le_refl _⟩, by repeat (first | exact Drawn0.refl _ | apply Drawn0.step)⟩
  rw [if_pos c7] at H
  have c7b0 : decide (a3 ≤ a4) = true := decide_eq_true c7
  clear c7
  (first | rw [c7b0] | (simp only [i64_w, i32_w]; rw [c7b0]) | skip)
  obtain ⟨ji8, hji8⟩ : ∃ j_ : Int, (wrap64 (a4 - a3)) = j_ := ⟨_, rfl⟩
  replace H : (if 0 ≤ (ji8) then (if (ji8) < (l1.length : Int) then (if (ji8) < (l2.length : Int) then (spec_guess.j0 k a0 l2 a4 (rd l1 (ji8)) (rd l2 (ji8))) else (none)) else (none)) else (none)) = some r := by first | (rw [hji8] at H; exact H) | (simp only [hji8] at H ⊢; exact H)
  have hji8w : (IntKind.i64.wrap (a4 - a3)) = ji8 := (i64_w _).trans hji8
  by_cases c9 : 0 ≤ (ji8)
  rotate_left
  ·
   rw [if_neg c9] at H
   exact absurd H (by simp)
  rw [if_pos c9] at H
  have c9b0 : decide (0 ≤ (ji8)) = true := decide_eq_true c9
  clear c9
  by_cases c10 : (ji8) < (l1.length : Int)
  rotate_left
  ·
   rw [if_neg c10] at H
   exact absurd H (by simp)
  rw [if_pos c10] at H
  have c10b0 : decide ((ji8) < (l1.length : Int)) = true := decide_eq_true c10
  clear c10
  by_cases c11 : (ji8) < (l2.length : Int)
  rotate_left
  ·
   rw [if_neg c11] at H
   exact absurd H (by simp)
  rw [if_pos c11] at H
  have c11b0 : decide ((ji8) < (l2.length : Int)) = true := decide_eq_true c11
  clear c11
  have H' := aM H
  clear H
  have p147 : 0 ≤ ((ji8) : Int) := oD
  have q147 : (ji8) < (l1.length : Int) := oD
  obtain ⟨ad147, e147, hx147_0⟩ := Kd.at_int HR1.out (ji8) p147 q147
  cases e147
  replace p147 := eq_true p147
  replace q147 := eq_true q147
  have p148 : 0 ≤ ((ji8) : Int) := oD
  have q148 : (ji8) < (l2.length : Int) := oD
  obtain ⟨ad148, e148, hx148_0⟩ := Kd.at_int HR2.out (ji8) p148 q148
  cases e148
  replace p148 := eq_true p148
  replace q148 := eq_true q148
  go_wp2
  go_meet
  case rel => exact ⟨_, (rd l1 (ji8)), (rd l2 (ji8)), (by first | rfl | (simp; done) | (simp only [← hji8] <;> (first | rfl | simp)) | (simp [*]; done)), (by first | rfl | (simp; done) | (simp only [← hji8] <;> (first | rfl | simp)) | (simp [*]; done)), H', ⟨by first | omega | exact Nat.le_refl _⟩, by repeat (first | exact Drawn0.refl _ | apply Drawn0.step)⟩
 case rest =>
  clear HC6
  try clear c1
  try clear p1
  try clear q1
  try clear hx1
  try clear c2
  try clear p2
  try clear p6
  try clear c7
  try clear c7b0
  try clear c8
  try clear c9
  try clear c9b0
  try clear c10
  try clear c10b0
  try clear c11
  try clear c11b0
  try clear hx147_0
  try clear hx148_0
  try clear p147
  try clear p148
  try clear q147
  try clear q148
  obtain ⟨kq, x11_5, x12_5, rfl, rfl, HA, HJ5, ⟨mc5, rfl⟩⟩ := hcut
  cases kq with
  | zero => exact absurd HA.out (by simp [spec_guess.j0])
  | succ kj5 =>
   have H := HA.out
   clear HA
   simp only [spec_guess.j0] at H
   by_cases c12 : a0 = 1
   ·
    rw [if_pos c12] at H
    have c12b0 : (a0 == 1) = true := beq_iff_eq.mpr c12
    have c12b1 : (a0 != 1) = false := bne_eq_false_iff_eq.mpr c12
    clear c12
    obtain rfl := Option.some.inj H
    go_wp2
    go_ret
    exact ⟨by first | rfl | (simp; done) | (simp [*]; done), by repeat (first | exact Drawn0.refl _ | apply Drawn0.step)⟩
   rw [if_neg c12] at H
   have c12b0 : (a0 == 1) = false := beq_eq_false_iff_ne.mpr c12
   have c12b1 : (a0 != 1) = true := bne_iff_ne.mpr c12
   by_cases c13 : a0 = 2
   ·
    rw [if_pos c13] at H
    have c13b0 : (a0 == 2) = true := beq_iff_eq.mpr c13
    have c13b1 : (a0 != 2) = false := bne_eq_false_iff_eq.mpr c13
    clear c13
    by_cases c14 : 0 ≤ a4
    rotate_left
    ·
     rw [if_neg c14] at H
     exact absurd H (by simp)
    rw [if_pos c14] at H
    have c14b0 : decide (0 ≤ a4) = true := decide_eq_true c14
    clear c14
    by_cases c15 : a4 < (l2.length : Int)
    rotate_left
    ·
     rw [if_neg c15] at H
     exact absurd H (by simp)
    rw [if_pos c15] at H
    have c15b0 : decide (a4 < (l2.length : Int)) = true := decide_eq_true c15
    clear c15
    obtain rfl := Option.some.inj H
    have p149 : 0 ≤ (a4 : Int) := oD
    have q149 : a4 < (l2.length : Int) := oD
    obtain ⟨ad149, e149, hx149_0⟩ := Kd.at_int HR2.out a4 p149 q149
    cases e149
    replace p149 := eq_true p149
    replace q149 := eq_true q149
    go_wp2
    go_ret
    exact ⟨by first | rfl | (simp; done) | (simp [*]; done), by repeat (first | exact Drawn0.refl _ | apply Drawn0.step)⟩
   rw [if_neg c13] at H
   have c13b0 : (a0 == 2) = false := beq_eq_false_iff_ne.mpr c13
   have c13b1 : (a0 != 2) = true := bne_iff_ne.mpr c13
   by_cases c16 : a0 = 3
   ·
    rw [if_pos c16] at H
    have c16b0 : (a0 == 3) = true := beq_iff_eq.mpr c16
    have c16b1 : (a0 != 3) = false := bne_eq_false_iff_eq.mpr c16
    clear c16
    by_cases c17 : 0 ≤ a4
    rotate_left
    ·
     rw [if_neg c17] at H
     exact absurd H (by simp)
    rw [if_pos c17] at H
    have c17b0 : decide (0 ≤ a4) = true := decide_eq_true c17
    clear c17
    by_cases c18 : a4 < (l2.length : Int)
    rotate_left
    ·
     rw [if_neg c18] at H
     exact absurd H (by simp)
    rw [if_pos c18] at H
    have c18b0 : decide (a4 < (l2.length : Int)) = true := decide_eq_true c18
    clear c18
    obtain rfl := Option.some.inj H
    have p150 : 0 ≤ (a4 : Int) := oD
    have q150 : a4 < (l2.length : Int) := oD
    obtain ⟨ad150, e150, hx150_0⟩ := Kd.at_int HR2.out a4 p150 q150
    cases e150
    replace p150 := eq_true p150
    replace q150 := eq_true q150
    go_wp2
    go_ret
    exact ⟨by first | rfl | (simp; done) | (simp [*]; done), by repeat (first | exact Drawn0.refl _ | apply Drawn0.step)⟩
   rw [if_neg c16] at H
   have c16b0 : (a0 == 3) = false := beq_eq_false_iff_ne.mpr c16
   have c16b1 : (a0 != 3) = true := bne_iff_ne.mpr c16
   by_cases c19 : a0 = 4
   rotate_left
   ·
    rw [if_neg c19] at H
    have c19b0 : (a0 == 4) = false := beq_eq_false_iff_ne.mpr c19
    have c19b1 : (a0 != 4) = true := bne_iff_ne.mpr c19
    obtain rfl := Option.some.inj H
    go_wp2
    go_ret
    exact ⟨by first | rfl | (simp; done) | (simp [*]; done), by repeat (first | exact Drawn0.refl _ | apply Drawn0.step)⟩
   rw [if_pos c19] at H
   have c19b0 : (a0 == 4) = true := beq_iff_eq.mpr c19
   have c19b1 : (a0 != 4) = false := bne_eq_false_iff_eq.mpr c19
   clear c19
   by_cases c20 : 0 ≤ a4
   rotate_left
   ·
    rw [if_neg c20] at H
    exact absurd H (by simp)
   rw [if_pos c20] at H
   have c20b0 : decide (0 ≤ a4) = true := decide_eq_true c20
   clear c20
   by_cases c21 : a4 < (l2.length : Int)
   rotate_left
   ·
    rw [if_neg c21] at H
    exact absurd H (by simp)
   rw [if_pos c21] at H
   have c21b0 : decide (a4 < (l2.length : Int)) = true := decide_eq_true c21
   clear c21
   replace H := Option.bind_eq_some_iff.mp H
   obtain ⟨t152, A220, H⟩ := H
   replace H : (some t152) = some r := H
   have A22 := aM A220
   clear A220
   obtain rfl := Option.some.inj H
   have p151 : 0 ≤ (a4 : Int) := oD
   have q151 : a4 < (l2.length : Int) := oD
   obtain ⟨ad151, e151, hx151_0⟩ := Kd.at_int HR2.out a4 p151 q151
   cases e151
   replace p151 := eq_true p151
   replace q151 := eq_true q151
   go_wp2_with (first | ((with_reducible refine gate_callee (f := 88) rfl ?_); refine goesL_ (some 55) rfl rfl Try.func88 (by kernel_rfl) rfl #[.int .i64 x11_5, .int .i64 (rd l2 a4), .int .i64 x12_5] rfl qM ?_; (with_reducible refine (spec_paeth.calls kj5 x11_5 (rd l2 a4) x12_5 t152 _ A22.out).mono ?_); rintro e w' ⟨rfl, ⟨nd, rfl⟩⟩; refine ⟨_, rfl, ?_⟩))
   go_ret
   exact ⟨by first | rfl | (simp; done) | (simp [*]; done), by repeat (first | exact Drawn0.refl _ | apply Drawn0.step)⟩

/-! ### spec_filterRow: function 77 -/
def spec_filterRow.l0 : Nat → Int → List Int → List Int → Int → List Int → Int → Option (List Int)
 | 0, _, _, _, _, _, _ => none
 | k + 1, x0, x1, x2, x3, x9, x10 => if x10 < (x1.length : Int) then (if 0 ≤ x10 then ((spec_guess.f k x0 x1 x2 x3 x10).bind fun t196 => (if x9.length < 17592186044416 then (spec_filterRow.l0 k x0 x1 x2 x3 (x9 ++ [Int.tmod (wrap64 ((wrap64 ((rd x1 x10) - t196)) + 256)) 256]) (wrap64 (x10 + 1))) else (none))) else (none)) else (some x9)
def spec_filterRow.f (k : Nat) (a0 : Int) (l1 : List Int) (l2 : List Int) (a3 : Int) : Option (List Int) := spec_filterRow.l0 k a0 l1 l2 a3 (([] : List Int)) 0
theorem spec_filterRow.mono_l : ∀ k, (∀ y0 y1 y2 y3 y4 y5, LeO (spec_filterRow.l0 k y0 y1 y2 y3 y4 y5) (spec_filterRow.l0 (k + 1) y0 y1 y2 y3 y4 y5))
 | 0 => fun _ _ _ _ _ _ r h => by simp [spec_filterRow.l0] at h
 | k + 1 => by
  have ih0 := spec_filterRow.mono_l k
  ·
   intro y0 y1 y2 y3 y4 y5
   unfold spec_filterRow.l0
   repeat' first
   | (with_reducible exact ih0 _ _ _ _ _ _)
   | (with_reducible exact spec_guess.mono _ _ _ _ _ _)
   | (with_reducible exact LeO.refl _)
   | (with_reducible exact LeO.none _)
   | (with_reducible refine LeO.ite ?_ ?_)
   | (with_reducible refine LeO.bind ?_ (fun _ => ?_))
   | exact ih0 _ _ _ _ _ _
   | exact spec_guess.mono _ _ _ _ _ _
   | exact LeO.none _
   | refine LeO.ite ?_ ?_
   | refine LeO.bind ?_ (fun _ => ?_)
theorem spec_filterRow.mono : ∀ a0 a1 a2 a3 k, LeO (spec_filterRow.f k a0 a1 a2 a3) (spec_filterRow.f (k + 1) a0 a1 a2 a3) := by
 intro a0 a1 a2 a3 k
 have ih0 := spec_filterRow.mono_l k
 unfold spec_filterRow.f
 repeat' first
   | (with_reducible exact ih0 _ _ _ _ _ _)
   | (with_reducible exact spec_guess.mono _ _ _ _ _ _)
   | (with_reducible exact LeO.refl _)
   | (with_reducible exact LeO.none _)
   | (with_reducible refine LeO.ite ?_ ?_)
   | (with_reducible refine LeO.bind ?_ (fun _ => ?_))
   | exact ih0 _ _ _ _ _ _
   | exact spec_guess.mono _ _ _ _ _ _
   | exact LeO.none _
   | refine LeO.ite ?_ ?_
   | refine LeO.bind ?_ (fun _ => ?_)
def spec_filterRow.T5 : Bool × List (List Nat × List Nat) := (true, [([], []), ([], []), ([], []), ([1, 2], [1, 2]), ([3], [3]), ([], []), ([], []), ([], []), ([], []), ([], []), ([5, 6, 7, 8, 9], [5, 6, 7, 8, 9]), ([4, 10], [4, 10]), ([11], [11]), ([12], [12]), ([13], [13]), ([0, 14, 10], [0, 14]), ([15, 15, 0, 1, 2, 3, 4, 5, 6, 7, 8, 9, 10, 11, 12, 13, 14, 15], [0, 15])])
def spec_filterRow.B5 : List Nat := [0, 0, 0, 6, 14, 0, 0, 0, 0, 0, 992, 2046, 4094, 8190, 16382, 32767, 65535]
theorem spec_filterRow.tab5 : rtab .any (opsOf Try.f77 5) = spec_filterRow.T5 := by kernel_rfl
theorem spec_filterRow.bits5 : waitsOk spec_filterRow.T5.2 spec_filterRow.B5 = true := by kernel_rfl
set_option maxHeartbeats 8000000 in
set_option maxRecDepth 100000 in
theorem spec_filterRow.calls (k : Nat) (a0 : Int) (A1 : Option Addr) (c1 : Nat) (l1 : List Int) (A2 : Option Addr) (c2 : Nat) (l2 : List Int) (a3 : Int) (r : List Int) (w : World) (hr1 : Kd.C (Kd.int .i64) w A1 l1.length l1) (hc1 : l1.length ≤ c1) (hr2 : Kd.C (Kd.int .i64) w A2 l2.length l2) (hc2 : l2.length ≤ c2) (h : spec_filterRow.f k a0 l1 l2 a3 = some r) :
  Calls Try.prog 77 #[.int .i64 a0, .slice A1 l1.length c1, .slice A2 l2.length c2, .int .i64 a3] w fun e w' => ∃ v0_ : Value, e = .returned (v0_) ∧ Kd.R (Kd.int .i64) 3 w' w.heap.size (fun _ => True) v0_ r ∧ Below w.heap.size w w' := by
 have HR1 := aM hr1
 have HC1 := aM hc1
 clear hr1 hc1
 have HR2 := aM hr2
 have HC2 := aM hc2
 clear hr2 hc2
 have HB := aM (Below.refl w.heap.size w)
 have H : (spec_filterRow.l0 k a0 l1 l2 a3 (([] : List Int)) 0) = some r := h
 clear h
 obtain ⟨y192, hy192⟩ : ∃ y_ : List Int, y_ = (([] : List Int)) := ⟨_, rfl⟩
 replace H : (spec_filterRow.l0 k a0 l1 l2 a3 y192 0) = some r := rY hy192 H
 have Ny192 := aM hy192
 clear hy192
 have H' := aM H
 clear H
 go_enter Try.func77, Try.ntmps77
 go_wp2_with (first | ((with_reducible refine gate_dst (N := 11) rfl ?_); refine Kd.R_lit (Kd.int .i64) _ 3 ?hg (N := 11) ?hd (xs := ([] : List Int)) (inner := []) (ok := fun _ => True) (okp := fun _ => True) ?hr ?hp (fun _ hk => hk) trivial (Below.refl _ _) (Nat.le_refl _) (by simp) ?_; (case hd => rfl); (case hg => rfl); (case hr => first | (go_simp; done) | (go_simp; rfl)); (case hp => exact (Reps.none _ _)); intro v193 w5 ho6 hb hg_ hnew_; clear hg_ hnew_; (first | rw [← Ny192.out] at ho6 | (simp only [Int.reduceToNat] at ho6; rw [← Ny192.out] at ho6)); have HO194 := aM (Kd.R_lower ho6 (below_size (qW HB.out))); replace HB := aM (below_step (qW HB.out) hb); clear hb ho6))
 go_loopg [9, 10] k (fun kq v9 v10 w' => ∃ (x9_1 : List Int) (x10_1 : Int), v10 = .int .i64 x10_1 ∧ Aside0 (spec_filterRow.l0 kq a0 l1 l2 a3 x9_1 x10_1 = some r) ∧ Aside0 (kq ≤ k) ∧ Aside0 (Kd.R (Kd.int .i64) 3 w' w.heap.size (fun _ => True) v9 x9_1) ∧ Aside0 (Below w.heap.size w w'))
 case atStart => exact ⟨(y192), (0), qE, H', ⟨Nat.le_refl _⟩, ⟨by refine qR ?_; exact HO194.out⟩, ⟨by exact qW HB.out⟩⟩
 case round =>
  clear H'
  try clear c1
  try clear c2
  try clear p2
  obtain ⟨x9_1, x10_1, rfl, HA, HK1, HO_9, HB⟩ := hrel
  cases gk with
  | zero => exact absurd HA.out (by simp [spec_filterRow.l0])
  | succ k1 =>
   have H := HA.out
   clear HA
   simp only [spec_filterRow.l0] at H
   by_cases c7 : x10_1 < (l1.length : Int)
   rotate_left
   ·
    rw [if_neg c7] at H
    have c7b0 : decide (x10_1 < (l1.length : Int)) = false := decide_eq_false c7
    clear c7
    obtain rfl := Option.some.inj H
    go_wp2
    go_ret
    exact ⟨_, qX, by refine qR ?_; exact HO_9.out, by exact qW HB.out⟩
   rw [if_pos c7] at H
   have c7b0 : decide (x10_1 < (l1.length : Int)) = true := decide_eq_true c7
   clear c7
   by_cases c8 : 0 ≤ x10_1
   rotate_left
   ·
    rw [if_neg c8] at H
    exact absurd H (by simp)
   rw [if_pos c8] at H
   have c8b0 : decide (0 ≤ x10_1) = true := decide_eq_true c8
   clear c8
   replace H := Option.bind_eq_some_iff.mp H
   obtain ⟨t196, A90, H⟩ := H
   replace H : (if x9_1.length < 17592186044416 then (spec_filterRow.l0 k1 a0 l1 l2 a3 (x9_1 ++ [Int.tmod (wrap64 ((wrap64 ((rd l1 x10_1) - t196)) + 256)) 256]) (wrap64 (x10_1 + 1))) else (none)) = some r := H
   have A9 := aM A90
   clear A90
   by_cases c10 : x9_1.length < 17592186044416
   rotate_left
   ·
    rw [if_neg c10] at H
    exact absurd H (by simp)
   rw [if_pos c10] at H
   have LMc10 := aM c10
   clear c10
   obtain ⟨y197, hy197⟩ : ∃ y_ : List Int, y_ = (x9_1 ++ [Int.tmod (wrap64 ((wrap64 ((rd l1 x10_1) - t196)) + 256)) 256]) := ⟨_, rfl⟩
   replace H : (spec_filterRow.l0 k1 a0 l1 l2 a3 y197 (wrap64 (x10_1 + 1))) = some r := rY hy197 H
   have Ny197 := aM hy197
   clear hy197
   have H' := aM H
   clear H
   try go_wp2
   replace HO_9 := aM (Kd.R_drew HO_9.out)
   replace HB := aM (below_drew1 HB.out)
   have p195 : 0 ≤ (x10_1 : Int) := oD
   have q195 : x10_1 < (l1.length : Int) := oD
   obtain ⟨ad195, e195, hx195_0⟩ := Kd.at_int HR1.out x10_1 p195 q195
   have hw195_0 := hx195_0
   cases e195
   replace hx195_0 := bD HB hx195_0
   replace p195 := eq_true p195
   replace q195 := eq_true q195
   refine start_ (n := 17) (S := fun w' => w'.cell? (ad195.add (x10_1).toNat) = some (.int .i64 (rd l1 x10_1))) (ds := []) (bA 17 0) (by kernel_rfl) rfl rfl ((bC HB hw195_0)) (fun hHeld => ?_); refine with_tabW spec_filterRow.tab5 spec_filterRow.bits5 (fun HT_ HW_ => ?_)
   generalize wr.drew = w11 at HO_9 HB hx195_0 hHeld ⊢
   refine pureQ (i := 0) (N := some 18) HT_ (bA 17 1) ?_
   refine pureQ (i := 1) (N := some 19) HT_ (bA 17 3) ?_
   refine pureQ (i := 2) (N := some 20) HT_ (bA 17 7) ?_
   refine pureQ (i := 3) (N := some 21) HT_ (bA 17 15) ?_
   refine pureQ (i := 5) (N := some 23) HT_ (bA 17 47) ?_
   refine pureQ (i := 6) (N := some 24) HT_ (bA 17 111) ?_
   refine pureQ (i := 7) (N := some 25) HT_ (bA 17 239) ?_
   refine pureQ (i := 8) (N := some 26) HT_ (bA 17 495) ?_
   refine pureQ (i := 9) (N := some 27) HT_ (bA 17 1007) ?_
   refine take_ (i := 4) (N := some 22) (v := ?_) (a' := ?_) (bA 17 1023) rfl rfl (take_ofW HT_.out HW_.out (by kernel_rfl)) (fun _ _ _ h => h) (Or.inl ⟨by rfl, ?_⟩) hHeld ?_ ?_
   rotate_left
   ·
    intro w' s0
    go_simp
    with_reducible rfl
   rotate_left
   ·
    simp only [Act.put, List.setIfInBounds_toArray, List.set_cons_zero, List.set_cons_succ, i64_w, i32_w]
    rfl
   refine one_ (i := 10) (N := some 28) (bA 17 2047) rfl rfl (one_of HT_.out (by kernel_rfl)) (by decide) (fun K hK => ?_)
   refine goes_ Try.func80 (by kernel_rfl) rfl #[.int .i64 a0, .slice (some ad195) l1.length c1, .slice A2 l2.length c2, .int .i64 a3, .int .i64 x10_1] (by rfl) rfl rfl qM ?_
   with_reducible refine (spec_guess.calls k1 a0 _ _ l1 _ _ l2 a3 x10_1 t196 _ ?side1 ?side2 ?side3 ?side4 A9.out).mono ?_
   (case side1 => exact qC (Kd.C_below HR1.out HB.out))
   (case side2 => exact HC1.out)
   (case side3 => exact qC (Kd.C_below HR2.out HB.out))
   (case side4 => exact HC2.out)
   rintro e w' ⟨rfl, ⟨nd, rfl⟩⟩
   refine ⟨_, rfl, ?_⟩
   refine hK.out _ _ ((bC HB hw195_0)) (fun hHeld => ?_)
   clear hK K
   refine norm_ (a' := ?_) ?_ ?_
   rotate_left
   ·
    show Act.put _ (some 28) _ = _
    simp only [Act.put, List.setIfInBounds_toArray, List.set_cons_zero, List.set_cons_succ, i64_w, i32_w]
    rfl
   refine pureQ (i := 11) (N := some 29) HT_ (bA 17 4095) ?_
   refine pureQ (i := 12) (N := some 30) HT_ (bA 17 8191) ?_
   refine pureQ (i := 13) (N := some 31) HT_ (bA 17 16383) ?_
   refine one_ (i := 14) (N := some 32) (bA 17 32767) rfl rfl (one_of HT_.out (by kernel_rfl)) (by decide) (fun K hK => ?_)
   refine value_ (w1 := ?_) (v := ?_) (by rfl) rfl ?_ ?_
   rotate_left 2
   ·
    go_simp
    constructor
    rotate_left
    ·
     rfl
    rfl
   refine hK.out _ _ ((World.cell?_alloc_lt _ _ _ (World.block_lt_of_cell? _ _ ((bC HB hw195_0)))).trans ((bC HB hw195_0))) (fun hHeld => ?_)
   clear hK K
   refine norm_ (a' := ?_) ?_ ?_
   rotate_left
   ·
    show Act.put _ (some 32) _ = _
    simp only [Act.put, List.setIfInBounds_toArray, List.set_cons_zero, List.set_cons_succ, i64_w, i32_w]
    rfl
   refine one_ (i := 15) (N := some 33) (bA 17 65535) rfl rfl (one_of HT_.out (by kernel_rfl)) (by decide) (fun K hK => ?_)
   refine Kd.R_append_step (Kd.int .i64) (w0 := w) w.heap.size (by rfl) (.tmp 18) (.tmp 32) 22 3 (.int .i64 0) 8 rfl Try.underlying22 info3 rfl (by decide) (by omega) u9 x9_1 (Int.tmod (wrap64 ((wrap64 ((rd l1 x10_1) - t196)) + 256)) 256) [.int .i64 (Int.tmod (wrap64 ((wrap64 ((rd l1 x10_1) - t196)) + 256)) 256)] (fun _ => True) (fun _ => False) rfl rfl ?aP (fun _ hk => hk.elim) ?aF ?aO ?aB ?aS ?aL ?_
   (case aP => exact rfl)
   (case aB => exact (qW HB.out))
   (case aF => exact (fun _ _ => trivial))
   (case aO => exact (qR HO_9.out))
   (case aS => exact (below_size (qW HB.out)))
   (case aL => have := LMc10.out; omega)
   intro v198 w12 ho hb hg hat
   rw [← Ny197.out] at ho
   replace HB := aM (hb)
   have HO199 := aM (ho)
   clear HO_9
   clear ho hb hg hat
   refine hK.out _ _ ((bC HB hw195_0)) (fun hHeld => ?_)
   clear hK K
   refine norm_ (a' := ?_) ?_ ?_
   rotate_left
   ·
    show Act.put _ (some 33) _ = _
    simp only [Act.put, List.setIfInBounds_toArray, List.set_cons_zero, List.set_cons_succ, i64_w, i32_w]
    rfl
   refine pureQ (i := 16) (N := some 9) HT_ (bA 17 131071) ?_
   refine done_ (done_of HT_.out (by kernel_rfl)) ?_
   try go_wp2
   go_roundg k1
   case measure => have := HK1.out; omega
   case rel => exact ⟨(y197), (wrap64 (x10_1 + 1)), qE, H', ⟨by have := HK1.out; omega⟩, ⟨by refine qR ?_; exact HO199.out⟩, ⟨by exact qW HB.out⟩⟩

/-! ### spec_filterCost: function 87 -/
def spec_filterCost.l0 : Nat → List Int → Int → Int → Option (Int)
 | 0, _, _, _ => none
 | k + 1, x0, x3, x4 => if x4 < (x0.length : Int) then (if 0 ≤ x4 then (spec_filterCost.l0 k x0 (wrap64 (x3 + (mn (rd x0 x4) (wrap64 (256 - (rd x0 x4)))))) (wrap64 (x4 + 1))) else (none)) else (some x3)
def spec_filterCost.f (k : Nat) (l0 : List Int) : Option (Int) := spec_filterCost.l0 k l0 0 0
theorem spec_filterCost.mono_l : ∀ k, (∀ y0 y1 y2, LeO (spec_filterCost.l0 k y0 y1 y2) (spec_filterCost.l0 (k + 1) y0 y1 y2))
 | 0 => fun _ _ _ r h => by simp [spec_filterCost.l0] at h
 | k + 1 => by
  have ih0 := spec_filterCost.mono_l k
  ·
   intro y0 y1 y2
   unfold spec_filterCost.l0
   repeat' first
   | (with_reducible exact ih0 _ _ _)
   | (with_reducible exact LeO.refl _)
   | (with_reducible exact LeO.none _)
   | (with_reducible refine LeO.ite ?_ ?_)
   | (with_reducible refine LeO.bind ?_ (fun _ => ?_))
   | exact ih0 _ _ _
   | exact LeO.none _
   | refine LeO.ite ?_ ?_
   | refine LeO.bind ?_ (fun _ => ?_)
theorem spec_filterCost.mono : ∀ a0 k, LeO (spec_filterCost.f k a0) (spec_filterCost.f (k + 1) a0) := by
 intro a0 k
 have ih0 := spec_filterCost.mono_l k
 unfold spec_filterCost.f
 repeat' first
   | (with_reducible exact ih0 _ _ _)
   | (with_reducible exact LeO.refl _)
   | (with_reducible exact LeO.none _)
   | (with_reducible refine LeO.ite ?_ ?_)
   | (with_reducible refine LeO.bind ?_ (fun _ => ?_))
   | exact ih0 _ _ _
   | exact LeO.none _
   | refine LeO.ite ?_ ?_
   | refine LeO.bind ?_ (fun _ => ?_)
set_option maxHeartbeats 8000000 in
set_option maxRecDepth 100000 in
theorem spec_filterCost.calls (k : Nat) (A0 : Option Addr) (c0 : Nat) (l0 : List Int) (r : Int) (w : World) (hr0 : Kd.C (Kd.int .i64) w A0 l0.length l0) (hc0 : l0.length ≤ c0) (h : spec_filterCost.f k l0 = some r) :
  Calls Try.prog 87 #[.slice A0 l0.length c0] w fun e w' => e = .returned (.int .i64 r) ∧ Below w.heap.size w w' := by
 have HR0 := aM hr0
 have HC0 := aM hc0
 clear hr0 hc0
 have HB := aM (Below.refl w.heap.size w)
 have H : (spec_filterCost.l0 k l0 0 0) = some r := h
 clear h
 have H' := aM H
 clear H
 go_enter Try.func87, Try.ntmps87
 go_wp2
 repeat (go_quiet (fail); try go_wp2)
 go_loopg [3, 4] k (fun kq v3 v4 w' => ∃ (x3_1 : Int) (x4_1 : Int), v3 = .int .i64 x3_1 ∧ v4 = .int .i64 x4_1 ∧ Aside0 (spec_filterCost.l0 kq l0 x3_1 x4_1 = some r) ∧ Aside0 (kq ≤ k) ∧ Aside0 (Below w.heap.size w w'))
 case atStart => exact ⟨(0), (0), qE, qE, H', ⟨Nat.le_refl _⟩, ⟨by exact qW HB.out⟩⟩
 case round =>
  clear H'
  obtain ⟨x3_1, x4_1, rfl, rfl, HA, HK1, HB⟩ := hrel
  cases gk with
  | zero => exact absurd HA.out (by simp [spec_filterCost.l0])
  | succ k1 =>
   have H := HA.out
   clear HA
   simp only [spec_filterCost.l0] at H
   by_cases c2 : x4_1 < (l0.length : Int)
   rotate_left
   ·
    rw [if_neg c2] at H
    have c2b0 : decide (x4_1 < (l0.length : Int)) = false := decide_eq_false c2
    clear c2
    obtain rfl := Option.some.inj H
    go_wp2
    repeat (go_quiet (fail); try go_wp2)
    go_ret
    exact ⟨qX, by exact qW HB.out⟩
   rw [if_pos c2] at H
   have c2b0 : decide (x4_1 < (l0.length : Int)) = true := decide_eq_true c2
   clear c2
   by_cases c3 : 0 ≤ x4_1
   rotate_left
   ·
    rw [if_neg c3] at H
    exact absurd H (by simp)
   rw [if_pos c3] at H
   have c3b0 : decide (0 ≤ x4_1) = true := decide_eq_true c3
   clear c3
   obtain ⟨ji4, hji4⟩ : ∃ j_ : Int, (mn (rd l0 x4_1) (wrap64 (256 - (rd l0 x4_1)))) = j_ := ⟨_, rfl⟩
   replace H : (spec_filterCost.l0 k1 l0 (wrap64 (x3_1 + (ji4))) (wrap64 (x4_1 + 1))) = some r := by first | (rw [hji4] at H; exact H) | (simp only [hji4] at H ⊢; exact H)
   have hji4_ : (if (wrap64 (256 - (rd l0 x4_1))) < (rd l0 x4_1) then (wrap64 (256 - (rd l0 x4_1))) else (rd l0 x4_1)) = ji4 := hji4
   have H' := aM H
   clear H
   have p200 : 0 ≤ (x4_1 : Int) := oD
   have q200 : x4_1 < (l0.length : Int) := oD
   obtain ⟨ad200, e200, hx200_0⟩ := Kd.at_int HR0.out x4_1 p200 q200
   cases e200
   replace hx200_0 := bD HB hx200_0
   replace p200 := eq_true p200
   replace q200 := eq_true q200
   have p201 : 0 ≤ (x4_1 : Int) := oD
   have q201 : x4_1 < (l0.length : Int) := oD
   obtain ⟨ad201, e201, hx201_0⟩ := Kd.at_int HR0.out x4_1 p201 q201
   obtain rfl : ad200 = ad201 := (by injection e201)
   replace hx201_0 := bD HB hx201_0
   replace p201 := eq_true p201
   replace q201 := eq_true q201
   go_wp2
   repeat (go_quiet (fail); try go_wp2)
   go_roundg k1
   case measure => have := HK1.out; omega
   case rel => exact ⟨(wrap64 (x3_1 + (ji4))), (wrap64 (x4_1 + 1)), (by first | rfl | (simp; done) | (simp only [← hji4] <;> (first | rfl | simp)) | (simp [*]; done)), qE, H', ⟨by have := HK1.out; omega⟩, ⟨by exact qW HB.out⟩⟩

/-! ### spec_bestFilter: function 76 -/
def spec_bestFilter.l0 : Nat → List Int → List Int → Int → Int → Int → Option (Int)
 | 0, _, _, _, _, _ => none
 | k + 1, x0, x1, x2, x7, x8 => if x8 ≤ 4 then ((spec_filterRow.f k x8 x0 x1 x2).bind fun t202 => ((spec_filterCost.f k t202).bind fun t205 => ((spec_filterRow.f k x7 x0 x1 x2).bind fun t206 => ((spec_filterCost.f k t206).bind fun t209 => (if t205 < t209 then (spec_bestFilter.l0 k x0 x1 x2 x8 (wrap64 (x8 + 1))) else (spec_bestFilter.l0 k x0 x1 x2 x7 (wrap64 (x8 + 1)))))))) else (some x7)
def spec_bestFilter.f (k : Nat) (l0 : List Int) (l1 : List Int) (a2 : Int) : Option (Int) := spec_bestFilter.l0 k l0 l1 a2 0 1
theorem spec_bestFilter.mono_l : ∀ k, (∀ y0 y1 y2 y3 y4, LeO (spec_bestFilter.l0 k y0 y1 y2 y3 y4) (spec_bestFilter.l0 (k + 1) y0 y1 y2 y3 y4))
 | 0 => fun _ _ _ _ _ r h => by simp [spec_bestFilter.l0] at h
 | k + 1 => by
  have ih0 := spec_bestFilter.mono_l k
  ·
   intro y0 y1 y2 y3 y4
   unfold spec_bestFilter.l0
   repeat' first
   | (with_reducible exact ih0 _ _ _ _ _)
   | (with_reducible exact spec_filterCost.mono _ _)
   | (with_reducible exact spec_filterRow.mono _ _ _ _ _)
   | (with_reducible exact LeO.refl _)
   | (with_reducible exact LeO.none _)
   | (with_reducible refine LeO.ite ?_ ?_)
   | (with_reducible refine LeO.bind ?_ (fun _ => ?_))
   | exact ih0 _ _ _ _ _
   | exact spec_filterCost.mono _ _
   | exact spec_filterRow.mono _ _ _ _ _
   | exact LeO.none _
   | refine LeO.ite ?_ ?_
   | refine LeO.bind ?_ (fun _ => ?_)
theorem spec_bestFilter.mono : ∀ a0 a1 a2 k, LeO (spec_bestFilter.f k a0 a1 a2) (spec_bestFilter.f (k + 1) a0 a1 a2) := by
 intro a0 a1 a2 k
 have ih0 := spec_bestFilter.mono_l k
 unfold spec_bestFilter.f
 repeat' first
   | (with_reducible exact ih0 _ _ _ _ _)
   | (with_reducible exact spec_filterCost.mono _ _)
   | (with_reducible exact spec_filterRow.mono _ _ _ _ _)
   | (with_reducible exact LeO.refl _)
   | (with_reducible exact LeO.none _)
   | (with_reducible refine LeO.ite ?_ ?_)
   | (with_reducible refine LeO.bind ?_ (fun _ => ?_))
   | exact ih0 _ _ _ _ _
   | exact spec_filterCost.mono _ _
   | exact spec_filterRow.mono _ _ _ _ _
   | exact LeO.none _
   | refine LeO.ite ?_ ?_
   | refine LeO.bind ?_ (fun _ => ?_)
set_option maxHeartbeats 8000000 in
set_option maxRecDepth 100000 in
theorem spec_bestFilter.calls (k : Nat) (A0 : Option Addr) (c0 : Nat) (l0 : List Int) (A1 : Option Addr) (c1 : Nat) (l1 : List Int) (a2 : Int) (r : Int) (w : World) (hr0 : Kd.C (Kd.int .i64) w A0 l0.length l0) (hc0 : l0.length ≤ c0) (hr1 : Kd.C (Kd.int .i64) w A1 l1.length l1) (hc1 : l1.length ≤ c1) (h : spec_bestFilter.f k l0 l1 a2 = some r) :
  Calls Try.prog 76 #[.slice A0 l0.length c0, .slice A1 l1.length c1, .int .i64 a2] w fun e w' => e = .returned (.int .i64 r) ∧ Below w.heap.size w w' := by
 have HR0 := aM hr0
 have HC0 := aM hc0
 clear hr0 hc0
 have HR1 := aM hr1
 have HC1 := aM hc1
 clear hr1 hc1
 have HB := aM (Below.refl w.heap.size w)
 have H : (spec_bestFilter.l0 k l0 l1 a2 0 1) = some r := h
 clear h
 have H' := aM H
 clear H
 go_enter Try.func76, Try.ntmps76
 go_wp2
 go_loopg [7, 8] k (fun kq v7 v8 w' => ∃ (x7_1 : Int) (x8_1 : Int), v7 = .int .i64 x7_1 ∧ v8 = .int .i64 x8_1 ∧ Aside0 (spec_bestFilter.l0 kq l0 l1 a2 x7_1 x8_1 = some r) ∧ Aside0 (kq ≤ k) ∧ Aside0 (Below w.heap.size w w'))
 case atStart => exact ⟨(0), (1), qE, qE, H', ⟨Nat.le_refl _⟩, ⟨by exact qW HB.out⟩⟩
 case round =>
  clear H'
  try clear c1
  try clear p2
  obtain ⟨x7_1, x8_1, rfl, rfl, HA, HK1, HB⟩ := hrel
  cases gk with
  | zero => exact absurd HA.out (by simp [spec_bestFilter.l0])
  | succ k1 =>
   have H := HA.out
   clear HA
   simp only [spec_bestFilter.l0] at H
   by_cases c4 : x8_1 ≤ 4
   rotate_left
   ·
    rw [if_neg c4] at H
    have c4b0 : decide (x8_1 ≤ 4) = false := decide_eq_false c4
    clear c4
    obtain rfl := Option.some.inj H
    go_wp2
    go_ret
    exact ⟨qX, by exact qW HB.out⟩
   rw [if_pos c4] at H
   have c4b0 : decide (x8_1 ≤ 4) = true := decide_eq_true c4
   clear c4
   replace H := Option.bind_eq_some_iff.mp H
   obtain ⟨t202, A50, H⟩ := H
   replace H : ((spec_filterCost.f k1 t202).bind fun t205 => ((spec_filterRow.f k1 x7_1 l0 l1 a2).bind fun t206 => ((spec_filterCost.f k1 t206).bind fun t209 => (if t205 < t209 then (spec_bestFilter.l0 k1 l0 l1 a2 x8_1 (wrap64 (x8_1 + 1))) else (spec_bestFilter.l0 k1 l0 l1 a2 x7_1 (wrap64 (x8_1 + 1))))))) = some r := H
   have A5 := aM A50
   clear A50
   replace H := Option.bind_eq_some_iff.mp H
   obtain ⟨t205, A60, H⟩ := H
   replace H : ((spec_filterRow.f k1 x7_1 l0 l1 a2).bind fun t206 => ((spec_filterCost.f k1 t206).bind fun t209 => (if t205 < t209 then (spec_bestFilter.l0 k1 l0 l1 a2 x8_1 (wrap64 (x8_1 + 1))) else (spec_bestFilter.l0 k1 l0 l1 a2 x7_1 (wrap64 (x8_1 + 1)))))) = some r := H
   have A6 := aM A60
   clear A60
   replace H := Option.bind_eq_some_iff.mp H
   obtain ⟨t206, A70, H⟩ := H
   replace H : ((spec_filterCost.f k1 t206).bind fun t209 => (if t205 < t209 then (spec_bestFilter.l0 k1 l0 l1 a2 x8_1 (wrap64 (x8_1 + 1))) else (spec_bestFilter.l0 k1 l0 l1 a2 x7_1 (wrap64 (x8_1 + 1))))) = some r := H
   have A7 := aM A70
   clear A70
   replace H := Option.bind_eq_some_iff.mp H
   obtain ⟨t209, A80, H⟩ := H
   replace H : (if t205 < t209 then (spec_bestFilter.l0 k1 l0 l1 a2 x8_1 (wrap64 (x8_1 + 1))) else (spec_bestFilter.l0 k1 l0 l1 a2 x7_1 (wrap64 (x8_1 + 1)))) = some r := H
   have A8 := aM A80
   clear A80
   by_cases c9 : t205 < t209
   ·
    rw [if_pos c9] at H
    have c9b0 : decide (t205 < t209) = true := decide_eq_true c9
    clear c9
    have H' := aM H
    clear H
    go_wp2_with (first | ((with_reducible refine gate_callee (f := 77) rfl ?_); refine goesL_ (some 17) rfl rfl Try.func77 (by kernel_rfl) rfl #[.int .i64 x8_1, .slice A0 l0.length c0, .slice A1 l1.length c1, .int .i64 a2] rfl qM ?_; (with_reducible refine (spec_filterRow.calls k1 x8_1 _ _ l0 _ _ l1 a2 t202 _ ?side1 ?side2 ?side3 ?side4 A5.out).mono ?_); (case side1 => exact qC (Kd.C_below HR0.out HB.out)); (case side2 => exact HC0.out); (case side3 => exact qC (Kd.C_below HR1.out HB.out)); (case side4 => exact HC1.out); rintro e w10 ⟨v203, rfl, ho0, hb⟩; refine ⟨_, rfl, ?_⟩; have HO204 := aM (Kd.R_lower ho0 (below_size (qW HB.out))); replace HB := aM (below_step (qW HB.out) hb); (try clear hb); (try clear hb2); (try clear hk); (try clear hi); (try clear ho0); obtain ⟨Ao11, co11, eo11⟩ := Kd.R_slice HO204.out; subst eo11) | ((with_reducible refine gate_callee (f := 87) rfl ?_); refine goesL_ (some 18) rfl rfl Try.func87 (by kernel_rfl) rfl #[.slice Ao11 t202.length co11] rfl qM ?_; (with_reducible refine (spec_filterCost.calls k1 _ _ t202 t205 _ ?side1 ?side2 A6.out).mono ?_); (case side1 => exact qC (Kd.R_reads' HO204.out).2.2); (case side2 => exact (Kd.R_reads' HO204.out).2.1); rintro e w12 ⟨rfl, hb⟩; refine ⟨_, rfl, ?_⟩; replace HO204 := aM (Kd.R_below (qR HO204.out) hb); replace HB := aM (below_step (qW HB.out) hb); (try clear hb); (try clear hb2); (try clear hk); (try clear hi)) | ((with_reducible refine gate_callee (f := 77) rfl ?_); refine goesL_ (some 23) rfl rfl Try.func77 (by kernel_rfl) rfl #[.int .i64 x7_1, .slice A0 l0.length c0, .slice A1 l1.length c1, .int .i64 a2] rfl qM ?_; (with_reducible refine (spec_filterRow.calls k1 x7_1 _ _ l0 _ _ l1 a2 t206 _ ?side1 ?side2 ?side3 ?side4 A7.out).mono ?_); (case side1 => exact qC (Kd.C_below HR0.out HB.out)); (case side2 => exact HC0.out); (case side3 => exact qC (Kd.C_below HR1.out HB.out)); (case side4 => exact HC1.out); rintro e w13 ⟨v207, rfl, ho0, hb⟩; refine ⟨_, rfl, ?_⟩; have HO208 := aM (Kd.R_lower (Kd.R_new' ho0 (Kd.R_lt (qR HO204.out))) (below_size (qW HB.out))); replace HO204 := aM (Kd.R_elder' (qR HO204.out) (Kd.R_base ho0) hb); replace HB := aM (below_step (qW HB.out) hb); (try clear hb); (try clear hb2); (try clear hk); (try clear hi); (try clear ho0); obtain ⟨Ao14, co14, eo14⟩ := Kd.R_slice HO208.out; subst eo14) | ((with_reducible refine gate_callee (f := 87) rfl ?_); refine goesL_ (some 24) rfl rfl Try.func87 (by kernel_rfl) rfl #[.slice Ao14 t206.length co14] rfl qM ?_; (with_reducible refine (spec_filterCost.calls k1 _ _ t206 t209 _ ?side1 ?side2 A8.out).mono ?_); (case side1 => exact qC (Kd.R_reads' HO208.out).2.2); (case side2 => exact (Kd.R_reads' HO208.out).2.1); rintro e w15 ⟨rfl, hb⟩; refine ⟨_, rfl, ?_⟩; replace HO204 := aM (Kd.R_below (qR HO204.out) hb); replace HO208 := aM (Kd.R_below (qR HO208.out) hb); replace HB := aM (below_step (qW HB.out) hb); (try clear hb); (try clear hb2); (try clear hk); (try clear hi)))
    go_roundg k1
    case measure => have := HK1.out; omega
    case rel => exact ⟨(x8_1), (wrap64 (x8_1 + 1)), qE, qE, H', ⟨by have := HK1.out; omega⟩, ⟨by exact qW HB.out⟩⟩
   rw [if_neg c9] at H
   have c9b0 : decide (t205 < t209) = false := decide_eq_false c9
   clear c9
   have H' := aM H
   clear H
   go_wp2_with (first | ((with_reducible refine gate_callee (f := 77) rfl ?_); refine goesL_ (some 17) rfl rfl Try.func77 (by kernel_rfl) rfl #[.int .i64 x8_1, .slice A0 l0.length c0, .slice A1 l1.length c1, .int .i64 a2] rfl qM ?_; (with_reducible refine (spec_filterRow.calls k1 x8_1 _ _ l0 _ _ l1 a2 t202 _ ?side1 ?side2 ?side3 ?side4 A5.out).mono ?_); (case side1 => exact qC (Kd.C_below HR0.out HB.out)); (case side2 => exact HC0.out); (case side3 => exact qC (Kd.C_below HR1.out HB.out)); (case side4 => exact HC1.out); rintro e w16 ⟨v203, rfl, ho0, hb⟩; refine ⟨_, rfl, ?_⟩; have HO204 := aM (Kd.R_lower ho0 (below_size (qW HB.out))); replace HB := aM (below_step (qW HB.out) hb); (try clear hb); (try clear hb2); (try clear hk); (try clear hi); (try clear ho0); obtain ⟨Ao17, co17, eo17⟩ := Kd.R_slice HO204.out; subst eo17) | ((with_reducible refine gate_callee (f := 87) rfl ?_); refine goesL_ (some 18) rfl rfl Try.func87 (by kernel_rfl) rfl #[.slice Ao17 t202.length co17] rfl qM ?_; (with_reducible refine (spec_filterCost.calls k1 _ _ t202 t205 _ ?side1 ?side2 A6.out).mono ?_); (case side1 => exact qC (Kd.R_reads' HO204.out).2.2); (case side2 => exact (Kd.R_reads' HO204.out).2.1); rintro e w18 ⟨rfl, hb⟩; refine ⟨_, rfl, ?_⟩; replace HO204 := aM (Kd.R_below (qR HO204.out) hb); replace HB := aM (below_step (qW HB.out) hb); (try clear hb); (try clear hb2); (try clear hk); (try clear hi)) | ((with_reducible refine gate_callee (f := 77) rfl ?_); refine goesL_ (some 23) rfl rfl Try.func77 (by kernel_rfl) rfl #[.int .i64 x7_1, .slice A0 l0.length c0, .slice A1 l1.length c1, .int .i64 a2] rfl qM ?_; (with_reducible refine (spec_filterRow.calls k1 x7_1 _ _ l0 _ _ l1 a2 t206 _ ?side1 ?side2 ?side3 ?side4 A7.out).mono ?_); (case side1 => exact qC (Kd.C_below HR0.out HB.out)); (case side2 => exact HC0.out); (case side3 => exact qC (Kd.C_below HR1.out HB.out)); (case side4 => exact HC1.out); rintro e w19 ⟨v207, rfl, ho0, hb⟩; refine ⟨_, rfl, ?_⟩; have HO208 := aM (Kd.R_lower (Kd.R_new' ho0 (Kd.R_lt (qR HO204.out))) (below_size (qW HB.out))); replace HO204 := aM (Kd.R_elder' (qR HO204.out) (Kd.R_base ho0) hb); replace HB := aM (below_step (qW HB.out) hb); (try clear hb); (try clear hb2); (try clear hk); (try clear hi); (try clear ho0); obtain ⟨Ao20, co20, eo20⟩ := Kd.R_slice HO208.out; subst eo20) | ((with_reducible refine gate_callee (f := 87) rfl ?_); refine goesL_ (some 24) rfl rfl Try.func87 (by kernel_rfl) rfl #[.slice Ao20 t206.length co20] rfl qM ?_; (with_reducible refine (spec_filterCost.calls k1 _ _ t206 t209 _ ?side1 ?side2 A8.out).mono ?_); (case side1 => exact qC (Kd.R_reads' HO208.out).2.2); (case side2 => exact (Kd.R_reads' HO208.out).2.1); rintro e w21 ⟨rfl, hb⟩; refine ⟨_, rfl, ?_⟩; replace HO204 := aM (Kd.R_below (qR HO204.out) hb); replace HO208 := aM (Kd.R_below (qR HO208.out) hb); replace HB := aM (below_step (qW HB.out) hb); (try clear hb); (try clear hb2); (try clear hk); (try clear hi)))
   go_roundg k1
   case measure => have := HK1.out; omega
   case rel => exact ⟨(x7_1), (wrap64 (x8_1 + 1)), qE, qE, H', ⟨by have := HK1.out; omega⟩, ⟨by exact qW HB.out⟩⟩

/-! ### impl_size: function 91 -/
def impl_size.f (a0 : Int) : Option (Int) := some (mx a0 (wrap64 (-a0)))
set_option maxHeartbeats 8000000 in
set_option maxRecDepth 100000 in
theorem impl_size.calls (a0 : Int) (r : Int) (w : World) (h : impl_size.f a0 = some r) :
  Calls Try.prog 91 #[.int .i64 a0] w fun e w' => e = .returned (.int .i64 r) ∧ Below w.heap.size w w' := by
 have HB := aM (Below.refl w.heap.size w)
 have H : (some (mx a0 (wrap64 (-a0)))) = some r := h
 clear h
 obtain ⟨ji2, hji2⟩ : ∃ j_ : Int, (mx a0 (wrap64 (-a0))) = j_ := ⟨_, rfl⟩
 replace H : (some ji2) = some r := by first | (rw [hji2] at H; exact H) | (simp only [hji2] at H ⊢; exact H)
 have hji2_ : (if a0 < (wrap64 (-a0)) then (wrap64 (-a0)) else a0) = ji2 := hji2
 obtain rfl := Option.some.inj H
 go_enter Try.func91, Try.ntmps91
 go_wp2
 go_ret
 exact ⟨by first | rfl | (simp [errW_none, errW_some] <;> rfl) | (simp only [← hji2]; first | rfl | (simp [errW_none, errW_some] <;> rfl)) | (simp [*, errW_none, errW_some] <;> rfl), by exact qW HB.out⟩

/-! ### impl_predicted: function 85 -/
mutual
def impl_predicted.j0 : Nat → Int → Int → Int → Int → Option (Int)
 | 0, _, _, _, _ => none
 | k + 1, x0, x11, x12, x13 => if x0 = 1 then (some x11) else (if x0 = 2 then (some x12) else (if x0 = 3 then (some (wrap64 (Int.tdiv (wrap64 (x11 + x12)) 2))) else (if x0 = 4 then ((some (([x12, x13] : List Int) : List Int)).bind fun y362 => (impl_predicted.l0 k x11 x12 x13 x11 y362 (y362.length : Int) 0)) else (some 0))))
def impl_predicted.l0 : Nat → Int → Int → Int → Int → List Int → Int → Int → Option (Int)
 | 0, _, _, _, _, _, _, _ => none
 | k + 1, x11, x12, x13, x14, x54, x55, x56 => if x56 < x55 then (if 0 ≤ x56 then (if x56 < (x54.length : Int) then ((impl_size.f (wrap64 ((wrap64 ((wrap64 ((rd x54 x56) - x11)) - x12)) + x13))).bind fun t366 => ((impl_size.f (wrap64 ((wrap64 ((wrap64 (x14 - x11)) - x12)) + x13))).bind fun t367 => (if t366 < t367 then (impl_predicted.l0 k x11 x12 x13 (rd x54 x56) x54 x55 (wrap64 (x56 + 1))) else (impl_predicted.l0 k x11 x12 x13 x14 x54 x55 (wrap64 (x56 + 1)))))) else (none)) else (none)) else (some x14)
end
def impl_predicted.f (k : Nat) (a0 : Int) (l1 : List Int) (l2 : List Int) (a3 : Int) (a4 : Int) : Option (Int) := if 0 ≤ a4 then (if a4 < (l2.length : Int) then (if a4 ≥ a3 then (if 0 ≤ (wrap64 (a4 - a3)) then (if (wrap64 (a4 - a3)) < (l1.length : Int) then (if (wrap64 (a4 - a3)) < (l2.length : Int) then (impl_predicted.j0 k a0 (rd l1 (wrap64 (a4 - a3))) (rd l2 a4) (rd l2 (wrap64 (a4 - a3)))) else (none)) else (none)) else (none)) else (impl_predicted.j0 k a0 0 (rd l2 a4) 0)) else (none)) else (none)
theorem impl_predicted.mono_l : ∀ k, (∀ y0 y1 y2 y3, LeO (impl_predicted.j0 k y0 y1 y2 y3) (impl_predicted.j0 (k + 1) y0 y1 y2 y3)) ∧ (∀ y0 y1 y2 y3 y4 y5 y6, LeO (impl_predicted.l0 k y0 y1 y2 y3 y4 y5 y6) (impl_predicted.l0 (k + 1) y0 y1 y2 y3 y4 y5 y6))
 | 0 => ⟨fun _ _ _ _ r h => by simp [impl_predicted.j0] at h, fun _ _ _ _ _ _ _ r h => by simp [impl_predicted.l0] at h⟩
 | k + 1 => by
  obtain ⟨ih0, ih1⟩ := impl_predicted.mono_l k
  refine ⟨?_, ?_⟩
  ·
   intro y0 y1 y2 y3
   unfold impl_predicted.j0
   repeat' first
   | (with_reducible exact ih0 _ _ _ _)
   | (with_reducible exact ih1 _ _ _ _ _ _ _)
   | (with_reducible exact LeO.refl _)
   | (with_reducible exact LeO.none _)
   | (with_reducible refine LeO.ite ?_ ?_)
   | (with_reducible refine LeO.bind ?_ (fun _ => ?_))
   | exact ih0 _ _ _ _
   | exact ih1 _ _ _ _ _ _ _
   | exact LeO.none _
   | refine LeO.ite ?_ ?_
   | refine LeO.bind ?_ (fun _ => ?_)
  ·
   intro y0 y1 y2 y3 y4 y5 y6
   unfold impl_predicted.l0
   repeat' first
   | (with_reducible exact ih0 _ _ _ _)
   | (with_reducible exact ih1 _ _ _ _ _ _ _)
   | (with_reducible exact LeO.refl _)
   | (with_reducible exact LeO.none _)
   | (with_reducible refine LeO.ite ?_ ?_)
   | (with_reducible refine LeO.bind ?_ (fun _ => ?_))
   | exact ih0 _ _ _ _
   | exact ih1 _ _ _ _ _ _ _
   | exact LeO.none _
   | refine LeO.ite ?_ ?_
   | refine LeO.bind ?_ (fun _ => ?_)
theorem impl_predicted.mono : ∀ a0 a1 a2 a3 a4 k, LeO (impl_predicted.f k a0 a1 a2 a3 a4) (impl_predicted.f (k + 1) a0 a1 a2 a3 a4) := by
 intro a0 a1 a2 a3 a4 k
 obtain ⟨ih0, ih1⟩ := impl_predicted.mono_l k
 unfold impl_predicted.f
 repeat' first
   | (with_reducible exact ih0 _ _ _ _)
   | (with_reducible exact ih1 _ _ _ _ _ _ _)
   | (with_reducible exact LeO.refl _)
   | (with_reducible exact LeO.none _)
   | (with_reducible refine LeO.ite ?_ ?_)
   | (with_reducible refine LeO.bind ?_ (fun _ => ?_))
   | exact ih0 _ _ _ _
   | exact ih1 _ _ _ _ _ _ _
   | exact LeO.none _
   | refine LeO.ite ?_ ?_
   | refine LeO.bind ?_ (fun _ => ?_)
set_option maxHeartbeats 8000000 in
set_option maxRecDepth 100000 in
theorem impl_predicted.calls (k : Nat) (a0 : Int) (A1 : Option Addr) (c1 : Nat) (l1 : List Int) (A2 : Option Addr) (c2 : Nat) (l2 : List Int) (a3 : Int) (a4 : Int) (r : Int) (w : World) (hr1 : Kd.C (Kd.int .i64) w A1 l1.length l1) (hc1 : l1.length ≤ c1) (hr2 : Kd.C (Kd.int .i64) w A2 l2.length l2) (hc2 : l2.length ≤ c2) (h : impl_predicted.f k a0 l1 l2 a3 a4 = some r) :
  Calls Try.prog 85 #[.int .i64 a0, .slice A1 l1.length c1, .slice A2 l2.length c2, .int .i64 a3, .int .i64 a4] w fun e w' => e = .returned (.int .i64 r) ∧ Below w.heap.size w w' := by
 have HR1 := aM hr1
 have HC1 := aM hc1
 clear hr1 hc1
 have HR2 := aM hr2
 have HC2 := aM hc2
 clear hr2 hc2
 have HB := aM (Below.refl w.heap.size w)
 have H : (if 0 ≤ a4 then (if a4 < (l2.length : Int) then (if a4 ≥ a3 then (if 0 ≤ (wrap64 (a4 - a3)) then (if (wrap64 (a4 - a3)) < (l1.length : Int) then (if (wrap64 (a4 - a3)) < (l2.length : Int) then (impl_predicted.j0 k a0 (rd l1 (wrap64 (a4 - a3))) (rd l2 a4) (rd l2 (wrap64 (a4 - a3)))) else (none)) else (none)) else (none)) else (impl_predicted.j0 k a0 0 (rd l2 a4) 0)) else (none)) else (none)) = some r := h
 clear h
 by_cases c6 : 0 ≤ a4
 rotate_left
 ·
  rw [if_neg c6] at H
  exact absurd H (by simp)
 rw [if_pos c6] at H
 have c6b0 : decide (0 ≤ a4) = true := decide_eq_true c6
 clear c6
 by_cases c7 : a4 < (l2.length : Int)
 rotate_left
 ·
  rw [if_neg c7] at H
  exact absurd H (by simp)
 rw [if_pos c7] at H
 have c7b0 : decide (a4 < (l2.length : Int)) = true := decide_eq_true c7
 clear c7
 have HC8 := aM H
 clear H
 have p359 : 0 ≤ (a4 : Int) := oD
 have q359 : a4 < (l2.length : Int) := oD
 obtain ⟨ad359, e359, hx359_0⟩ := Kd.at_int HR2.out a4 p359 q359
 cases e359
 replace p359 := eq_true p359
 replace q359 := eq_true q359
 go_enter Try.func85, Try.ntmps85
 go_upto_if 23 with (fail)
 repeat (go_quiet (fail); go_upto_if 23 with (fail))
 go_cut [11, 13] (fun v11 v13 wc => ∃ (kq : Nat) (x11_7 : Int) (x13_7 : Int), v11 = .int .i64 x11_7 ∧ v13 = .int .i64 x13_7 ∧ Aside0 (impl_predicted.j0 kq a0 x11_7 (rd l2 a4) x13_7 = some r) ∧ Aside0 (kq ≤ k) ∧ Aside0 (Below w.heap.size w wc))
 case first =>
  have H := HC8.out
  clear HC8
  by_cases c9 : a4 ≥ a3
  rotate_left
  ·
   rw [if_neg c9] at H
   have c9b0 : decide (a3 ≤ a4) = false := decide_eq_false c9
   clear c9
   (first | rw [c9b0] | (simp only [i64_w, i32_w]; rw [c9b0]) | skip)
   have H' := aM H
   clear H
   go_wp2
   repeat (go_quiet (fail); try go_wp2)
   go_meet
   case rel => exact ⟨_, (0), (0), qE, qE, H', ⟨by first | omega | exact Nat.le_refl _⟩, ⟨by exact qW HB.out⟩⟩
  rw [if_pos c9] at H
  have c9b0 : decide (a3 ≤ a4) = true := decide_eq_true c9
  clear c9
  (first | rw [c9b0] | (simp only [i64_w, i32_w]; rw [c9b0]) | skip)
  obtain ⟨ji10, hji10⟩ : ∃ j_ : Int, (wrap64 (a4 - a3)) = j_ := ⟨_, rfl⟩
  replace H : (if 0 ≤ (ji10) then (if (ji10) < (l1.length : Int) then (if (ji10) < (l2.length : Int) then (impl_predicted.j0 k a0 (rd l1 (ji10)) (rd l2 a4) (rd l2 (ji10))) else (none)) else (none)) else (none)) = some r := by first | (rw [hji10] at H; exact H) | (simp only [hji10] at H ⊢; exact H)
  have hji10w : (IntKind.i64.wrap (a4 - a3)) = ji10 := (i64_w _).trans hji10
  by_cases c11 : 0 ≤ (ji10)
  rotate_left
  ·
   rw [if_neg c11] at H
   exact absurd H (by simp)
  rw [if_pos c11] at H
  have c11b0 : decide (0 ≤ (ji10)) = true := decide_eq_true c11
  clear c11
  by_cases c12 : (ji10) < (l1.length : Int)
  rotate_left
  ·
   rw [if_neg c12] at H
   exact absurd H (by simp)
  rw [if_pos c12] at H
  have c12b0 : decide ((ji10) < (l1.length : Int)) = true := decide_eq_true c12
  clear c12
  by_cases c13 : (ji10) < (l2.length : Int)
  rotate_left
  ·
   rw [if_neg c13] at H
   exact absurd H (by simp)
  rw [if_pos c13] at H
  have c13b0 : decide ((ji10) < (l2.length : Int)) = true := decide_eq_true c13
  clear c13
  have H' := aM H
  clear H
  have p360 : 0 ≤ ((ji10) : Int) := oD
  have q360 : (ji10) < (l1.length : Int) := oD
  obtain ⟨ad360, e360, hx360_0⟩ := Kd.at_int HR1.out (ji10) p360 q360
  cases e360
  replace hx360_0 := bD HB hx360_0
  replace p360 := eq_true p360
  replace q360 := eq_true q360
  have p361 : 0 ≤ ((ji10) : Int) := oD
  have q361 : (ji10) < (l2.length : Int) := oD
  obtain ⟨ad361, e361, hx361_0⟩ := Kd.at_int HR2.out (ji10) p361 q361
  obtain rfl : ad359 = ad361 := (by injection e361)
  replace hx361_0 := bD HB hx361_0
  replace p361 := eq_true p361
  replace q361 := eq_true q361
  go_wp2
  repeat (go_quiet (fail); try go_wp2)
  go_meet
  case rel => exact ⟨_, (rd l1 (ji10)), (rd l2 (ji10)), (by first | rfl | (simp; done) | (simp only [← hji10] <;> (first | rfl | simp)) | (simp [*]; done)), (by first | rfl | (simp; done) | (simp only [← hji10] <;> (first | rfl | simp)) | (simp [*]; done)), H', ⟨by first | omega | exact Nat.le_refl _⟩, ⟨by exact qW HB.out⟩⟩
 case rest =>
  clear HC8
  try clear c1
  try clear c2
  try clear p2
  try clear p3
  try clear q3
  try clear hx3
  try clear c6
  try clear c6b0
  try clear p6
  try clear c7
  try clear c7b0
  try clear c8
  try clear c9
  try clear c9b0
  try clear c11
  try clear c11b0
  try clear c12
  try clear c12b0
  try clear c13
  try clear c13b0
  try clear hx359_0
  try clear hx360_0
  try clear hx361_0
  try clear p359
  try clear p360
  try clear p361
  try clear q359
  try clear q360
  try clear q361
  obtain ⟨kq, x11_7, x13_7, rfl, rfl, HA, HJ7, HB⟩ := hcut
  cases kq with
  | zero => exact absurd HA.out (by simp [impl_predicted.j0])
  | succ kj7 =>
   have H := HA.out
   clear HA
   simp only [impl_predicted.j0] at H
   by_cases c14 : a0 = 1
   ·
    rw [if_pos c14] at H
    have c14b0 : (a0 == 1) = true := beq_iff_eq.mpr c14
    have c14b1 : (a0 != 1) = false := bne_eq_false_iff_eq.mpr c14
    clear c14
    obtain rfl := Option.some.inj H
    go_wp2
    repeat (go_quiet (fail); try go_wp2)
    go_ret
    exact ⟨qX, by exact qW HB.out⟩
   rw [if_neg c14] at H
   have c14b0 : (a0 == 1) = false := beq_eq_false_iff_ne.mpr c14
   have c14b1 : (a0 != 1) = true := bne_iff_ne.mpr c14
   by_cases c15 : a0 = 2
   ·
    rw [if_pos c15] at H
    have c15b0 : (a0 == 2) = true := beq_iff_eq.mpr c15
    have c15b1 : (a0 != 2) = false := bne_eq_false_iff_eq.mpr c15
    clear c15
    obtain rfl := Option.some.inj H
    go_wp2
    repeat (go_quiet (fail); try go_wp2)
    go_ret
    exact ⟨qX, by exact qW HB.out⟩
   rw [if_neg c15] at H
   have c15b0 : (a0 == 2) = false := beq_eq_false_iff_ne.mpr c15
   have c15b1 : (a0 != 2) = true := bne_iff_ne.mpr c15
   by_cases c16 : a0 = 3
   ·
    rw [if_pos c16] at H
    have c16b0 : (a0 == 3) = true := beq_iff_eq.mpr c16
    have c16b1 : (a0 != 3) = false := bne_eq_false_iff_eq.mpr c16
    clear c16
    obtain rfl := Option.some.inj H
    go_wp2
    repeat (go_quiet (fail); try go_wp2)
    go_ret
    exact ⟨qX, by exact qW HB.out⟩
   rw [if_neg c16] at H
   have c16b0 : (a0 == 3) = false := beq_eq_false_iff_ne.mpr c16
   have c16b1 : (a0 != 3) = true := bne_iff_ne.mpr c16
   by_cases c17 : a0 = 4
   rotate_left
   ·
    rw [if_neg c17] at H
    have c17b0 : (a0 == 4) = false := beq_eq_false_iff_ne.mpr c17
    have c17b1 : (a0 != 4) = true := bne_iff_ne.mpr c17
    obtain rfl := Option.some.inj H
    go_wp2
    repeat (go_quiet (fail); try go_wp2)
    go_ret
    exact ⟨qX, by exact qW HB.out⟩
   rw [if_pos c17] at H
   have c17b0 : (a0 == 4) = true := beq_iff_eq.mpr c17
   have c17b1 : (a0 != 4) = false := bne_eq_false_iff_eq.mpr c17
   clear c17
   obtain ⟨y362, hy362⟩ : ∃ y_ : List Int, y_ = (([(rd l2 a4), x13_7] : List Int)) := ⟨_, rfl⟩
   replace H : (impl_predicted.l0 kj7 x11_7 (rd l2 a4) x13_7 x11_7 y362 (y362.length : Int) 0) = some r := rY hy362 H
   have Ny362 := aM hy362
   clear hy362
   have H' := aM H
   clear H
   go_wp2_with (first | ((with_reducible refine gate_dst (N := 54) rfl ?_); refine Kd.R_lit (Kd.int .i64) _ 3 ?hg (N := 54) ?hd (xs := ([(rd l2 a4), x13_7] : List Int)) (inner := [.int .i64 (rd l2 a4), .int .i64 x13_7]) (ok := fun _ => True) (okp := fun _ => True) ?hr ?hp (fun _ hk => hk) trivial (Below.refl _ _) (Nat.le_refl _) (by simp) ?_; (case hd => rfl); (case hg => rfl); (case hr => first | (go_simp; done) | (go_simp; rfl)); (case hp => exact (Reps.one (show Kd.M (Kd.int .i64) _ _ _ (rd l2 a4) [.int .i64 (rd l2 a4)] from rfl) (Reps.one (show Kd.M (Kd.int .i64) _ _ _ x13_7 [.int .i64 x13_7] from rfl) (Reps.none _ _)))); intro v363 w18 ho19 hb hg_ hnew_; clear hg_ hnew_; (first | rw [← Ny362.out] at ho19 | (simp only [Int.reduceToNat] at ho19; rw [← Ny362.out] at ho19)); have HO364 := aM (Kd.R_lower ho19 (below_size (qW HB.out))); replace HB := aM (below_step (qW HB.out) hb); clear hb ho19; obtain ⟨Ao20, co20, eo20⟩ := Kd.R_slice HO364.out; subst eo20))
   repeat (go_quiet (first | ((with_reducible refine gate_dst (N := 54) rfl ?_); refine Kd.R_lit (Kd.int .i64) _ 3 ?hg (N := 54) ?hd (xs := ([(rd l2 a4), x13_7] : List Int)) (inner := [.int .i64 (rd l2 a4), .int .i64 x13_7]) (ok := fun _ => True) (okp := fun _ => True) ?hr ?hp (fun _ hk => hk) trivial (Below.refl _ _) (Nat.le_refl _) (by simp) ?_; (case hd => rfl); (case hg => rfl); (case hr => first | (go_simp; done) | (go_simp; rfl)); (case hp => exact (Reps.one (show Kd.M (Kd.int .i64) _ _ _ (rd l2 a4) [.int .i64 (rd l2 a4)] from rfl) (Reps.one (show Kd.M (Kd.int .i64) _ _ _ x13_7 [.int .i64 x13_7] from rfl) (Reps.none _ _)))); intro v363 w18 ho19 hb hg_ hnew_; clear hg_ hnew_; (first | rw [← Ny362.out] at ho19 | (simp only [Int.reduceToNat] at ho19; rw [← Ny362.out] at ho19)); have HO364 := aM (Kd.R_lower ho19 (below_size (qW HB.out))); replace HB := aM (below_step (qW HB.out) hb); clear hb ho19; obtain ⟨Ao20, co20, eo20⟩ := Kd.R_slice HO364.out; subst eo20)); try go_wp2_with (first | ((with_reducible refine gate_dst (N := 54) rfl ?_); refine Kd.R_lit (Kd.int .i64) _ 3 ?hg (N := 54) ?hd (xs := ([(rd l2 a4), x13_7] : List Int)) (inner := [.int .i64 (rd l2 a4), .int .i64 x13_7]) (ok := fun _ => True) (okp := fun _ => True) ?hr ?hp (fun _ hk => hk) trivial (Below.refl _ _) (Nat.le_refl _) (by simp) ?_; (case hd => rfl); (case hg => rfl); (case hr => first | (go_simp; done) | (go_simp; rfl)); (case hp => exact (Reps.one (show Kd.M (Kd.int .i64) _ _ _ (rd l2 a4) [.int .i64 (rd l2 a4)] from rfl) (Reps.one (show Kd.M (Kd.int .i64) _ _ _ x13_7 [.int .i64 x13_7] from rfl) (Reps.none _ _)))); intro v363 w18 ho19 hb hg_ hnew_; clear hg_ hnew_; (first | rw [← Ny362.out] at ho19 | (simp only [Int.reduceToNat] at ho19; rw [← Ny362.out] at ho19)); have HO364 := aM (Kd.R_lower ho19 (below_size (qW HB.out))); replace HB := aM (below_step (qW HB.out) hb); clear hb ho19; obtain ⟨Ao20, co20, eo20⟩ := Kd.R_slice HO364.out; subst eo20)))
   go_loopg [14, 56] kj7 (fun kq v14 v56 w' => ∃ (x14_2 : Int) (x56_2 : Int), v14 = .int .i64 x14_2 ∧ v56 = .int .i64 x56_2 ∧ Aside0 (impl_predicted.l0 kq x11_7 (rd l2 a4) x13_7 x14_2 y362 (y362.length : Int) x56_2 = some r) ∧ Aside0 (kq ≤ kj7) ∧ Aside0 (Kd.R (Kd.int .i64) 3 w' w.heap.size (fun _ => True) (.slice Ao20 y362.length co20) y362) ∧ Aside0 (Below w.heap.size w w'))
   case atStart => exact ⟨(x11_7), (0), qE, qE, H', ⟨Nat.le_refl _⟩, ⟨by refine qR ?_; exact HO364.out⟩, ⟨by exact qW HB.out⟩⟩
   case round =>
    clear H'
    try clear c1
    try clear c2
    try clear p2
    try clear p3
    try clear q3
    try clear hx3
    try clear c6
    try clear c6b0
    try clear p6
    try clear c7
    try clear c7b0
    try clear c8
    try clear c9
    try clear c9b0
    try clear c11
    try clear c11b0
    try clear c12
    try clear c12b0
    try clear c13
    try clear c13b0
    try clear c14
    try clear c14b0
    try clear c14b1
    try clear c15
    try clear c15b0
    try clear c15b1
    try clear c16
    try clear c16b0
    try clear c16b1
    try clear c17
    try clear c17b0
    try clear c17b1
    try clear hx359_0
    try clear hx360_0
    try clear hx361_0
    try clear p2
    try clear p3
    try clear p359
    try clear p360
    try clear p361
    try clear p6
    try clear q3
    try clear q359
    try clear q360
    try clear q361
    obtain ⟨x14_2, x56_2, rfl, rfl, HA, HK2, HO_54, HB⟩ := hrel
    cases gk with
    | zero => exact absurd HA.out (by simp [impl_predicted.l0])
    | succ k2 =>
     have H := HA.out
     clear HA
     simp only [impl_predicted.l0] at H
     by_cases c21 : x56_2 < (y362.length : Int)
     rotate_left
     ·
      rw [if_neg c21] at H
      have c21b0 : decide (x56_2 < (y362.length : Int)) = false := decide_eq_false c21
      clear c21
      obtain rfl := Option.some.inj H
      go_wp2
      repeat (go_quiet (fail); try go_wp2)
      go_ret
      exact ⟨qX, by exact qW HB.out⟩
     rw [if_pos c21] at H
     have c21b0 : decide (x56_2 < (y362.length : Int)) = true := decide_eq_true c21
     clear c21
     by_cases c22 : 0 ≤ x56_2
     rotate_left
     ·
      rw [if_neg c22] at H
      exact absurd H (by simp)
     rw [if_pos c22] at H
     have c22b0 : decide (0 ≤ x56_2) = true := decide_eq_true c22
     clear c22
     by_cases c23 : x56_2 < (y362.length : Int)
     rotate_left
     ·
      rw [if_neg c23] at H
      exact absurd H (by simp)
     rw [if_pos c23] at H
     have c23b0 : decide (x56_2 < (y362.length : Int)) = true := decide_eq_true c23
     clear c23
     replace H := Option.bind_eq_some_iff.mp H
     obtain ⟨t366, A240, H⟩ := H
     replace H : ((impl_size.f (wrap64 ((wrap64 ((wrap64 (x14_2 - x11_7)) - (rd l2 a4))) + x13_7))).bind fun t367 => (if t366 < t367 then (impl_predicted.l0 k2 x11_7 (rd l2 a4) x13_7 (rd y362 x56_2) y362 (y362.length : Int) (wrap64 (x56_2 + 1))) else (impl_predicted.l0 k2 x11_7 (rd l2 a4) x13_7 x14_2 y362 (y362.length : Int) (wrap64 (x56_2 + 1))))) = some r := H
     have A24 := aM A240
     clear A240
     replace H := Option.bind_eq_some_iff.mp H
     obtain ⟨t367, A250, H⟩ := H
     replace H : (if t366 < t367 then (impl_predicted.l0 k2 x11_7 (rd l2 a4) x13_7 (rd y362 x56_2) y362 (y362.length : Int) (wrap64 (x56_2 + 1))) else (impl_predicted.l0 k2 x11_7 (rd l2 a4) x13_7 x14_2 y362 (y362.length : Int) (wrap64 (x56_2 + 1)))) = some r := H
     have A25 := aM A250
     clear A250
     by_cases c26 : t366 < t367
     rotate_left
     ·
      rw [if_neg c26] at H
      have c26b0 : decide (t366 < t367) = false := decide_eq_false c26
      clear c26
      have H' := aM H
      clear H
      have p365 : 0 ≤ (x56_2 : Int) := oD
      have q365 : x56_2 < (y362.length : Int) := oD
      obtain ⟨ad365, e365, hx365_0⟩ := Kd.at_int (Kd.R_reads' HO_54.out).2.2 x56_2 p365 q365
      cases e365
      replace p365 := eq_true p365
      replace q365 := eq_true q365
      go_wp2_with (first | (go_at_call 91; (with_reducible refine (impl_size.calls (wrap64 ((wrap64 ((wrap64 ((rd y362 x56_2) - x11_7)) - (rd l2 a4))) + x13_7)) t366 _ A24.out).mono ?_); rintro e w29 ⟨rfl, hb⟩; replace HO_54 := aM (Kd.R_below (qR HO_54.out) hb); replace HB := aM (below_step (qW HB.out) hb); (try clear hb); (try clear hb2); (try clear hk); (try clear hi)) | (go_at_call 91; (with_reducible refine (impl_size.calls (wrap64 ((wrap64 ((wrap64 (x14_2 - x11_7)) - (rd l2 a4))) + x13_7)) t367 _ A25.out).mono ?_); rintro e w30 ⟨rfl, hb⟩; replace HO_54 := aM (Kd.R_below (qR HO_54.out) hb); replace HB := aM (below_step (qW HB.out) hb); (try clear hb); (try clear hb2); (try clear hk); (try clear hi)))
      repeat (go_quiet (first | (go_at_call 91; (with_reducible refine (impl_size.calls (wrap64 ((wrap64 ((wrap64 ((rd y362 x56_2) - x11_7)) - (rd l2 a4))) + x13_7)) t366 _ A24.out).mono ?_); rintro e w29 ⟨rfl, hb⟩; replace HO_54 := aM (Kd.R_below (qR HO_54.out) hb); replace HB := aM (below_step (qW HB.out) hb); (try clear hb); (try clear hb2); (try clear hk); (try clear hi)) | (go_at_call 91; (with_reducible refine (impl_size.calls (wrap64 ((wrap64 ((wrap64 (x14_2 - x11_7)) - (rd l2 a4))) + x13_7)) t367 _ A25.out).mono ?_); rintro e w30 ⟨rfl, hb⟩; replace HO_54 := aM (Kd.R_below (qR HO_54.out) hb); replace HB := aM (below_step (qW HB.out) hb); (try clear hb); (try clear hb2); (try clear hk); (try clear hi))); try go_wp2_with (first | (go_at_call 91; (with_reducible refine (impl_size.calls (wrap64 ((wrap64 ((wrap64 ((rd y362 x56_2) - x11_7)) - (rd l2 a4))) + x13_7)) t366 _ A24.out).mono ?_); rintro e w29 ⟨rfl, hb⟩; replace HO_54 := aM (Kd.R_below (qR HO_54.out) hb); replace HB := aM (below_step (qW HB.out) hb); (try clear hb); (try clear hb2); (try clear hk); (try clear hi)) | (go_at_call 91; (with_reducible refine (impl_size.calls (wrap64 ((wrap64 ((wrap64 (x14_2 - x11_7)) - (rd l2 a4))) + x13_7)) t367 _ A25.out).mono ?_); rintro e w30 ⟨rfl, hb⟩; replace HO_54 := aM (Kd.R_below (qR HO_54.out) hb); replace HB := aM (below_step (qW HB.out) hb); (try clear hb); (try clear hb2); (try clear hk); (try clear hi))))
      go_roundg k2
      case measure => have := HJ7.out; have := HK2.out; omega
      case rel => exact ⟨(x14_2), (wrap64 (x56_2 + 1)), qE, qE, H', ⟨by have := HJ7.out; have := HK2.out; omega⟩, ⟨by refine qR ?_; exact HO_54.out⟩, ⟨by exact qW HB.out⟩⟩
     rw [if_pos c26] at H
     have c26b0 : decide (t366 < t367) = true := decide_eq_true c26
     clear c26
     have H' := aM H
     clear H
     have p365 : 0 ≤ (x56_2 : Int) := oD
     have q365 : x56_2 < (y362.length : Int) := oD
     obtain ⟨ad365, e365, hx365_0⟩ := Kd.at_int (Kd.R_reads' HO_54.out).2.2 x56_2 p365 q365
     cases e365
     replace p365 := eq_true p365
     replace q365 := eq_true q365
     go_wp2_with (first | (go_at_call 91; (with_reducible refine (impl_size.calls (wrap64 ((wrap64 ((wrap64 ((rd y362 x56_2) - x11_7)) - (rd l2 a4))) + x13_7)) t366 _ A24.out).mono ?_); rintro e w27 ⟨rfl, hb⟩; replace HO_54 := aM (Kd.R_below (qR HO_54.out) hb); replace HB := aM (below_step (qW HB.out) hb); (try clear hb); (try clear hb2); (try clear hk); (try clear hi)) | (go_at_call 91; (with_reducible refine (impl_size.calls (wrap64 ((wrap64 ((wrap64 (x14_2 - x11_7)) - (rd l2 a4))) + x13_7)) t367 _ A25.out).mono ?_); rintro e w28 ⟨rfl, hb⟩; replace HO_54 := aM (Kd.R_below (qR HO_54.out) hb); replace HB := aM (below_step (qW HB.out) hb); (try clear hb); (try clear hb2); (try clear hk); (try clear hi)))
     repeat (go_quiet (first | (go_at_call 91; (with_reducible refine (impl_size.calls (wrap64 ((wrap64 ((wrap64 ((rd y362 x56_2) - x11_7)) - (rd l2 a4))) + x13_7)) t366 _ A24.out).mono ?_); rintro e w27 ⟨rfl, hb⟩; replace HO_54 := aM (Kd.R_below (qR HO_54.out) hb); replace HB := aM (below_step (qW HB.out) hb); (try clear hb); (try clear hb2); (try clear hk); (try clear hi)) | (go_at_call 91; (with_reducible refine (impl_size.calls (wrap64 ((wrap64 ((wrap64 (x14_2 - x11_7)) - (rd l2 a4))) + x13_7)) t367 _ A25.out).mono ?_); rintro e w28 ⟨rfl, hb⟩; replace HO_54 := aM (Kd.R_below (qR HO_54.out) hb); replace HB := aM (below_step (qW HB.out) hb); (try clear hb); (try clear hb2); (try clear hk); (try clear hi))); try go_wp2_with (first | (go_at_call 91; (with_reducible refine (impl_size.calls (wrap64 ((wrap64 ((wrap64 ((rd y362 x56_2) - x11_7)) - (rd l2 a4))) + x13_7)) t366 _ A24.out).mono ?_); rintro e w27 ⟨rfl, hb⟩; replace HO_54 := aM (Kd.R_below (qR HO_54.out) hb); replace HB := aM (below_step (qW HB.out) hb); (try clear hb); (try clear hb2); (try clear hk); (try clear hi)) | (go_at_call 91; (with_reducible refine (impl_size.calls (wrap64 ((wrap64 ((wrap64 (x14_2 - x11_7)) - (rd l2 a4))) + x13_7)) t367 _ A25.out).mono ?_); rintro e w28 ⟨rfl, hb⟩; replace HO_54 := aM (Kd.R_below (qR HO_54.out) hb); replace HB := aM (below_step (qW HB.out) hb); (try clear hb); (try clear hb2); (try clear hk); (try clear hi))))
     go_roundg k2
     case measure => have := HJ7.out; have := HK2.out; omega
     case rel => exact ⟨(rd y362 x56_2), (wrap64 (x56_2 + 1)), qE, qE, H', ⟨by have := HJ7.out; have := HK2.out; omega⟩, ⟨by refine qR ?_; exact HO_54.out⟩, ⟨by exact qW HB.out⟩⟩

/-! ### impl_filterRow: function 79 -/
def impl_filterRow.l0 : Nat → Int → List Int → List Int → Int → List Int → List Int → Int → Int → Option (List Int)
 | 0, _, _, _, _, _, _, _, _ => none
 | k + 1, x0, x1, x2, x3, x9, x13, x14, x15 => if x15 < x14 then (if 0 ≤ x15 then (if x15 < (x13.length : Int) then ((impl_predicted.f k x0 x1 x2 x3 x15).bind fun t397 => (if x9.length < 17592186044416 then (impl_filterRow.l0 k x0 x1 x2 x3 (x9 ++ [Int.tmod (wrap64 ((wrap64 ((rd x13 x15) - t397)) + 256)) 256]) x13 x14 (wrap64 (x15 + 1))) else (none))) else (none)) else (none)) else (some x9)
def impl_filterRow.f (k : Nat) (a0 : Int) (l1 : List Int) (l2 : List Int) (a3 : Int) : Option (List Int) := impl_filterRow.l0 k a0 l1 l2 a3 (([] : List Int)) l1 (l1.length : Int) 0
theorem impl_filterRow.mono_l : ∀ k, (∀ y0 y1 y2 y3 y4 y5 y6 y7, LeO (impl_filterRow.l0 k y0 y1 y2 y3 y4 y5 y6 y7) (impl_filterRow.l0 (k + 1) y0 y1 y2 y3 y4 y5 y6 y7))
 | 0 => fun _ _ _ _ _ _ _ _ r h => by simp [impl_filterRow.l0] at h
 | k + 1 => by
  have ih0 := impl_filterRow.mono_l k
  ·
   intro y0 y1 y2 y3 y4 y5 y6 y7
   unfold impl_filterRow.l0
   repeat' first
   | (with_reducible exact ih0 _ _ _ _ _ _ _ _)
   | (with_reducible exact impl_predicted.mono _ _ _ _ _ _)
   | (with_reducible exact LeO.refl _)
   | (with_reducible exact LeO.none _)
   | (with_reducible refine LeO.ite ?_ ?_)
   | (with_reducible refine LeO.bind ?_ (fun _ => ?_))
   | exact ih0 _ _ _ _ _ _ _ _
   | exact impl_predicted.mono _ _ _ _ _ _
   | exact LeO.none _
   | refine LeO.ite ?_ ?_
   | refine LeO.bind ?_ (fun _ => ?_)
theorem impl_filterRow.mono : ∀ a0 a1 a2 a3 k, LeO (impl_filterRow.f k a0 a1 a2 a3) (impl_filterRow.f (k + 1) a0 a1 a2 a3) := by
 intro a0 a1 a2 a3 k
 have ih0 := impl_filterRow.mono_l k
 unfold impl_filterRow.f
 repeat' first
   | (with_reducible exact ih0 _ _ _ _ _ _ _ _)
   | (with_reducible exact impl_predicted.mono _ _ _ _ _ _)
   | (with_reducible exact LeO.refl _)
   | (with_reducible exact LeO.none _)
   | (with_reducible refine LeO.ite ?_ ?_)
   | (with_reducible refine LeO.bind ?_ (fun _ => ?_))
   | exact ih0 _ _ _ _ _ _ _ _
   | exact impl_predicted.mono _ _ _ _ _ _
   | exact LeO.none _
   | refine LeO.ite ?_ ?_
   | refine LeO.bind ?_ (fun _ => ?_)
set_option maxHeartbeats 8000000 in
set_option maxRecDepth 100000 in
theorem impl_filterRow.calls (k : Nat) (a0 : Int) (A1 : Option Addr) (c1 : Nat) (l1 : List Int) (A2 : Option Addr) (c2 : Nat) (l2 : List Int) (a3 : Int) (r : List Int) (w : World) (hr1 : Kd.C (Kd.int .i64) w A1 l1.length l1) (hc1 : l1.length ≤ c1) (hr2 : Kd.C (Kd.int .i64) w A2 l2.length l2) (hc2 : l2.length ≤ c2) (h : impl_filterRow.f k a0 l1 l2 a3 = some r) :
  Calls Try.prog 79 #[.int .i64 a0, .slice A1 l1.length c1, .slice A2 l2.length c2, .int .i64 a3] w fun e w' => ∃ v0_ : Value, e = .returned (v0_) ∧ Kd.R (Kd.int .i64) 3 w' w.heap.size (fun _ => True) v0_ r ∧ Below w.heap.size w w' := by
 have HR1 := aM hr1
 have HC1 := aM hc1
 clear hr1 hc1
 have HR2 := aM hr2
 have HC2 := aM hc2
 clear hr2 hc2
 have HB := aM (Below.refl w.heap.size w)
 have H : (impl_filterRow.l0 k a0 l1 l2 a3 (([] : List Int)) l1 (l1.length : Int) 0) = some r := h
 clear h
 obtain ⟨y393, hy393⟩ : ∃ y_ : List Int, y_ = (([] : List Int)) := ⟨_, rfl⟩
 replace H : (impl_filterRow.l0 k a0 l1 l2 a3 y393 l1 (l1.length : Int) 0) = some r := rY hy393 H
 have Ny393 := aM hy393
 clear hy393
 have H' := aM H
 clear H
 go_enter Try.func79, Try.ntmps79
 go_wp2_with (first | ((with_reducible refine gate_dst (N := 12) rfl ?_); refine Kd.R_lit (Kd.int .i64) _ 3 ?hg (N := 12) ?hd (xs := ([] : List Int)) (inner := []) (ok := fun _ => True) (okp := fun _ => True) ?hr ?hp (fun _ hk => hk) trivial (Below.refl _ _) (Nat.le_refl _) (by simp) ?_; (case hd => rfl); (case hg => rfl); (case hr => first | (go_simp; done) | (go_simp; rfl)); (case hp => exact (Reps.none _ _)); intro v394 w5 ho6 hb hg_ hnew_; clear hg_ hnew_; (first | rw [← Ny393.out] at ho6 | (simp only [Int.reduceToNat] at ho6; rw [← Ny393.out] at ho6)); have HO395 := aM (Kd.R_lower ho6 (below_size (qW HB.out))); replace HB := aM (below_step (qW HB.out) hb); clear hb ho6))
 go_loopg [9, 15] k (fun kq v9 v15 w' => ∃ (x9_1 : List Int) (x15_1 : Int), v15 = .int .i64 x15_1 ∧ Aside0 (impl_filterRow.l0 kq a0 l1 l2 a3 x9_1 l1 (l1.length : Int) x15_1 = some r) ∧ Aside0 (kq ≤ k) ∧ Aside0 (Kd.R (Kd.int .i64) 3 w' w.heap.size (fun _ => True) v9 x9_1) ∧ Aside0 (Below w.heap.size w w'))
 case atStart => exact ⟨(y393), (0), qE, H', ⟨Nat.le_refl _⟩, ⟨by refine qR ?_; exact HO395.out⟩, ⟨by exact qW HB.out⟩⟩
 case round =>
  clear H'
  try clear c1
  try clear c2
  try clear p2
  obtain ⟨x9_1, x15_1, rfl, HA, HK1, HO_9, HB⟩ := hrel
  cases gk with
  | zero => exact absurd HA.out (by simp [impl_filterRow.l0])
  | succ k1 =>
   have H := HA.out
   clear HA
   simp only [impl_filterRow.l0] at H
   by_cases c7 : x15_1 < (l1.length : Int)
   rotate_left
   ·
    rw [if_neg c7] at H
    have c7b0 : decide (x15_1 < (l1.length : Int)) = false := decide_eq_false c7
    clear c7
    obtain rfl := Option.some.inj H
    go_wp2
    go_ret
    exact ⟨_, qX, by refine qR ?_; exact HO_9.out, by exact qW HB.out⟩
   rw [if_pos c7] at H
   have c7b0 : decide (x15_1 < (l1.length : Int)) = true := decide_eq_true c7
   clear c7
   by_cases c8 : 0 ≤ x15_1
   rotate_left
   ·
    rw [if_neg c8] at H
    exact absurd H (by simp)
   rw [if_pos c8] at H
   have c8b0 : decide (0 ≤ x15_1) = true := decide_eq_true c8
   clear c8
   by_cases c9 : x15_1 < (l1.length : Int)
   rotate_left
   ·
    rw [if_neg c9] at H
    exact absurd H (by simp)
   rw [if_pos c9] at H
   have c9b0 : decide (x15_1 < (l1.length : Int)) = true := decide_eq_true c9
   clear c9
   replace H := Option.bind_eq_some_iff.mp H
   obtain ⟨t397, A100, H⟩ := H
   replace H : (if x9_1.length < 17592186044416 then (impl_filterRow.l0 k1 a0 l1 l2 a3 (x9_1 ++ [Int.tmod (wrap64 ((wrap64 ((rd l1 x15_1) - t397)) + 256)) 256]) l1 (l1.length : Int) (wrap64 (x15_1 + 1))) else (none)) = some r := H
   have A10 := aM A100
   clear A100
   by_cases c11 : x9_1.length < 17592186044416
   rotate_left
   ·
    rw [if_neg c11] at H
    exact absurd H (by simp)
   rw [if_pos c11] at H
   have LMc11 := aM c11
   clear c11
   obtain ⟨y398, hy398⟩ : ∃ y_ : List Int, y_ = (x9_1 ++ [Int.tmod (wrap64 ((wrap64 ((rd l1 x15_1) - t397)) + 256)) 256]) := ⟨_, rfl⟩
   replace H : (impl_filterRow.l0 k1 a0 l1 l2 a3 y398 l1 (l1.length : Int) (wrap64 (x15_1 + 1))) = some r := rY hy398 H
   have Ny398 := aM hy398
   clear hy398
   have H' := aM H
   clear H
   have p396 : 0 ≤ (x15_1 : Int) := oD
   have q396 : x15_1 < (l1.length : Int) := oD
   obtain ⟨ad396, e396, hx396_0⟩ := Kd.at_int HR1.out x15_1 p396 q396
   cases e396
   replace hx396_0 := bD HB hx396_0
   replace p396 := eq_true p396
   replace q396 := eq_true q396
   go_wp2_with (first | ((with_reducible refine gate_callee (f := 85) rfl ?_); refine goesL_ (some 27) rfl rfl Try.func85 (by kernel_rfl) rfl #[.int .i64 a0, .slice (some ad396) l1.length c1, .slice A2 l2.length c2, .int .i64 a3, .int .i64 x15_1] rfl qM ?_; (with_reducible refine (impl_predicted.calls k1 a0 _ _ l1 _ _ l2 a3 x15_1 t397 _ ?side1 ?side2 ?side3 ?side4 A10.out).mono ?_); (case side1 => exact qC (Kd.C_below HR1.out HB.out)); (case side2 => exact HC1.out); (case side3 => exact qC (Kd.C_below HR2.out HB.out)); (case side4 => exact HC2.out); rintro e w12 ⟨rfl, hb⟩; refine ⟨_, rfl, ?_⟩; replace HO_9 := aM (Kd.R_below (qR HO_9.out) hb); replace HB := aM (below_step (qW HB.out) hb); (try clear hb); (try clear hb2); (try clear hk); (try clear hi)) | ((with_reducible refine gate_builtin (b := .append) (xs := #[.tmp 20, .tmp 31]) rfl ?_); at_builtin; refine Kd.R_append (Kd.int .i64) (w0 := w) w.heap.size rfl (.tmp 20) (.tmp 31) 22 3 (.int .i64 0) 8 rfl Try.underlying22 info3 rfl (by decide) (by omega) u9 x9_1 (Int.tmod (wrap64 ((wrap64 ((rd l1 x15_1) - t397)) + 256)) 256) [.int .i64 (Int.tmod (wrap64 ((wrap64 ((rd l1 x15_1) - t397)) + 256)) 256)] (fun _ => True) (fun _ => False) rfl rfl ?aP (fun _ hk => hk.elim) ?aF ?aO ?aB ?aS ?aL ?_; (case aP => exact rfl); (case aB => exact (qW HB.out)); (case aF => exact (fun _ _ => trivial)); (case aO => exact (qR HO_9.out)); (case aS => exact (below_size (qW HB.out))); (case aL => have := LMc11.out; omega); intro v399 w13 ho hb hg hat; rw [← Ny398.out] at ho; replace HB := aM (hb); have HO400 := aM (ho); clear HO_9; clear ho hb hg hat))
   go_roundg k1
   case measure => have := HK1.out; omega
   case rel => exact ⟨(y398), (wrap64 (x15_1 + 1)), qE, H', ⟨by have := HK1.out; omega⟩, ⟨by refine qR ?_; exact HO400.out⟩, ⟨by exact qW HB.out⟩⟩

/-! ### impl_bestFilter: function 78 -/
mutual
def impl_bestFilter.l0 : Nat → List Int → List Int → Int → Int → Int → Int → Option (Int)
 | 0, _, _, _, _, _, _ => none
 | k + 1, x0, x1, x2, x7, x8, x9 => if x9 ≤ 4 then ((impl_filterRow.f k x9 x0 x1 x2).bind fun t401 => (impl_bestFilter.l1 k x0 x1 x2 x7 x8 x9 0 t401 (t401.length : Int) 0)) else (some x7)
def impl_bestFilter.l1 : Nat → List Int → List Int → Int → Int → Int → Int → Int → List Int → Int → Int → Option (Int)
 | 0, _, _, _, _, _, _, _, _, _, _ => none
 | k + 1, x0, x1, x2, x7, x8, x9, x10, x21, x22, x23 => if x23 < x22 then (if 0 ≤ x23 then (if x23 < (x21.length : Int) then (impl_bestFilter.l1 k x0 x1 x2 x7 x8 x9 (wrap64 (x10 + (mn (rd x21 x23) (wrap64 (256 - (rd x21 x23)))))) x21 x22 (wrap64 (x23 + 1))) else (none)) else (none)) else (if x8 < 0 then (impl_bestFilter.l0 k x0 x1 x2 x9 x10 (wrap64 (x9 + 1))) else (if x10 < x8 then (impl_bestFilter.l0 k x0 x1 x2 x9 x10 (wrap64 (x9 + 1))) else (impl_bestFilter.l0 k x0 x1 x2 x7 x8 (wrap64 (x9 + 1)))))
end
def impl_bestFilter.f (k : Nat) (l0 : List Int) (l1 : List Int) (a2 : Int) : Option (Int) := impl_bestFilter.l0 k l0 l1 a2 0 (-1) 0
theorem impl_bestFilter.mono_l : ∀ k, (∀ y0 y1 y2 y3 y4 y5, LeO (impl_bestFilter.l0 k y0 y1 y2 y3 y4 y5) (impl_bestFilter.l0 (k + 1) y0 y1 y2 y3 y4 y5)) ∧ (∀ y0 y1 y2 y3 y4 y5 y6 y7 y8 y9, LeO (impl_bestFilter.l1 k y0 y1 y2 y3 y4 y5 y6 y7 y8 y9) (impl_bestFilter.l1 (k + 1) y0 y1 y2 y3 y4 y5 y6 y7 y8 y9))
 | 0 => ⟨fun _ _ _ _ _ _ r h => by simp [impl_bestFilter.l0] at h, fun _ _ _ _ _ _ _ _ _ _ r h => by simp [impl_bestFilter.l1] at h⟩
 | k + 1 => by
  obtain ⟨ih0, ih1⟩ := impl_bestFilter.mono_l k
  refine ⟨?_, ?_⟩
  ·
   intro y0 y1 y2 y3 y4 y5
   unfold impl_bestFilter.l0
   repeat' first
   | (with_reducible exact ih0 _ _ _ _ _ _)
   | (with_reducible exact ih1 _ _ _ _ _ _ _ _ _ _)
   | (with_reducible exact impl_filterRow.mono _ _ _ _ _)
   | (with_reducible exact LeO.refl _)
   | (with_reducible exact LeO.none _)
   | (with_reducible refine LeO.ite ?_ ?_)
   | (with_reducible refine LeO.bind ?_ (fun _ => ?_))
   | exact ih0 _ _ _ _ _ _
   | exact ih1 _ _ _ _ _ _ _ _ _ _
   | exact impl_filterRow.mono _ _ _ _ _
   | exact LeO.none _
   | refine LeO.ite ?_ ?_
   | refine LeO.bind ?_ (fun _ => ?_)
  ·
   intro y0 y1 y2 y3 y4 y5 y6 y7 y8 y9
   unfold impl_bestFilter.l1
   repeat' first
   | (with_reducible exact ih0 _ _ _ _ _ _)
   | (with_reducible exact ih1 _ _ _ _ _ _ _ _ _ _)
   | (with_reducible exact impl_filterRow.mono _ _ _ _ _)
   | (with_reducible exact LeO.refl _)
   | (with_reducible exact LeO.none _)
   | (with_reducible refine LeO.ite ?_ ?_)
   | (with_reducible refine LeO.bind ?_ (fun _ => ?_))
   | exact ih0 _ _ _ _ _ _
   | exact ih1 _ _ _ _ _ _ _ _ _ _
   | exact impl_filterRow.mono _ _ _ _ _
   | exact LeO.none _
   | refine LeO.ite ?_ ?_
   | refine LeO.bind ?_ (fun _ => ?_)
theorem impl_bestFilter.mono : ∀ a0 a1 a2 k, LeO (impl_bestFilter.f k a0 a1 a2) (impl_bestFilter.f (k + 1) a0 a1 a2) := by
 intro a0 a1 a2 k
 obtain ⟨ih0, ih1⟩ := impl_bestFilter.mono_l k
 unfold impl_bestFilter.f
 repeat' first
   | (with_reducible exact ih0 _ _ _ _ _ _)
   | (with_reducible exact ih1 _ _ _ _ _ _ _ _ _ _)
   | (with_reducible exact impl_filterRow.mono _ _ _ _ _)
   | (with_reducible exact LeO.refl _)
   | (with_reducible exact LeO.none _)
   | (with_reducible refine LeO.ite ?_ ?_)
   | (with_reducible refine LeO.bind ?_ (fun _ => ?_))
   | exact ih0 _ _ _ _ _ _
   | exact ih1 _ _ _ _ _ _ _ _ _ _
   | exact impl_filterRow.mono _ _ _ _ _
   | exact LeO.none _
   | refine LeO.ite ?_ ?_
   | refine LeO.bind ?_ (fun _ => ?_)
set_option maxHeartbeats 8000000 in
set_option maxRecDepth 100000 in
theorem impl_bestFilter.calls (k : Nat) (A0 : Option Addr) (c0 : Nat) (l0 : List Int) (A1 : Option Addr) (c1 : Nat) (l1 : List Int) (a2 : Int) (r : Int) (w : World) (hr0 : Kd.C (Kd.int .i64) w A0 l0.length l0) (hc0 : l0.length ≤ c0) (hr1 : Kd.C (Kd.int .i64) w A1 l1.length l1) (hc1 : l1.length ≤ c1) (h : impl_bestFilter.f k l0 l1 a2 = some r) :
  Calls Try.prog 78 #[.slice A0 l0.length c0, .slice A1 l1.length c1, .int .i64 a2] w fun e w' => e = .returned (.int .i64 r) ∧ Below w.heap.size w w' := by
 have HR0 := aM hr0
 have HC0 := aM hc0
 clear hr0 hc0
 have HR1 := aM hr1
 have HC1 := aM hc1
 clear hr1 hc1
 have HB := aM (Below.refl w.heap.size w)
 have H : (impl_bestFilter.l0 k l0 l1 a2 0 (-1) 0) = some r := h
 clear h
 have H' := aM H
 clear H
 go_enter Try.func78, Try.ntmps78
 go_wp2
 go_loopg [7, 8, 9] k (fun kq v7 v8 v9 w' => ∃ (x7_1 : Int) (x8_1 : Int) (x9_1 : Int), v7 = .int .i64 x7_1 ∧ v8 = .int .i64 x8_1 ∧ v9 = .int .i64 x9_1 ∧ Aside0 (impl_bestFilter.l0 kq l0 l1 a2 x7_1 x8_1 x9_1 = some r) ∧ Aside0 (kq ≤ k) ∧ Aside0 (Below w.heap.size w w'))
 case atStart => exact ⟨(0), ((-1)), (0), qE, qE, qE, H', ⟨Nat.le_refl _⟩, ⟨by exact qW HB.out⟩⟩
 case round =>
  clear H'
  try clear c1
  try clear p2
  obtain ⟨x7_1, x8_1, x9_1, rfl, rfl, rfl, HA, HK1, HB⟩ := hrel
  cases gk with
  | zero => exact absurd HA.out (by simp [impl_bestFilter.l0])
  | succ k1 =>
   have H := HA.out
   clear HA
   simp only [impl_bestFilter.l0] at H
   by_cases c4 : x9_1 ≤ 4
   rotate_left
   ·
    rw [if_neg c4] at H
    have c4b0 : decide (x9_1 ≤ 4) = false := decide_eq_false c4
    clear c4
    obtain rfl := Option.some.inj H
    go_wp2
    go_ret
    exact ⟨qX, by exact qW HB.out⟩
   rw [if_pos c4] at H
   have c4b0 : decide (x9_1 ≤ 4) = true := decide_eq_true c4
   clear c4
   replace H := Option.bind_eq_some_iff.mp H
   obtain ⟨t401, A50, H⟩ := H
   replace H : (impl_bestFilter.l1 k1 l0 l1 a2 x7_1 x8_1 x9_1 0 t401 (t401.length : Int) 0) = some r := H
   have A5 := aM A50
   clear A50
   have H' := aM H
   clear H
   go_wp2_with (first | ((with_reducible refine gate_callee (f := 79) rfl ?_); refine goesL_ (some 21) rfl rfl Try.func79 (by kernel_rfl) rfl #[.int .i64 x9_1, .slice A0 l0.length c0, .slice A1 l1.length c1, .int .i64 a2] rfl qM ?_; (with_reducible refine (impl_filterRow.calls k1 x9_1 _ _ l0 _ _ l1 a2 t401 _ ?side1 ?side2 ?side3 ?side4 A5.out).mono ?_); (case side1 => exact qC (Kd.C_below HR0.out HB.out)); (case side2 => exact HC0.out); (case side3 => exact qC (Kd.C_below HR1.out HB.out)); (case side4 => exact HC1.out); rintro e w6 ⟨v402, rfl, ho0, hb⟩; refine ⟨_, rfl, ?_⟩; have HO403 := aM (Kd.R_lower ho0 (below_size (qW HB.out))); replace HB := aM (below_step (qW HB.out) hb); (try clear hb); (try clear hb2); (try clear hk); (try clear hi); (try clear ho0); obtain ⟨Ao7, co7, eo7⟩ := Kd.R_slice HO403.out; subst eo7))
   go_loopg [10, 23] k1 (fun kq v10 v23 w' => ∃ (x10_2 : Int) (x23_2 : Int), v10 = .int .i64 x10_2 ∧ v23 = .int .i64 x23_2 ∧ Aside0 (impl_bestFilter.l1 kq l0 l1 a2 x7_1 x8_1 x9_1 x10_2 t401 (t401.length : Int) x23_2 = some r) ∧ Aside0 (kq ≤ k1) ∧ Aside0 (Kd.R (Kd.int .i64) 3 w' w.heap.size (fun _ => True) (.slice Ao7 t401.length co7) t401) ∧ Aside0 (Below w.heap.size w w'))
   case atStart => exact ⟨(0), (0), qE, qE, H', ⟨Nat.le_refl _⟩, ⟨by refine qR ?_; exact HO403.out⟩, ⟨by exact qW HB.out⟩⟩
   case round =>
    clear H'
    try clear c1
    try clear p2
    try clear c4
    try clear c4b0
    try clear c7
    try clear p2
    obtain ⟨x10_2, x23_2, rfl, rfl, HA, HK2, HO_21, HB⟩ := hrel
    cases gk with
    | zero => exact absurd HA.out (by simp [impl_bestFilter.l1])
    | succ k2 =>
     have H := HA.out
     clear HA
     simp only [impl_bestFilter.l1] at H
     by_cases c8 : x23_2 < (t401.length : Int)
     ·
      rw [if_pos c8] at H
      have c8b0 : decide (x23_2 < (t401.length : Int)) = true := decide_eq_true c8
      clear c8
      by_cases c9 : 0 ≤ x23_2
      rotate_left
      ·
       rw [if_neg c9] at H
       exact absurd H (by simp)
      rw [if_pos c9] at H
      have c9b0 : decide (0 ≤ x23_2) = true := decide_eq_true c9
      clear c9
      by_cases c10 : x23_2 < (t401.length : Int)
      rotate_left
      ·
       rw [if_neg c10] at H
       exact absurd H (by simp)
      rw [if_pos c10] at H
      have c10b0 : decide (x23_2 < (t401.length : Int)) = true := decide_eq_true c10
      clear c10
      obtain ⟨ji11, hji11⟩ : ∃ j_ : Int, (mn (rd t401 x23_2) (wrap64 (256 - (rd t401 x23_2)))) = j_ := ⟨_, rfl⟩
      replace H : (impl_bestFilter.l1 k2 l0 l1 a2 x7_1 x8_1 x9_1 (wrap64 (x10_2 + (ji11))) t401 (t401.length : Int) (wrap64 (x23_2 + 1))) = some r := by first | (rw [hji11] at H; exact H) | (simp only [hji11] at H ⊢; exact H)
      have hji11_ : (if (wrap64 (256 - (rd t401 x23_2))) < (rd t401 x23_2) then (wrap64 (256 - (rd t401 x23_2))) else (rd t401 x23_2)) = ji11 := hji11
      have H' := aM H
      clear H
      have p404 : 0 ≤ (x23_2 : Int) := oD
      have q404 : x23_2 < (t401.length : Int) := oD
      obtain ⟨ad404, e404, hx404_0⟩ := Kd.at_int (Kd.R_reads' HO_21.out).2.2 x23_2 p404 q404
      cases e404
      replace p404 := eq_true p404
      replace q404 := eq_true q404
      go_wp2
      go_roundg k2
      case measure => have := HK1.out; have := HK2.out; omega
      case rel => exact ⟨(wrap64 (x10_2 + (ji11))), (wrap64 (x23_2 + 1)), (by first | rfl | (simp; done) | (simp only [← hji11] <;> (first | rfl | simp)) | (simp [*]; done)), qE, H', ⟨by have := HK1.out; have := HK2.out; omega⟩, ⟨by refine qR ?_; exact HO_21.out⟩, ⟨by exact qW HB.out⟩⟩
     rw [if_neg c8] at H
     have c8b0 : decide (x23_2 < (t401.length : Int)) = false := decide_eq_false c8
     clear c8
     by_cases c12 : x8_1 < 0
     ·
      rw [if_pos c12] at H
      have c12b0 : decide (x8_1 < 0) = true := decide_eq_true c12
      clear c12
      have H' := aM H
      clear H
      go_wp2
      go_roundg k2
      case measure => have := HK1.out; have := HK2.out; omega
      case rel => exact ⟨(x9_1), (x10_2), (wrap64 (x9_1 + 1)), qE, qE, qE, H', ⟨by have := HK1.out; have := HK2.out; omega⟩, ⟨by exact qW HB.out⟩⟩
     rw [if_neg c12] at H
     have c12b0 : decide (x8_1 < 0) = false := decide_eq_false c12
     clear c12
     by_cases c13 : x10_2 < x8_1
     ·
      rw [if_pos c13] at H
      have c13b0 : decide (x10_2 < x8_1) = true := decide_eq_true c13
      clear c13
      have H' := aM H
      clear H
      go_wp2
      go_roundg k2
      case measure => have := HK1.out; have := HK2.out; omega
      case rel => exact ⟨(x9_1), (x10_2), (wrap64 (x9_1 + 1)), qE, qE, qE, H', ⟨by have := HK1.out; have := HK2.out; omega⟩, ⟨by exact qW HB.out⟩⟩
     rw [if_neg c13] at H
     have c13b0 : decide (x10_2 < x8_1) = false := decide_eq_false c13
     clear c13
     have H' := aM H
     clear H
     go_wp2
     go_roundg k2
     case measure => have := HK1.out; have := HK2.out; omega
     case rel => exact ⟨(x7_1), (x8_1), (wrap64 (x9_1 + 1)), qE, qE, qE, H', ⟨by have := HK1.out; have := HK2.out; omega⟩, ⟨by exact qW HB.out⟩⟩

/-! ### spec_unfilterRow: function 62 -/
def spec_unfilterRow.l0 : Nat → Int → List Int → List Int → Int → List Int → Int → Option (List Int)
 | 0, _, _, _, _, _, _ => none
 | k + 1, x0, x1, x2, x3, x9, x10 => if x10 < (x1.length : Int) then (if 0 ≤ x10 then ((spec_guess.f k x0 x9 x2 x3 x10).bind fun t157 => (if x10 < (x9.length : Int) then (spec_unfilterRow.l0 k x0 x1 x2 x3 (x9.set (x10 : Int).toNat (Int.tmod (wrap64 ((rd x1 x10) + t157)) 256)) (wrap64 (x10 + 1))) else (none))) else (none)) else (some x9)
def spec_unfilterRow.f (k : Nat) (a0 : Int) (l1 : List Int) (l2 : List Int) (a3 : Int) : Option (List Int) := if 0 ≤ (l1.length : Int) then (if ((l1.length : Int) : Int).toNat ≤ 35184372088832 then (spec_unfilterRow.l0 k a0 l1 l2 a3 (List.replicate ((l1.length : Int) : Int).toNat 0) 0) else (none)) else (none)
theorem spec_unfilterRow.mono_l : ∀ k, (∀ y0 y1 y2 y3 y4 y5, LeO (spec_unfilterRow.l0 k y0 y1 y2 y3 y4 y5) (spec_unfilterRow.l0 (k + 1) y0 y1 y2 y3 y4 y5))
 | 0 => fun _ _ _ _ _ _ r h => by simp [spec_unfilterRow.l0] at h
 | k + 1 => by
  have ih0 := spec_unfilterRow.mono_l k
  ·
   intro y0 y1 y2 y3 y4 y5
   unfold spec_unfilterRow.l0
   repeat' first
   | (with_reducible exact ih0 _ _ _ _ _ _)
   | (with_reducible exact spec_guess.mono _ _ _ _ _ _)
   | (with_reducible exact LeO.refl _)
   | (with_reducible exact LeO.none _)
   | (with_reducible refine LeO.ite ?_ ?_)
   | (with_reducible refine LeO.bind ?_ (fun _ => ?_))
   | exact ih0 _ _ _ _ _ _
   | exact spec_guess.mono _ _ _ _ _ _
   | exact LeO.none _
   | refine LeO.ite ?_ ?_
   | refine LeO.bind ?_ (fun _ => ?_)
theorem spec_unfilterRow.mono : ∀ a0 a1 a2 a3 k, LeO (spec_unfilterRow.f k a0 a1 a2 a3) (spec_unfilterRow.f (k + 1) a0 a1 a2 a3) := by
 intro a0 a1 a2 a3 k
 have ih0 := spec_unfilterRow.mono_l k
 unfold spec_unfilterRow.f
 repeat' first
   | (with_reducible exact ih0 _ _ _ _ _ _)
   | (with_reducible exact spec_guess.mono _ _ _ _ _ _)
   | (with_reducible exact LeO.refl _)
   | (with_reducible exact LeO.none _)
   | (with_reducible refine LeO.ite ?_ ?_)
   | (with_reducible refine LeO.bind ?_ (fun _ => ?_))
   | exact ih0 _ _ _ _ _ _
   | exact spec_guess.mono _ _ _ _ _ _
   | exact LeO.none _
   | refine LeO.ite ?_ ?_
   | refine LeO.bind ?_ (fun _ => ?_)
def spec_unfilterRow.T5 : Bool × List (List Nat × List Nat) := (true, [([], []), ([], []), ([], []), ([], []), ([2, 3], [2, 3]), ([4], [4]), ([], []), ([], []), ([], []), ([], []), ([], []), ([6, 7, 8, 9, 10], [6, 7, 8, 9, 10]), ([5, 11], [5, 11]), ([12], [12]), ([0, 1, 0, 1, 2, 3, 4, 5, 6, 7, 8, 9, 10, 11, 12, 13], [0, 1]), ([14, 13, 11, 0, 1, 2, 3, 4, 5, 6, 7, 8, 9, 10, 11, 12, 13], [13, 14])])
def spec_unfilterRow.B5 : List Nat := [0, 0, 0, 0, 12, 28, 0, 0, 0, 0, 0, 1984, 4092, 8188, 16383, 32767]
theorem spec_unfilterRow.tab5 : rtab .any (opsOf Try.f62 5) = spec_unfilterRow.T5 := by kernel_rfl
theorem spec_unfilterRow.bits5 : waitsOk spec_unfilterRow.T5.2 spec_unfilterRow.B5 = true := by kernel_rfl
set_option maxHeartbeats 8000000 in
set_option maxRecDepth 100000 in
theorem spec_unfilterRow.calls (k : Nat) (a0 : Int) (A1 : Option Addr) (c1 : Nat) (l1 : List Int) (A2 : Option Addr) (c2 : Nat) (l2 : List Int) (a3 : Int) (r : List Int) (w : World) (hr1 : Kd.C (Kd.int .i64) w A1 l1.length l1) (hc1 : l1.length ≤ c1) (hr2 : Kd.C (Kd.int .i64) w A2 l2.length l2) (hc2 : l2.length ≤ c2) (h : spec_unfilterRow.f k a0 l1 l2 a3 = some r) :
  Calls Try.prog 62 #[.int .i64 a0, .slice A1 l1.length c1, .slice A2 l2.length c2, .int .i64 a3] w fun e w' => ∃ v0_ : Value, e = .returned (v0_) ∧ Kd.R (Kd.int .i64) 3 w' w.heap.size (fun _ => True) v0_ r ∧ Below w.heap.size w w' := by
 have HR1 := aM hr1
 have HC1 := aM hc1
 clear hr1 hc1
 have HR2 := aM hr2
 have HC2 := aM hc2
 clear hr2 hc2
 have HB := aM (Below.refl w.heap.size w)
 have H : (if 0 ≤ (l1.length : Int) then (if ((l1.length : Int) : Int).toNat ≤ 35184372088832 then (spec_unfilterRow.l0 k a0 l1 l2 a3 (List.replicate ((l1.length : Int) : Int).toNat 0) 0) else (none)) else (none)) = some r := h
 clear h
 by_cases c5 : 0 ≤ (l1.length : Int)
 rotate_left
 ·
  rw [if_neg c5] at H
  exact absurd H (by simp)
 rw [if_pos c5] at H
 have c5b0 := eq_true c5
 have c5b1 : decide (0 ≤ (l1.length : Int)) = true := decide_eq_true c5
 clear c5
 by_cases c6 : ((l1.length : Int) : Int).toNat ≤ 35184372088832
 rotate_left
 ·
  rw [if_neg c6] at H
  exact absurd H (by simp)
 rw [if_pos c6] at H
 have c6b0 := eq_true c6
 have c6b1 : decide (((l1.length : Int) : Int).toNat ≤ 35184372088832) = true := decide_eq_true c6
 clear c6
 obtain ⟨y153, hy153⟩ : ∃ y_ : List Int, y_ = (List.replicate ((l1.length : Int) : Int).toNat 0) := ⟨_, rfl⟩
 replace H : (spec_unfilterRow.l0 k a0 l1 l2 a3 y153 0) = some r := rY hy153 H
 have Ny153 := aM hy153
 clear hy153
 have H' := aM H
 clear H
 go_enter Try.func62, Try.ntmps62
 go_wp2_with (first | ((with_reducible refine gate_dst (N := 13) rfl ?_); refine Kd.R_make (Kd.int .i64) _ 3 rfl (N := 13) rfl 22 _ _ rfl (l1.length : Int) rfl rfl Try.underlying22 (.int .i64 0) 8 info3 rfl (by decide) (by omega) 0 (ok := fun _ => True) (okp := fun _ => True) rfl (fun _ hk => hk) trivial oD (Nat.le_trans (Nat.mul_le_mul_right _ (oD : (l1.length : Int).toNat ≤ 35184372088832)) (by omega)) (Below.refl _ _) (Nat.le_refl _) ?_; intro v154 w7 ho8 hb hg_ hnew_; clear hg_ hnew_; (first | rw [← Ny153.out] at ho8 | (simp only [Int.reduceToNat] at ho8; rw [← Ny153.out] at ho8)); have HO155 := aM (Kd.R_lower ho8 (below_size (qW HB.out))); replace HB := aM (below_step (qW HB.out) hb); clear hb ho8))
 go_loopg [10] k (fun kq v10 w' => ∃ (x9_1 : List Int) (x10_1 : Int), v10 = .int .i64 x10_1 ∧ Aside0 (spec_unfilterRow.l0 kq a0 l1 l2 a3 x9_1 x10_1 = some r) ∧ Aside0 (kq ≤ k) ∧ Aside0 (Kd.R (Kd.int .i64) 3 w' w.heap.size (fun _ => True) v154 x9_1) ∧ Aside0 (Below w.heap.size w w'))
 case atStart => exact ⟨(y153), (0), qE, H', ⟨Nat.le_refl _⟩, ⟨by refine qR ?_; exact HO155.out⟩, ⟨by exact qW HB.out⟩⟩
 case round =>
  clear H'
  try clear c1
  try clear c2
  try clear p2
  try clear c5
  try clear c5b0
  try clear c5b1
  try clear c6
  try clear c6b0
  try clear c6b1
  obtain ⟨x9_1, x10_1, rfl, HA, HK1, HO_9, HB⟩ := hrel
  cases gk with
  | zero => exact absurd HA.out (by simp [spec_unfilterRow.l0])
  | succ k1 =>
   have H := HA.out
   clear HA
   simp only [spec_unfilterRow.l0] at H
   by_cases c9 : x10_1 < (l1.length : Int)
   rotate_left
   ·
    rw [if_neg c9] at H
    have c9b0 : decide (x10_1 < (l1.length : Int)) = false := decide_eq_false c9
    clear c9
    obtain rfl := Option.some.inj H
    go_wp2
    go_ret
    exact ⟨_, qX, by refine qR ?_; exact HO_9.out, by exact qW HB.out⟩
   rw [if_pos c9] at H
   have c9b0 : decide (x10_1 < (l1.length : Int)) = true := decide_eq_true c9
   clear c9
   by_cases c10 : 0 ≤ x10_1
   rotate_left
   ·
    rw [if_neg c10] at H
    exact absurd H (by simp)
   rw [if_pos c10] at H
   have c10b0 : decide (0 ≤ x10_1) = true := decide_eq_true c10
   clear c10
   replace H := Option.bind_eq_some_iff.mp H
   obtain ⟨t157, A110, H⟩ := H
   replace H : (if x10_1 < (x9_1.length : Int) then (spec_unfilterRow.l0 k1 a0 l1 l2 a3 (x9_1.set (x10_1 : Int).toNat (Int.tmod (wrap64 ((rd l1 x10_1) + t157)) 256)) (wrap64 (x10_1 + 1))) else (none)) = some r := H
   have A11 := aM A110
   clear A110
   by_cases c12 : x10_1 < (x9_1.length : Int)
   rotate_left
   ·
    rw [if_neg c12] at H
    exact absurd H (by simp)
   rw [if_pos c12] at H
   have c12b0 : decide (x10_1 < (x9_1.length : Int)) = true := decide_eq_true c12
   clear c12
   obtain ⟨y158, hy158⟩ : ∃ y_ : List Int, y_ = (x9_1.set (x10_1 : Int).toNat (Int.tmod (wrap64 ((rd l1 x10_1) + t157)) 256)) := ⟨_, rfl⟩
   replace H : (spec_unfilterRow.l0 k1 a0 l1 l2 a3 y158 (wrap64 (x10_1 + 1))) = some r := rY hy158 H
   have Ny158 := aM hy158
   clear hy158
   have H' := aM H
   clear H
   try go_wp2
   replace HO_9 := aM (Kd.R_drew HO_9.out)
   replace HB := aM (below_drew1 HB.out)
   have p156 : 0 ≤ (x10_1 : Int) := oD
   have q156 : x10_1 < (l1.length : Int) := oD
   obtain ⟨ad156, e156, hx156_0⟩ := Kd.at_int HR1.out x10_1 p156 q156
   have hw156_0 := hx156_0
   cases e156
   replace hx156_0 := bD HB hx156_0
   replace p156 := eq_true p156
   replace q156 := eq_true q156
   obtain ⟨Ao15, co15, eo15⟩ := Kd.R_slice HO_9.out
   (first | subst eo15 | (injection eo15 with f1_ f2_ f3_; have f4_ := f1_.symm; have f5_ := f3_.symm; clear f1_ f2_ f3_; subst f4_; subst f5_))
   refine start_ (n := 16) (S := fun w' => w'.cell? (ad156.add (x10_1).toNat) = some (.int .i64 (rd l1 x10_1))) (ds := [15]) (bA 16 0) (by kernel_rfl) rfl rfl ((bC HB hw156_0)) (fun hHeld => ?_); refine with_tabW spec_unfilterRow.tab5 spec_unfilterRow.bits5 (fun HT_ HW_ => ?_)
   generalize wr.drew = w14 at HO_9 HB hx156_0 hHeld ⊢
   refine pureQ (i := 0) (N := some 20) HT_ (bA 16 1) ?_
   refine pureQ (i := 1) (N := some 21) HT_ (bA 16 3) ?_
   refine pureQ (i := 2) (N := some 22) HT_ (bA 16 7) ?_
   refine pureQ (i := 3) (N := some 23) HT_ (bA 16 15) ?_
   refine pureQ (i := 4) (N := some 24) HT_ (bA 16 31) ?_
   refine pureQ (i := 6) (N := some 26) HT_ (bA 16 95) ?_
   refine pureQ (i := 7) (N := some 27) HT_ (bA 16 223) ?_
   refine pureQ (i := 8) (N := some 28) HT_ (bA 16 479) ?_
   refine pureQ (i := 9) (N := some 29) HT_ (bA 16 991) ?_
   refine pureQ (i := 10) (N := some 30) HT_ (bA 16 2015) ?_
   refine take_ (i := 5) (N := some 25) (v := ?_) (a' := ?_) (bA 16 2047) rfl rfl (take_ofW HT_.out HW_.out (by kernel_rfl)) (fun _ _ _ h => h) (Or.inl ⟨by rfl, ?_⟩) hHeld ?_ ?_
   rotate_left
   ·
    intro w' s0
    go_simp
    with_reducible rfl
   rotate_left
   ·
    simp only [Act.put, List.setIfInBounds_toArray, List.set_cons_zero, List.set_cons_succ, i64_w, i32_w]
    rfl
   refine one_ (i := 11) (N := some 31) (bA 16 4095) rfl rfl (one_of HT_.out (by kernel_rfl)) (by decide) (fun K hK => ?_)
   refine goes_ Try.func80 (by kernel_rfl) rfl #[.int .i64 a0, .slice Ao15 x9_1.length co15, .slice A2 l2.length c2, .int .i64 a3, .int .i64 x10_1] (by rfl) rfl rfl qM ?_
   with_reducible refine (spec_guess.calls k1 a0 _ _ x9_1 _ _ l2 a3 x10_1 t157 _ ?side1 ?side2 ?side3 ?side4 A11.out).mono ?_
   (case side1 => exact qC (Kd.R_reads' HO_9.out).2.2)
   (case side2 => exact (Kd.R_reads' HO_9.out).2.1)
   (case side3 => exact qC (Kd.C_below HR2.out HB.out))
   (case side4 => exact HC2.out)
   rintro e w' ⟨rfl, ⟨nd, rfl⟩⟩
   refine ⟨_, rfl, ?_⟩
   have p13 : 0 ≤ (x10_1 : Int) := oD
   have q13 : (x10_1 : Int) < ((x9_1.length : Int) : Int) := oD
   obtain ⟨go13, co13, eo13, gb13, gl13, cl13, HG13⟩ := Kd.R_form HO_9.out (by omega)
   (first | cases eo13 | (injection eo13 with ea_ en_ ec_; (first | subst ea_ | (injection ea_ with ea_; subst ea_)); subst ec_; clear en_))
   have GB13 := aM gb13
   have GG13 := aM HG13
   clear gb13 gl13 HG13
   obtain ⟨hx13_0, hf13_0⟩ := Kd.R_celln 0 HO_9.out (x10_1 : Int) p13 q13
   replace p13 := eq_true p13
   replace q13 := eq_true q13
   have HP16 := Kd.R_putn HO_9.out (x10_1 : Int) (Int.tmod (wrap64 ((rd l1 x10_1) + t157)) 256)
   rw [← Ny158.out] at HP16
   have HQ16 := aM HP16
   clear HP16
   refine hK.out _ _ ((bC HB hw156_0)) (fun hHeld => ?_)
   clear hK K
   refine norm_ (a' := ?_) ?_ ?_
   rotate_left
   ·
    show Act.put _ (some 31) _ = _
    simp only [Act.put, List.setIfInBounds_toArray, List.set_cons_zero, List.set_cons_succ, i64_w, i32_w]
    rfl
   refine pureQ (i := 12) (N := some 32) HT_ (bA 16 8191) ?_
   refine pureQ (i := 13) (N := some 33) HT_ (bA 16 16383) ?_
   refine pureQ (i := 14) (N := some 34) HT_ (bA 16 32767) ?_
   refine last_ (i := 15) (N := none) (bA 16 65535) rfl rfl (one_of HT_.out (by kernel_rfl)) (by decide) (fun K hK => ?_)
   refine skip_ (w1 := ?_) (by rfl) rfl ?_ ?_
   rotate_left
   ·
    go_simp
    rfl
   refine hK.out _ _ ?_
   clear hK K
   refine done_ (done_of HT_.out (by kernel_rfl)) ?_
   try go_wp2
   go_roundg k1
   case measure => have := HK1.out; omega
   case rel => exact ⟨(y158), (wrap64 (x10_1 + 1)), qE, H', ⟨by have := HK1.out; omega⟩, ⟨by refine qR ?_; exact HQ16.out⟩, ⟨by exact qW HB.out⟩⟩

/-! ### impl_unfilterRow: function 68 -/
def impl_unfilterRow.l0 : Nat → Int → List Int → Int → List Int → List Int → Int → Int → Option (List Int)
 | 0, _, _, _, _, _, _, _ => none
 | k + 1, x0, x2, x3, x9, x13, x14, x15 => if x15 < x14 then (if 0 ≤ x15 then (if x15 < (x13.length : Int) then ((impl_predicted.f k x0 x9 x2 x3 x15).bind fun t372 => (if x9.length < 17592186044416 then (impl_unfilterRow.l0 k x0 x2 x3 (x9 ++ [Int.tmod (wrap64 ((rd x13 x15) + t372)) 256]) x13 x14 (wrap64 (x15 + 1))) else (none))) else (none)) else (none)) else (some x9)
def impl_unfilterRow.f (k : Nat) (a0 : Int) (l1 : List Int) (l2 : List Int) (a3 : Int) : Option (List Int) := impl_unfilterRow.l0 k a0 l2 a3 (([] : List Int)) l1 (l1.length : Int) 0
theorem impl_unfilterRow.mono_l : ∀ k, (∀ y0 y1 y2 y3 y4 y5 y6, LeO (impl_unfilterRow.l0 k y0 y1 y2 y3 y4 y5 y6) (impl_unfilterRow.l0 (k + 1) y0 y1 y2 y3 y4 y5 y6))
 | 0 => fun _ _ _ _ _ _ _ r h => by simp [impl_unfilterRow.l0] at h
 | k + 1 => by
  have ih0 := impl_unfilterRow.mono_l k
  ·
   intro y0 y1 y2 y3 y4 y5 y6
   unfold impl_unfilterRow.l0
   repeat' first
   | (with_reducible exact ih0 _ _ _ _ _ _ _)
   | (with_reducible exact impl_predicted.mono _ _ _ _ _ _)
   | (with_reducible exact LeO.refl _)
   | (with_reducible exact LeO.none _)
   | (with_reducible refine LeO.ite ?_ ?_)
   | (with_reducible refine LeO.bind ?_ (fun _ => ?_))
   | exact ih0 _ _ _ _ _ _ _
   | exact impl_predicted.mono _ _ _ _ _ _
   | exact LeO.none _
   | refine LeO.ite ?_ ?_
   | refine LeO.bind ?_ (fun _ => ?_)
theorem impl_unfilterRow.mono : ∀ a0 a1 a2 a3 k, LeO (impl_unfilterRow.f k a0 a1 a2 a3) (impl_unfilterRow.f (k + 1) a0 a1 a2 a3) := by
 intro a0 a1 a2 a3 k
 have ih0 := impl_unfilterRow.mono_l k
 unfold impl_unfilterRow.f
 repeat' first
   | (with_reducible exact ih0 _ _ _ _ _ _ _)
   | (with_reducible exact impl_predicted.mono _ _ _ _ _ _)
   | (with_reducible exact LeO.refl _)
   | (with_reducible exact LeO.none _)
   | (with_reducible refine LeO.ite ?_ ?_)
   | (with_reducible refine LeO.bind ?_ (fun _ => ?_))
   | exact ih0 _ _ _ _ _ _ _
   | exact impl_predicted.mono _ _ _ _ _ _
   | exact LeO.none _
   | refine LeO.ite ?_ ?_
   | refine LeO.bind ?_ (fun _ => ?_)
set_option maxHeartbeats 8000000 in
set_option maxRecDepth 100000 in
theorem impl_unfilterRow.calls (k : Nat) (a0 : Int) (A1 : Option Addr) (c1 : Nat) (l1 : List Int) (A2 : Option Addr) (c2 : Nat) (l2 : List Int) (a3 : Int) (r : List Int) (w : World) (hr1 : Kd.C (Kd.int .i64) w A1 l1.length l1) (hc1 : l1.length ≤ c1) (hr2 : Kd.C (Kd.int .i64) w A2 l2.length l2) (hc2 : l2.length ≤ c2) (h : impl_unfilterRow.f k a0 l1 l2 a3 = some r) :
  Calls Try.prog 68 #[.int .i64 a0, .slice A1 l1.length c1, .slice A2 l2.length c2, .int .i64 a3] w fun e w' => ∃ v0_ : Value, e = .returned (v0_) ∧ Kd.R (Kd.int .i64) 3 w' w.heap.size (fun _ => True) v0_ r ∧ Below w.heap.size w w' := by
 have HR1 := aM hr1
 have HC1 := aM hc1
 clear hr1 hc1
 have HR2 := aM hr2
 have HC2 := aM hc2
 clear hr2 hc2
 have HB := aM (Below.refl w.heap.size w)
 have H : (impl_unfilterRow.l0 k a0 l2 a3 (([] : List Int)) l1 (l1.length : Int) 0) = some r := h
 clear h
 obtain ⟨y368, hy368⟩ : ∃ y_ : List Int, y_ = (([] : List Int)) := ⟨_, rfl⟩
 replace H : (impl_unfilterRow.l0 k a0 l2 a3 y368 l1 (l1.length : Int) 0) = some r := rY hy368 H
 have Ny368 := aM hy368
 clear hy368
 have H' := aM H
 clear H
 go_enter Try.func68, Try.ntmps68
 go_wp2_with (first | ((with_reducible refine gate_dst (N := 12) rfl ?_); refine Kd.R_lit (Kd.int .i64) _ 3 ?hg (N := 12) ?hd (xs := ([] : List Int)) (inner := []) (ok := fun _ => True) (okp := fun _ => True) ?hr ?hp (fun _ hk => hk) trivial (Below.refl _ _) (Nat.le_refl _) (by simp) ?_; (case hd => rfl); (case hg => rfl); (case hr => first | (go_simp; done) | (go_simp; rfl)); (case hp => exact (Reps.none _ _)); intro v369 w5 ho6 hb hg_ hnew_; clear hg_ hnew_; (first | rw [← Ny368.out] at ho6 | (simp only [Int.reduceToNat] at ho6; rw [← Ny368.out] at ho6)); have HO370 := aM (Kd.R_lower ho6 (below_size (qW HB.out))); replace HB := aM (below_step (qW HB.out) hb); clear hb ho6))
 go_loopg [9, 15] k (fun kq v9 v15 w' => ∃ (x9_1 : List Int) (x15_1 : Int), v15 = .int .i64 x15_1 ∧ Aside0 (impl_unfilterRow.l0 kq a0 l2 a3 x9_1 l1 (l1.length : Int) x15_1 = some r) ∧ Aside0 (kq ≤ k) ∧ Aside0 (Kd.R (Kd.int .i64) 3 w' w.heap.size (fun _ => True) v9 x9_1) ∧ Aside0 (Below w.heap.size w w'))
 case atStart => exact ⟨(y368), (0), qE, H', ⟨Nat.le_refl _⟩, ⟨by refine qR ?_; exact HO370.out⟩, ⟨by exact qW HB.out⟩⟩
 case round =>
  clear H'
  try clear c1
  try clear c2
  try clear p2
  try clear c6
  obtain ⟨x9_1, x15_1, rfl, HA, HK1, HO_9, HB⟩ := hrel
  cases gk with
  | zero => exact absurd HA.out (by simp [impl_unfilterRow.l0])
  | succ k1 =>
   have H := HA.out
   clear HA
   simp only [impl_unfilterRow.l0] at H
   by_cases c7 : x15_1 < (l1.length : Int)
   rotate_left
   ·
    rw [if_neg c7] at H
    have c7b0 : decide (x15_1 < (l1.length : Int)) = false := decide_eq_false c7
    clear c7
    obtain rfl := Option.some.inj H
    go_wp2
    go_ret
    exact ⟨_, qX, by refine qR ?_; exact HO_9.out, by exact qW HB.out⟩
   rw [if_pos c7] at H
   have c7b0 : decide (x15_1 < (l1.length : Int)) = true := decide_eq_true c7
   clear c7
   by_cases c8 : 0 ≤ x15_1
   rotate_left
   ·
    rw [if_neg c8] at H
    exact absurd H (by simp)
   rw [if_pos c8] at H
   have c8b0 : decide (0 ≤ x15_1) = true := decide_eq_true c8
   clear c8
   by_cases c9 : x15_1 < (l1.length : Int)
   rotate_left
   ·
    rw [if_neg c9] at H
    exact absurd H (by simp)
   rw [if_pos c9] at H
   have c9b0 : decide (x15_1 < (l1.length : Int)) = true := decide_eq_true c9
   clear c9
   replace H := Option.bind_eq_some_iff.mp H
   obtain ⟨t372, A100, H⟩ := H
   replace H : (if x9_1.length < 17592186044416 then (impl_unfilterRow.l0 k1 a0 l2 a3 (x9_1 ++ [Int.tmod (wrap64 ((rd l1 x15_1) + t372)) 256]) l1 (l1.length : Int) (wrap64 (x15_1 + 1))) else (none)) = some r := H
   have A10 := aM A100
   clear A100
   by_cases c11 : x9_1.length < 17592186044416
   rotate_left
   ·
    rw [if_neg c11] at H
    exact absurd H (by simp)
   rw [if_pos c11] at H
   have LMc11 := aM c11
   clear c11
   obtain ⟨y373, hy373⟩ : ∃ y_ : List Int, y_ = (x9_1 ++ [Int.tmod (wrap64 ((rd l1 x15_1) + t372)) 256]) := ⟨_, rfl⟩
   replace H : (impl_unfilterRow.l0 k1 a0 l2 a3 y373 l1 (l1.length : Int) (wrap64 (x15_1 + 1))) = some r := rY hy373 H
   have Ny373 := aM hy373
   clear hy373
   have H' := aM H
   clear H
   have p371 : 0 ≤ (x15_1 : Int) := oD
   have q371 : x15_1 < (l1.length : Int) := oD
   obtain ⟨ad371, e371, hx371_0⟩ := Kd.at_int HR1.out x15_1 p371 q371
   cases e371
   replace hx371_0 := bD HB hx371_0
   replace p371 := eq_true p371
   replace q371 := eq_true q371
   obtain ⟨Ao12, co12, eo12⟩ := Kd.R_slice HO_9.out
   subst eo12
   go_wp2_with (first | ((with_reducible refine gate_callee (f := 85) rfl ?_); refine goesL_ (some 27) rfl rfl Try.func85 (by kernel_rfl) rfl #[.int .i64 a0, .slice Ao12 x9_1.length co12, .slice A2 l2.length c2, .int .i64 a3, .int .i64 x15_1] rfl qM ?_; (with_reducible refine (impl_predicted.calls k1 a0 _ _ x9_1 _ _ l2 a3 x15_1 t372 _ ?side1 ?side2 ?side3 ?side4 A10.out).mono ?_); (case side1 => exact qC (Kd.R_reads' HO_9.out).2.2); (case side2 => exact (Kd.R_reads' HO_9.out).2.1); (case side3 => exact qC (Kd.C_below HR2.out HB.out)); (case side4 => exact HC2.out); rintro e w13 ⟨rfl, hb⟩; refine ⟨_, rfl, ?_⟩; replace HO_9 := aM (Kd.R_below (qR HO_9.out) hb); replace HB := aM (below_step (qW HB.out) hb); (try clear hb); (try clear hb2); (try clear hk); (try clear hi)) | ((with_reducible refine gate_builtin (b := .append) (xs := #[.tmp 20, .tmp 30]) rfl ?_); at_builtin; refine Kd.R_append (Kd.int .i64) (w0 := w) w.heap.size rfl (.tmp 20) (.tmp 30) 22 3 (.int .i64 0) 8 rfl Try.underlying22 info3 rfl (by decide) (by omega) (.slice Ao12 x9_1.length co12) x9_1 (Int.tmod (wrap64 ((rd l1 x15_1) + t372)) 256) [.int .i64 (Int.tmod (wrap64 ((rd l1 x15_1) + t372)) 256)] (fun _ => True) (fun _ => False) rfl rfl ?aP (fun _ hk => hk.elim) ?aF ?aO ?aB ?aS ?aL ?_; (case aP => exact rfl); (case aB => exact (qW HB.out)); (case aF => exact (fun _ _ => trivial)); (case aO => exact (qR HO_9.out)); (case aS => exact (below_size (qW HB.out))); (case aL => have := LMc11.out; omega); intro v374 w14 ho hb hg hat; rw [← Ny373.out] at ho; replace HB := aM (hb); have HO375 := aM (ho); clear HO_9; clear ho hb hg hat))
   go_roundg k1
   case measure => have := HK1.out; omega
   case rel => exact ⟨(y373), (wrap64 (x15_1 + 1)), qE, H', ⟨by have := HK1.out; omega⟩, ⟨by refine qR ?_; exact HO375.out⟩, ⟨by exact qW HB.out⟩⟩

/-! ### spec_copyInts: function 74 -/
def spec_copyInts.f (l0 : List Int) : Option (List Int) := (some (([] : List Int) : List Int)).bind fun y181 => (if y181.length + l0.length < 17592186044416 then (some (y181 ++ l0)) else (none))
set_option maxHeartbeats 8000000 in
set_option maxRecDepth 100000 in
theorem spec_copyInts.calls (A0 : Option Addr) (c0 : Nat) (l0 : List Int) (r : List Int) (w : World) (hr0 : Kd.C (Kd.int .i64) w A0 l0.length l0) (hc0 : l0.length ≤ c0) (h : spec_copyInts.f l0 = some r) :
  Calls Try.prog 74 #[.slice A0 l0.length c0] w fun e w' => ∃ v0_ : Value, e = .returned (v0_) ∧ Kd.R (Kd.int .i64) 3 w' w.heap.size (fun _ => True) v0_ r ∧ Below w.heap.size w w' := by
 have HR0 := aM hr0
 have HC0 := aM hc0
 clear hr0 hc0
 have HB := aM (Below.refl w.heap.size w)
 have H : ((some (([] : List Int) : List Int)).bind fun y181 => (if y181.length + l0.length < 17592186044416 then (some (y181 ++ l0)) else (none))) = some r := h
 clear h
 obtain ⟨y181, hy181⟩ : ∃ y_ : List Int, y_ = (([] : List Int)) := ⟨_, rfl⟩
 replace H : (if y181.length + l0.length < 17592186044416 then (some (y181 ++ l0)) else (none)) = some r := rY hy181 H
 have Ny181 := aM hy181
 clear hy181
 by_cases c2 : y181.length + l0.length < 17592186044416
 rotate_left
 ·
  rw [if_neg c2] at H
  exact absurd H (by simp)
 rw [if_pos c2] at H
 have LMc2 := aM c2
 clear c2
 obtain ⟨y184, hy184⟩ : ∃ y_ : List Int, y_ = (y181 ++ l0) := ⟨_, rfl⟩
 replace H : (some y184) = some r := rY hy184 H
 have Ny184 := aM hy184
 clear hy184
 obtain rfl := Option.some.inj H
 go_enter Try.func74, Try.ntmps74
 go_wp2_with (first | ((with_reducible refine gate_dst (N := 3) rfl ?_); refine Kd.R_lit (Kd.int .i64) _ 3 ?hg (N := 3) ?hd (xs := ([] : List Int)) (inner := []) (ok := fun _ => True) (okp := fun _ => True) ?hr ?hp (fun _ hk => hk) trivial (Below.refl _ _) (Nat.le_refl _) (by simp) ?_; (case hd => rfl); (case hg => rfl); (case hr => first | (go_simp; done) | (go_simp; rfl)); (case hp => exact (Reps.none _ _)); intro v182 w3 ho4 hb hg_ hnew_; clear hg_ hnew_; (first | rw [← Ny181.out] at ho4 | (simp only [Int.reduceToNat] at ho4; rw [← Ny181.out] at ho4)); have HO183 := aM (Kd.R_lower ho4 (below_size (qW HB.out))); replace HB := aM (below_step (qW HB.out) hb); clear hb ho4) | ((with_reducible refine gate_builtin (b := .append) (xs := #[.tmp 3, .tmp 4]) rfl ?_); at_builtin; refine Kd.R_append_rows (Kd.int .i64) (w0 := w) w.heap.size rfl (.tmp 3) (.tmp 4) 22 3 (.int .i64 0) 8 rfl Try.underlying22 info3 rfl (by decide) (by omega) v182 y181 l0 _ _ _ (fun _ => True) (fun _ => False) rfl rfl ?aO ?aR (fun _ _ h => h) (fun _ h => h.elim) ?aF ?aB ?aS ?aL ?_; (case aR => exact qC (Kd.C_below HR0.out HB.out)); (case aB => exact (qW HB.out)); (case aF => exact (fun _ _ => trivial)); (case aO => exact (qR HO183.out)); (case aS => exact (below_size (qW HB.out))); (case aL => have := LMc2.out; omega); intro v185 w5 ho hb hg hat; rw [← Ny184.out] at ho; replace HB := aM (hb); have HO186 := aM (ho); clear HO183; clear ho hb hg hat))
 go_ret
 exact ⟨_, qX, by refine qR ?_; exact HO186.out, by exact qW HB.out⟩

/-! ### spec_rowData: function 75 -/
def spec_rowData.f (a0_0 : Int) (a0_1 : Int) (a0_2 : Int) (l0_3 : List Int) (a1 : Int) : Option (List Int) := if 0 ≤ (wrap64 (a1 * (wrap64 (a0_0 * a0_2)))) then (if (wrap64 (a1 * (wrap64 (a0_0 * a0_2)))) ≤ (wrap64 ((wrap64 (a1 + 1)) * (wrap64 (a0_0 * a0_2)))) then (if (wrap64 ((wrap64 (a1 + 1)) * (wrap64 (a0_0 * a0_2)))) ≤ (l0_3.length : Int) then ((spec_copyInts.f ((l0_3.take ((wrap64 ((wrap64 (a1 + 1)) * (wrap64 (a0_0 * a0_2)))) : Int).toNat).drop ((wrap64 (a1 * (wrap64 (a0_0 * a0_2)))) : Int).toNat)).bind fun t189 => (some t189)) else (none)) else (none)) else (none)
set_option maxHeartbeats 8000000 in
set_option maxRecDepth 100000 in
theorem spec_rowData.calls (a0_0 : Int) (a0_1 : Int) (a0_2 : Int) (A0_3 : Option Addr) (c0_3 : Nat) (l0_3 : List Int) (a1 : Int) (r : List Int) (w : World) (hr0_3 : Kd.C (Kd.int .i64) w A0_3 l0_3.length l0_3) (hc0_3 : l0_3.length ≤ c0_3) (h : spec_rowData.f a0_0 a0_1 a0_2 l0_3 a1 = some r) :
  Calls Try.prog 75 #[.agg #[.int .i64 a0_0, .int .i64 a0_1, .int .i64 a0_2, .slice A0_3 l0_3.length c0_3], .int .i64 a1] w fun e w' => ∃ v0_ : Value, e = .returned (v0_) ∧ Kd.R (Kd.int .i64) 3 w' w.heap.size (fun _ => True) v0_ r ∧ Below w.heap.size w w' := by
 have hu24 := Try.underlying24
 have HR0_3 := aM hr0_3
 have HC0_3 := aM hc0_3
 clear hr0_3 hc0_3
 have HB := aM (Below.refl w.heap.size w)
 have H : (if 0 ≤ (wrap64 (a1 * (wrap64 (a0_0 * a0_2)))) then (if (wrap64 (a1 * (wrap64 (a0_0 * a0_2)))) ≤ (wrap64 ((wrap64 (a1 + 1)) * (wrap64 (a0_0 * a0_2)))) then (if (wrap64 ((wrap64 (a1 + 1)) * (wrap64 (a0_0 * a0_2)))) ≤ (l0_3.length : Int) then ((spec_copyInts.f ((l0_3.take ((wrap64 ((wrap64 (a1 + 1)) * (wrap64 (a0_0 * a0_2)))) : Int).toNat).drop ((wrap64 (a1 * (wrap64 (a0_0 * a0_2)))) : Int).toNat)).bind fun t189 => (some t189)) else (none)) else (none)) else (none)) = some r := h
 clear h
 obtain ⟨ji3, hji3⟩ : ∃ j_ : Int, (wrap64 (a1 * (wrap64 (a0_0 * a0_2)))) = j_ := ⟨_, rfl⟩
 replace H : (if 0 ≤ (ji3) then (if (ji3) ≤ (wrap64 ((wrap64 (a1 + 1)) * (wrap64 (a0_0 * a0_2)))) then (if (wrap64 ((wrap64 (a1 + 1)) * (wrap64 (a0_0 * a0_2)))) ≤ (l0_3.length : Int) then ((spec_copyInts.f ((l0_3.take ((wrap64 ((wrap64 (a1 + 1)) * (wrap64 (a0_0 * a0_2)))) : Int).toNat).drop ((ji3) : Int).toNat)).bind fun t189 => (some t189)) else (none)) else (none)) else (none)) = some r := by first | (rw [hji3] at H; exact H) | (simp only [hji3] at H ⊢; exact H)
 have hji3w : (IntKind.i64.wrap (a1 * (wrap64 (a0_0 * a0_2)))) = ji3 := (i64_w _).trans hji3
 by_cases c4 : 0 ≤ (ji3)
 rotate_left
 ·
  rw [if_neg c4] at H
  exact absurd H (by simp)
 rw [if_pos c4] at H
 have c4b0 := eq_true c4
 have c4b1 : decide (0 ≤ (ji3)) = true := decide_eq_true c4
 clear c4
 by_cases c5 : (ji3) ≤ (wrap64 ((wrap64 (a1 + 1)) * (wrap64 (a0_0 * a0_2))))
 rotate_left
 ·
  rw [if_neg c5] at H
  exact absurd H (by simp)
 rw [if_pos c5] at H
 have c5b0 := eq_true c5
 have c5b1 : decide ((ji3) ≤ (wrap64 ((wrap64 (a1 + 1)) * (wrap64 (a0_0 * a0_2))))) = true := decide_eq_true c5
 by_cases c6 : (wrap64 ((wrap64 (a1 + 1)) * (wrap64 (a0_0 * a0_2)))) ≤ (l0_3.length : Int)
 rotate_left
 ·
  rw [if_neg c6] at H
  exact absurd H (by simp)
 rw [if_pos c6] at H
 have c6b0 := eq_true c6
 have c6b1 : decide ((wrap64 ((wrap64 (a1 + 1)) * (wrap64 (a0_0 * a0_2)))) ≤ (l0_3.length : Int)) = true := decide_eq_true c6
 replace H := Option.bind_eq_some_iff.mp H
 obtain ⟨t189, A70, H⟩ := H
 replace H : (some t189) = some r := H
 have A7 := aM A70
 clear A70
 obtain rfl := Option.some.inj H
 go_enter Try.func75, Try.ntmps75
 go_wp2_with (first | ((with_reducible refine gate_dst (N := 2) rfl ?_); refine box_event ?hg (N := 2) ?hd (cs := #[.int .i64 a0_0, .int .i64 a0_1, .int .i64 a0_2, .slice A0_3 l0_3.length c0_3]) (t := 24) ?hr ?_; (case hd => rfl); (case hg => rfl); (case hr => first | (go_simp; done) | (go_simp; rfl)); intro gb187 hg w8 hbox hb; have BK187 := aM (hbox); have GW187 := aM ((by rw [hg]; exact (below_size (qW HB.out)) : w.heap.size ≤ gb187)); have GE187 := aM ((by rw [hg]; exact (below_size (qW HB.out)) : w.heap.size ≤ gb187)); replace HB := aM (below_step (qW HB.out) hb); clear hb hbox hg; obtain ⟨hcz9_0, hcz9_1, hcz9_2, hcz9_3⟩ := cz4 BK187.out; obtain ⟨hfz9_0, hfz9_1, hfz9_2, hfz9_3⟩ := fz4 BK187.out; obtain ⟨i010, hi010, _, hsz10, _⟩ := info_parts info3; obtain ⟨A10, hcut10, hA10, hC10⟩ := print_mid_of (P := Try.prog) (Value.int .i64) 0 22 3 .i64 .i64 Try.underlying22 hi010 hsz10 A0_3 c0_3 l0_3 (ji3) (wrap64 ((wrap64 (a1 + 1)) * (wrap64 (a0_0 * a0_2)))) oD (by first | omega | exact oD) oD HC0_3.out; have HR188 := aM (Kd.C_of_reads (h1 := fun _ => rfl) (hA10 _ (Kd.reads_of_C HR0_3.out))); have HC188 := aM hC10; clear hA10 hC10 hi010 hsz10) | ((with_reducible refine gate_callee (f := 74) rfl ?_); refine goesL_ (some 21) rfl rfl Try.func74 (by kernel_rfl) rfl #[.slice A10 ((l0_3.take ((wrap64 ((wrap64 (a1 + 1)) * (wrap64 (a0_0 * a0_2)))) : Int).toNat).drop ((ji3) : Int).toNat).length (c0_3 - (ji3).toNat)] rfl (by (try simp only [List.map_toArray, List.map_cons, List.map_nil]); first | done | (rw [show ((l0_3.take ((wrap64 ((wrap64 (a1 + 1)) * (wrap64 (a0_0 * a0_2)))) : Int).toNat).drop ((ji3) : Int).toNat).length = ((wrap64 ((wrap64 (a1 + 1)) * (wrap64 (a0_0 * a0_2)))).toNat - (ji3).toNat) from (by rw [List.length_drop, List.length_take]; have h_ : ((wrap64 ((wrap64 (a1 + 1)) * (wrap64 (a0_0 * a0_2)))) : Int) ≤ (l0_3.length : Int) := oD; omega)] <;> rfl) | (simp only [hji3]; rfl) | rfl | (simp only [List.length_drop, List.length_take]; rfl)) ?_; (with_reducible refine (spec_copyInts.calls _ _ ((l0_3.take ((wrap64 ((wrap64 (a1 + 1)) * (wrap64 (a0_0 * a0_2)))) : Int).toNat).drop ((ji3) : Int).toNat) t189 _ ?side1 ?side2 A7.out).mono ?_); (case side1 => exact qC (Kd.C_below HR188.out HB.out)); (case side2 => exact HC188.out); rintro e w11 ⟨v190, rfl, ho0, hb⟩; refine ⟨_, rfl, ?_⟩; have HO191 := aM (Kd.R_lower ho0 (below_size (qW HB.out))); replace BK187 := bB BK187 hb; replace HB := aM (below_step (qW HB.out) hb); (try clear hb); (try clear hb2); (try clear hk); (try clear hi); (try clear ho0)))
 go_ret
 exact ⟨_, by first | rfl | (simp [errW_none, errW_some] <;> rfl) | (simp only [← hji3]; first | rfl | (simp [errW_none, errW_some] <;> rfl)) | (simp [*, errW_none, errW_some] <;> rfl), by refine qR ?_; exact HO191.out, by exact qW HB.out⟩

/-! ### spec_filterImage: function 55 -/
def spec_filterImage.l0 : Nat → List Int → List Int → Int → Int → Int → Int → List Int → Option (List Int)
 | 0, _, _, _, _, _, _, _ => none
 | k + 1, x3, x4, x5, x211000, x211001, x211002, x211003 => if x5 < x211001 then ((spec_rowData.f x211000 x211001 x211002 x211003 x5).bind fun t217 => ((spec_bestFilter.f k t217 x4 x211002).bind fun t220 => (if x3.length < 17592186044416 then ((some (x3 ++ [t220] : List Int)).bind fun y221 => ((spec_filterRow.f k t220 t217 x4 x211002).bind fun t224 => (if y221.length + t224.length < 17592186044416 then (spec_filterImage.l0 k (y221 ++ t224) t217 (wrap64 (x5 + 1)) x211000 x211001 x211002 x211003) else (none)))) else (none)))) else (some x3)
def spec_filterImage.f (k : Nat) (a0_0 : Int) (a0_1 : Int) (a0_2 : Int) (l0_3 : List Int) : Option (List Int) := if 0 ≤ (wrap64 (a0_0 * a0_2)) then (if (wrap64 (a0_0 * a0_2) : Int).toNat ≤ 35184372088832 then (spec_filterImage.l0 k (([] : List Int)) (List.replicate (wrap64 (a0_0 * a0_2) : Int).toNat 0) 0 a0_0 a0_1 a0_2 l0_3) else (none)) else (none)
theorem spec_filterImage.mono_l : ∀ k, (∀ y0 y1 y2 y3 y4 y5 y6, LeO (spec_filterImage.l0 k y0 y1 y2 y3 y4 y5 y6) (spec_filterImage.l0 (k + 1) y0 y1 y2 y3 y4 y5 y6))
 | 0 => fun _ _ _ _ _ _ _ r h => by simp [spec_filterImage.l0] at h
 | k + 1 => by
  have ih0 := spec_filterImage.mono_l k
  ·
   intro y0 y1 y2 y3 y4 y5 y6
   unfold spec_filterImage.l0
   repeat' first
   | (with_reducible exact ih0 _ _ _ _ _ _ _)
   | (with_reducible exact spec_bestFilter.mono _ _ _ _)
   | (with_reducible exact spec_filterRow.mono _ _ _ _ _)
   | (with_reducible exact LeO.refl _)
   | (with_reducible exact LeO.none _)
   | (with_reducible refine LeO.ite ?_ ?_)
   | (with_reducible refine LeO.bind ?_ (fun _ => ?_))
   | exact ih0 _ _ _ _ _ _ _
   | exact spec_bestFilter.mono _ _ _ _
   | exact spec_filterRow.mono _ _ _ _ _
   | exact LeO.none _
   | refine LeO.ite ?_ ?_
   | refine LeO.bind ?_ (fun _ => ?_)
theorem spec_filterImage.mono : ∀ a0 a1 a2 a3 k, LeO (spec_filterImage.f k a0 a1 a2 a3) (spec_filterImage.f (k + 1) a0 a1 a2 a3) := by
 intro a0 a1 a2 a3 k
 have ih0 := spec_filterImage.mono_l k
 unfold spec_filterImage.f
 repeat' first
   | (with_reducible exact ih0 _ _ _ _ _ _ _)
   | (with_reducible exact spec_bestFilter.mono _ _ _ _)
   | (with_reducible exact spec_filterRow.mono _ _ _ _ _)
   | (with_reducible exact LeO.refl _)
   | (with_reducible exact LeO.none _)
   | (with_reducible refine LeO.ite ?_ ?_)
   | (with_reducible refine LeO.bind ?_ (fun _ => ?_))
   | exact ih0 _ _ _ _ _ _ _
   | exact spec_bestFilter.mono _ _ _ _
   | exact spec_filterRow.mono _ _ _ _ _
   | exact LeO.none _
   | refine LeO.ite ?_ ?_
   | refine LeO.bind ?_ (fun _ => ?_)
def spec_filterImage.T8 : Bool × List (List Nat × List Nat) := (true, [([], []), ([], []), ([1], [1]), ([0, 2], [0, 2]), ([], []), ([], []), ([], []), ([], []), ([7], [7]), ([4, 5, 6, 8, 3], [4, 5, 6, 8]), ([3, 9, 9], [3, 9]), ([10, 10, 0, 1, 2, 3, 4, 5, 6, 7, 8, 9, 10], [0, 10])])
def spec_filterImage.B8 : List Nat := [0, 0, 2, 7, 0, 0, 0, 0, 128, 511, 1023, 2047]
theorem spec_filterImage.tab8 : rtab .any (opsOf Try.f55 8) = spec_filterImage.T8 := by kernel_rfl
theorem spec_filterImage.bits8 : waitsOk spec_filterImage.T8.2 spec_filterImage.B8 = true := by kernel_rfl
set_option maxHeartbeats 8000000 in
set_option maxRecDepth 100000 in
theorem spec_filterImage.calls (k : Nat) (a0_0 : Int) (a0_1 : Int) (a0_2 : Int) (A0_3 : Option Addr) (c0_3 : Nat) (l0_3 : List Int) (r : List Int) (w : World) (hr0_3 : Kd.C (Kd.int .i64) w A0_3 l0_3.length l0_3) (hc0_3 : l0_3.length ≤ c0_3) (h : spec_filterImage.f k a0_0 a0_1 a0_2 l0_3 = some r) :
  Calls Try.prog 55 #[.agg #[.int .i64 a0_0, .int .i64 a0_1, .int .i64 a0_2, .slice A0_3 l0_3.length c0_3]] w fun e w' => ∃ v0_ : Value, e = .returned (v0_) ∧ Kd.R (Kd.int .i64) 3 w' w.heap.size (fun _ => True) v0_ r ∧ Below w.heap.size w w' := by
 have hu24 := Try.underlying24
 have HR0_3 := aM hr0_3
 have HC0_3 := aM hc0_3
 clear hr0_3 hc0_3
 have HB := aM (Below.refl w.heap.size w)
 have H : (if 0 ≤ (wrap64 (a0_0 * a0_2)) then (if (wrap64 (a0_0 * a0_2) : Int).toNat ≤ 35184372088832 then (spec_filterImage.l0 k (([] : List Int)) (List.replicate (wrap64 (a0_0 * a0_2) : Int).toNat 0) 0 a0_0 a0_1 a0_2 l0_3) else (none)) else (none)) = some r := h
 clear h
 obtain ⟨y211, hy211⟩ : ∃ y_ : List Int, y_ = (([] : List Int)) := ⟨_, rfl⟩
 replace H : (if 0 ≤ (wrap64 (a0_0 * a0_2)) then (if (wrap64 (a0_0 * a0_2) : Int).toNat ≤ 35184372088832 then (spec_filterImage.l0 k y211 (List.replicate (wrap64 (a0_0 * a0_2) : Int).toNat 0) 0 a0_0 a0_1 a0_2 l0_3) else (none)) else (none)) = some r := rY hy211 H
 have Ny211 := aM hy211
 clear hy211
 obtain ⟨ji2, hji2⟩ : ∃ j_ : Int, (wrap64 (a0_0 * a0_2)) = j_ := ⟨_, rfl⟩
 replace H : (if 0 ≤ (ji2) then (if (ji2 : Int).toNat ≤ 35184372088832 then (spec_filterImage.l0 k y211 (List.replicate (ji2 : Int).toNat 0) 0 a0_0 a0_1 a0_2 l0_3) else (none)) else (none)) = some r := by first | (rw [hji2] at H; exact H) | (simp only [hji2] at H ⊢; exact H)
 have hji2w : (IntKind.i64.wrap (a0_0 * a0_2)) = ji2 := (i64_w _).trans hji2
 by_cases c3 : 0 ≤ (ji2)
 rotate_left
 ·
  rw [if_neg c3] at H
  exact absurd H (by simp)
 rw [if_pos c3] at H
 have c3b0 := eq_true c3
 have c3b1 : decide (0 ≤ (ji2)) = true := decide_eq_true c3
 clear c3
 by_cases c4 : (ji2 : Int).toNat ≤ 35184372088832
 rotate_left
 ·
  rw [if_neg c4] at H
  exact absurd H (by simp)
 rw [if_pos c4] at H
 have c4b0 := eq_true c4
 have c4b1 : decide ((ji2 : Int).toNat ≤ 35184372088832) = true := decide_eq_true c4
 clear c4
 obtain ⟨y214, hy214⟩ : ∃ y_ : List Int, y_ = (List.replicate (ji2 : Int).toNat 0) := ⟨_, rfl⟩
 replace H : (spec_filterImage.l0 k y211 y214 0 a0_0 a0_1 a0_2 l0_3) = some r := rY hy214 H
 have Ny214 := aM hy214
 clear hy214
 have H' := aM H
 clear H
 go_enter Try.func55, Try.ntmps55
 go_wp2_with (first | ((with_reducible refine gate_dst (N := 1) rfl ?_); refine box_event ?hg (N := 1) ?hd (cs := #[.int .i64 a0_0, .int .i64 a0_1, .int .i64 a0_2, .slice A0_3 l0_3.length c0_3]) (t := 24) ?hr ?_; (case hd => rfl); (case hg => rfl); (case hr => first | (go_simp; done) | (go_simp; rfl)); intro gb210 hg w5 hbox hb; have BK210 := aM (hbox); have GW210 := aM ((by rw [hg]; exact (below_size (qW HB.out)) : w.heap.size ≤ gb210)); have GE210 := aM ((by rw [hg]; exact (below_size (qW HB.out)) : w.heap.size ≤ gb210)); replace HB := aM (below_step (qW HB.out) hb); clear hb hbox hg) | ((with_reducible refine gate_dst (N := 8) rfl ?_); refine Kd.R_lit (Kd.int .i64) _ 3 ?hg (N := 8) ?hd (xs := ([] : List Int)) (inner := []) (ok := fun _ => True) (okp := fun _ => True) ?hr ?hp (fun _ hk => hk) trivial (Below.refl _ _) (Nat.le_refl _) (by simp) ?_; (case hd => rfl); (case hg => rfl); (case hr => first | (go_simp; done) | (go_simp; rfl)); (case hp => exact (Reps.none _ _)); intro v212 w6 ho7 hb hg_ hnew_; clear hg_ hnew_; (first | rw [← Ny211.out] at ho7 | (simp only [Int.reduceToNat] at ho7; rw [← Ny211.out] at ho7)); have HO213 := aM (Kd.R_lower ho7 (below_size (qW HB.out))); replace BK210 := bB BK210 hb; replace HB := aM (below_step (qW HB.out) hb); clear hb ho7; obtain ⟨hcz8_0, hcz8_1, hcz8_2, hcz8_3⟩ := cz4 BK210.out; obtain ⟨hfz8_0, hfz8_1, hfz8_2, hfz8_3⟩ := fz4 BK210.out) | ((with_reducible refine gate_dst (N := 14) rfl ?_); refine Kd.R_make (Kd.int .i64) _ 3 rfl (N := 14) rfl 22 _ _ rfl ji2 rfl rfl Try.underlying22 (.int .i64 0) 8 info3 rfl (by decide) (by omega) 0 (ok := fun _ => True) (okp := fun _ => True) rfl (fun _ hk => hk) trivial oD (Nat.le_trans (Nat.mul_le_mul_right _ (oD : ji2.toNat ≤ 35184372088832)) (by omega)) (Below.refl _ _) (Nat.le_refl _) ?_; intro v215 w9 ho10 hb hg_ hnew_; clear hg_ hnew_; (first | rw [← Ny214.out] at ho10 | (simp only [Int.reduceToNat] at ho10; rw [← Ny214.out] at ho10)); have HO216 := aM (Kd.R_lower (Kd.R_new' ho10 (Kd.R_lt (qR HO213.out))) (below_size (qW HB.out))); replace HO213 := aM (Kd.R_elder' (qR HO213.out) (Kd.R_base ho10) hb); replace BK210 := bB BK210 hb; replace HB := aM (below_step (qW HB.out) hb); clear hb ho10))
 go_loopg [3, 4, 5] k (fun kq v3 v4 v5 w' => ∃ (x3_1 : List Int) (x4_1 : List Int) (x5_1 : Int), v5 = .int .i64 x5_1 ∧ Aside0 (spec_filterImage.l0 kq x3_1 x4_1 x5_1 a0_0 a0_1 a0_2 l0_3 = some r) ∧ Aside0 (kq ≤ k) ∧ Aside0 (Kd.R (Kd.int .i64) 3 w' w.heap.size (fun k_ => some k_ ≠ (v4 : Value).ownBlock) v3 x3_1) ∧ Aside0 (Kd.R (Kd.int .i64) 3 w' w.heap.size (fun k_ => some k_ ≠ (v3 : Value).ownBlock) v4 x4_1) ∧ Aside0 (w'.heap[gb210]? = some (.cells #[.int .i64 a0_0, .int .i64 a0_1, .int .i64 a0_2, (.slice A0_3 l0_3.length c0_3)] 24 (0, 0))) ∧ Aside0 (Below w.heap.size w w'))
 case atStart => exact ⟨(y211), (y214), (0), qE, H', ⟨Nat.le_refl _⟩, ⟨by refine qR ?_; exact Kd.R_mono HO213.out (fun _ hk => hk.2)⟩, ⟨by refine qR ?_; exact Kd.R_mono HO216.out (fun _ hk => hk.2)⟩, ⟨by refine qB ?_; exact BK210.out⟩, ⟨by exact qW HB.out⟩⟩
 case round =>
  clear H'
  try clear p2
  try clear c3
  try clear c3b0
  try clear c3b1
  try clear c4
  try clear c4b0
  try clear c4b1
  try clear c5
  try clear p6
  try clear hcz8_0 hcz8_1 hcz8_2 hcz8_3 hfz8_0 hfz8_1 hfz8_2 hfz8_3
  obtain ⟨x3_1, x4_1, x5_1, rfl, HA, HK1, HO_3, HO_4, BK210, HB⟩ := hrel
  cases gk with
  | zero => exact absurd HA.out (by simp [spec_filterImage.l0])
  | succ k1 =>
   have H := HA.out
   clear HA
   simp only [spec_filterImage.l0] at H
   by_cases c11 : x5_1 < a0_1
   rotate_left
   ·
    rw [if_neg c11] at H
    have c11b0 : decide (x5_1 < a0_1) = false := decide_eq_false c11
    clear c11
    obtain rfl := Option.some.inj H
    obtain ⟨hcz28_0, hcz28_1, hcz28_2, hcz28_3⟩ := cz4 BK210.out
    obtain ⟨hfz28_0, hfz28_1, hfz28_2, hfz28_3⟩ := fz4 BK210.out
    go_wp2
    go_ret
    exact ⟨_, by first | rfl | (simp [errW_none, errW_some] <;> rfl) | (simp only [← hji2]; first | rfl | (simp [errW_none, errW_some] <;> rfl)) | (simp [*, errW_none, errW_some] <;> rfl), by refine qR ?_; exact Kd.R_mono HO_3.out (fun _ hk => trivial), by exact qW HB.out⟩
   rw [if_pos c11] at H
   have c11b0 : decide (x5_1 < a0_1) = true := decide_eq_true c11
   clear c11
   replace H := Option.bind_eq_some_iff.mp H
   obtain ⟨t217, A120, H⟩ := H
   replace H : ((spec_bestFilter.f k1 t217 x4_1 a0_2).bind fun t220 => (if x3_1.length < 17592186044416 then ((some (x3_1 ++ [t220] : List Int)).bind fun y221 => ((spec_filterRow.f k1 t220 t217 x4_1 a0_2).bind fun t224 => (if y221.length + t224.length < 17592186044416 then (spec_filterImage.l0 k1 (y221 ++ t224) t217 (wrap64 (x5_1 + 1)) a0_0 a0_1 a0_2 l0_3) else (none)))) else (none))) = some r := H
   have A12 := aM A120
   clear A120
   replace H := Option.bind_eq_some_iff.mp H
   obtain ⟨t220, A130, H⟩ := H
   replace H : (if x3_1.length < 17592186044416 then ((some (x3_1 ++ [t220] : List Int)).bind fun y221 => ((spec_filterRow.f k1 t220 t217 x4_1 a0_2).bind fun t224 => (if y221.length + t224.length < 17592186044416 then (spec_filterImage.l0 k1 (y221 ++ t224) t217 (wrap64 (x5_1 + 1)) a0_0 a0_1 a0_2 l0_3) else (none)))) else (none)) = some r := H
   have A13 := aM A130
   clear A130
   by_cases c14 : x3_1.length < 17592186044416
   rotate_left
   ·
    rw [if_neg c14] at H
    exact absurd H (by simp)
   rw [if_pos c14] at H
   have LMc14 := aM c14
   clear c14
   obtain ⟨y221, hy221⟩ : ∃ y_ : List Int, y_ = (x3_1 ++ [t220]) := ⟨_, rfl⟩
   replace H : ((spec_filterRow.f k1 t220 t217 x4_1 a0_2).bind fun t224 => (if y221.length + t224.length < 17592186044416 then (spec_filterImage.l0 k1 (y221 ++ t224) t217 (wrap64 (x5_1 + 1)) a0_0 a0_1 a0_2 l0_3) else (none))) = some r := rY hy221 H
   have Ny221 := aM hy221
   clear hy221
   replace H := Option.bind_eq_some_iff.mp H
   obtain ⟨t224, A150, H⟩ := H
   replace H : (if y221.length + t224.length < 17592186044416 then (spec_filterImage.l0 k1 (y221 ++ t224) t217 (wrap64 (x5_1 + 1)) a0_0 a0_1 a0_2 l0_3) else (none)) = some r := H
   have A15 := aM A150
   clear A150
   by_cases c16 : y221.length + t224.length < 17592186044416
   rotate_left
   ·
    rw [if_neg c16] at H
    exact absurd H (by simp)
   rw [if_pos c16] at H
   have LMc16 := aM c16
   clear c16
   obtain ⟨y227, hy227⟩ : ∃ y_ : List Int, y_ = (y221 ++ t224) := ⟨_, rfl⟩
   replace H : (spec_filterImage.l0 k1 y227 t217 (wrap64 (x5_1 + 1)) a0_0 a0_1 a0_2 l0_3) = some r := rY hy227 H
   have Ny227 := aM hy227
   clear hy227
   have H' := aM H
   clear H
   obtain ⟨hcz17_0, hcz17_1, hcz17_2, hcz17_3⟩ := cz4 BK210.out
   obtain ⟨hfz17_0, hfz17_1, hfz17_2, hfz17_3⟩ := fz4 BK210.out
   try go_wp2_with (first | ((with_reducible refine gate_callee (f := 75) rfl ?_); refine goesL_ (some 23) rfl rfl Try.func75 (by kernel_rfl) rfl #[.agg #[.int .i64 a0_0, .int .i64 a0_1, .int .i64 a0_2, .slice A0_3 l0_3.length c0_3], .int .i64 x5_1] rfl qM ?_; (with_reducible refine (spec_rowData.calls a0_0 a0_1 a0_2 _ _ l0_3 x5_1 t217 _ ?side1 ?side2 A12.out).mono ?_); (case side1 => exact qC (Kd.C_below HR0_3.out HB.out)); (case side2 => exact HC0_3.out); rintro e w18 ⟨v218, rfl, ho0, hb⟩; refine ⟨_, rfl, ?_⟩; have HO219 := aM (Kd.R_lower (Kd.R_new' (Kd.R_new' ho0 (Kd.R_lt (qR HO_3.out))) (Kd.R_lt (qR HO_4.out))) (below_size (qW HB.out))); replace HO_3 := aM (Kd.R_elder' (qR HO_3.out) (Kd.R_base ho0) hb); replace HO_4 := aM (Kd.R_elder' (qR HO_4.out) (Kd.R_base ho0) hb); replace BK210 := bB BK210 hb; replace HB := aM (below_step (qW HB.out) hb); (try clear hb); (try clear hb2); (try clear hk); (try clear hi); (try clear ho0); obtain ⟨hcz19_0, hcz19_1, hcz19_2, hcz19_3⟩ := cz4 BK210.out; obtain ⟨hfz19_0, hfz19_1, hfz19_2, hfz19_3⟩ := fz4 BK210.out; obtain ⟨Ao20, co20, eo20⟩ := Kd.R_slice HO219.out; subst eo20; obtain ⟨Ao21, co21, eo21⟩ := Kd.R_slice HO_4.out; subst eo21) | ((with_reducible refine gate_callee (f := 76) rfl ?_); refine goesL_ (some 28) rfl rfl Try.func76 (by kernel_rfl) rfl #[.slice Ao20 t217.length co20, .slice Ao21 x4_1.length co21, .int .i64 a0_2] rfl qM ?_; (with_reducible refine (spec_bestFilter.calls k1 _ _ t217 _ _ x4_1 a0_2 t220 _ ?side1 ?side2 ?side3 ?side4 A13.out).mono ?_); (case side1 => exact qC (Kd.R_reads' HO219.out).2.2); (case side2 => exact (Kd.R_reads' HO219.out).2.1); (case side3 => exact qC (Kd.R_reads' HO_4.out).2.2); (case side4 => exact (Kd.R_reads' HO_4.out).2.1); rintro e w22 ⟨rfl, hb⟩; refine ⟨_, rfl, ?_⟩; replace HO_3 := aM (Kd.R_below (qR HO_3.out) hb); replace HO_4 := aM (Kd.R_below (qR HO_4.out) hb); replace HO219 := aM (Kd.R_below (qR HO219.out) hb); replace BK210 := bB BK210 hb; replace HB := aM (below_step (qW HB.out) hb); (try clear hb); (try clear hb2); (try clear hk); (try clear hi)))
   replace HO_3 := aM (Kd.R_drew HO_3.out)
   replace HO_4 := aM (Kd.R_drew HO_4.out)
   replace HO219 := aM (Kd.R_drew HO219.out)
   replace BK210 := aM (blk_drew BK210.out)
   replace HB := aM (below_drew1 HB.out)
   refine start_ (n := 12) (S := fun w' => w'.cell? ⟨gb210, 0, none⟩ = some (.int .i64 a0_0) ∧ w'.cell? ⟨gb210, 1, none⟩ = some (.int .i64 a0_1) ∧ w'.cell? ⟨gb210, 2, none⟩ = some (.int .i64 a0_2) ∧ w'.cell? ⟨gb210, 3, none⟩ = some (.slice A0_3 l0_3.length c0_3)) (ds := []) (bA 12 0) (by kernel_rfl) rfl rfl ⟨(blk_cell BK210.out 0).trans rfl, (blk_cell BK210.out 1).trans rfl, (blk_cell BK210.out 2).trans rfl, (blk_cell BK210.out 3).trans rfl⟩ (fun hHeld => ?_); refine with_tabW spec_filterImage.tab8 spec_filterImage.bits8 (fun HT_ HW_ => ?_)
   generalize w22.drew = w23 at HO_3 HO_4 HO219 BK210 HB hHeld ⊢
   refine pureQ (i := 0) (N := some 29) HT_ (bA 12 1) ?_
   refine pureQ (i := 1) (N := some 30) HT_ (bA 12 3) ?_
   refine pureQ (i := 4) (N := some 33) HT_ (bA 12 19) ?_
   refine pureQ (i := 5) (N := some 34) HT_ (bA 12 51) ?_
   refine pureQ (i := 6) (N := some 35) HT_ (bA 12 115) ?_
   refine pureQ (i := 7) (N := some 36) HT_ (bA 12 243) ?_
   refine take_ (i := 8) (N := some 37) (v := ?_) (a' := ?_) (bA 12 499) rfl rfl (take_ofW HT_.out HW_.out (by kernel_rfl)) (fun _ _ _ h => h) (Or.inl ⟨by rfl, ?_⟩) hHeld ?_ ?_
   rotate_left
   ·
    rintro w' ⟨s0, s1, s2, s3⟩
    go_simp
    with_reducible rfl
   rotate_left
   ·
    simp only [Act.put, List.setIfInBounds_toArray, List.set_cons_zero, List.set_cons_succ, i64_w, i32_w]
    rfl
   refine one_ (i := 2) (N := some 31) (bA 12 503) rfl rfl (one_of HT_.out (by kernel_rfl)) (by decide) (fun K hK => ?_)
   refine value_ (w1 := ?_) (v := ?_) (by rfl) rfl ?_ ?_
   rotate_left 2
   ·
    go_simp
    constructor
    rotate_left
    ·
     rfl
    rfl
   refine hK.out _ _ ⟨(blk_cell (blk_alloc BK210.out _) 0).trans rfl, (blk_cell (blk_alloc BK210.out _) 1).trans rfl, (blk_cell (blk_alloc BK210.out _) 2).trans rfl, (blk_cell (blk_alloc BK210.out _) 3).trans rfl⟩ (fun hHeld => ?_)
   clear hK K
   refine norm_ (a' := ?_) ?_ ?_
   rotate_left
   ·
    show Act.put _ (some 31) _ = _
    simp only [Act.put, List.setIfInBounds_toArray, List.set_cons_zero, List.set_cons_succ, i64_w, i32_w]
    rfl
   refine one_ (i := 3) (N := some 32) (bA 12 511) rfl rfl (one_of HT_.out (by kernel_rfl)) (by decide) (fun K hK => ?_)
   refine Kd.R_append_step (Kd.int .i64) (w0 := w) w.heap.size (by rfl) (.tmp 29) (.tmp 31) 22 3 (.int .i64 0) 8 rfl Try.underlying22 info3 rfl (by decide) (by omega) u3 x3_1 t220 [.int .i64 t220] (fun k_ => some k_ ≠ (.slice Ao21 x4_1.length co21 : Value).ownBlock ∧ some k_ ≠ (.slice Ao20 t217.length co20 : Value).ownBlock) (fun _ => False) rfl rfl ?aP (fun _ hk => hk.elim) ?aF ?aO ?aB ?aS ?aL ?_
   (case aP => exact rfl)
   (case aB => exact (qW HB.out))
   (case aF => exact (fun k_ hk => ⟨Kd.fresh' (Kd.R_lt (qR HO_4.out)) k_ hk, Kd.fresh' (Kd.R_lt (qR HO219.out)) k_ hk⟩))
   (case aO => exact (qR HO_3.out))
   (case aS => exact (below_size (qW HB.out)))
   (case aL => have := LMc14.out; omega)
   intro v222 w24 ho hb hg hat
   rw [← Ny221.out] at ho
   replace HO_4 := aM (Kd.R_after (ok := (fun k_ => some k_ ≠ (.slice Ao20 t217.length co20 : Value).ownBlock)) (by refine qR ?_; exact Kd.R_mono HO_4.out (fun _ hk => ⟨hk.2, hk.1⟩)) hg hat)
   replace BK210 := aM (blk_grown (g := gb210) (o := .cells #[.int .i64 a0_0, .int .i64 a0_1, .int .i64 a0_2, .slice A0_3 l0_3.length c0_3] 24 (0, 0)) (qB BK210.out) hg (Kd.R_ne HO_3.out BK210.out (by decide)))
   replace HO219 := aM (Kd.R_after (ok := (fun k_ => some k_ ≠ (.slice Ao21 x4_1.length co21 : Value).ownBlock)) (by refine qR ?_; exact Kd.R_mono HO219.out (fun _ hk => ⟨hk.2, hk.1.2⟩)) hg hat)
   replace HB := aM (hb)
   have HO223 := aM (ho)
   clear HO_3
   clear ho hb hg hat
   refine hK.out _ _ ⟨(blk_cell BK210.out 0).trans rfl, (blk_cell BK210.out 1).trans rfl, (blk_cell BK210.out 2).trans rfl, (blk_cell BK210.out 3).trans rfl⟩ (fun hHeld => ?_)
   clear hK K
   refine norm_ (a' := ?_) ?_ ?_
   rotate_left
   ·
    show Act.put _ (some 32) _ = _
    simp only [Act.put, List.setIfInBounds_toArray, List.set_cons_zero, List.set_cons_succ, i64_w, i32_w]
    rfl
   refine one_ (i := 9) (N := some 38) (bA 12 1023) rfl rfl (one_of HT_.out (by kernel_rfl)) (by decide) (fun K hK => ?_)
   refine goes_ Try.func77 (by kernel_rfl) rfl #[.int .i64 t220, .slice Ao20 t217.length co20, .slice Ao21 x4_1.length co21, .int .i64 a0_2] (by rfl) rfl rfl qM ?_
   with_reducible refine (spec_filterRow.calls k1 t220 _ _ t217 _ _ x4_1 a0_2 t224 _ ?side1 ?side2 ?side3 ?side4 A15.out).mono ?_
   (case side1 => exact qC (Kd.R_reads' HO219.out).2.2)
   (case side2 => exact (Kd.R_reads' HO219.out).2.1)
   (case side3 => exact qC (Kd.R_reads' HO_4.out).2.2)
   (case side4 => exact (Kd.R_reads' HO_4.out).2.1)
   rintro e w25 ⟨v225, rfl, ho0, hb⟩
   refine ⟨_, rfl, ?_⟩
   have HO226 := aM (Kd.R_lower (Kd.R_new' (Kd.R_new' (Kd.R_new' ho0 (Kd.R_lt (qR HO_4.out))) (Kd.R_lt (qR HO219.out))) (Kd.R_lt (qR HO223.out))) (below_size (qW HB.out)))
   replace HO_4 := aM (Kd.R_elder' (qR HO_4.out) (Kd.R_base ho0) hb)
   replace HO219 := aM (Kd.R_elder' (qR HO219.out) (Kd.R_base ho0) hb)
   replace HO223 := aM (Kd.R_elder' (qR HO223.out) (Kd.R_base ho0) hb)
   replace BK210 := bB BK210 hb
   replace HB := aM (below_step (qW HB.out) hb)
   (try clear hb)
   (try clear hb2)
   (try clear hk)
   (try clear hi)
   (try clear ho0)
   obtain ⟨Ao27, co27, eo27⟩ := Kd.R_slice HO226.out
   (first | subst eo27 | (injection eo27 with f1_ f2_ f3_; have f4_ := f1_.symm; have f5_ := f3_.symm; clear f1_ f2_ f3_; subst f4_; subst f5_))
   refine hK.out _ _ ⟨(blk_cell BK210.out 0).trans rfl, (blk_cell BK210.out 1).trans rfl, (blk_cell BK210.out 2).trans rfl, (blk_cell BK210.out 3).trans rfl⟩ (fun hHeld => ?_)
   clear hK K
   refine norm_ (a' := ?_) ?_ ?_
   rotate_left
   ·
    show Act.put _ (some 38) _ = _
    simp only [Act.put, List.setIfInBounds_toArray, List.set_cons_zero, List.set_cons_succ, i64_w, i32_w]
    rfl
   refine one_ (i := 10) (N := some 39) (bA 12 2047) rfl rfl (one_of HT_.out (by kernel_rfl)) (by decide) (fun K hK => ?_)
   refine Kd.R_append_rows_step (Kd.int .i64) (w0 := w) w.heap.size (by rfl) (.tmp 32) (.tmp 38) 22 3 (.int .i64 0) 8 rfl Try.underlying22 info3 rfl (by decide) (by omega) v222 y221 t224 _ _ _ (fun k_ => some k_ ≠ (.slice Ao21 x4_1.length co21 : Value).ownBlock ∧ some k_ ≠ (.slice Ao20 t217.length co20 : Value).ownBlock ∧ some k_ ≠ (.slice Ao27 t224.length co27 : Value).ownBlock) (fun _ => False) rfl rfl ?aO ?aR (fun _ _ h => h) (fun _ h => h.elim) ?aF ?aB ?aS ?aL ?_
   (case aR => exact qC (Kd.R_reads' HO226.out).2.2)
   (case aB => exact (qW HB.out))
   (case aF => exact (fun k_ hk => ⟨Kd.fresh' (Kd.R_lt (qR HO_4.out)) k_ hk, Kd.fresh' (Kd.R_lt (qR HO219.out)) k_ hk, Kd.fresh' (Kd.R_lt (qR HO226.out)) k_ hk⟩))
   (case aO => exact (by refine qR ?_; exact Kd.R_mono HO223.out (fun _ hk => ⟨hk.1.1, ⟨hk.1.2, hk.2⟩⟩)))
   (case aS => exact (below_size (qW HB.out)))
   (case aL => have := LMc16.out; omega)
   intro v228 w26 ho hb hg hat
   rw [← Ny227.out] at ho
   replace HO_4 := aM (Kd.R_after (ok := (fun k_ => some k_ ≠ (.slice Ao20 t217.length co20 : Value).ownBlock ∧ some k_ ≠ (.slice Ao27 t224.length co27 : Value).ownBlock)) (by refine qR ?_; exact Kd.R_mono HO_4.out (fun _ hk => ⟨⟨hk.1.1, hk.2⟩, hk.1.2⟩)) hg hat)
   replace BK210 := aM (blk_grown (g := gb210) (o := .cells #[.int .i64 a0_0, .int .i64 a0_1, .int .i64 a0_2, .slice A0_3 l0_3.length c0_3] 24 (0, 0)) (qB BK210.out) hg (Kd.R_ne HO223.out BK210.out (by decide)))
   replace HO219 := aM (Kd.R_after (ok := (fun k_ => some k_ ≠ (.slice Ao21 x4_1.length co21 : Value).ownBlock ∧ some k_ ≠ (.slice Ao27 t224.length co27 : Value).ownBlock)) (by refine qR ?_; exact Kd.R_mono HO219.out (fun _ hk => ⟨⟨hk.1.1, hk.2⟩, hk.1.2⟩)) hg hat)
   replace HO226 := aM (Kd.R_after (ok := (fun k_ => some k_ ≠ (.slice Ao21 x4_1.length co21 : Value).ownBlock ∧ some k_ ≠ (.slice Ao20 t217.length co20 : Value).ownBlock)) (by refine qR ?_; exact Kd.R_mono HO226.out (fun _ hk => ⟨⟨hk.1.1.2, hk.1.2⟩, hk.2⟩)) hg hat)
   replace HB := aM (hb)
   have HO229 := aM (ho)
   clear HO223
   clear ho hb hg hat
   refine hK.out _ _ ⟨(blk_cell BK210.out 0).trans rfl, (blk_cell BK210.out 1).trans rfl, (blk_cell BK210.out 2).trans rfl, (blk_cell BK210.out 3).trans rfl⟩ (fun hHeld => ?_)
   clear hK K
   refine norm_ (a' := ?_) ?_ ?_
   rotate_left
   ·
    show Act.put _ (some 39) _ = _
    simp only [Act.put, List.setIfInBounds_toArray, List.set_cons_zero, List.set_cons_succ, i64_w, i32_w]
    rfl
   refine pureQ (i := 11) (N := some 3) HT_ (bA 12 4095) ?_
   refine done_ (done_of HT_.out (by kernel_rfl)) ?_
   try go_wp2
   go_roundg k1
   case measure => have := HK1.out; omega
   case rel => exact ⟨(y227), (t217), (wrap64 (x5_1 + 1)), qE, H', ⟨by have := HK1.out; omega⟩, ⟨by refine qR ?_; exact Kd.R_mono HO229.out (fun _ hk => hk.2.1)⟩, ⟨by refine qR ?_; exact Kd.R_mono HO219.out (fun _ hk => hk.2)⟩, ⟨by refine qB ?_; exact BK210.out⟩, ⟨by exact qW HB.out⟩⟩

/-! ### impl_filterImage: function 56 -/
def impl_filterImage.l0 : Nat → List Int → Int → List Int → Int → Int → Int → Int → Int → List Int → Option (List Int)
 | 0, _, _, _, _, _, _, _, _, _ => none
 | k + 1, x3, x4, x5, x18, x19, x406000, x406001, x406002, x406003 => if x19 < x18 then (if 0 ≤ (wrap64 (x19 * x4)) then (if (wrap64 (x19 * x4)) ≤ (wrap64 ((wrap64 (x19 + 1)) * x4)) then (if (wrap64 ((wrap64 (x19 + 1)) * x4)) ≤ (x406003.length : Int) then ((some ((x406003.take ((wrap64 ((wrap64 (x19 + 1)) * x4)) : Int).toNat).drop ((wrap64 (x19 * x4)) : Int).toNat : List Int)).bind fun y412 => ((impl_bestFilter.f k y412 x5 x406002).bind fun t417 => (if x3.length < 17592186044416 then ((some (x3 ++ [t417] : List Int)).bind fun y418 => ((impl_filterRow.f k t417 y412 x5 x406002).bind fun t421 => (if y418.length + t421.length < 17592186044416 then (impl_filterImage.l0 k (y418 ++ t421) x4 y412 x18 (wrap64 (x19 + 1)) x406000 x406001 x406002 x406003) else (none)))) else (none)))) else (none)) else (none)) else (none)) else (some x3)
def impl_filterImage.f (k : Nat) (a0_0 : Int) (a0_1 : Int) (a0_2 : Int) (l0_3 : List Int) : Option (List Int) := if 0 ≤ (wrap64 (a0_0 * a0_2)) then (if (wrap64 (a0_0 * a0_2) : Int).toNat ≤ 35184372088832 then (impl_filterImage.l0 k (([] : List Int)) (wrap64 (a0_0 * a0_2)) (List.replicate (wrap64 (a0_0 * a0_2) : Int).toNat 0) a0_1 0 a0_0 a0_1 a0_2 l0_3) else (none)) else (none)
theorem impl_filterImage.mono_l : ∀ k, (∀ y0 y1 y2 y3 y4 y5 y6 y7 y8, LeO (impl_filterImage.l0 k y0 y1 y2 y3 y4 y5 y6 y7 y8) (impl_filterImage.l0 (k + 1) y0 y1 y2 y3 y4 y5 y6 y7 y8))
 | 0 => fun _ _ _ _ _ _ _ _ _ r h => by simp [impl_filterImage.l0] at h
 | k + 1 => by
  have ih0 := impl_filterImage.mono_l k
  ·
   intro y0 y1 y2 y3 y4 y5 y6 y7 y8
   unfold impl_filterImage.l0
   repeat' first
   | (with_reducible exact ih0 _ _ _ _ _ _ _ _ _)
   | (with_reducible exact impl_bestFilter.mono _ _ _ _)
   | (with_reducible exact impl_filterRow.mono _ _ _ _ _)
   | (with_reducible exact LeO.refl _)
   | (with_reducible exact LeO.none _)
   | (with_reducible refine LeO.ite ?_ ?_)
   | (with_reducible refine LeO.bind ?_ (fun _ => ?_))
   | exact ih0 _ _ _ _ _ _ _ _ _
   | exact impl_bestFilter.mono _ _ _ _
   | exact impl_filterRow.mono _ _ _ _ _
   | exact LeO.none _
   | refine LeO.ite ?_ ?_
   | refine LeO.bind ?_ (fun _ => ?_)
theorem impl_filterImage.mono : ∀ a0 a1 a2 a3 k, LeO (impl_filterImage.f k a0 a1 a2 a3) (impl_filterImage.f (k + 1) a0 a1 a2 a3) := by
 intro a0 a1 a2 a3 k
 have ih0 := impl_filterImage.mono_l k
 unfold impl_filterImage.f
 repeat' first
   | (with_reducible exact ih0 _ _ _ _ _ _ _ _ _)
   | (with_reducible exact impl_bestFilter.mono _ _ _ _)
   | (with_reducible exact impl_filterRow.mono _ _ _ _ _)
   | (with_reducible exact LeO.refl _)
   | (with_reducible exact LeO.none _)
   | (with_reducible refine LeO.ite ?_ ?_)
   | (with_reducible refine LeO.bind ?_ (fun _ => ?_))
   | exact ih0 _ _ _ _ _ _ _ _ _
   | exact impl_bestFilter.mono _ _ _ _
   | exact impl_filterRow.mono _ _ _ _ _
   | exact LeO.none _
   | refine LeO.ite ?_ ?_
   | refine LeO.bind ?_ (fun _ => ?_)
set_option maxHeartbeats 8000000 in
set_option maxRecDepth 100000 in
theorem impl_filterImage.calls (k : Nat) (a0_0 : Int) (a0_1 : Int) (a0_2 : Int) (P0_3_ : Nat → Prop) (A0_3 : Option Addr) (c0_3 : Nat) (l0_3 : List Int) (r : List Int) (w : World) (hs0_3 : Kd.V (Kd.int .i64) 3 w w.heap.size (fun k_ => P0_3_ k_) (.slice A0_3 l0_3.length c0_3) l0_3) (h : impl_filterImage.f k a0_0 a0_1 a0_2 l0_3 = some r) :
  Calls Try.prog 56 #[.agg #[.int .i64 a0_0, .int .i64 a0_1, .int .i64 a0_2, .slice A0_3 l0_3.length c0_3]] w fun e w' => ∃ v0_ : Value, e = .returned (v0_) ∧ Kd.R (Kd.int .i64) 3 w' w.heap.size (fun k_ => (w.heap.size ≤ k_)) v0_ r ∧ Below w.heap.size w w' := by
 have hu24 := Try.underlying24
 have HO0_3 := aM (show Kd.V (Kd.int .i64) 3 w w.heap.size (fun k_ => (P0_3_ k_ ∨ w.heap.size ≤ k_)) (.slice A0_3 l0_3.length c0_3) l0_3 from Kd.V_mono hs0_3 (fun k_ hk => .inl hk))
 have HB := aM (Below.refl w.heap.size w)
 have H : (if 0 ≤ (wrap64 (a0_0 * a0_2)) then (if (wrap64 (a0_0 * a0_2) : Int).toNat ≤ 35184372088832 then (impl_filterImage.l0 k (([] : List Int)) (wrap64 (a0_0 * a0_2)) (List.replicate (wrap64 (a0_0 * a0_2) : Int).toNat 0) a0_1 0 a0_0 a0_1 a0_2 l0_3) else (none)) else (none)) = some r := h
 clear h
 obtain ⟨y406, hy406⟩ : ∃ y_ : List Int, y_ = (([] : List Int)) := ⟨_, rfl⟩
 replace H : (if 0 ≤ (wrap64 (a0_0 * a0_2)) then (if (wrap64 (a0_0 * a0_2) : Int).toNat ≤ 35184372088832 then (impl_filterImage.l0 k y406 (wrap64 (a0_0 * a0_2)) (List.replicate (wrap64 (a0_0 * a0_2) : Int).toNat 0) a0_1 0 a0_0 a0_1 a0_2 l0_3) else (none)) else (none)) = some r := rY hy406 H
 have Ny406 := aM hy406
 clear hy406
 obtain ⟨ji2, hji2⟩ : ∃ j_ : Int, (wrap64 (a0_0 * a0_2)) = j_ := ⟨_, rfl⟩
 replace H : (if 0 ≤ (ji2) then (if (ji2 : Int).toNat ≤ 35184372088832 then (impl_filterImage.l0 k y406 ji2 (List.replicate (ji2 : Int).toNat 0) a0_1 0 a0_0 a0_1 a0_2 l0_3) else (none)) else (none)) = some r := by first | (rw [hji2] at H; exact H) | (simp only [hji2] at H ⊢; exact H)
 have hji2w : (IntKind.i64.wrap (a0_0 * a0_2)) = ji2 := (i64_w _).trans hji2
 by_cases c3 : 0 ≤ (ji2)
 rotate_left
 ·
  rw [if_neg c3] at H
  exact absurd H (by simp)
 rw [if_pos c3] at H
 have c3b0 := eq_true c3
 have c3b1 : decide (0 ≤ (ji2)) = true := decide_eq_true c3
 clear c3
 by_cases c4 : (ji2 : Int).toNat ≤ 35184372088832
 rotate_left
 ·
  rw [if_neg c4] at H
  exact absurd H (by simp)
 rw [if_pos c4] at H
 have c4b0 := eq_true c4
 have c4b1 : decide ((ji2 : Int).toNat ≤ 35184372088832) = true := decide_eq_true c4
 clear c4
 obtain ⟨y409, hy409⟩ : ∃ y_ : List Int, y_ = (List.replicate (ji2 : Int).toNat 0) := ⟨_, rfl⟩
 replace H : (impl_filterImage.l0 k y406 ji2 y409 a0_1 0 a0_0 a0_1 a0_2 l0_3) = some r := rY hy409 H
 have Ny409 := aM hy409
 clear hy409
 have H' := aM H
 clear H
 go_enter Try.func56, Try.ntmps56
 go_wp2_with (first | ((with_reducible refine gate_dst (N := 1) rfl ?_); refine box_event ?hg (N := 1) ?hd (cs := #[.int .i64 a0_0, .int .i64 a0_1, .int .i64 a0_2, .slice A0_3 l0_3.length c0_3]) (t := 24) ?hr ?_; (case hd => rfl); (case hg => rfl); (case hr => first | (go_simp; done) | (go_simp; rfl)); intro gb405 hg w5 hbox hb; replace HO0_3 := aM (Kd.V_below (Kd.V_elderB (by (with_reducible repeat (first | apply Kd.V_alloc | apply Kd.V_drewN | apply Kd.V_drew)); exact HO0_3.out) gb405 (Nat.le_of_eq hg.symm)) hb); have BK405 := aM (hbox); have GW405 := aM ((by rw [hg]; exact (below_size (qW HB.out)) : w.heap.size ≤ gb405)); have GE405 := aM ((by rw [hg]; exact (below_size (qW HB.out)) : w.heap.size ≤ gb405)); replace HB := aM (below_step (qW HB.out) hb); clear hb hbox hg) | ((with_reducible refine gate_dst (N := 9) rfl ?_); refine Kd.R_lit (Kd.int .i64) _ 3 ?hg (N := 9) ?hd (xs := ([] : List Int)) (inner := []) (ok := fun _ => True) (okp := fun _ => True) ?hr ?hp (fun _ hk => hk) trivial (Below.refl _ _) (Nat.le_refl _) (by simp) ?_; (case hd => rfl); (case hg => rfl); (case hr => first | (go_simp; done) | (go_simp; rfl)); (case hp => exact (Reps.none _ _)); intro v407 w6 ho7 hb hg_ hnew_; clear hg_ hnew_; (first | rw [← Ny406.out] at ho7 | (simp only [Int.reduceToNat] at ho7; rw [← Ny406.out] at ho7)); replace HO0_3 := aM (Kd.V_elder' (by (with_reducible repeat (first | apply Kd.V_alloc | apply Kd.V_drewN | apply Kd.V_drew)); exact HO0_3.out) (Kd.R_base ho7) hb); have HO408 := aM (Kd.R_lower (Kd.R_newM (M := fun k_ => (w.heap.size ≤ k_)) ho7 (below_size (qW HB.out)) (fun k_ h_ => h_)) (below_size (qW HB.out))); replace BK405 := bB BK405 hb; replace HB := aM (below_step (qW HB.out) hb); clear hb ho7; obtain ⟨hcz8_0, hcz8_1, hcz8_2, hcz8_3⟩ := cz4 BK405.out; obtain ⟨hfz8_0, hfz8_1, hfz8_2, hfz8_3⟩ := fz4 BK405.out) | ((with_reducible refine gate_dst (N := 16) rfl ?_); refine Kd.R_make (Kd.int .i64) _ 3 rfl (N := 16) rfl 22 _ _ rfl ji2 rfl rfl Try.underlying22 (.int .i64 0) 8 info3 rfl (by decide) (by omega) 0 (ok := fun _ => True) (okp := fun _ => True) rfl (fun _ hk => hk) trivial oD (Nat.le_trans (Nat.mul_le_mul_right _ (oD : ji2.toNat ≤ 35184372088832)) (by omega)) (Below.refl _ _) (Nat.le_refl _) ?_; intro v410 w9 ho10 hb hg_ hnew_; clear hg_ hnew_; (first | rw [← Ny409.out] at ho10 | (simp only [Int.reduceToNat] at ho10; rw [← Ny409.out] at ho10)); replace HO0_3 := aM (Kd.V_elder' (by (with_reducible repeat (first | apply Kd.V_alloc | apply Kd.V_drewN | apply Kd.V_drew)); exact HO0_3.out) (Kd.R_base ho10) hb); have HO411 := aM (Kd.R_lower (Kd.R_new' (Kd.R_newM (M := fun k_ => (w.heap.size ≤ k_)) ho10 (below_size (qW HB.out)) (fun k_ h_ => h_)) (Kd.R_lt (qR HO408.out))) (below_size (qW HB.out))); replace HO408 := aM (Kd.R_elder' (qR HO408.out) (Kd.R_base ho10) hb); replace BK405 := bB BK405 hb; replace HB := aM (below_step (qW HB.out) hb); clear hb ho10; obtain ⟨hcz11_0, hcz11_1, hcz11_2, hcz11_3⟩ := cz4 BK405.out; obtain ⟨hfz11_0, hfz11_1, hfz11_2, hfz11_3⟩ := fz4 BK405.out))
 go_loopg [3, 5, 19] k (fun kq v3 v5 v19 w' => ∃ (x3_1 : List Int) (x5_1 : List Int) (x19_1 : Int), v19 = .int .i64 x19_1 ∧ Aside0 (impl_filterImage.l0 kq x3_1 ji2 x5_1 a0_1 x19_1 a0_0 a0_1 a0_2 l0_3 = some r) ∧ Aside0 (kq ≤ k) ∧ Aside0 (Kd.R (Kd.int .i64) 3 w' w.heap.size (fun k_ => (w.heap.size ≤ k_)) v3 x3_1) ∧ Aside0 (Kd.V (Kd.int .i64) 3 w' w.heap.size (fun k_ => (P0_3_ k_ ∨ w.heap.size ≤ k_) ∧ some k_ ≠ (v3 : Value).ownBlock ∧ k_ ≠ gb405) v5 x5_1) ∧ Aside0 (Kd.V (Kd.int .i64) 3 w' w.heap.size (fun k_ => (P0_3_ k_ ∨ w.heap.size ≤ k_) ∧ some k_ ≠ (v3 : Value).ownBlock ∧ k_ ≠ gb405) (.slice A0_3 l0_3.length c0_3) l0_3) ∧ Aside0 (w'.heap[gb405]? = some (.cells #[.int .i64 a0_0, .int .i64 a0_1, .int .i64 a0_2, (.slice A0_3 l0_3.length c0_3)] 24 (0, 0))) ∧ Aside0 (Below w.heap.size w w'))
 case atStart => exact ⟨(y406), (y409), (0), qE, H', ⟨Nat.le_refl _⟩, ⟨by refine qR ?_; exact Kd.R_mono HO408.out (fun _ hk => hk.1.1)⟩, ⟨Kd.R_V (by refine qR ?_; exact Kd.R_mono (Kd.R_types HO411.out BK405.out (by decide)) (fun _ hk => ⟨.inr hk.1.1.1, ⟨hk.1.2, hk.2⟩⟩))⟩, ⟨by (with_reducible repeat (first | apply Kd.V_alloc | apply Kd.V_drewN | apply Kd.V_drew)); exact Kd.V_mono HO0_3.out (fun _ hk => ⟨hk.1.1.1, ⟨hk.1.2, hk.1.1.2⟩⟩)⟩, ⟨by refine qB ?_; exact BK405.out⟩, ⟨by exact qW HB.out⟩⟩
 case round =>
  clear H'
  try clear p2
  try clear c3
  try clear c3b0
  try clear c3b1
  try clear c4
  try clear c4b0
  try clear c4b1
  try clear c5
  try clear p6
  try clear hcz11_0 hcz11_1 hcz11_2 hcz11_3 hfz11_0 hfz11_1 hfz11_2 hfz11_3
  try clear hcz8_0 hcz8_1 hcz8_2 hcz8_3 hfz8_0 hfz8_1 hfz8_2 hfz8_3
  obtain ⟨x3_1, x5_1, x19_1, rfl, HA, HK1, HO_3, HO_5, HO_406003, BK405, HB⟩ := hrel
  cases gk with
  | zero => exact absurd HA.out (by simp [impl_filterImage.l0])
  | succ k1 =>
   have H := HA.out
   clear HA
   simp only [impl_filterImage.l0] at H
   by_cases c12 : x19_1 < a0_1
   rotate_left
   ·
    rw [if_neg c12] at H
    have c12b0 : decide (x19_1 < a0_1) = false := decide_eq_false c12
    clear c12
    obtain rfl := Option.some.inj H
    go_wp2
    go_ret
    exact ⟨_, by first | rfl | (simp [errW_none, errW_some] <;> rfl) | (simp only [← hji2]; first | rfl | (simp [errW_none, errW_some] <;> rfl)) | (simp [*, errW_none, errW_some] <;> rfl), by refine qR ?_; exact HO_3.out, by exact qW HB.out⟩
   rw [if_pos c12] at H
   have c12b0 : decide (x19_1 < a0_1) = true := decide_eq_true c12
   clear c12
   obtain ⟨ji13, hji13⟩ : ∃ j_ : Int, (wrap64 (x19_1 * ji2)) = j_ := ⟨_, rfl⟩
   replace H : (if 0 ≤ (ji13) then (if (ji13) ≤ (wrap64 ((wrap64 (x19_1 + 1)) * ji2)) then (if (wrap64 ((wrap64 (x19_1 + 1)) * ji2)) ≤ (l0_3.length : Int) then ((some ((l0_3.take ((wrap64 ((wrap64 (x19_1 + 1)) * ji2)) : Int).toNat).drop ((ji13) : Int).toNat : List Int)).bind fun y412 => ((impl_bestFilter.f k1 y412 x5_1 a0_2).bind fun t417 => (if x3_1.length < 17592186044416 then ((some (x3_1 ++ [t417] : List Int)).bind fun y418 => ((impl_filterRow.f k1 t417 y412 x5_1 a0_2).bind fun t421 => (if y418.length + t421.length < 17592186044416 then (impl_filterImage.l0 k1 (y418 ++ t421) ji2 y412 a0_1 (wrap64 (x19_1 + 1)) a0_0 a0_1 a0_2 l0_3) else (none)))) else (none)))) else (none)) else (none)) else (none)) = some r := by first | (rw [hji13] at H; exact H) | (simp only [hji13] at H ⊢; exact H)
   have hji13w : (IntKind.i64.wrap (x19_1 * ji2)) = ji13 := (i64_w _).trans hji13
   by_cases c14 : 0 ≤ (ji13)
   rotate_left
   ·
    rw [if_neg c14] at H
    exact absurd H (by simp)
   rw [if_pos c14] at H
   have c14b0 := eq_true c14
   have c14b1 : decide (0 ≤ (ji13)) = true := decide_eq_true c14
   clear c14
   by_cases c15 : (ji13) ≤ (wrap64 ((wrap64 (x19_1 + 1)) * ji2))
   rotate_left
   ·
    rw [if_neg c15] at H
    exact absurd H (by simp)
   rw [if_pos c15] at H
   have c15b0 := eq_true c15
   have c15b1 : decide ((ji13) ≤ (wrap64 ((wrap64 (x19_1 + 1)) * ji2))) = true := decide_eq_true c15
   by_cases c16 : (wrap64 ((wrap64 (x19_1 + 1)) * ji2)) ≤ (l0_3.length : Int)
   rotate_left
   ·
    rw [if_neg c16] at H
    exact absurd H (by simp)
   rw [if_pos c16] at H
   have c16b0 := eq_true c16
   have c16b1 : decide ((wrap64 ((wrap64 (x19_1 + 1)) * ji2)) ≤ (l0_3.length : Int)) = true := decide_eq_true c16
   obtain ⟨y412, hy412⟩ : ∃ y_ : List Int, y_ = ((l0_3.take ((wrap64 ((wrap64 (x19_1 + 1)) * ji2)) : Int).toNat).drop ((ji13) : Int).toNat) := ⟨_, rfl⟩
   replace H : ((impl_bestFilter.f k1 y412 x5_1 a0_2).bind fun t417 => (if x3_1.length < 17592186044416 then ((some (x3_1 ++ [t417] : List Int)).bind fun y418 => ((impl_filterRow.f k1 t417 y412 x5_1 a0_2).bind fun t421 => (if y418.length + t421.length < 17592186044416 then (impl_filterImage.l0 k1 (y418 ++ t421) ji2 y412 a0_1 (wrap64 (x19_1 + 1)) a0_0 a0_1 a0_2 l0_3) else (none)))) else (none))) = some r := rY hy412 H
   have Ny412 := aM hy412
   clear hy412
   replace H := Option.bind_eq_some_iff.mp H
   obtain ⟨t417, A170, H⟩ := H
   replace H : (if x3_1.length < 17592186044416 then ((some (x3_1 ++ [t417] : List Int)).bind fun y418 => ((impl_filterRow.f k1 t417 y412 x5_1 a0_2).bind fun t421 => (if y418.length + t421.length < 17592186044416 then (impl_filterImage.l0 k1 (y418 ++ t421) ji2 y412 a0_1 (wrap64 (x19_1 + 1)) a0_0 a0_1 a0_2 l0_3) else (none)))) else (none)) = some r := H
   have A17 := aM A170
   clear A170
   by_cases c18 : x3_1.length < 17592186044416
   rotate_left
   ·
    rw [if_neg c18] at H
    exact absurd H (by simp)
   rw [if_pos c18] at H
   have LMc18 := aM c18
   clear c18
   obtain ⟨y418, hy418⟩ : ∃ y_ : List Int, y_ = (x3_1 ++ [t417]) := ⟨_, rfl⟩
   replace H : ((impl_filterRow.f k1 t417 y412 x5_1 a0_2).bind fun t421 => (if y418.length + t421.length < 17592186044416 then (impl_filterImage.l0 k1 (y418 ++ t421) ji2 y412 a0_1 (wrap64 (x19_1 + 1)) a0_0 a0_1 a0_2 l0_3) else (none))) = some r := rY hy418 H
   have Ny418 := aM hy418
   clear hy418
   replace H := Option.bind_eq_some_iff.mp H
   obtain ⟨t421, A190, H⟩ := H
   replace H : (if y418.length + t421.length < 17592186044416 then (impl_filterImage.l0 k1 (y418 ++ t421) ji2 y412 a0_1 (wrap64 (x19_1 + 1)) a0_0 a0_1 a0_2 l0_3) else (none)) = some r := H
   have A19 := aM A190
   clear A190
   by_cases c20 : y418.length + t421.length < 17592186044416
   rotate_left
   ·
    rw [if_neg c20] at H
    exact absurd H (by simp)
   rw [if_pos c20] at H
   have LMc20 := aM c20
   clear c20
   obtain ⟨y424, hy424⟩ : ∃ y_ : List Int, y_ = (y418 ++ t421) := ⟨_, rfl⟩
   replace H : (impl_filterImage.l0 k1 y424 ji2 y412 a0_1 (wrap64 (x19_1 + 1)) a0_0 a0_1 a0_2 l0_3) = some r := rY hy424 H
   have Ny424 := aM hy424
   clear hy424
   have H' := aM H
   clear H
   obtain ⟨hcz21_0, hcz21_1, hcz21_2, hcz21_3⟩ := cz4 BK405.out
   obtain ⟨hfz21_0, hfz21_1, hfz21_2, hfz21_3⟩ := fz4 BK405.out
   have q22 : ((wrap64 ((wrap64 (x19_1 + 1)) * ji2)) : Int) ≤ ((l0_3.length : Int) : Int) := oD
   obtain ⟨i022, hi022, _, hsz22, _⟩ := info_parts info3
   have hroom22 : l0_3.length ≤ c0_3 := (Kd.V_reads' HO_406003.out).2.1
   have hC22 : Kd.F (Kd.int .i64) _ _ A0_3 l0_3.length l0_3 := (Kd.V_at (base := w.heap.size) HO_406003.out).2.2
   have ql22 : ((ji13) : Int) ≤ ((wrap64 ((wrap64 (x19_1 + 1)) * ji2)) : Int) := oD
   have q022 : (0 : Int) ≤ ((ji13) : Int) := oD
   have hcut22 := cut_mid (P := Try.prog) 22 3 .i64 .i64 Try.underlying22 hi022 1 hsz22 A0_3 l0_3.length c0_3 (ji13) (wrap64 ((wrap64 (x19_1 + 1)) * ji2)) q022 ql22 q22 hroom22
   have hr22 := Kd.F_mid (lo := ((ji13) : Int).toNat) (hi := ((wrap64 ((wrap64 (x19_1 + 1)) * ji2)) : Int).toNat) (c := c0_3) hC22 (by omega) (by omega) hroom22
   obtain ⟨A22, hA22⟩ : ∃ A1, A1 = (if c0_3 = ((ji13) : Int).toNat then A0_3 else (A0_3 : Option Addr).map (·.add (((ji13) : Int).toNat * 1))) := ⟨_, rfl⟩
   obtain ⟨c22, hc22⟩ : ∃ c1, c1 = c0_3 - ((ji13) : Int).toNat := ⟨_, rfl⟩
   have hy22 : y412.length = ((wrap64 ((wrap64 (x19_1 + 1)) * ji2)) : Int).toNat - ((ji13) : Int).toNat := (by rw [Ny412.out, List.length_drop, List.length_take] <;> omega)
   rw [show ((l0_3).take ((wrap64 ((wrap64 (x19_1 + 1)) * ji2)) : Int).toNat).drop ((ji13) : Int).toNat = y412 from Ny412.out.symm] at hr22
   replace hr22 : Kd.F (Kd.int .i64) _ _ A22 y412.length y412 := (by rw [hA22]; exact hr22)
   rw [← hy22, ← hA22, ← hc22] at hcut22
   have HO416 := aM (show Kd.V (Kd.int .i64) 3 _ w.heap.size _ (.slice A22 y412.length c22) y412 from Kd.V_mk (by rw [hy22, hc22]; exact Nat.sub_le_sub_right (Nat.le_trans (by omega) hroom22) _) hr22)
   have HC416 := aM (show y412.length ≤ c22 from by rw [hy22, hc22]; exact Nat.sub_le_sub_right (Nat.le_trans (by omega) hroom22) _)
   clear hr22 hC22 hroom22 hi022 hsz22 hc22
   have KY22 := aM hy22
   have KA22 := aM hA22
   clear hy22 hA22
   replace q22 := eq_true q22
   obtain ⟨Ao23, co23, eo23⟩ := Kd.V_slice HO_5.out
   subst eo23
   go_wp2_with (first | ((with_reducible refine gate_callee (f := 78) rfl ?_); refine goesL_ (some 36) rfl rfl Try.func78 (by kernel_rfl) rfl #[.slice A22 y412.length c22, .slice Ao23 x5_1.length co23, .int .i64 a0_2] rfl qM ?_; (with_reducible refine (impl_bestFilter.calls k1 _ _ y412 _ _ x5_1 a0_2 t417 _ ?side1 ?side2 ?side3 ?side4 A17.out).mono ?_); (case side1 => exact qC (Kd.V_reads' HO416.out).2.2); (case side2 => exact (Kd.V_reads' HO416.out).2.1); (case side3 => exact qC (Kd.V_reads' HO_5.out).2.2); (case side4 => exact (Kd.V_reads' HO_5.out).2.1); rintro e w24 ⟨rfl, hb⟩; refine ⟨_, rfl, ?_⟩; replace HO_3 := aM (Kd.R_below (qR HO_3.out) hb); replace HO_5 := aM (Kd.V_below (by (with_reducible repeat (first | apply Kd.V_alloc | apply Kd.V_drewN | apply Kd.V_drew)); exact HO_5.out) hb); replace HO_406003 := aM (Kd.V_below (by (with_reducible repeat (first | apply Kd.V_alloc | apply Kd.V_drewN | apply Kd.V_drew)); exact HO_406003.out) hb); replace HO416 := aM (Kd.V_below (by (with_reducible repeat (first | apply Kd.V_alloc | apply Kd.V_drewN | apply Kd.V_drew)); exact HO416.out) hb); replace BK405 := bB BK405 hb; replace HB := aM (below_step (qW HB.out) hb); (try clear hb); (try clear hb2); (try clear hk); (try clear hi)) | ((with_reducible refine gate_builtin (b := .append) (xs := #[.tmp 37, .tmp 39]) rfl ?_); at_builtin; refine Kd.R_append (Kd.int .i64) (w0 := w) w.heap.size rfl (.tmp 37) (.tmp 39) 22 3 (.int .i64 0) 8 rfl Try.underlying22 info3 rfl (by decide) (by omega) u3 x3_1 t417 [.int .i64 t417] (fun k_ => (w.heap.size ≤ k_)) (fun _ => False) rfl rfl ?aP (fun _ hk => hk.elim) ?aF ?aO ?aB ?aS ?aL ?_; (case aP => exact rfl); (case aB => exact (qW HB.out)); (case aF => exact (fun k_ hk => (Nat.le_trans (below_size (qW HB.out)) hk))); (case aO => exact (qR HO_3.out)); (case aS => exact (below_size (qW HB.out))); (case aL => have := LMc18.out; omega); intro v419 w25 ho hb hg hat; rw [← Ny418.out] at ho; replace HO_5 := aM (Kd.V_afterv (ok := (fun k_ => (P0_3_ k_ ∨ w.heap.size ≤ k_) ∧ k_ ≠ gb405)) (by (with_reducible repeat (first | apply Kd.V_alloc | apply Kd.V_drewN | apply Kd.V_drew)); exact Kd.V_mono HO_5.out (fun _ hk => ⟨⟨hk.1, hk.2.2⟩, hk.2.1⟩)) hg hat); replace HO_406003 := aM (Kd.V_afterv (ok := (fun k_ => (P0_3_ k_ ∨ w.heap.size ≤ k_) ∧ k_ ≠ gb405)) (by (with_reducible repeat (first | apply Kd.V_alloc | apply Kd.V_drewN | apply Kd.V_drew)); exact Kd.V_mono HO_406003.out (fun _ hk => ⟨⟨hk.1, hk.2.2⟩, hk.2.1⟩)) hg hat); replace BK405 := aM (blk_grown (g := gb405) (o := .cells #[.int .i64 a0_0, .int .i64 a0_1, .int .i64 a0_2, .slice A0_3 l0_3.length c0_3] 24 (0, 0)) (qB BK405.out) hg (Kd.R_ne HO_3.out BK405.out (by decide))); replace HO416 := aM (Kd.V_afterv (ok := (fun k_ => (P0_3_ k_ ∨ w.heap.size ≤ k_) ∧ k_ ≠ gb405)) (by (with_reducible repeat (first | apply Kd.V_alloc | apply Kd.V_drewN | apply Kd.V_drew)); exact Kd.V_mono HO416.out (fun _ hk => ⟨⟨hk.1, hk.2.2⟩, hk.2.1⟩)) hg hat); replace HB := aM (hb); have HO420 := aM (ho); clear HO_3; clear ho hb hg hat; obtain ⟨hcz26_0, hcz26_1, hcz26_2, hcz26_3⟩ := cz4 BK405.out; obtain ⟨hfz26_0, hfz26_1, hfz26_2, hfz26_3⟩ := fz4 BK405.out) | ((with_reducible refine gate_callee (f := 79) rfl ?_); refine goesL_ (some 47) rfl rfl Try.func79 (by kernel_rfl) rfl #[.int .i64 t417, .slice A22 y412.length c22, .slice Ao23 x5_1.length co23, .int .i64 a0_2] rfl qM ?_; (with_reducible refine (impl_filterRow.calls k1 t417 _ _ y412 _ _ x5_1 a0_2 t421 _ ?side1 ?side2 ?side3 ?side4 A19.out).mono ?_); (case side1 => exact qC (Kd.V_reads' HO416.out).2.2); (case side2 => exact (Kd.V_reads' HO416.out).2.1); (case side3 => exact qC (Kd.V_reads' HO_5.out).2.2); (case side4 => exact (Kd.V_reads' HO_5.out).2.1); rintro e w27 ⟨v422, rfl, ho0, hb⟩; refine ⟨_, rfl, ?_⟩; replace HO_5 := aM (Kd.V_elder' (by (with_reducible repeat (first | apply Kd.V_alloc | apply Kd.V_drewN | apply Kd.V_drew)); exact HO_5.out) (Kd.R_base ho0) hb); replace HO_406003 := aM (Kd.V_elder' (by (with_reducible repeat (first | apply Kd.V_alloc | apply Kd.V_drewN | apply Kd.V_drew)); exact HO_406003.out) (Kd.R_base ho0) hb); replace HO416 := aM (Kd.V_elder' (by (with_reducible repeat (first | apply Kd.V_alloc | apply Kd.V_drewN | apply Kd.V_drew)); exact HO416.out) (Kd.R_base ho0) hb); have HO423 := aM (Kd.R_lower (Kd.R_new' (Kd.R_newM (M := fun k_ => (w.heap.size ≤ k_)) ho0 (below_size (qW HB.out)) (fun k_ h_ => h_)) (Kd.R_lt (qR HO420.out))) (below_size (qW HB.out))); replace HO420 := aM (Kd.R_elder' (qR HO420.out) (Kd.R_base ho0) hb); replace BK405 := bB BK405 hb; replace HB := aM (below_step (qW HB.out) hb); (try clear hb); (try clear hb2); (try clear hk); (try clear hi); (try clear ho0); obtain ⟨Ao29, co29, eo29⟩ := Kd.R_slice HO423.out; subst eo29) | ((with_reducible refine gate_builtin (b := .append) (xs := #[.tmp 41, .tmp 47]) rfl ?_); at_builtin; refine Kd.R_append_rows (Kd.int .i64) (w0 := w) w.heap.size rfl (.tmp 41) (.tmp 47) 22 3 (.int .i64 0) 8 rfl Try.underlying22 info3 rfl (by decide) (by omega) v419 y418 t421 _ _ _ (fun k_ => (w.heap.size ≤ k_) ∧ some k_ ≠ (.slice Ao29 t421.length co29 : Value).ownBlock) (fun _ => False) rfl rfl ?aO ?aR (fun _ _ h => h) (fun _ h => h.elim) ?aF ?aB ?aS ?aL ?_; (case aR => exact qC (Kd.R_reads' HO423.out).2.2); (case aB => exact (qW HB.out)); (case aF => exact (fun k_ hk => ⟨(Nat.le_trans (below_size (qW HB.out)) hk), Kd.fresh' (Kd.R_lt (qR HO423.out)) k_ hk⟩)); (case aO => exact (qR HO420.out)); (case aS => exact (below_size (qW HB.out))); (case aL => have := LMc20.out; omega); intro v425 w28 ho hb hg hat; rw [← Ny424.out] at ho; replace HO_5 := aM (Kd.V_afterv (ok := (fun k_ => (P0_3_ k_ ∨ w.heap.size ≤ k_) ∧ some k_ ≠ (.slice Ao29 t421.length co29 : Value).ownBlock ∧ k_ ≠ gb405)) (by (with_reducible repeat (first | apply Kd.V_alloc | apply Kd.V_drewN | apply Kd.V_drew)); exact Kd.V_mono HO_5.out (fun _ hk => ⟨⟨hk.1.1.1, ⟨hk.2, hk.1.1.2⟩⟩, hk.1.2⟩)) hg hat); replace HO_406003 := aM (Kd.V_afterv (ok := (fun k_ => (P0_3_ k_ ∨ w.heap.size ≤ k_) ∧ some k_ ≠ (.slice Ao29 t421.length co29 : Value).ownBlock ∧ k_ ≠ gb405)) (by (with_reducible repeat (first | apply Kd.V_alloc | apply Kd.V_drewN | apply Kd.V_drew)); exact Kd.V_mono HO_406003.out (fun _ hk => ⟨⟨hk.1.1.1, ⟨hk.2, hk.1.1.2⟩⟩, hk.1.2⟩)) hg hat); replace BK405 := aM (blk_grown (g := gb405) (o := .cells #[.int .i64 a0_0, .int .i64 a0_1, .int .i64 a0_2, .slice A0_3 l0_3.length c0_3] 24 (0, 0)) (qB BK405.out) hg (Kd.R_ne HO420.out BK405.out (by decide))); replace HO416 := aM (Kd.V_afterv (ok := (fun k_ => (P0_3_ k_ ∨ w.heap.size ≤ k_) ∧ some k_ ≠ (.slice Ao29 t421.length co29 : Value).ownBlock ∧ k_ ≠ gb405)) (by (with_reducible repeat (first | apply Kd.V_alloc | apply Kd.V_drewN | apply Kd.V_drew)); exact Kd.V_mono HO416.out (fun _ hk => ⟨⟨hk.1.1.1, ⟨hk.2, hk.1.1.2⟩⟩, hk.1.2⟩)) hg hat); replace HO423 := aM (Kd.R_after (ok := (fun k_ => (w.heap.size ≤ k_))) (by refine qR ?_; exact Kd.R_mono HO423.out (fun _ hk => ⟨hk.1.1, hk.2⟩)) hg hat); replace HB := aM (hb); have HO426 := aM (ho); clear HO420; clear ho hb hg hat))
   go_roundg k1
   case measure => have := HK1.out; omega
   case rel => exact ⟨(y424), (y412), (wrap64 (x19_1 + 1)), qE, H', ⟨by have := HK1.out; omega⟩, ⟨by refine qR ?_; exact Kd.R_mono HO426.out (fun _ hk => hk.1)⟩, ⟨by (with_reducible repeat (first | apply Kd.V_alloc | apply Kd.V_drewN | apply Kd.V_drew)); exact Kd.V_mono HO416.out (fun _ hk => ⟨hk.1.1, ⟨hk.2, hk.1.2.2⟩⟩)⟩, ⟨by (with_reducible repeat (first | apply Kd.V_alloc | apply Kd.V_drewN | apply Kd.V_drew)); exact Kd.V_mono HO_406003.out (fun _ hk => ⟨hk.1.1, ⟨hk.2, hk.1.2.2⟩⟩)⟩, ⟨by refine qB ?_; exact BK405.out⟩, ⟨by exact qW HB.out⟩⟩

/-! ### spec_FilterImage: function 25 -/
def spec_FilterImage.f (k : Nat) (a0_0 : Int) (a0_1 : Int) (a0_2 : Int) (l0_3 : List Int) : Option (List Int) := (spec_validImage.f k a0_0 a0_1 a0_2 l0_3).bind fun t831 => (if t831 = true then ((spec_filterImage.f k a0_0 a0_1 a0_2 l0_3).bind fun t832 => (some t832)) else (some ([] : List Int)))
theorem spec_FilterImage.mono : ∀ a0 a1 a2 a3 k, LeO (spec_FilterImage.f k a0 a1 a2 a3) (spec_FilterImage.f (k + 1) a0 a1 a2 a3) := by
 intro a0 a1 a2 a3 k
 unfold spec_FilterImage.f
 repeat' first
   | (with_reducible exact spec_filterImage.mono _ _ _ _ _)
   | (with_reducible exact spec_validImage.mono _ _ _ _ _)
   | (with_reducible exact LeO.refl _)
   | (with_reducible exact LeO.none _)
   | (with_reducible refine LeO.ite ?_ ?_)
   | (with_reducible refine LeO.bind ?_ (fun _ => ?_))
   | exact spec_filterImage.mono _ _ _ _ _
   | exact spec_validImage.mono _ _ _ _ _
   | exact LeO.none _
   | refine LeO.ite ?_ ?_
   | refine LeO.bind ?_ (fun _ => ?_)
set_option maxHeartbeats 8000000 in
set_option maxRecDepth 100000 in
theorem spec_FilterImage.calls (k : Nat) (a0_0 : Int) (a0_1 : Int) (a0_2 : Int) (A0_3 : Option Addr) (c0_3 : Nat) (l0_3 : List Int) (r : List Int) (w : World) (hr0_3 : Kd.C (Kd.int .i64) w A0_3 l0_3.length l0_3) (hc0_3 : l0_3.length ≤ c0_3) (h : spec_FilterImage.f k a0_0 a0_1 a0_2 l0_3 = some r) :
  Calls Try.prog 25 #[.agg #[.int .i64 a0_0, .int .i64 a0_1, .int .i64 a0_2, .slice A0_3 l0_3.length c0_3]] w fun e w' => ∃ v0_ : Value, e = .returned (v0_) ∧ Kd.R (Kd.int .i64) 3 w' w.heap.size (fun _ => True) v0_ r ∧ Below w.heap.size w w' := by
 have hu24 := Try.underlying24
 have HR0_3 := aM hr0_3
 have HC0_3 := aM hc0_3
 clear hr0_3 hc0_3
 have HB := aM (Below.refl w.heap.size w)
 have H : ((spec_validImage.f k a0_0 a0_1 a0_2 l0_3).bind fun t831 => (if t831 = true then ((spec_filterImage.f k a0_0 a0_1 a0_2 l0_3).bind fun t832 => (some t832)) else (some ([] : List Int)))) = some r := h
 clear h
 replace H := Option.bind_eq_some_iff.mp H
 obtain ⟨t831, A20, H⟩ := H
 replace H : (if t831 = true then ((spec_filterImage.f k a0_0 a0_1 a0_2 l0_3).bind fun t832 => (some t832)) else (some ([] : List Int))) = some r := H
 have A2 := aM A20
 clear A20
 by_cases c3 : t831 = true
 rotate_left
 ·
  replace c3 := Bool.eq_false_iff.mpr c3
  subst c3
  have H1 : (some ([] : List Int)) = some r := by rw [if_neg (show ¬ (false = true) by decide)] at H; exact H
  clear H
  have H := H1
  clear H1
  obtain rfl := Option.some.inj H
  go_enter Try.func25, Try.ntmps25
  go_wp2_with (first | ((with_reducible refine gate_dst (N := 1) rfl ?_); refine box_event ?hg (N := 1) ?hd (cs := #[.int .i64 a0_0, .int .i64 a0_1, .int .i64 a0_2, .slice A0_3 l0_3.length c0_3]) (t := 24) ?hr ?_; (case hd => rfl); (case hg => rfl); (case hr => first | (go_simp; done) | (go_simp; rfl)); intro gb830 hg w10 hbox hb; have BK830 := aM (hbox); have GW830 := aM ((by rw [hg]; exact (below_size (qW HB.out)) : w.heap.size ≤ gb830)); have GE830 := aM ((by rw [hg]; exact (below_size (qW HB.out)) : w.heap.size ≤ gb830)); replace HB := aM (below_step (qW HB.out) hb); clear hb hbox hg; obtain ⟨hcz11_0, hcz11_1, hcz11_2, hcz11_3⟩ := cz4 BK830.out; obtain ⟨hfz11_0, hfz11_1, hfz11_2, hfz11_3⟩ := fz4 BK830.out) | ((with_reducible refine gate_callee (f := 54) rfl ?_); refine goesL_ (some 4) rfl rfl Try.func54 (by kernel_rfl) rfl #[.agg #[.int .i64 a0_0, .int .i64 a0_1, .int .i64 a0_2, .slice A0_3 l0_3.length c0_3]] rfl qM ?_; (with_reducible refine (spec_validImage.calls k a0_0 a0_1 a0_2 _ _ l0_3 false _ ?side1 ?side2 A2.out).mono ?_); (case side1 => exact qC (Kd.C_below HR0_3.out HB.out)); (case side2 => exact HC0_3.out); rintro e w12 ⟨rfl, hb⟩; refine ⟨_, rfl, ?_⟩; replace BK830 := bB BK830 hb; replace HB := aM (below_step (qW HB.out) hb); (try clear hb); (try clear hb2); (try clear hk); (try clear hi)))
  go_ret
  exact ⟨_, qX, qN, by exact qW HB.out⟩
 subst c3
 have H1 : ((spec_filterImage.f k a0_0 a0_1 a0_2 l0_3).bind fun t832 => (some t832)) = some r := by rw [if_pos rfl] at H; exact H
 clear H
 have H := H1
 clear H1
 replace H := Option.bind_eq_some_iff.mp H
 obtain ⟨t832, A40, H⟩ := H
 replace H : (some t832) = some r := H
 have A4 := aM A40
 clear A40
 obtain rfl := Option.some.inj H
 go_enter Try.func25, Try.ntmps25
 go_wp2_with (first | ((with_reducible refine gate_dst (N := 1) rfl ?_); refine box_event ?hg (N := 1) ?hd (cs := #[.int .i64 a0_0, .int .i64 a0_1, .int .i64 a0_2, .slice A0_3 l0_3.length c0_3]) (t := 24) ?hr ?_; (case hd => rfl); (case hg => rfl); (case hr => first | (go_simp; done) | (go_simp; rfl)); intro gb830 hg w5 hbox hb; have BK830 := aM (hbox); have GW830 := aM ((by rw [hg]; exact (below_size (qW HB.out)) : w.heap.size ≤ gb830)); have GE830 := aM ((by rw [hg]; exact (below_size (qW HB.out)) : w.heap.size ≤ gb830)); replace HB := aM (below_step (qW HB.out) hb); clear hb hbox hg; obtain ⟨hcz6_0, hcz6_1, hcz6_2, hcz6_3⟩ := cz4 BK830.out; obtain ⟨hfz6_0, hfz6_1, hfz6_2, hfz6_3⟩ := fz4 BK830.out) | ((with_reducible refine gate_callee (f := 54) rfl ?_); refine goesL_ (some 4) rfl rfl Try.func54 (by kernel_rfl) rfl #[.agg #[.int .i64 a0_0, .int .i64 a0_1, .int .i64 a0_2, .slice A0_3 l0_3.length c0_3]] rfl qM ?_; (with_reducible refine (spec_validImage.calls k a0_0 a0_1 a0_2 _ _ l0_3 true _ ?side1 ?side2 A2.out).mono ?_); (case side1 => exact qC (Kd.C_below HR0_3.out HB.out)); (case side2 => exact HC0_3.out); rintro e w7 ⟨rfl, hb⟩; refine ⟨_, rfl, ?_⟩; replace BK830 := bB BK830 hb; replace HB := aM (below_step (qW HB.out) hb); (try clear hb); (try clear hb2); (try clear hk); (try clear hi); obtain ⟨hcz8_0, hcz8_1, hcz8_2, hcz8_3⟩ := cz4 BK830.out; obtain ⟨hfz8_0, hfz8_1, hfz8_2, hfz8_3⟩ := fz4 BK830.out) | ((with_reducible refine gate_callee (f := 55) rfl ?_); refine goesL_ (some 7) rfl rfl Try.func55 (by kernel_rfl) rfl #[.agg #[.int .i64 a0_0, .int .i64 a0_1, .int .i64 a0_2, .slice A0_3 l0_3.length c0_3]] rfl qM ?_; (with_reducible refine (spec_filterImage.calls k a0_0 a0_1 a0_2 _ _ l0_3 t832 _ ?side1 ?side2 A4.out).mono ?_); (case side1 => exact qC (Kd.C_below HR0_3.out HB.out)); (case side2 => exact HC0_3.out); rintro e w9 ⟨v833, rfl, ho0, hb⟩; refine ⟨_, rfl, ?_⟩; have HO834 := aM (Kd.R_lower ho0 (below_size (qW HB.out))); replace BK830 := bB BK830 hb; replace HB := aM (below_step (qW HB.out) hb); (try clear hb); (try clear hb2); (try clear hk); (try clear hi); (try clear ho0)))
 go_ret
 exact ⟨_, qX, by refine qR ?_; exact HO834.out, by exact qW HB.out⟩

/-! ### impl_FilterImage: function 27 -/
def impl_FilterImage.f (k : Nat) (a0_0 : Int) (a0_1 : Int) (a0_2 : Int) (l0_3 : List Int) : Option (List Int) := (impl_isImage.f a0_0 a0_1 a0_2 l0_3).bind fun t842 => (if t842 = true then ((impl_filterImage.f k a0_0 a0_1 a0_2 l0_3).bind fun t843 => (some t843)) else (some ([] : List Int)))
theorem impl_FilterImage.mono : ∀ a0 a1 a2 a3 k, LeO (impl_FilterImage.f k a0 a1 a2 a3) (impl_FilterImage.f (k + 1) a0 a1 a2 a3) := by
 intro a0 a1 a2 a3 k
 unfold impl_FilterImage.f
 repeat' first
   | (with_reducible exact impl_filterImage.mono _ _ _ _ _)
   | (with_reducible exact LeO.refl _)
   | (with_reducible exact LeO.none _)
   | (with_reducible refine LeO.ite ?_ ?_)
   | (with_reducible refine LeO.bind ?_ (fun _ => ?_))
   | exact impl_filterImage.mono _ _ _ _ _
   | exact LeO.none _
   | refine LeO.ite ?_ ?_
   | refine LeO.bind ?_ (fun _ => ?_)
set_option maxHeartbeats 8000000 in
set_option maxRecDepth 100000 in
theorem impl_FilterImage.calls (k : Nat) (a0_0 : Int) (a0_1 : Int) (a0_2 : Int) (A0_3 : Option Addr) (c0_3 : Nat) (l0_3 : List Int) (r : List Int) (w : World) (hr0_3 : Kd.C (Kd.int .i64) w A0_3 l0_3.length l0_3) (hc0_3 : l0_3.length ≤ c0_3) (h : impl_FilterImage.f k a0_0 a0_1 a0_2 l0_3 = some r) :
  Calls Try.prog 27 #[.agg #[.int .i64 a0_0, .int .i64 a0_1, .int .i64 a0_2, .slice A0_3 l0_3.length c0_3]] w fun e w' => ∃ v0_ : Value, e = .returned (v0_) ∧ Kd.R (Kd.int .i64) 3 w' w.heap.size (fun _ => True) v0_ r ∧ Below w.heap.size w w' := by
 have hu24 := Try.underlying24
 have HR0_3 := aM hr0_3
 have HC0_3 := aM hc0_3
 clear hr0_3 hc0_3
 have HB := aM (Below.refl w.heap.size w)
 have H : ((impl_isImage.f a0_0 a0_1 a0_2 l0_3).bind fun t842 => (if t842 = true then ((impl_filterImage.f k a0_0 a0_1 a0_2 l0_3).bind fun t843 => (some t843)) else (some ([] : List Int)))) = some r := h
 clear h
 replace H := Option.bind_eq_some_iff.mp H
 obtain ⟨t842, A20, H⟩ := H
 replace H : (if t842 = true then ((impl_filterImage.f k a0_0 a0_1 a0_2 l0_3).bind fun t843 => (some t843)) else (some ([] : List Int))) = some r := H
 have A2 := aM A20
 clear A20
 by_cases c3 : t842 = true
 rotate_left
 ·
  replace c3 := Bool.eq_false_iff.mpr c3
  subst c3
  have H1 : (some ([] : List Int)) = some r := by rw [if_neg (show ¬ (false = true) by decide)] at H; exact H
  clear H
  have H := H1
  clear H1
  obtain rfl := Option.some.inj H
  go_enter Try.func27, Try.ntmps27
  go_wp2_with (first | ((with_reducible refine gate_dst (N := 1) rfl ?_); refine box_event ?hg (N := 1) ?hd (cs := #[.int .i64 a0_0, .int .i64 a0_1, .int .i64 a0_2, .slice A0_3 l0_3.length c0_3]) (t := 24) ?hr ?_; (case hd => rfl); (case hg => rfl); (case hr => first | (go_simp; done) | (go_simp; rfl)); intro gb841 hg w10 hbox hb; have BK841 := aM (hbox); have GW841 := aM ((by rw [hg]; exact (below_size (qW HB.out)) : w.heap.size ≤ gb841)); have GE841 := aM ((by rw [hg]; exact (below_size (qW HB.out)) : w.heap.size ≤ gb841)); replace HB := aM (below_step (qW HB.out) hb); clear hb hbox hg; obtain ⟨hcz11_0, hcz11_1, hcz11_2, hcz11_3⟩ := cz4 BK841.out; obtain ⟨hfz11_0, hfz11_1, hfz11_2, hfz11_3⟩ := fz4 BK841.out) | ((with_reducible refine gate_callee (f := 52) rfl ?_); refine goesL_ (some 4) rfl rfl Try.func52 (by kernel_rfl) rfl #[.agg #[.int .i64 a0_0, .int .i64 a0_1, .int .i64 a0_2, .slice A0_3 l0_3.length c0_3]] rfl qM ?_; (with_reducible refine (impl_isImage.calls a0_0 a0_1 a0_2 _ _ l0_3 false _ ?side1 ?side2 A2.out).mono ?_); (case side1 => exact qC (Kd.C_below HR0_3.out HB.out)); (case side2 => exact HC0_3.out); rintro e w12 ⟨rfl, hb⟩; refine ⟨_, rfl, ?_⟩; replace BK841 := bB BK841 hb; replace HB := aM (below_step (qW HB.out) hb); (try clear hb); (try clear hb2); (try clear hk); (try clear hi)))
  go_ret
  exact ⟨_, qX, qN, by exact qW HB.out⟩
 subst c3
 have H1 : ((impl_filterImage.f k a0_0 a0_1 a0_2 l0_3).bind fun t843 => (some t843)) = some r := by rw [if_pos rfl] at H; exact H
 clear H
 have H := H1
 clear H1
 replace H := Option.bind_eq_some_iff.mp H
 obtain ⟨t843, A40, H⟩ := H
 replace H : (some t843) = some r := H
 have A4 := aM A40
 clear A40
 obtain rfl := Option.some.inj H
 go_enter Try.func27, Try.ntmps27
 go_wp2_with (first | ((with_reducible refine gate_dst (N := 1) rfl ?_); refine box_event ?hg (N := 1) ?hd (cs := #[.int .i64 a0_0, .int .i64 a0_1, .int .i64 a0_2, .slice A0_3 l0_3.length c0_3]) (t := 24) ?hr ?_; (case hd => rfl); (case hg => rfl); (case hr => first | (go_simp; done) | (go_simp; rfl)); intro gb841 hg w5 hbox hb; have BK841 := aM (hbox); have GW841 := aM ((by rw [hg]; exact (below_size (qW HB.out)) : w.heap.size ≤ gb841)); have GE841 := aM ((by rw [hg]; exact (below_size (qW HB.out)) : w.heap.size ≤ gb841)); replace HB := aM (below_step (qW HB.out) hb); clear hb hbox hg; obtain ⟨hcz6_0, hcz6_1, hcz6_2, hcz6_3⟩ := cz4 BK841.out; obtain ⟨hfz6_0, hfz6_1, hfz6_2, hfz6_3⟩ := fz4 BK841.out) | ((with_reducible refine gate_callee (f := 52) rfl ?_); refine goesL_ (some 4) rfl rfl Try.func52 (by kernel_rfl) rfl #[.agg #[.int .i64 a0_0, .int .i64 a0_1, .int .i64 a0_2, .slice A0_3 l0_3.length c0_3]] rfl qM ?_; (with_reducible refine (impl_isImage.calls a0_0 a0_1 a0_2 _ _ l0_3 true _ ?side1 ?side2 A2.out).mono ?_); (case side1 => exact qC (Kd.C_below HR0_3.out HB.out)); (case side2 => exact HC0_3.out); rintro e w7 ⟨rfl, hb⟩; refine ⟨_, rfl, ?_⟩; replace BK841 := bB BK841 hb; replace HB := aM (below_step (qW HB.out) hb); (try clear hb); (try clear hb2); (try clear hk); (try clear hi); obtain ⟨hcz8_0, hcz8_1, hcz8_2, hcz8_3⟩ := cz4 BK841.out; obtain ⟨hfz8_0, hfz8_1, hfz8_2, hfz8_3⟩ := fz4 BK841.out) | ((with_reducible refine gate_callee (f := 56) rfl ?_); refine goesL_ (some 7) rfl rfl Try.func56 (by kernel_rfl) rfl #[.agg #[.int .i64 a0_0, .int .i64 a0_1, .int .i64 a0_2, .slice A0_3 l0_3.length c0_3]] rfl qM ?_; (with_reducible refine (impl_filterImage.calls k a0_0 a0_1 a0_2 (fun k_ => k_ < w.heap.size) _ _ l0_3 t843 _ ?side1 A4.out).mono ?_); (case side1 => exact Kd.V_mk HC0_3.out (Kd.F_below (Kd.C_F (Kd.heap_int .i64) HR0_3.out) (qW HB.out))); rintro e w9 ⟨v844, rfl, ho0, hb⟩; refine ⟨_, rfl, ?_⟩; have HO845 := aM (Kd.R_lower (Kd.R_mono (ok' := fun k_ => True) ho0 (fun _ hk_ => trivial)) (below_size (qW HB.out))); replace BK841 := bB BK841 hb; replace HB := aM (below_step (qW HB.out) hb); (try clear hb); (try clear hb2); (try clear hk); (try clear hi); (try clear ho0)))
 go_ret
 exact ⟨_, qX, by refine qR ?_; exact HO845.out, by exact qW HB.out⟩

end Go.Proofs.Ytchahbdmdcllaaa.P
