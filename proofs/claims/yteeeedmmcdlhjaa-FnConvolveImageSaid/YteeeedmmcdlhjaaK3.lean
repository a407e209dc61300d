/- Contracts and row, written by a program of this place out of the translation: the call answers true and its argument reads as before, for every input; no condition. -/
import Derived.Test.YteeeedmmcdlhjaaK0
import Derived.Test.YteeeedmmcdlhjaaK1
import Derived.Test.YteeeedmmcdlhjaaK2
namespace Go.Proofs.Yteeeedmmcdlhjaa.P
open Go.RowKit Go.Proofs.YteeeedmmcdlhjaaW.PrintWords Go.Proofs.YteeeedmmcdlhjaaW.PrintLast Go.Proofs.YteeeedmmcdlhjaaW.PrintMore
attribute [local go_sem] max2_int min2_int max_two min_two max_three min_three max_four min_four   -- for this text's walks alone
set_option linter.unusedVariables false
set_option linter.unusedSimpArgs false
def spec_convolve.l0 : Nat → Int → Int → Int → Int → Int → Int → Int → Int → Int → List Int → Int → List Int → Int → Option (Int)
 | 0, _, _, _, _, _, _, _, _, _, _, _, _, _ => none
 | k + 1, x2, x3, x4, x11, x12, x13, x621000, x621001, x621002, x621003, x622000, x622001, x622002 => if x13 < (x622001.length : Int) then (if x12 = 0 then (none) else (if 0 ≤ x13 then (if 0 ≤ (wrap64 ((wrap64 ((wrap64 ((wrap64 ((mn (wrap64 (x621001 - 1)) (mx 0 (wrap64 ((wrap64 (x3 + (wrap64 (Int.tdiv x13 x12)))) - x622000)))) * x621000)) + (mn (wrap64 (x621000 - 1)) (mx 0 (wrap64 ((wrap64 (x2 + (Int.tmod x13 x12))) - x622000)))))) * x621002)) + x4)) then (if (wrap64 ((wrap64 ((wrap64 ((wrap64 ((mn (wrap64 (x621001 - 1)) (mx 0 (wrap64 ((wrap64 (x3 + (wrap64 (Int.tdiv x13 x12)))) - x622000)))) * x621000)) + (mn (wrap64 (x621000 - 1)) (mx 0 (wrap64 ((wrap64 (x2 + (Int.tmod x13 x12))) - x622000)))))) * x621002)) + x4)) < (x621003.length : Int) then (spec_convolve.l0 k x2 x3 x4 (wrap64 (x11 + (wrap64 ((rd x622001 x13) * (rd x621003 (wrap64 ((wrap64 ((wrap64 ((wrap64 ((mn (wrap64 (x621001 - 1)) (mx 0 (wrap64 ((wrap64 (x3 + (wrap64 (Int.tdiv x13 x12)))) - x622000)))) * x621000)) + (mn (wrap64 (x621000 - 1)) (mx 0 (wrap64 ((wrap64 (x2 + (Int.tmod x13 x12))) - x622000)))))) * x621002)) + x4))))))) x12 (wrap64 (x13 + 1)) x621000 x621001 x621002 x621003 x622000 x622001 x622002) else (none)) else (none)) else (none))) else (some x11)
def spec_convolve.f (k : Nat) (a0_0 : Int) (a0_1 : Int) (a0_2 : Int) (l0_3 : List Int) (a1_0 : Int) (l1_1 : List Int) (a1_2 : Int) (a2 : Int) (a3 : Int) (a4 : Int) : Option (Int) := spec_convolve.l0 k a2 a3 a4 0 (wrap64 ((wrap64 (2 * a1_0)) + 1)) 0 a0_0 a0_1 a0_2 l0_3 a1_0 l1_1 a1_2
theorem spec_convolve.mono_l : ∀ k, (∀ y0 y1 y2 y3 y4 y5 y6 y7 y8 y9 y10 y11 y12, LeO (spec_convolve.l0 k y0 y1 y2 y3 y4 y5 y6 y7 y8 y9 y10 y11 y12) (spec_convolve.l0 (k + 1) y0 y1 y2 y3 y4 y5 y6 y7 y8 y9 y10 y11 y12))
 | 0 => fun _ _ _ _ _ _ _ _ _ _ _ _ _ r h => by simp [spec_convolve.l0] at h
 | k + 1 => by
  have ih0 := spec_convolve.mono_l k
  ·intro y0 y1 y2 y3 y4 y5 y6 y7 y8 y9 y10 y11 y12
   unfold spec_convolve.l0
   repeat' first | (with_reducible first | exact ih0 _ _ _ _ _ _ _ _ _ _ _ _ _ | exact lR | exact lN | refine lI ?_ ?_ | refine lB ?_ fun _ => ?_) | exact ih0 _ _ _ _ _ _ _ _ _ _ _ _ _ | exact lN | refine lI ?_ ?_ | refine lB ?_ fun _ => ?_
theorem spec_convolve.mono : ∀ a0 a1 a2 a3 a4 a5 a6 a7 a8 a9 k, LeO (spec_convolve.f k a0 a1 a2 a3 a4 a5 a6 a7 a8 a9) (spec_convolve.f (k + 1) a0 a1 a2 a3 a4 a5 a6 a7 a8 a9) := by
 intro a0 a1 a2 a3 a4 a5 a6 a7 a8 a9 k
 have ih0 := spec_convolve.mono_l k
 unfold spec_convolve.f
 repeat' first | (with_reducible first | exact ih0 _ _ _ _ _ _ _ _ _ _ _ _ _ | exact lR | exact lN | refine lI ?_ ?_ | refine lB ?_ fun _ => ?_) | exact ih0 _ _ _ _ _ _ _ _ _ _ _ _ _ | exact lN | refine lI ?_ ?_ | refine lB ?_ fun _ => ?_
set_option maxHeartbeats 8000000 in
set_option maxRecDepth 100000 in
theorem spec_convolve.calls (k : Nat) (a0_0 : Int) (a0_1 : Int) (a0_2 : Int) (A0_3 : Option Addr) (c0_3 : Nat) (l0_3 : List Int) (a1_0 : Int) (A1_1 : Option Addr) (c1_1 : Nat) (l1_1 : List Int) (a1_2 : Int) (a2 : Int) (a3 : Int) (a4 : Int) (r : Int) (w : World) (hr0_3 : Kd.C (Kd.int .i64) w A0_3 l0_3.length l0_3) (hc0_3 : l0_3.length ≤ c0_3) (hr1_1 : Kd.C (Kd.int .i64) w A1_1 l1_1.length l1_1) (hc1_1 : l1_1.length ≤ c1_1) (h : spec_convolve.f k a0_0 a0_1 a0_2 l0_3 a1_0 l1_1 a1_2 a2 a3 a4 = some r) :
  Calls Try.prog 79 #[.agg #[.int .i64 a0_0, .int .i64 a0_1, .int .i64 a0_2, .slice A0_3 l0_3.length c0_3], .agg #[.int .i64 a1_0, .slice A1_1 l1_1.length c1_1, .int .i64 a1_2], .int .i64 a2, .int .i64 a3, .int .i64 a4] w fun e w' => e = .returned (.int .i64 r) ∧ Below w.heap.size w w' := by
 have hu27 := Try.underlying27
 have hu49 := Try.underlying49
 have HR0_3 := aM hr0_3
 have HC0_3 := aM hc0_3
 clear hr0_3 hc0_3
 have HR1_1 := aM hr1_1
 have HC1_1 := aM hc1_1
 clear hr1_1 hc1_1
 have HB := aM (Below.refl w.heap.size w)
 unfold spec_convolve.f at h
 have H := h
 clear h
 have H' := aM H
 clear H
 go_enter Try.func79, Try.ntmps79
 go_wp2_with (first | ((with_reducible refine gate_dst (N := 5) rfl ?_); refine bxE (N := 5) (cs := #[.int .i64 a0_0, .int .i64 a0_1, .int .i64 a0_2, .slice A0_3 l0_3.length c0_3]) (t := 27) ?_; intro gb620 hg w6 hbox hb; have BK620 := aM (hbox); have GW620 := gW hg HB; have GE620 := gW hg HB; replace HB := bS HB hb; clear hb hbox hg) | ((with_reducible refine gate_dst (N := 6) rfl ?_); refine bxE (N := 6) (cs := #[.int .i64 a1_0, .slice A1_1 l1_1.length c1_1, .int .i64 a1_2]) (t := 49) ?_; intro gb621 hg w7 hbox hb; have BK621 := aM (hbox); have GW621 := gW hg HB; have GE621 := gW hg HB; replace HB := bS HB hb; have NB620_621 := nL hg BK620; have NB621_620 := nG hg BK620; replace BK620 := bB BK620 hb; clear hb hbox hg; have hnb8 := NB621_620.out; have hnc8 := NB620_621.out; obtain ⟨⟨hcz9_0, hcz9_1, hcz9_2⟩, hfz9_0, hfz9_1, hfz9_2⟩ := cf3 BK621))
 repeat (go_quiet (first | ((with_reducible refine gate_dst (N := 5) rfl ?_); refine bxE (N := 5) (cs := #[.int .i64 a0_0, .int .i64 a0_1, .int .i64 a0_2, .slice A0_3 l0_3.length c0_3]) (t := 27) ?_; intro gb620 hg w6 hbox hb; have BK620 := aM (hbox); have GW620 := gW hg HB; have GE620 := gW hg HB; replace HB := bS HB hb; clear hb hbox hg) | ((with_reducible refine gate_dst (N := 6) rfl ?_); refine bxE (N := 6) (cs := #[.int .i64 a1_0, .slice A1_1 l1_1.length c1_1, .int .i64 a1_2]) (t := 49) ?_; intro gb621 hg w7 hbox hb; have BK621 := aM (hbox); have GW621 := gW hg HB; have GE621 := gW hg HB; replace HB := bS HB hb; have NB620_621 := nL hg BK620; have NB621_620 := nG hg BK620; replace BK620 := bB BK620 hb; clear hb hbox hg; have hnb8 := NB621_620.out; have hnc8 := NB620_621.out; obtain ⟨⟨hcz9_0, hcz9_1, hcz9_2⟩, hfz9_0, hfz9_1, hfz9_2⟩ := cf3 BK621)); try go_wp2_with (first | ((with_reducible refine gate_dst (N := 5) rfl ?_); refine bxE (N := 5) (cs := #[.int .i64 a0_0, .int .i64 a0_1, .int .i64 a0_2, .slice A0_3 l0_3.length c0_3]) (t := 27) ?_; intro gb620 hg w6 hbox hb; have BK620 := aM (hbox); have GW620 := gW hg HB; have GE620 := gW hg HB; replace HB := bS HB hb; clear hb hbox hg) | ((with_reducible refine gate_dst (N := 6) rfl ?_); refine bxE (N := 6) (cs := #[.int .i64 a1_0, .slice A1_1 l1_1.length c1_1, .int .i64 a1_2]) (t := 49) ?_; intro gb621 hg w7 hbox hb; have BK621 := aM (hbox); have GW621 := gW hg HB; have GE621 := gW hg HB; replace HB := bS HB hb; have NB620_621 := nL hg BK620; have NB621_620 := nG hg BK620; replace BK620 := bB BK620 hb; clear hb hbox hg; have hnb8 := NB621_620.out; have hnc8 := NB620_621.out; obtain ⟨⟨hcz9_0, hcz9_1, hcz9_2⟩, hfz9_0, hfz9_1, hfz9_2⟩ := cf3 BK621)))
 go_loopg [11, 13] k (fun kq v11 v13 w' => ∃ (x11_1 : Int) (x13_1 : Int), v11 = .int .i64 x11_1 ∧ v13 = .int .i64 x13_1 ∧ Aside0 (spec_convolve.l0 kq a2 a3 a4 x11_1 (wrap64 ((wrap64 (2 * a1_0)) + 1)) x13_1 a0_0 a0_1 a0_2 l0_3 a1_0 l1_1 a1_2 = some r) ∧ Aside0 (kq ≤ k) ∧ Aside0 (w'.heap[gb620]? = some (.cells #[.int .i64 a0_0, .int .i64 a0_1, .int .i64 a0_2, (.slice A0_3 l0_3.length c0_3)] 27 (0, 0))) ∧ Aside0 (w'.heap[gb621]? = some (.cells #[.int .i64 a1_0, (.slice A1_1 l1_1.length c1_1), .int .i64 a1_2] 49 (0, 0))) ∧ Aside0 (Below w.heap.size w w'))
 case atStart => exact ⟨(0), (0), qE, qE, H', ⟨Nat.le_refl _⟩, ⟨by refine qB ?_; exact BK620.out⟩, ⟨by refine qB ?_; exact BK621.out⟩, ⟨by exact qW HB.out⟩⟩
 case round =>
  clear H'
  try clear hcz9_0 hcz9_1 hcz9_2 hfz9_0 hfz9_1 hfz9_2
  obtain ⟨x11_1, x13_1, rfl, rfl, HA, HK1, BK620, BK621, HB⟩ := hrel
  cases gk with
  | zero => exact absurd HA.out (by simp [spec_convolve.l0])
  | succ k1 =>
   have H := HA.out
   clear HA
   simp only [spec_convolve.l0] at H
   by_cases c10 : x13_1 < (l1_1.length : Int)
   rotate_left
   ·rw [if_neg c10] at H
    have c10b0 : decide (x13_1 < (l1_1.length : Int)) = false := decide_eq_false c10
    clear c10
    obtain rfl := Option.some.inj H
    have hnb23 := NB621_620.out
    have hnc23 := NB620_621.out
    obtain ⟨⟨hcz24_0, hcz24_1, hcz24_2⟩, hfz24_0, hfz24_1, hfz24_2⟩ := cf3 BK621
    go_wp2
    repeat (go_quiet (fail); try go_wp2)
    go_ret
    exact ⟨qX, by exact qW HB.out⟩
   rw [if_pos c10] at H
   have c10b0 : decide (x13_1 < (l1_1.length : Int)) = true := decide_eq_true c10
   clear c10
   by_cases c11 : (wrap64 ((wrap64 (2 * a1_0)) + 1)) = 0
   ·rw [if_pos c11] at H
    exact absurd H (by simp)
   rw [if_neg c11] at H
   have c11b0 : ((wrap64 ((wrap64 (2 * a1_0)) + 1)) == 0) = false := beq_eq_false_iff_ne.mpr c11
   have c11b1 : ((wrap64 ((wrap64 (2 * a1_0)) + 1)) != 0) = true := bne_iff_ne.mpr c11
   obtain ⟨ji12, hji12⟩ : ∃ j_ : Int, (mx 0 (wrap64 ((wrap64 (a2 + (Int.tmod x13_1 (wrap64 ((wrap64 (2 * a1_0)) + 1))))) - a1_0))) = j_ := ⟨_, rfl⟩
   replace H : (if 0 ≤ x13_1 then (if 0 ≤ (wrap64 ((wrap64 ((wrap64 ((wrap64 ((mn (wrap64 (a0_1 - 1)) (mx 0 (wrap64 ((wrap64 (a3 + (wrap64 (Int.tdiv x13_1 (wrap64 ((wrap64 (2 * a1_0)) + 1)))))) - a1_0)))) * a0_0)) + (mn (wrap64 (a0_0 - 1)) (ji12)))) * a0_2)) + a4)) then (if (wrap64 ((wrap64 ((wrap64 ((wrap64 ((mn (wrap64 (a0_1 - 1)) (mx 0 (wrap64 ((wrap64 (a3 + (wrap64 (Int.tdiv x13_1 (wrap64 ((wrap64 (2 * a1_0)) + 1)))))) - a1_0)))) * a0_0)) + (mn (wrap64 (a0_0 - 1)) (ji12)))) * a0_2)) + a4)) < (l0_3.length : Int) then (spec_convolve.l0 k1 a2 a3 a4 (wrap64 (x11_1 + (wrap64 ((rd l1_1 x13_1) * (rd l0_3 (wrap64 ((wrap64 ((wrap64 ((wrap64 ((mn (wrap64 (a0_1 - 1)) (mx 0 (wrap64 ((wrap64 (a3 + (wrap64 (Int.tdiv x13_1 (wrap64 ((wrap64 (2 * a1_0)) + 1)))))) - a1_0)))) * a0_0)) + (mn (wrap64 (a0_0 - 1)) (ji12)))) * a0_2)) + a4))))))) (wrap64 ((wrap64 (2 * a1_0)) + 1)) (wrap64 (x13_1 + 1)) a0_0 a0_1 a0_2 l0_3 a1_0 l1_1 a1_2) else (none)) else (none)) else (none)) = some r := by first | (rw [hji12] at H; exact H) | (simp only [hji12] at H ⊢; exact H)
   have hji12_ : (if 0 < (wrap64 ((wrap64 (a2 + (Int.tmod x13_1 (wrap64 ((wrap64 (2 * a1_0)) + 1))))) - a1_0)) then (wrap64 ((wrap64 (a2 + (Int.tmod x13_1 (wrap64 ((wrap64 (2 * a1_0)) + 1))))) - a1_0)) else 0) = ji12 := hji12
   obtain ⟨ji13, hji13⟩ : ∃ j_ : Int, (mn (wrap64 (a0_0 - 1)) (ji12)) = j_ := ⟨_, rfl⟩
   replace H : (if 0 ≤ x13_1 then (if 0 ≤ (wrap64 ((wrap64 ((wrap64 ((wrap64 ((mn (wrap64 (a0_1 - 1)) (mx 0 (wrap64 ((wrap64 (a3 + (wrap64 (Int.tdiv x13_1 (wrap64 ((wrap64 (2 * a1_0)) + 1)))))) - a1_0)))) * a0_0)) + (ji13))) * a0_2)) + a4)) then (if (wrap64 ((wrap64 ((wrap64 ((wrap64 ((mn (wrap64 (a0_1 - 1)) (mx 0 (wrap64 ((wrap64 (a3 + (wrap64 (Int.tdiv x13_1 (wrap64 ((wrap64 (2 * a1_0)) + 1)))))) - a1_0)))) * a0_0)) + (ji13))) * a0_2)) + a4)) < (l0_3.length : Int) then (spec_convolve.l0 k1 a2 a3 a4 (wrap64 (x11_1 + (wrap64 ((rd l1_1 x13_1) * (rd l0_3 (wrap64 ((wrap64 ((wrap64 ((wrap64 ((mn (wrap64 (a0_1 - 1)) (mx 0 (wrap64 ((wrap64 (a3 + (wrap64 (Int.tdiv x13_1 (wrap64 ((wrap64 (2 * a1_0)) + 1)))))) - a1_0)))) * a0_0)) + (ji13))) * a0_2)) + a4))))))) (wrap64 ((wrap64 (2 * a1_0)) + 1)) (wrap64 (x13_1 + 1)) a0_0 a0_1 a0_2 l0_3 a1_0 l1_1 a1_2) else (none)) else (none)) else (none)) = some r := by first | (rw [hji13] at H; exact H) | (simp only [hji13] at H ⊢; exact H)
   have hji13_ : (if (ji12) < (wrap64 (a0_0 - 1)) then (ji12) else (wrap64 (a0_0 - 1))) = ji13 := hji13
   obtain ⟨ji14, hji14⟩ : ∃ j_ : Int, (mx 0 (wrap64 ((wrap64 (a3 + (wrap64 (Int.tdiv x13_1 (wrap64 ((wrap64 (2 * a1_0)) + 1)))))) - a1_0))) = j_ := ⟨_, rfl⟩
   replace H : (if 0 ≤ x13_1 then (if 0 ≤ (wrap64 ((wrap64 ((wrap64 ((wrap64 ((mn (wrap64 (a0_1 - 1)) (ji14)) * a0_0)) + (ji13))) * a0_2)) + a4)) then (if (wrap64 ((wrap64 ((wrap64 ((wrap64 ((mn (wrap64 (a0_1 - 1)) (ji14)) * a0_0)) + (ji13))) * a0_2)) + a4)) < (l0_3.length : Int) then (spec_convolve.l0 k1 a2 a3 a4 (wrap64 (x11_1 + (wrap64 ((rd l1_1 x13_1) * (rd l0_3 (wrap64 ((wrap64 ((wrap64 ((wrap64 ((mn (wrap64 (a0_1 - 1)) (ji14)) * a0_0)) + (ji13))) * a0_2)) + a4))))))) (wrap64 ((wrap64 (2 * a1_0)) + 1)) (wrap64 (x13_1 + 1)) a0_0 a0_1 a0_2 l0_3 a1_0 l1_1 a1_2) else (none)) else (none)) else (none)) = some r := by first | (rw [hji14] at H; exact H) | (simp only [hji14] at H ⊢; exact H)
   have hji14_ : (if 0 < (wrap64 ((wrap64 (a3 + (wrap64 (Int.tdiv x13_1 (wrap64 ((wrap64 (2 * a1_0)) + 1)))))) - a1_0)) then (wrap64 ((wrap64 (a3 + (wrap64 (Int.tdiv x13_1 (wrap64 ((wrap64 (2 * a1_0)) + 1)))))) - a1_0)) else 0) = ji14 := hji14
   obtain ⟨ji15, hji15⟩ : ∃ j_ : Int, (mn (wrap64 (a0_1 - 1)) (ji14)) = j_ := ⟨_, rfl⟩
   replace H : (if 0 ≤ x13_1 then (if 0 ≤ (wrap64 ((wrap64 ((wrap64 ((wrap64 ((ji15) * a0_0)) + (ji13))) * a0_2)) + a4)) then (if (wrap64 ((wrap64 ((wrap64 ((wrap64 ((ji15) * a0_0)) + (ji13))) * a0_2)) + a4)) < (l0_3.length : Int) then (spec_convolve.l0 k1 a2 a3 a4 (wrap64 (x11_1 + (wrap64 ((rd l1_1 x13_1) * (rd l0_3 (wrap64 ((wrap64 ((wrap64 ((wrap64 ((ji15) * a0_0)) + (ji13))) * a0_2)) + a4))))))) (wrap64 ((wrap64 (2 * a1_0)) + 1)) (wrap64 (x13_1 + 1)) a0_0 a0_1 a0_2 l0_3 a1_0 l1_1 a1_2) else (none)) else (none)) else (none)) = some r := by first | (rw [hji15] at H; exact H) | (simp only [hji15] at H ⊢; exact H)
   have hji15_ : (if (ji14) < (wrap64 (a0_1 - 1)) then (ji14) else (wrap64 (a0_1 - 1))) = ji15 := hji15
   replace H := iD H
   obtain ⟨c16b0, H⟩ := H
   obtain ⟨ji17, hji17⟩ : ∃ j_ : Int, (wrap64 ((wrap64 ((wrap64 ((wrap64 ((ji15) * a0_0)) + (ji13))) * a0_2)) + a4)) = j_ := ⟨_, rfl⟩
   replace H : (if 0 ≤ (ji17) then (if (ji17) < (l0_3.length : Int) then (spec_convolve.l0 k1 a2 a3 a4 (wrap64 (x11_1 + (wrap64 ((rd l1_1 x13_1) * (rd l0_3 (ji17)))))) (wrap64 ((wrap64 (2 * a1_0)) + 1)) (wrap64 (x13_1 + 1)) a0_0 a0_1 a0_2 l0_3 a1_0 l1_1 a1_2) else (none)) else (none)) = some r := by first | (rw [hji17] at H; exact H) | (simp only [hji17] at H ⊢; exact H)
   have hji17w : (IntKind.i64.wrap ((wrap64 ((wrap64 ((wrap64 ((ji15) * a0_0)) + (ji13))) * a0_2)) + a4)) = ji17 := (i64_w _).trans hji17
   replace H := iD H
   obtain ⟨c18b0, H⟩ := H
   replace H := iD H
   obtain ⟨c19b0, H⟩ := H
   have H' := aM H
   clear H
   have hnb20 := NB621_620.out
   have hnc20 := NB620_621.out
   obtain ⟨⟨hcz21_0, hcz21_1, hcz21_2⟩, hfz21_0, hfz21_1, hfz21_2⟩ := cf3 BK621
   obtain ⟨⟨hcz22_0, hcz22_1, hcz22_2, hcz22_3⟩, hfz22_0, hfz22_1, hfz22_2, hfz22_3⟩ := cf4 BK620
   obtain ⟨ad622, e622, hx622_0⟩ := Kd.at_int HR1_1.out x13_1 oD oD
   cases e622
   replace hx622_0 := bD HB hx622_0
   have p622 := eq_true (oD : 0 ≤ (x13_1 : Int))
   have q622 := eq_true (oD : x13_1 < (l1_1.length : Int))
   obtain ⟨ad623, e623, hx623_0⟩ := Kd.at_int HR0_3.out (ji17) oD oD
   cases e623
   replace hx623_0 := bD HB hx623_0
   have p623 := eq_true (oD : 0 ≤ ((ji17) : Int))
   have q623 := eq_true (oD : (ji17) < (l0_3.length : Int))
   go_wp2
   repeat (go_quiet (fail); try go_wp2)
   go_roundg k1
   case measure => have := HK1.out; omega
   case rel => exact ⟨(wrap64 (x11_1 + (wrap64 ((rd l1_1 x13_1) * (rd l0_3 (ji17)))))), (wrap64 (x13_1 + 1)), (by first | rfl | (simp; done) | (simp only [← hji17] <;> (first | rfl | simp)) | (simp [*]; done)), qE, H', ⟨by have := HK1.out; omega⟩, ⟨by refine qB ?_; exact BK620.out⟩, ⟨by refine qB ?_; exact BK621.out⟩, ⟨by exact qW HB.out⟩⟩
mutual
def spec_ConvolveImage.j0 : Nat → Bool → Int → Int → Int → List Int → Int → List Int → Int → Option (Int × Int × Int × List Int)
 | 0, _, _, _, _, _, _, _, _ => none
 | k + 1, x17, x625000, x625001, x625002, x625003, x626000, x626001, x626002 => if x17 = true then (some (0, 0, 0, ([] : List Int))) else ((spec_copyImage.f x625000 x625001 x625002 x625003).bind fun bt629 => (spec_ConvolveImage.l0 k 0 x625000 x625001 x625002 x625003 x626000 x626001 x626002 bt629.1 bt629.2.1 bt629.2.2.1 bt629.2.2.2))
def spec_ConvolveImage.l0 : Nat → Int → Int → Int → Int → List Int → Int → List Int → Int → Int → Int → Int → List Int → Option (Int × Int × Int × List Int)
 | 0, _, _, _, _, _, _, _, _, _, _, _, _ => none
 | k + 1, x6, x625000, x625001, x625002, x625003, x626000, x626001, x626002, x636000, x636001, x636002, x636003 => if x6 < x625001 then (spec_ConvolveImage.l1 k x6 0 x625000 x625001 x625002 x625003 x626000 x626001 x626002 x636000 x636001 x636002 x636003) else (some (x636000, x636001, x636002, x636003))
def spec_ConvolveImage.l1 : Nat → Int → Int → Int → Int → Int → List Int → Int → List Int → Int → Int → Int → Int → List Int → Option (Int × Int × Int × List Int)
 | 0, _, _, _, _, _, _, _, _, _, _, _, _, _ => none
 | k + 1, x6, x7, x625000, x625001, x625002, x625003, x626000, x626001, x626002, x636000, x636001, x636002, x636003 => if x7 < x625000 then (spec_ConvolveImage.l2 k x6 x7 0 x625000 x625001 x625002 x625003 x626000 x626001 x626002 x636000 x636001 x636002 x636003) else (spec_ConvolveImage.l0 k (wrap64 (x6 + 1)) x625000 x625001 x625002 x625003 x626000 x626001 x626002 x636000 x636001 x636002 x636003)
def spec_ConvolveImage.l2 : Nat → Int → Int → Int → Int → Int → Int → List Int → Int → List Int → Int → Int → Int → Int → List Int → Option (Int × Int × Int × List Int)
 | 0, _, _, _, _, _, _, _, _, _, _, _, _, _, _ => none
 | k + 1, x6, x7, x8, x625000, x625001, x625002, x625003, x626000, x626001, x626002, x636000, x636001, x636002, x636003 => if x8 < x625002 then ((spec_convolve.f k x625000 x625001 x625002 x625003 x626000 x626001 x626002 x7 x6 x8).bind fun t636 => ((spec_floorDiv.f (wrap64 ((wrap64 (2 * t636)) + x626002)) (wrap64 (2 * x626002))).bind fun t637 => (if 0 ≤ (wrap64 ((wrap64 ((wrap64 ((wrap64 (x6 * x625000)) + x7)) * x625002)) + x8)) then (if (wrap64 ((wrap64 ((wrap64 ((wrap64 (x6 * x625000)) + x7)) * x625002)) + x8)) < (x636003.length : Int) then (spec_ConvolveImage.l2 k x6 x7 (wrap64 (x8 + 1)) x625000 x625001 x625002 x625003 x626000 x626001 x626002 x636000 x636001 x636002 (x636003.set ((wrap64 ((wrap64 ((wrap64 ((wrap64 (x6 * x625000)) + x7)) * x625002)) + x8)) : Int).toNat (mn 255 (mx 0 t637)))) else (none)) else (none)))) else (spec_ConvolveImage.l1 k x6 (wrap64 (x7 + 1)) x625000 x625001 x625002 x625003 x626000 x626001 x626002 x636000 x636001 x636002 x636003)
end
def spec_ConvolveImage.f (k : Nat) (a0_0 : Int) (a0_1 : Int) (a0_2 : Int) (l0_3 : List Int) (a1_0 : Int) (l1_1 : List Int) (a1_2 : Int) : Option (Int × Int × Int × List Int) := (spec_validImage.f k a0_0 a0_1 a0_2 l0_3).bind fun t627 => (if t627 = true then ((spec_validKernel.f k a1_0 l1_1 a1_2).bind fun t628 => (spec_ConvolveImage.j0 k (!t628) a0_0 a0_1 a0_2 l0_3 a1_0 l1_1 a1_2)) else (spec_ConvolveImage.j0 k true a0_0 a0_1 a0_2 l0_3 a1_0 l1_1 a1_2))
theorem spec_ConvolveImage.mono_l : ∀ k, (∀ y0 y1 y2 y3 y4 y5 y6 y7, LeO (spec_ConvolveImage.j0 k y0 y1 y2 y3 y4 y5 y6 y7) (spec_ConvolveImage.j0 (k + 1) y0 y1 y2 y3 y4 y5 y6 y7)) ∧ (∀ y0 y1 y2 y3 y4 y5 y6 y7 y8 y9 y10 y11, LeO (spec_ConvolveImage.l0 k y0 y1 y2 y3 y4 y5 y6 y7 y8 y9 y10 y11) (spec_ConvolveImage.l0 (k + 1) y0 y1 y2 y3 y4 y5 y6 y7 y8 y9 y10 y11)) ∧ (∀ y0 y1 y2 y3 y4 y5 y6 y7 y8 y9 y10 y11 y12, LeO (spec_ConvolveImage.l1 k y0 y1 y2 y3 y4 y5 y6 y7 y8 y9 y10 y11 y12) (spec_ConvolveImage.l1 (k + 1) y0 y1 y2 y3 y4 y5 y6 y7 y8 y9 y10 y11 y12)) ∧ (∀ y0 y1 y2 y3 y4 y5 y6 y7 y8 y9 y10 y11 y12 y13, LeO (spec_ConvolveImage.l2 k y0 y1 y2 y3 y4 y5 y6 y7 y8 y9 y10 y11 y12 y13) (spec_ConvolveImage.l2 (k + 1) y0 y1 y2 y3 y4 y5 y6 y7 y8 y9 y10 y11 y12 y13))
 | 0 => ⟨fun _ _ _ _ _ _ _ _ r h => by simp [spec_ConvolveImage.j0] at h, fun _ _ _ _ _ _ _ _ _ _ _ _ r h => by simp [spec_ConvolveImage.l0] at h, fun _ _ _ _ _ _ _ _ _ _ _ _ _ r h => by simp [spec_ConvolveImage.l1] at h, fun _ _ _ _ _ _ _ _ _ _ _ _ _ _ r h => by simp [spec_ConvolveImage.l2] at h⟩
 | k + 1 => by
  obtain ⟨ih0, ih1, ih2, ih3⟩ := spec_ConvolveImage.mono_l k
  refine ⟨?_, ?_, ?_, ?_⟩
  all_goals intros
  all_goals first | unfold spec_ConvolveImage.j0 | unfold spec_ConvolveImage.l0 | unfold spec_ConvolveImage.l1 | unfold spec_ConvolveImage.l2
  all_goals repeat' first | (with_reducible first | exact ih0 _ _ _ _ _ _ _ _ | exact ih1 _ _ _ _ _ _ _ _ _ _ _ _ | exact ih2 _ _ _ _ _ _ _ _ _ _ _ _ _ | exact ih3 _ _ _ _ _ _ _ _ _ _ _ _ _ _ | exact spec_convolve.mono _ _ _ _ _ _ _ _ _ _ _ | exact spec_validImage.mono _ _ _ _ _ | exact spec_validKernel.mono _ _ _ _ | exact lR | exact lN | refine lI ?_ ?_ | refine lB ?_ fun _ => ?_) | exact ih0 _ _ _ _ _ _ _ _ | exact ih1 _ _ _ _ _ _ _ _ _ _ _ _ | exact ih2 _ _ _ _ _ _ _ _ _ _ _ _ _ | exact ih3 _ _ _ _ _ _ _ _ _ _ _ _ _ _ | exact spec_convolve.mono _ _ _ _ _ _ _ _ _ _ _ | exact spec_validImage.mono _ _ _ _ _ | exact spec_validKernel.mono _ _ _ _ | exact lN | refine lI ?_ ?_ | refine lB ?_ fun _ => ?_
theorem spec_ConvolveImage.mono : ∀ a0 a1 a2 a3 a4 a5 a6 k, LeO (spec_ConvolveImage.f k a0 a1 a2 a3 a4 a5 a6) (spec_ConvolveImage.f (k + 1) a0 a1 a2 a3 a4 a5 a6) := by
 intro a0 a1 a2 a3 a4 a5 a6 k
 obtain ⟨ih0, ih1, ih2, ih3⟩ := spec_ConvolveImage.mono_l k
 unfold spec_ConvolveImage.f
 repeat' first | (with_reducible first | exact ih0 _ _ _ _ _ _ _ _ | exact ih1 _ _ _ _ _ _ _ _ _ _ _ _ | exact ih2 _ _ _ _ _ _ _ _ _ _ _ _ _ | exact ih3 _ _ _ _ _ _ _ _ _ _ _ _ _ _ | exact spec_convolve.mono _ _ _ _ _ _ _ _ _ _ _ | exact spec_validImage.mono _ _ _ _ _ | exact spec_validKernel.mono _ _ _ _ | exact lR | exact lN | refine lI ?_ ?_ | refine lB ?_ fun _ => ?_) | exact ih0 _ _ _ _ _ _ _ _ | exact ih1 _ _ _ _ _ _ _ _ _ _ _ _ | exact ih2 _ _ _ _ _ _ _ _ _ _ _ _ _ | exact ih3 _ _ _ _ _ _ _ _ _ _ _ _ _ _ | exact spec_convolve.mono _ _ _ _ _ _ _ _ _ _ _ | exact spec_validImage.mono _ _ _ _ _ | exact spec_validKernel.mono _ _ _ _ | exact lN | refine lI ?_ ?_ | refine lB ?_ fun _ => ?_
def spec_ConvolveImage.T13 : Bool × List (List Nat × List Nat) := (true, [([], []), ([], []), ([], []), ([], []), ([], []), ([0, 1, 2, 3, 4], [0, 1, 2, 3, 4]), ([5], [5]), ([], []), ([7], [7]), ([6, 8], [6, 8]), ([], []), ([10], [10]), ([11], [11]), ([9, 12, 5], [9, 12]), ([13, 13, 0, 1, 2, 3, 4, 5, 6, 7, 8, 9, 10, 11, 12, 13], [13])])
def spec_ConvolveImage.B13 : List Nat := [0, 0, 0, 0, 0, 31, 63, 0, 128, 511, 0, 1024, 3072, 8191, 16383]
theorem spec_ConvolveImage.tab13 : rtab .any (opsOf Try.f33 13) = spec_ConvolveImage.T13 := by kernel_rfl
theorem spec_ConvolveImage.bits13 : waitsOk spec_ConvolveImage.T13.2 spec_ConvolveImage.B13 = true := by kernel_rfl
set_option maxHeartbeats 8000000 in
set_option maxRecDepth 100000 in
theorem spec_ConvolveImage.calls (k : Nat) (a0_0 : Int) (a0_1 : Int) (a0_2 : Int) (A0_3 : Option Addr) (c0_3 : Nat) (l0_3 : List Int) (a1_0 : Int) (A1_1 : Option Addr) (c1_1 : Nat) (l1_1 : List Int) (a1_2 : Int) (r1 : Int) (r2 : Int) (r3 : Int) (r4 : List Int) (w : World) (hr0_3 : Kd.C (Kd.int .i64) w A0_3 l0_3.length l0_3) (hc0_3 : l0_3.length ≤ c0_3) (hr1_1 : Kd.C (Kd.int .i64) w A1_1 l1_1.length l1_1) (hc1_1 : l1_1.length ≤ c1_1) (h : spec_ConvolveImage.f k a0_0 a0_1 a0_2 l0_3 a1_0 l1_1 a1_2 = some (r1, r2, r3, r4)) :
  Calls Try.prog 33 #[.agg #[.int .i64 a0_0, .int .i64 a0_1, .int .i64 a0_2, .slice A0_3 l0_3.length c0_3], .agg #[.int .i64 a1_0, .slice A1_1 l1_1.length c1_1, .int .i64 a1_2]] w fun e w' => ∃ v3_ : Value, e = .returned (.agg #[.int .i64 r1, .int .i64 r2, .int .i64 r3, v3_]) ∧ Kd.R (Kd.int .i64) 3 w' w.heap.size (fun _ => True) v3_ r4 ∧ Below w.heap.size w w' := by
 have hu27 := Try.underlying27
 have hu49 := Try.underlying49
 have HR0_3 := aM hr0_3
 have HC0_3 := aM hc0_3
 clear hr0_3 hc0_3
 have HR1_1 := aM hr1_1
 have HC1_1 := aM hc1_1
 clear hr1_1 hc1_1
 have HB := aM (Below.refl w.heap.size w)
 unfold spec_ConvolveImage.f at h
 have H := h
 clear h
 have HC3 := aM H
 clear H
 go_enter Try.func33, Try.ntmps33
 go_upto_region 1 with (first | ((with_reducible refine gate_dst (N := 2) rfl ?_); refine bxE (N := 2) (cs := #[.int .i64 a0_0, .int .i64 a0_1, .int .i64 a0_2, .slice A0_3 l0_3.length c0_3]) (t := 27) ?_; intro gb624 hg w4 hbox hb; have BK624 := aM (hbox); have GW624 := gW hg HB; have GE624 := gW hg HB; replace HB := bS HB hb; clear hb hbox hg) | ((with_reducible refine gate_dst (N := 3) rfl ?_); refine bxE (N := 3) (cs := #[.int .i64 a1_0, .slice A1_1 l1_1.length c1_1, .int .i64 a1_2]) (t := 49) ?_; intro gb625 hg w5 hbox hb; have BK625 := aM (hbox); have GW625 := gW hg HB; have GE625 := gW hg HB; replace HB := bS HB hb; have NB624_625 := nL hg BK624; have NB625_624 := nG hg BK624; replace BK624 := bB BK624 hb; clear hb hbox hg) | ((with_reducible refine gate_dst (N := 4) rfl ?_); refine bxE (N := 4) (cs := #[.int .i64 0, .int .i64 0, .int .i64 0, .slice none 0 0]) (t := 27) ?_; intro gb626 hg w6 hbox hb; have BK626 := aM (hbox); have GW626 := gW hg HB; have GE626 := gW hg HB; replace HB := bS HB hb; have NB624_626 := nL hg BK624; have NB626_624 := nG hg BK624; replace BK624 := bB BK624 hb; have NB625_626 := nL hg BK625; have NB626_625 := nG hg BK625; replace BK625 := bB BK625 hb; clear hb hbox hg))
 (try simp only [Act.put, List.setIfInBounds_toArray, List.set_cons_zero, List.set_cons_succ])
 go_cut [17] (fun v17 wc => ∃ (kq : Nat) (x17_2 : Bool), v17 = .bool x17_2 ∧ Aside0 (spec_ConvolveImage.j0 kq x17_2 a0_0 a0_1 a0_2 l0_3 a1_0 l1_1 a1_2 = some (r1, r2, r3, r4)) ∧ Aside0 (kq ≤ k) ∧ Aside0 (wc.heap[gb624]? = some (.cells #[.int .i64 a0_0, .int .i64 a0_1, .int .i64 a0_2, (.slice A0_3 l0_3.length c0_3)] 27 (0, 0))) ∧ Aside0 (wc.heap[gb625]? = some (.cells #[.int .i64 a1_0, (.slice A1_1 l1_1.length c1_1), .int .i64 a1_2] 49 (0, 0))) ∧ Aside0 (wc.heap[gb626]? = some (.cells #[.int .i64 0, .int .i64 0, .int .i64 0, (.slice none 0 0)] 27 (0, 0))) ∧ Aside0 (Below w.heap.size w wc))
 case first =>
  have H := HC3.out
  clear HC3
  replace H := Option.bind_eq_some_iff.mp H
  obtain ⟨t627, A70, H⟩ := H
  replace H : (if t627 = true then ((spec_validKernel.f k a1_0 l1_1 a1_2).bind fun t628 => (spec_ConvolveImage.j0 k (!t628) a0_0 a0_1 a0_2 l0_3 a1_0 l1_1 a1_2)) else (spec_ConvolveImage.j0 k true a0_0 a0_1 a0_2 l0_3 a1_0 l1_1 a1_2)) = some (r1, r2, r3, r4) := H
  have A7 := aM A70
  clear A70
  by_cases c8 : t627 = true
  rotate_left
  ·replace c8 := Bool.eq_false_iff.mpr c8
   subst c8
   have H1 : (spec_ConvolveImage.j0 k true a0_0 a0_1 a0_2 l0_3 a1_0 l1_1 a1_2) = some (r1, r2, r3, r4) := by rw [if_neg (show ¬ (false = true) by decide)] at H; exact H
   clear H
   have H := H1
   clear H1
   have H' := aM H
   clear H
   have hnb17 := NB624_625.out
   have hnc17 := NB625_624.out
   have hnb18 := NB624_626.out
   have hnc18 := NB626_624.out
   obtain ⟨⟨hcz19_0, hcz19_1, hcz19_2, hcz19_3⟩, hfz19_0, hfz19_1, hfz19_2, hfz19_3⟩ := cf4 BK624
   go_wp2_with (first | ((with_reducible refine gate_callee (f := 52) rfl ?_); refine gL (some 11) Try.func52 #[.agg #[.int .i64 a0_0, .int .i64 a0_1, .int .i64 a0_2, .slice A0_3 l0_3.length c0_3]] ?_; (with_reducible refine (spec_validImage.calls k a0_0 a0_1 a0_2 _ _ l0_3 false _ ?side1 ?side2 A7.out).mono ?_); (case side1 => exact qC (Kd.C_below HR0_3.out HB.out)); (case side2 => exact HC0_3.out); rintro e w20 ⟨rfl, hb⟩; refine ⟨_, rfl, ?_⟩; replace BK624 := bB BK624 hb; replace BK625 := bB BK625 hb; replace BK626 := bB BK626 hb; replace HB := bS HB hb; clear hb))
   go_meet
   case rel => exact ⟨_, (true), qE, H', ⟨by first | omega | exact Nat.le_refl _⟩, ⟨by refine qB ?_; exact BK624.out⟩, ⟨by refine qB ?_; exact BK625.out⟩, ⟨by refine qB ?_; exact BK626.out⟩, ⟨by exact qW HB.out⟩⟩
  subst c8
  have H1 : ((spec_validKernel.f k a1_0 l1_1 a1_2).bind fun t628 => (spec_ConvolveImage.j0 k (!t628) a0_0 a0_1 a0_2 l0_3 a1_0 l1_1 a1_2)) = some (r1, r2, r3, r4) := by rw [if_pos rfl] at H; exact H
  clear H
  have H := H1
  clear H1
  replace H := Option.bind_eq_some_iff.mp H
  obtain ⟨t628, A90, H⟩ := H
  replace H : (spec_ConvolveImage.j0 k (!t628) a0_0 a0_1 a0_2 l0_3 a1_0 l1_1 a1_2) = some (r1, r2, r3, r4) := H
  have A9 := aM A90
  clear A90
  have H' := aM H
  clear H
  have hnb10 := NB624_625.out
  have hnc10 := NB625_624.out
  have hnb11 := NB624_626.out
  have hnc11 := NB626_624.out
  obtain ⟨⟨hcz12_0, hcz12_1, hcz12_2, hcz12_3⟩, hfz12_0, hfz12_1, hfz12_2, hfz12_3⟩ := cf4 BK624
  go_wp2_with (first | ((with_reducible refine gate_callee (f := 52) rfl ?_); refine gL (some 11) Try.func52 #[.agg #[.int .i64 a0_0, .int .i64 a0_1, .int .i64 a0_2, .slice A0_3 l0_3.length c0_3]] ?_; (with_reducible refine (spec_validImage.calls k a0_0 a0_1 a0_2 _ _ l0_3 true _ ?side1 ?side2 A7.out).mono ?_); (case side1 => exact qC (Kd.C_below HR0_3.out HB.out)); (case side2 => exact HC0_3.out); rintro e w13 ⟨rfl, hb⟩; refine ⟨_, rfl, ?_⟩; replace BK624 := bB BK624 hb; replace BK625 := bB BK625 hb; replace BK626 := bB BK626 hb; replace HB := bS HB hb; clear hb; have hnb14 := NB625_626.out; have hnc14 := NB626_625.out; obtain ⟨⟨hcz15_0, hcz15_1, hcz15_2⟩, hfz15_0, hfz15_1, hfz15_2⟩ := cf3 BK625) | (go_at_call 78; (with_reducible refine (spec_validKernel.calls k a1_0 _ _ l1_1 a1_2 t628 _ ?side1 ?side2 A9.out).mono ?_); (case side1 => exact qC (Kd.C_below HR1_1.out HB.out)); (case side2 => exact HC1_1.out); rintro e w16 ⟨rfl, hb⟩; replace BK624 := bB BK624 hb; replace BK625 := bB BK625 hb; replace BK626 := bB BK626 hb; replace HB := bS HB hb; clear hb))
  go_meet
  case rel => exact ⟨_, (!t628), qE, H', ⟨by first | omega | exact Nat.le_refl _⟩, ⟨by refine qB ?_; exact BK624.out⟩, ⟨by refine qB ?_; exact BK625.out⟩, ⟨by refine qB ?_; exact BK626.out⟩, ⟨by exact qW HB.out⟩⟩
 case rest =>
  clear HC3
  try clear c8
  try clear hcz12_0 hcz12_1 hcz12_2 hcz12_3 hfz12_0 hfz12_1 hfz12_2 hfz12_3
  try clear hcz15_0 hcz15_1 hcz15_2 hfz15_0 hfz15_1 hfz15_2
  try clear hcz19_0 hcz19_1 hcz19_2 hcz19_3 hfz19_0 hfz19_1 hfz19_2 hfz19_3
  obtain ⟨kq, x17_2, rfl, HA, HJ2, BK624, BK625, BK626, HB⟩ := hcut
  cases kq with
  | zero => exact absurd HA.out (by simp [spec_ConvolveImage.j0])
  | succ kj2 =>
   have H := HA.out
   clear HA
   simp only [spec_ConvolveImage.j0] at H
   by_cases c21 : x17_2 = true
   ·subst c21
    have H1 : (some (0, 0, 0, ([] : List Int))) = some (r1, r2, r3, r4) := by rw [if_pos rfl] at H; exact H
    clear H
    have H := H1
    clear H1
    simp only [Option.some.injEq, Prod.mk.injEq] at H
    obtain ⟨rfl, rfl, rfl, rfl⟩ := H
    have hnb22 := NB626_624.out
    have hnc22 := NB624_626.out
    have hnb23 := NB626_625.out
    have hnc23 := NB625_626.out
    obtain ⟨⟨hcz24_0, hcz24_1, hcz24_2, hcz24_3⟩, hfz24_0, hfz24_1, hfz24_2, hfz24_3⟩ := cf4 BK626
    go_wp2
    refine bodyPost_ret (results_cell_row rfl _ _ gb626 27 #[.int .i64 0, .int .i64 0, .int .i64 0, .slice none 0 0] (0, 0) _ rfl (by exact bP BK626.out) Try.underlying27 rfl (by kernel_rfl)) rfl ?_
    exact ⟨_, qX, qN, by exact qW HB.out⟩
   replace c21 := Bool.eq_false_iff.mpr c21
   subst c21
   have H1 : ((spec_copyImage.f a0_0 a0_1 a0_2 l0_3).bind fun bt629 => (spec_ConvolveImage.l0 kj2 0 a0_0 a0_1 a0_2 l0_3 a1_0 l1_1 a1_2 bt629.1 bt629.2.1 bt629.2.2.1 bt629.2.2.2)) = some (r1, r2, r3, r4) := by rw [if_neg (show ¬ (false = true) by decide)] at H; exact H
   clear H
   have H := H1
   clear H1
   replace H := Option.bind_eq_some_iff.mp H
   obtain ⟨⟨t629, t630, t631, t632⟩, A250, H⟩ := H
   replace H : (spec_ConvolveImage.l0 kj2 0 a0_0 a0_1 a0_2 l0_3 a1_0 l1_1 a1_2 t629 t630 t631 t632) = some (r1, r2, r3, r4) := H
   have A25 := aM A250
   clear A250
   have H' := aM H
   clear H
   have hnb26 := NB624_625.out
   have hnc26 := NB625_624.out
   have hnb27 := NB624_626.out
   have hnc27 := NB626_624.out
   obtain ⟨⟨hcz28_0, hcz28_1, hcz28_2, hcz28_3⟩, hfz28_0, hfz28_1, hfz28_2, hfz28_3⟩ := cf4 BK624
   go_wp2_with (first | ((with_reducible refine gate_callee (f := 58) rfl ?_); refine gL (some 20) Try.func58 #[.agg #[.int .i64 a0_0, .int .i64 a0_1, .int .i64 a0_2, .slice A0_3 l0_3.length c0_3]] ?_; (with_reducible refine (spec_copyImage.calls a0_0 a0_1 a0_2 _ _ l0_3 t629 t630 t631 t632 _ ?side1 ?side2 A25.out).mono ?_); (case side1 => exact qC (Kd.C_below HR0_3.out HB.out)); (case side2 => exact HC0_3.out); rintro e w29 ⟨v633, rfl, ho0, hb⟩; refine ⟨_, rfl, ?_⟩; have HO634 := oR ho0 HB; replace BK624 := bB BK624 hb; replace BK625 := bB BK625 hb; replace BK626 := bB BK626 hb; replace HB := bS HB hb; clear hb ho0) | ((with_reducible refine gate_dst (N := 5) rfl ?_); refine bxE (N := 5) (cs := #[.int .i64 0, .int .i64 0, .int .i64 0, .slice none 0 0]) (t := 27) ?_; intro gb635 hg w30 hbox hb; replace HO634 := aM (Kd.R_below (qR HO634.out) hb); have BK635 := aM (hbox); have GW635 := gW hg HB; have GE635 := gW hg HB; replace HB := bS HB hb; have NB624_635 := nL hg BK624; have NB635_624 := nG hg BK624; replace BK624 := bB BK624 hb; have NB625_635 := nL hg BK625; have NB635_625 := nG hg BK625; replace BK625 := bB BK625 hb; have NB626_635 := nL hg BK626; have NB635_626 := nG hg BK626; replace BK626 := bB BK626 hb; clear hb hbox hg; have hnb31 := NB635_624.out; have hnc31 := NB624_635.out; have hnb32 := NB635_625.out; have hnc32 := NB625_635.out; have hnb33 := NB635_626.out; have hnc33 := NB626_635.out; obtain ⟨⟨hcz34_0, hcz34_1, hcz34_2, hcz34_3⟩, hfz34_0, hfz34_1, hfz34_2, hfz34_3⟩ := cf4 BK635; obtain ⟨Ao35, co35, rfl⟩ := sL HO634))
   go_loopg [6] kj2 (fun kq v6 w' => ∃ (x6_2 : Int) (x636003_2 : List Int) (u636003 : Value), v6 = .int .i64 x6_2 ∧ Aside0 (spec_ConvolveImage.l0 kq x6_2 a0_0 a0_1 a0_2 l0_3 a1_0 l1_1 a1_2 t629 t630 t631 x636003_2 = some (r1, r2, r3, r4)) ∧ Aside0 (kq ≤ kj2) ∧ Aside0 (Kd.R (Kd.int .i64) 3 w' w.heap.size (fun _ => True) u636003 x636003_2) ∧ Aside0 (w'.heap[gb624]? = some (.cells #[.int .i64 a0_0, .int .i64 a0_1, .int .i64 a0_2, (.slice A0_3 l0_3.length c0_3)] 27 (0, 0))) ∧ Aside0 (w'.heap[gb625]? = some (.cells #[.int .i64 a1_0, (.slice A1_1 l1_1.length c1_1), .int .i64 a1_2] 49 (0, 0))) ∧ Aside0 (w'.heap[gb626]? = some (.cells #[.int .i64 0, .int .i64 0, .int .i64 0, (.slice none 0 0)] 27 (0, 0))) ∧ Aside0 (w'.heap[gb635]? = some (.cells #[.int .i64 t629, .int .i64 t630, .int .i64 t631, u636003] 27 (0, 0))) ∧ Aside0 (Below w.heap.size w w'))
   case atStart => exact ⟨(0), (t632), (.slice Ao35 t632.length co35), qE, H', ⟨Nat.le_refl _⟩, ⟨by refine qR ?_; exact Kd.R_mono (rT HO634 BK635) (fun _ hk => trivial)⟩, ⟨by refine qB ?_; refine blk_far ?_ NB624_635.out _; refine qB ?_; refine blk_far ?_ NB624_635.out _; refine qB ?_; refine blk_far ?_ NB624_635.out _; refine qB ?_; refine blk_far ?_ NB624_635.out _; refine qB ?_; exact BK624.out⟩, ⟨by refine qB ?_; refine blk_far ?_ NB625_635.out _; refine qB ?_; refine blk_far ?_ NB625_635.out _; refine qB ?_; refine blk_far ?_ NB625_635.out _; refine qB ?_; refine blk_far ?_ NB625_635.out _; refine qB ?_; exact BK625.out⟩, ⟨by refine qB ?_; refine blk_far ?_ NB626_635.out _; refine qB ?_; refine blk_far ?_ NB626_635.out _; refine qB ?_; refine blk_far ?_ NB626_635.out _; refine qB ?_; refine blk_far ?_ NB626_635.out _; refine qB ?_; exact BK626.out⟩, ⟨by exact bP BK635.out⟩, ⟨by exact qW HB.out⟩⟩
   case round =>
    clear H'
    try clear c8
    try clear c21
    try clear hcz12_0 hcz12_1 hcz12_2 hcz12_3 hfz12_0 hfz12_1 hfz12_2 hfz12_3
    try clear hcz15_0 hcz15_1 hcz15_2 hfz15_0 hfz15_1 hfz15_2
    try clear hcz19_0 hcz19_1 hcz19_2 hcz19_3 hfz19_0 hfz19_1 hfz19_2 hfz19_3
    try clear hcz24_0 hcz24_1 hcz24_2 hcz24_3 hfz24_0 hfz24_1 hfz24_2 hfz24_3
    try clear hcz28_0 hcz28_1 hcz28_2 hcz28_3 hfz28_0 hfz28_1 hfz28_2 hfz28_3
    try clear hcz34_0 hcz34_1 hcz34_2 hcz34_3 hfz34_0 hfz34_1 hfz34_2 hfz34_3
    obtain ⟨x6_2, x636003_2, u636003, rfl, HA, HK2, HO_636003, BK624, BK625, BK626, BK635, HB⟩ := hrel
    cases gk with
    | zero => exact absurd HA.out (by simp [spec_ConvolveImage.l0])
    | succ k2 =>
     have H := HA.out
     clear HA
     simp only [spec_ConvolveImage.l0] at H
     by_cases c36 : x6_2 < a0_1
     rotate_left
     ·rw [if_neg c36] at H
      have c36b0 : decide (x6_2 < a0_1) = false := decide_eq_false c36
      clear c36
      simp only [Option.some.injEq, Prod.mk.injEq] at H
      obtain ⟨rfl, rfl, rfl, rfl⟩ := H
      have hnb75 := NB624_625.out
      have hnc75 := NB625_624.out
      have hnb76 := NB624_626.out
      have hnc76 := NB626_624.out
      have hnb77 := NB624_635.out
      have hnc77 := NB635_624.out
      obtain ⟨⟨hcz78_0, hcz78_1, hcz78_2, hcz78_3⟩, hfz78_0, hfz78_1, hfz78_2, hfz78_3⟩ := cf4 BK624
      have hnb79 := NB635_625.out
      have hnc79 := NB625_635.out
      have hnb80 := NB635_626.out
      have hnc80 := NB626_635.out
      obtain ⟨⟨hcz81_0, hcz81_1, hcz81_2, hcz81_3⟩, hfz81_0, hfz81_1, hfz81_2, hfz81_3⟩ := cf4 BK635
      have hnb82 := NB626_625.out
      have hnc82 := NB625_626.out
      obtain ⟨⟨hcz83_0, hcz83_1, hcz83_2, hcz83_3⟩, hfz83_0, hfz83_1, hfz83_2, hfz83_3⟩ := cf4 BK626
      obtain ⟨Ao84, co84, rfl⟩ := sL HO_636003
      go_wp2
      refine bodyPost_ret (results_cell_row rfl _ _ gb626 27 #[.int .i64 t629, .int .i64 t630, .int .i64 t631, .slice Ao84 x636003_2.length co84] (0, 0) _ rfl (by exact bP BK626.out) Try.underlying27 rfl (by kernel_rfl)) rfl ?_
      exact ⟨_, qX, by refine qR ?_; exact Kd.R_mono (rT HO_636003 BK626) (fun _ hk => trivial), by exact qW HB.out⟩
     rw [if_pos c36] at H
     have c36b0 : decide (x6_2 < a0_1) = true := decide_eq_true c36
     clear c36
     have H' := aM H
     clear H
     have hnb37 := NB624_625.out
     have hnc37 := NB625_624.out
     have hnb38 := NB624_626.out
     have hnc38 := NB626_624.out
     have hnb39 := NB624_635.out
     have hnc39 := NB635_624.out
     obtain ⟨⟨hcz40_0, hcz40_1, hcz40_2, hcz40_3⟩, hfz40_0, hfz40_1, hfz40_2, hfz40_3⟩ := cf4 BK624
     go_wp2
     go_loopg [7] k2 (fun kq v7 w' => ∃ (x7_3 : Int) (x636003_3 : List Int) (u636003 : Value), v7 = .int .i64 x7_3 ∧ Aside0 (spec_ConvolveImage.l1 kq x6_2 x7_3 a0_0 a0_1 a0_2 l0_3 a1_0 l1_1 a1_2 t629 t630 t631 x636003_3 = some (r1, r2, r3, r4)) ∧ Aside0 (kq ≤ k2) ∧ Aside0 (Kd.R (Kd.int .i64) 3 w' w.heap.size (fun _ => True) u636003 x636003_3) ∧ Aside0 (w'.heap[gb624]? = some (.cells #[.int .i64 a0_0, .int .i64 a0_1, .int .i64 a0_2, (.slice A0_3 l0_3.length c0_3)] 27 (0, 0))) ∧ Aside0 (w'.heap[gb625]? = some (.cells #[.int .i64 a1_0, (.slice A1_1 l1_1.length c1_1), .int .i64 a1_2] 49 (0, 0))) ∧ Aside0 (w'.heap[gb626]? = some (.cells #[.int .i64 0, .int .i64 0, .int .i64 0, (.slice none 0 0)] 27 (0, 0))) ∧ Aside0 (w'.heap[gb635]? = some (.cells #[.int .i64 t629, .int .i64 t630, .int .i64 t631, u636003] 27 (0, 0))) ∧ Aside0 (Below w.heap.size w w'))
     case atStart => exact ⟨(0), (x636003_2), (u636003), qE, H', ⟨Nat.le_refl _⟩, ⟨by refine qR ?_; exact HO_636003.out⟩, ⟨by refine qB ?_; exact BK624.out⟩, ⟨by refine qB ?_; exact BK625.out⟩, ⟨by refine qB ?_; exact BK626.out⟩, ⟨by refine qB ?_; exact BK635.out⟩, ⟨by exact qW HB.out⟩⟩
     case round =>
      clear H'
      try clear c8
      try clear c21
      try clear c36
      try clear c36b0
      try clear hcz12_0 hcz12_1 hcz12_2 hcz12_3 hfz12_0 hfz12_1 hfz12_2 hfz12_3
      try clear hcz15_0 hcz15_1 hcz15_2 hfz15_0 hfz15_1 hfz15_2
      try clear hcz19_0 hcz19_1 hcz19_2 hcz19_3 hfz19_0 hfz19_1 hfz19_2 hfz19_3
      try clear hcz24_0 hcz24_1 hcz24_2 hcz24_3 hfz24_0 hfz24_1 hfz24_2 hfz24_3
      try clear hcz28_0 hcz28_1 hcz28_2 hcz28_3 hfz28_0 hfz28_1 hfz28_2 hfz28_3
      try clear hcz34_0 hcz34_1 hcz34_2 hcz34_3 hfz34_0 hfz34_1 hfz34_2 hfz34_3
      try clear hcz40_0 hcz40_1 hcz40_2 hcz40_3 hfz40_0 hfz40_1 hfz40_2 hfz40_3
      obtain ⟨x7_3, x636003_3, u636003, rfl, HA, HK3, HO_636003, BK624, BK625, BK626, BK635, HB⟩ := hrel
      cases gk with
      | zero => exact absurd HA.out (by simp [spec_ConvolveImage.l1])
      | succ k3 =>
       have H := HA.out
       clear HA
       simp only [spec_ConvolveImage.l1] at H
       by_cases c41 : x7_3 < a0_0
       rotate_left
       ·rw [if_neg c41] at H
        have c41b0 : decide (x7_3 < a0_0) = false := decide_eq_false c41
        clear c41
        have H' := aM H
        clear H
        have hnb71 := NB624_625.out
        have hnc71 := NB625_624.out
        have hnb72 := NB624_626.out
        have hnc72 := NB626_624.out
        have hnb73 := NB624_635.out
        have hnc73 := NB635_624.out
        obtain ⟨⟨hcz74_0, hcz74_1, hcz74_2, hcz74_3⟩, hfz74_0, hfz74_1, hfz74_2, hfz74_3⟩ := cf4 BK624
        go_wp2
        go_roundg k3
        case measure => have := HJ2.out; have := HK2.out; have := HK3.out; omega
        case rel => exact ⟨(wrap64 (x6_2 + 1)), (x636003_3), (u636003), qE, H', ⟨by have := HJ2.out; have := HK2.out; have := HK3.out; omega⟩, ⟨by refine qR ?_; exact HO_636003.out⟩, ⟨by refine qB ?_; exact BK624.out⟩, ⟨by refine qB ?_; exact BK625.out⟩, ⟨by refine qB ?_; exact BK626.out⟩, ⟨by refine qB ?_; exact BK635.out⟩, ⟨by exact qW HB.out⟩⟩
       rw [if_pos c41] at H
       have c41b0 : decide (x7_3 < a0_0) = true := decide_eq_true c41
       clear c41
       have H' := aM H
       clear H
       have hnb42 := NB624_625.out
       have hnc42 := NB625_624.out
       have hnb43 := NB624_626.out
       have hnc43 := NB626_624.out
       have hnb44 := NB624_635.out
       have hnc44 := NB635_624.out
       obtain ⟨⟨hcz45_0, hcz45_1, hcz45_2, hcz45_3⟩, hfz45_0, hfz45_1, hfz45_2, hfz45_3⟩ := cf4 BK624
       go_wp2
       go_loopg [8] k3 (fun kq v8 w' => ∃ (x8_4 : Int) (x636003_4 : List Int) (u636003 : Value), v8 = .int .i64 x8_4 ∧ Aside0 (spec_ConvolveImage.l2 kq x6_2 x7_3 x8_4 a0_0 a0_1 a0_2 l0_3 a1_0 l1_1 a1_2 t629 t630 t631 x636003_4 = some (r1, r2, r3, r4)) ∧ Aside0 (kq ≤ k3) ∧ Aside0 (Kd.R (Kd.int .i64) 3 w' w.heap.size (fun _ => True) u636003 x636003_4) ∧ Aside0 (w'.heap[gb624]? = some (.cells #[.int .i64 a0_0, .int .i64 a0_1, .int .i64 a0_2, (.slice A0_3 l0_3.length c0_3)] 27 (0, 0))) ∧ Aside0 (w'.heap[gb625]? = some (.cells #[.int .i64 a1_0, (.slice A1_1 l1_1.length c1_1), .int .i64 a1_2] 49 (0, 0))) ∧ Aside0 (w'.heap[gb626]? = some (.cells #[.int .i64 0, .int .i64 0, .int .i64 0, (.slice none 0 0)] 27 (0, 0))) ∧ Aside0 (w'.heap[gb635]? = some (.cells #[.int .i64 t629, .int .i64 t630, .int .i64 t631, u636003] 27 (0, 0))) ∧ Aside0 (Below w.heap.size w w'))
       case atStart => exact ⟨(0), (x636003_3), (u636003), qE, H', ⟨Nat.le_refl _⟩, ⟨by refine qR ?_; exact HO_636003.out⟩, ⟨by refine qB ?_; exact BK624.out⟩, ⟨by refine qB ?_; exact BK625.out⟩, ⟨by refine qB ?_; exact BK626.out⟩, ⟨by refine qB ?_; exact BK635.out⟩, ⟨by exact qW HB.out⟩⟩
       case round =>
        clear H'
        try clear c8
        try clear c21
        try clear c36
        try clear c36b0
        try clear c41
        try clear c41b0
        try clear hcz12_0 hcz12_1 hcz12_2 hcz12_3 hfz12_0 hfz12_1 hfz12_2 hfz12_3
        try clear hcz15_0 hcz15_1 hcz15_2 hfz15_0 hfz15_1 hfz15_2
        try clear hcz19_0 hcz19_1 hcz19_2 hcz19_3 hfz19_0 hfz19_1 hfz19_2 hfz19_3
        try clear hcz24_0 hcz24_1 hcz24_2 hcz24_3 hfz24_0 hfz24_1 hfz24_2 hfz24_3
        try clear hcz28_0 hcz28_1 hcz28_2 hcz28_3 hfz28_0 hfz28_1 hfz28_2 hfz28_3
        try clear hcz34_0 hcz34_1 hcz34_2 hcz34_3 hfz34_0 hfz34_1 hfz34_2 hfz34_3
        try clear hcz40_0 hcz40_1 hcz40_2 hcz40_3 hfz40_0 hfz40_1 hfz40_2 hfz40_3
        try clear hcz45_0 hcz45_1 hcz45_2 hcz45_3 hfz45_0 hfz45_1 hfz45_2 hfz45_3
        obtain ⟨x8_4, x636003_4, u636003, rfl, HA, HK4, HO_636003, BK624, BK625, BK626, BK635, HB⟩ := hrel
        cases gk with
        | zero => exact absurd HA.out (by simp [spec_ConvolveImage.l2])
        | succ k4 =>
         have H := HA.out
         clear HA
         simp only [spec_ConvolveImage.l2] at H
         by_cases c46 : x8_4 < a0_2
         rotate_left
         ·rw [if_neg c46] at H
          have c46b0 : decide (x8_4 < a0_2) = false := decide_eq_false c46
          clear c46
          have H' := aM H
          clear H
          have hnb67 := NB624_625.out
          have hnc67 := NB625_624.out
          have hnb68 := NB624_626.out
          have hnc68 := NB626_624.out
          have hnb69 := NB624_635.out
          have hnc69 := NB635_624.out
          obtain ⟨⟨hcz70_0, hcz70_1, hcz70_2, hcz70_3⟩, hfz70_0, hfz70_1, hfz70_2, hfz70_3⟩ := cf4 BK624
          go_wp2
          go_roundg k4
          case measure => have := HJ2.out; have := HK2.out; have := HK3.out; have := HK4.out; omega
          case rel => exact ⟨(wrap64 (x7_3 + 1)), (x636003_4), (u636003), qE, H', ⟨by have := HJ2.out; have := HK2.out; have := HK3.out; have := HK4.out; omega⟩, ⟨by refine qR ?_; exact HO_636003.out⟩, ⟨by refine qB ?_; exact BK624.out⟩, ⟨by refine qB ?_; exact BK625.out⟩, ⟨by refine qB ?_; exact BK626.out⟩, ⟨by refine qB ?_; exact BK635.out⟩, ⟨by exact qW HB.out⟩⟩
         rw [if_pos c46] at H
         have c46b0 : decide (x8_4 < a0_2) = true := decide_eq_true c46
         clear c46
         replace H := Option.bind_eq_some_iff.mp H
         obtain ⟨t636, A470, H⟩ := H
         replace H : ((spec_floorDiv.f (wrap64 ((wrap64 (2 * t636)) + a1_2)) (wrap64 (2 * a1_2))).bind fun t637 => (if 0 ≤ (wrap64 ((wrap64 ((wrap64 ((wrap64 (x6_2 * a0_0)) + x7_3)) * a0_2)) + x8_4)) then (if (wrap64 ((wrap64 ((wrap64 ((wrap64 (x6_2 * a0_0)) + x7_3)) * a0_2)) + x8_4)) < (x636003_4.length : Int) then (spec_ConvolveImage.l2 k4 x6_2 x7_3 (wrap64 (x8_4 + 1)) a0_0 a0_1 a0_2 l0_3 a1_0 l1_1 a1_2 t629 t630 t631 (x636003_4.set ((wrap64 ((wrap64 ((wrap64 ((wrap64 (x6_2 * a0_0)) + x7_3)) * a0_2)) + x8_4)) : Int).toNat (mn 255 (mx 0 t637)))) else (none)) else (none))) = some (r1, r2, r3, r4) := H
         have A47 := aM A470
         clear A470
         replace H := Option.bind_eq_some_iff.mp H
         obtain ⟨t637, A480, H⟩ := H
         replace H : (if 0 ≤ (wrap64 ((wrap64 ((wrap64 ((wrap64 (x6_2 * a0_0)) + x7_3)) * a0_2)) + x8_4)) then (if (wrap64 ((wrap64 ((wrap64 ((wrap64 (x6_2 * a0_0)) + x7_3)) * a0_2)) + x8_4)) < (x636003_4.length : Int) then (spec_ConvolveImage.l2 k4 x6_2 x7_3 (wrap64 (x8_4 + 1)) a0_0 a0_1 a0_2 l0_3 a1_0 l1_1 a1_2 t629 t630 t631 (x636003_4.set ((wrap64 ((wrap64 ((wrap64 ((wrap64 (x6_2 * a0_0)) + x7_3)) * a0_2)) + x8_4)) : Int).toNat (mn 255 (mx 0 t637)))) else (none)) else (none)) = some (r1, r2, r3, r4) := H
         have A48 := aM A480
         clear A480
         obtain ⟨ji49, hji49⟩ : ∃ j_ : Int, (mx 0 t637) = j_ := ⟨_, rfl⟩
         replace H : (if 0 ≤ (wrap64 ((wrap64 ((wrap64 ((wrap64 (x6_2 * a0_0)) + x7_3)) * a0_2)) + x8_4)) then (if (wrap64 ((wrap64 ((wrap64 ((wrap64 (x6_2 * a0_0)) + x7_3)) * a0_2)) + x8_4)) < (x636003_4.length : Int) then (spec_ConvolveImage.l2 k4 x6_2 x7_3 (wrap64 (x8_4 + 1)) a0_0 a0_1 a0_2 l0_3 a1_0 l1_1 a1_2 t629 t630 t631 (x636003_4.set ((wrap64 ((wrap64 ((wrap64 ((wrap64 (x6_2 * a0_0)) + x7_3)) * a0_2)) + x8_4)) : Int).toNat (mn 255 (ji49)))) else (none)) else (none)) = some (r1, r2, r3, r4) := by first | (rw [hji49] at H; exact H) | (simp only [hji49] at H ⊢; exact H)
         (try rw [hji49] at A47)
         (try rw [hji49] at A48)
         (try (have hji49l : 0 ≤ ji49 := by (rw [← hji49]; unfold mx; (repeat' split) <;> omega)))
         (try (have hji49m : 0 ≤ ji49 := by omega))
         have hji49_ : (if 0 < t637 then t637 else 0) = ji49 := hji49
         obtain ⟨ji50, hji50⟩ : ∃ j_ : Int, (mn 255 (ji49)) = j_ := ⟨_, rfl⟩
         replace H : (if 0 ≤ (wrap64 ((wrap64 ((wrap64 ((wrap64 (x6_2 * a0_0)) + x7_3)) * a0_2)) + x8_4)) then (if (wrap64 ((wrap64 ((wrap64 ((wrap64 (x6_2 * a0_0)) + x7_3)) * a0_2)) + x8_4)) < (x636003_4.length : Int) then (spec_ConvolveImage.l2 k4 x6_2 x7_3 (wrap64 (x8_4 + 1)) a0_0 a0_1 a0_2 l0_3 a1_0 l1_1 a1_2 t629 t630 t631 (x636003_4.set ((wrap64 ((wrap64 ((wrap64 ((wrap64 (x6_2 * a0_0)) + x7_3)) * a0_2)) + x8_4)) : Int).toNat (ji50))) else (none)) else (none)) = some (r1, r2, r3, r4) := by first | (rw [hji50] at H; exact H) | (simp only [hji50] at H ⊢; exact H)
         (try rw [hji50] at A47)
         (try rw [hji50] at A48)
         have hji50_ : (if (ji49) < 255 then (ji49) else 255) = ji50 := hji50
         obtain ⟨ji51, hji51⟩ : ∃ j_ : Int, (wrap64 ((wrap64 ((wrap64 ((wrap64 (x6_2 * a0_0)) + x7_3)) * a0_2)) + x8_4)) = j_ := ⟨_, rfl⟩
         replace H : (if 0 ≤ (ji51) then (if (ji51) < (x636003_4.length : Int) then (spec_ConvolveImage.l2 k4 x6_2 x7_3 (wrap64 (x8_4 + 1)) a0_0 a0_1 a0_2 l0_3 a1_0 l1_1 a1_2 t629 t630 t631 (x636003_4.set ((ji51) : Int).toNat (ji50))) else (none)) else (none)) = some (r1, r2, r3, r4) := by first | (rw [hji51] at H; exact H) | (simp only [hji51] at H ⊢; exact H)
         (try rw [hji51] at A47)
         (try rw [hji51] at A48)
         have hji51w : (IntKind.i64.wrap ((wrap64 ((wrap64 ((wrap64 (x6_2 * a0_0)) + x7_3)) * a0_2)) + x8_4)) = ji51 := (i64_w _).trans hji51
         replace H := iD H
         obtain ⟨c52b0, H⟩ := H
         replace H := iD H
         obtain ⟨c53b0, H⟩ := H
         obtain ⟨y638, hy638⟩ : ∃ y_ : List Int, y_ = (x636003_4.set ((ji51) : Int).toNat (ji50)) := ⟨_, rfl⟩
         replace H : (spec_ConvolveImage.l2 k4 x6_2 x7_3 (wrap64 (x8_4 + 1)) a0_0 a0_1 a0_2 l0_3 a1_0 l1_1 a1_2 t629 t630 t631 y638) = some (r1, r2, r3, r4) := rY hy638 H
         have Ny638 := aM hy638
         clear hy638
         have H' := aM H
         clear H
         have hnb55 := NB624_625.out
         have hnc55 := NB625_624.out
         have hnb56 := NB624_626.out
         have hnc56 := NB626_624.out
         have hnb57 := NB624_635.out
         have hnc57 := NB635_624.out
         obtain ⟨⟨hcz58_0, hcz58_1, hcz58_2, hcz58_3⟩, hfz58_0, hfz58_1, hfz58_2, hfz58_3⟩ := cf4 BK624
         try go_wp2
         replace HO_636003 := aM (Kd.R_drew HO_636003.out)
         replace BK624 := aM (blk_drew BK624.out)
         replace BK625 := aM (blk_drew BK625.out)
         replace BK626 := aM (blk_drew BK626.out)
         replace BK635 := aM (blk_drew BK635.out)
         replace HB := aM (below_drew1 HB.out)
         refine start_ (n := 15) (S := fun w' => w'.cell? ⟨gb624, 0, none⟩ = some (.int .i64 a0_0) ∧ w'.cell? ⟨gb624, 1, none⟩ = some (.int .i64 a0_1) ∧ w'.cell? ⟨gb624, 2, none⟩ = some (.int .i64 a0_2) ∧ w'.cell? ⟨gb624, 3, none⟩ = some (.slice A0_3 l0_3.length c0_3) ∧ w'.cell? ⟨gb625, 0, none⟩ = some (.int .i64 a1_0) ∧ w'.cell? ⟨gb625, 1, none⟩ = some (.slice A1_1 l1_1.length c1_1) ∧ w'.cell? ⟨gb625, 2, none⟩ = some (.int .i64 a1_2)) (ds := []) (bA 15 0) (by kernel_rfl) rfl rfl ⟨(blk_cell BK624.out 0).trans rfl, (blk_cell BK624.out 1).trans rfl, (blk_cell BK624.out 2).trans rfl, (blk_cell BK624.out 3).trans rfl, (blk_cell BK625.out 0).trans rfl, (blk_cell BK625.out 1).trans rfl, (blk_cell BK625.out 2).trans rfl⟩ (fun hHeld => ?_); refine with_tabW spec_ConvolveImage.tab13 spec_ConvolveImage.bits13 (fun HT_ HW_ => ?_)
         generalize wr.drew = w59 at HO_636003 BK624 BK625 BK626 BK635 HB hHeld ⊢
         refine pQ 2 41 HT_ (bA 15 4) ?_
         refine pQ 3 42 HT_ (bA 15 12) ?_
         refine pQ 4 43 HT_ (bA 15 28) ?_
         refine pQ 7 46 HT_ (bA 15 156) ?_
         refine pQ 10 49 HT_ (bA 15 1180) ?_
         refine take_ (i := 0) (N := some 39) (v := ?_) (a' := ?_) (bA 15 1181) rfl rfl (take_ofW HT_.out HW_.out (by kernel_rfl)) (fun _ _ _ h => h) (Or.inl ⟨by rfl, ?_⟩) hHeld ?_ ?_
         rotate_left
         ·rintro w' ⟨s0, s1, s2, s3, s4, s5, s6⟩
          go_simp
          with_reducible rfl
         rotate_left
         ·refine pZ ?_
          rfl
         refine take_ (i := 1) (N := some 40) (v := ?_) (a' := ?_) (bA 15 1183) rfl rfl (take_ofW HT_.out HW_.out (by kernel_rfl)) (fun _ _ _ h => h) (Or.inl ⟨by rfl, ?_⟩) hHeld ?_ ?_
         rotate_left
         ·rintro w' ⟨s0, s1, s2, s3, s4, s5, s6⟩
          go_simp
          with_reducible rfl
         rotate_left
         ·refine pZ ?_
          rfl
         refine take_ (i := 8) (N := some 47) (v := ?_) (a' := ?_) (bA 15 1439) rfl rfl (take_ofW HT_.out HW_.out (by kernel_rfl)) (fun _ _ _ h => h) (Or.inl ⟨by rfl, ?_⟩) hHeld ?_ ?_
         rotate_left
         ·rintro w' ⟨s0, s1, s2, s3, s4, s5, s6⟩
          go_simp
          with_reducible rfl
         rotate_left
         ·refine pZ ?_
          rfl
         refine take_ (i := 11) (N := some 50) (v := ?_) (a' := ?_) (bA 15 3487) rfl rfl (take_ofW HT_.out HW_.out (by kernel_rfl)) (fun _ _ _ h => h) (Or.inl ⟨by rfl, ?_⟩) hHeld ?_ ?_
         rotate_left
         ·rintro w' ⟨s0, s1, s2, s3, s4, s5, s6⟩
          go_simp
          with_reducible rfl
         rotate_left
         ·refine pZ ?_
          rfl
         refine pQ 12 51 HT_ (bA 15 7583) ?_
         refine one_ (i := 5) (N := some 44) (bA 15 7615) rfl rfl (one_of HT_.out (by kernel_rfl)) (by decide) (fun K hK => ?_)
         refine goes_ Try.func79 (by kernel_rfl) rfl #[.agg #[.int .i64 a0_0, .int .i64 a0_1, .int .i64 a0_2, .slice A0_3 l0_3.length c0_3], .agg #[.int .i64 a1_0, .slice A1_1 l1_1.length c1_1, .int .i64 a1_2], .int .i64 x7_3, .int .i64 x6_2, .int .i64 x8_4] (by rfl) rfl rfl qM ?_
         with_reducible refine (spec_convolve.calls k4 a0_0 a0_1 a0_2 _ _ l0_3 a1_0 _ _ l1_1 a1_2 x7_3 x6_2 x8_4 t636 _ ?side1 ?side2 ?side3 ?side4 A47.out).mono ?_
         (case side1 => exact qC (Kd.C_below HR0_3.out HB.out))
         (case side2 => exact HC0_3.out)
         (case side3 => exact qC (Kd.C_below HR1_1.out HB.out))
         (case side4 => exact HC1_1.out)
         rintro e w60 ⟨rfl, hb⟩
         refine ⟨_, rfl, ?_⟩
         replace HO_636003 := aM (Kd.R_below (qR HO_636003.out) hb)
         replace BK624 := bB BK624 hb
         replace BK625 := bB BK625 hb
         replace BK626 := bB BK626 hb
         replace BK635 := bB BK635 hb
         replace HB := bS HB hb
         (try clear hb)
         (try clear hb2)
         (try clear hk)
         (try clear hi)
         refine hK.out _ _ ⟨(blk_cell BK624.out 0).trans rfl, (blk_cell BK624.out 1).trans rfl, (blk_cell BK624.out 2).trans rfl, (blk_cell BK624.out 3).trans rfl, (blk_cell BK625.out 0).trans rfl, (blk_cell BK625.out 1).trans rfl, (blk_cell BK625.out 2).trans rfl⟩ (fun hHeld => ?_)
         clear hK K
         refine norm_ (a' := ?_) ?_ ?_
         rotate_left
         ·show Act.put _ (some 44) _ = _
          refine pZ ?_
          rfl
         refine pQ 6 45 HT_ (bA 15 7679) ?_
         refine pQ 9 48 HT_ (bA 15 8191) ?_
         refine one_ (i := 13) (N := some 52) (bA 15 16383) rfl rfl (one_of HT_.out (by kernel_rfl)) (by decide) (fun K hK => ?_)
         refine goes_ Try.func70 (by kernel_rfl) rfl #[.int .i64 (wrap64 ((wrap64 (2 * t636)) + a1_2)), .int .i64 (wrap64 (2 * a1_2))] (by rfl) rfl rfl qM ?_
         with_reducible refine (spec_floorDiv.calls (wrap64 ((wrap64 (2 * t636)) + a1_2)) (wrap64 (2 * a1_2)) t637 _ A48.out).mono ?_
         rintro e w' ⟨rfl, ⟨nd, rfl⟩⟩
         have m0_ := aM (Kd.R_drewN HO_636003.out nd)
         have mb624_ := aM (blk_drewN BK624.out nd)
         have mb625_ := aM (blk_drewN BK625.out nd)
         have mb626_ := aM (blk_drewN BK626.out nd)
         have mb635_ := aM (blk_drewN BK635.out nd)
         have mh_ := aM (pw_below_drewN HB.out nd)
         clear HO_636003 BK624 BK625 BK626 BK635 HB
         have HO_636003 := m0_
         have BK624 := mb624_
         have BK625 := mb625_
         have BK626 := mb626_
         have BK635 := mb635_
         have HB := mh_
         clear m0_ mb624_ mb625_ mb626_ mb635_ mh_
         obtain ⟨w60, hq_⟩ : ∃ z_ : World, w60.drewN nd = z_ := ⟨_, rfl⟩
         rw [hq_] at HO_636003 BK624 BK625 BK626 BK635 HB ⊢
         clear hq_
         refine ⟨_, rfl, ?_⟩
         refine hK.out _ _ ⟨(blk_cell BK624.out 0).trans rfl, (blk_cell BK624.out 1).trans rfl, (blk_cell BK624.out 2).trans rfl, (blk_cell BK624.out 3).trans rfl, (blk_cell BK625.out 0).trans rfl, (blk_cell BK625.out 1).trans rfl, (blk_cell BK625.out 2).trans rfl⟩ (fun hHeld => ?_)
         clear hK K
         refine norm_ (a' := ?_) ?_ ?_
         rotate_left
         ·show Act.put _ (some 52) _ = _
          refine pZ ?_
          rfl
         refine pQ 14 9 HT_ (bA 15 32767) ?_
         refine done_ (done_of HT_.out (by kernel_rfl)) ?_
         have hnb61 := NB635_625.out
         have hnc61 := NB625_635.out
         have hnb62 := NB635_626.out
         have hnc62 := NB626_635.out
         obtain ⟨⟨hcz63_0, hcz63_1, hcz63_2, hcz63_3⟩, hfz63_0, hfz63_1, hfz63_2, hfz63_3⟩ := cf4 BK635
         obtain ⟨⟨hcz64_0, hcz64_1, hcz64_2, hcz64_3⟩, hfz64_0, hfz64_1, hfz64_2, hfz64_3⟩ := cf4 BK624
         have p54 : 0 ≤ ((ji51) : Int) := oD
         have q54 : ((ji51) : Int) < ((x636003_4.length : Int) : Int) := oD
         obtain ⟨go54, co54, eo54, gb54, gl54, cl54, HG54⟩ := Kd.R_form HO_636003.out (by omega)
         (first | cases eo54 | (injection eo54 with ea_ en_ ec_; (first | subst ea_ | (injection ea_ with ea_; subst ea_)); subst ec_; clear en_))
         have GB54 := aM gb54
         have GG54 := aM HG54
         clear gb54 gl54 HG54
         obtain ⟨hx54_0, hf54_0⟩ := Kd.R_celln 0 HO_636003.out ((ji51) : Int) p54 q54
         replace p54 := eq_true p54
         replace q54 := eq_true q54
         obtain ⟨hy65_, hz65_⟩ := Kd.R_celln 0 HO_636003.out ((ji51) : Int) oD oD
         have HP65 := Kd.R_putg HO_636003.out ((ji51) : Int) ji50
         try go_wp2_with (first | ((with_reducible refine gate_store (t := 3) (p := 69) rfl ?_); refine store_event (t := 3) (p := 69) (v := ?vo_w66) (w1 := (w60.setCell ⟨go54, ((ji51) : Int).toNat, none⟩ (.int .i64 ji50))) ?hg ?ho ?hn ?hr ?_; (case ho => rfl); (case hg => rfl); (case hn => rfl); (case hr => first | (go_simp; done) | (go_simp; rfl)); intro w66 hw; have hg : w60.grownBy w66 (some go54) := (by rw [hw]; exact HP65.2); have hp_ : Kd.R (Kd.int .i64) 3 w66 w.heap.size (fun _ => True) (.slice (some ⟨go54, 0, none⟩) x636003_4.length co54) y638 := (by rw [hw, Ny638.out]; exact HP65.1); clear HP65; replace BK624 := gB BK624 hg (Kd.R_ne HO_636003.out BK624.out (by decide)); replace BK625 := gB BK625 hg (Kd.R_ne HO_636003.out BK625.out (by decide)); replace BK626 := gB BK626 hg (Kd.R_ne HO_636003.out BK626.out (by decide)); replace BK635 := gB BK635 hg (Kd.R_ne HO_636003.out BK635.out (by decide)); replace HO_636003 := aM (hp_); replace HB := aM ((by rw [hw]; exact below_set (HB.out) GB54.out : Below w.heap.size w w66)); clear hg hw hp_))
         go_roundg k4
         case measure => have := HJ2.out; have := HK2.out; have := HK3.out; have := HK4.out; omega
         case rel => exact ⟨(wrap64 (x8_4 + 1)), (y638), (.slice (some ⟨go54, 0, none⟩) x636003_4.length co54), qE, H', ⟨by have := HJ2.out; have := HK2.out; have := HK3.out; have := HK4.out; omega⟩, ⟨by refine qR ?_; exact HO_636003.out⟩, ⟨by refine qB ?_; exact BK624.out⟩, ⟨by refine qB ?_; exact BK625.out⟩, ⟨by refine qB ?_; exact BK626.out⟩, ⟨by refine qB ?_; exact BK635.out⟩, ⟨by exact qW HB.out⟩⟩
def impl_PixelAt.f (a0_0 : Int) (a0_1 : Int) (a0_2 : Int) (l0_3 : List Int) (a1 : Int) (a2 : Int) : Option (List Int) := (impl_isImage.f a0_0 a0_1 a0_2 l0_3).bind fun t0 => (if t0 = true then (if (0 ≤ a1 ∧ a1 < a0_0) ∧ (0 ≤ a2 ∧ a2 < a0_1) then some (pixOf l0_3 a0_0 a0_2 a1 a2) else some ([] : List Int)) else some ([] : List Int))
set_option maxHeartbeats 8000000 in
set_option maxRecDepth 100000 in
theorem impl_PixelAt.calls (a0_0 : Int) (a0_1 : Int) (a0_2 : Int) (A0_3 : Option Addr) (c0_3 : Nat) (l0_3 : List Int) (a1 : Int) (a2 : Int) (r : List Int) (w : World) (hr0_3 : Kd.C (Kd.int .i64) w A0_3 l0_3.length l0_3) (hc0_3 : l0_3.length ≤ c0_3) (h : impl_PixelAt.f a0_0 a0_1 a0_2 l0_3 a1 a2 = some r) :
  Calls Try.prog 39 #[.agg #[.int .i64 a0_0, .int .i64 a0_1, .int .i64 a0_2, .slice A0_3 l0_3.length c0_3], .int .i64 a1, .int .i64 a2] w fun e w' => ∃ v0_ : Value, e = .returned (v0_) ∧ Kd.R (Kd.int .i64) 3 w' w.heap.size (fun _ => True) v0_ r ∧ Below w.heap.size w w' := by
 have HR0 := aM hr0_3
 have HC0 := aM hc0_3
 clear hr0_3 hc0_3
 have HB := aM (Below.refl w.heap.size w)
 unfold impl_PixelAt.f at h
 obtain ⟨t0, q0, H⟩ := Option.bind_eq_some_iff.mp h
 clear h
 have A0 := aM q0
 clear q0
 cases t0 with
 | false =>
  rw [if_neg (show ¬ (false = true) by decide)] at H
  obtain rfl := Option.some.inj H
  go_enter Try.func39, Try.ntmps39
  go_wp2_with (first | ((with_reducible refine gate_dst (N := 3) rfl ?_); (try (refine gate_guard (by rfl) ?_; dsimp only)); refine bxE (N := 3) (cs := #[.int .i64 a0_0, .int .i64 a0_1, .int .i64 a0_2, .slice A0_3 l0_3.length c0_3]) (t := 27) ?_; intro gm hg w1 hbox hb; have n2 := bS HB hb; have n3 := aM hbox; have n4 := aM ((by rw [hg]; exact (below_size (qW HB.out))) : w.heap.size ≤ gm); clear HB; have HB := n2; have BKgm := n3; have GEgm := n4; clear n2 n3 n4; clear hb hbox hg; have hz5 : w1.cell? ⟨gm, 0, none⟩ = some (.int .i64 a0_0) := (blk_cell BKgm.out 0).trans rfl; have hz6 : w1.cell? ⟨gm, 1, none⟩ = some (.int .i64 a0_1) := (blk_cell BKgm.out 1).trans rfl; have hz7 : w1.cell? ⟨gm, 2, none⟩ = some (.int .i64 a0_2) := (blk_cell BKgm.out 2).trans rfl; have hz8 : w1.cell? ⟨gm, 3, none⟩ = some (.slice A0_3 l0_3.length c0_3) := (blk_cell BKgm.out 3).trans rfl; have hf9 := blk_frozen BKgm.out 0; have hf10 := blk_frozen BKgm.out 1; have hf11 := blk_frozen BKgm.out 2; have hf12 := blk_frozen BKgm.out 3) | (go_at_call 47; (with_reducible refine (impl_isImage.calls a0_0 a0_1 a0_2 _ _ l0_3 false _ ?side1 ?side2 A0.out).mono ?_); (case side1 => exact (Kd.C_below HR0.out (qW HB.out))); (case side2 => exact HC0.out); rintro e w13 ⟨rfl, hb⟩; have n14 := bB BKgm hb; have n15 := bS HB hb; clear HB BKgm; have BKgm := n14; have HB := n15; clear n14 n15 hb; have hz16 : w13.cell? ⟨gm, 0, none⟩ = some (.int .i64 a0_0) := (blk_cell BKgm.out 0).trans rfl; have hz17 : w13.cell? ⟨gm, 1, none⟩ = some (.int .i64 a0_1) := (blk_cell BKgm.out 1).trans rfl; have hz18 : w13.cell? ⟨gm, 2, none⟩ = some (.int .i64 a0_2) := (blk_cell BKgm.out 2).trans rfl; have hz19 : w13.cell? ⟨gm, 3, none⟩ = some (.slice A0_3 l0_3.length c0_3) := (blk_cell BKgm.out 3).trans rfl; have hf20 := blk_frozen BKgm.out 0; have hf21 := blk_frozen BKgm.out 1; have hf22 := blk_frozen BKgm.out 2; have hf23 := blk_frozen BKgm.out 3))
  go_ret
  exact ⟨_, rfl, Kd.R_nil _ _ _ _ _, by exact qW HB.out⟩
 | true =>
  rw [if_pos rfl] at H
  have V := aM (isImage_true A0.out)
  by_cases k1 : 0 ≤ a1
  case neg =>
   rw [if_neg (by omega)] at H
   obtain rfl := Option.some.inj H
   go_enter Try.func39, Try.ntmps39
   go_wp2_with (first | ((with_reducible refine gate_dst (N := 3) rfl ?_); (try (refine gate_guard (by rfl) ?_; dsimp only)); refine bxE (N := 3) (cs := #[.int .i64 a0_0, .int .i64 a0_1, .int .i64 a0_2, .slice A0_3 l0_3.length c0_3]) (t := 27) ?_; intro gm hg w24 hbox hb; have n25 := bS HB hb; have n26 := aM hbox; have n27 := aM ((by rw [hg]; exact (below_size (qW HB.out))) : w.heap.size ≤ gm); clear HB; have HB := n25; have BKgm := n26; have GEgm := n27; clear n25 n26 n27; clear hb hbox hg; have hz28 : w24.cell? ⟨gm, 0, none⟩ = some (.int .i64 a0_0) := (blk_cell BKgm.out 0).trans rfl; have hz29 : w24.cell? ⟨gm, 1, none⟩ = some (.int .i64 a0_1) := (blk_cell BKgm.out 1).trans rfl; have hz30 : w24.cell? ⟨gm, 2, none⟩ = some (.int .i64 a0_2) := (blk_cell BKgm.out 2).trans rfl; have hz31 : w24.cell? ⟨gm, 3, none⟩ = some (.slice A0_3 l0_3.length c0_3) := (blk_cell BKgm.out 3).trans rfl; have hf32 := blk_frozen BKgm.out 0; have hf33 := blk_frozen BKgm.out 1; have hf34 := blk_frozen BKgm.out 2; have hf35 := blk_frozen BKgm.out 3) | (go_at_call 47; (with_reducible refine (impl_isImage.calls a0_0 a0_1 a0_2 _ _ l0_3 true _ ?side1 ?side2 A0.out).mono ?_); (case side1 => exact (Kd.C_below HR0.out (qW HB.out))); (case side2 => exact HC0.out); rintro e w36 ⟨rfl, hb⟩; have n37 := bB BKgm hb; have n38 := bS HB hb; clear HB BKgm; have BKgm := n37; have HB := n38; clear n37 n38 hb; have hz39 : w36.cell? ⟨gm, 0, none⟩ = some (.int .i64 a0_0) := (blk_cell BKgm.out 0).trans rfl; have hz40 : w36.cell? ⟨gm, 1, none⟩ = some (.int .i64 a0_1) := (blk_cell BKgm.out 1).trans rfl; have hz41 : w36.cell? ⟨gm, 2, none⟩ = some (.int .i64 a0_2) := (blk_cell BKgm.out 2).trans rfl; have hz42 : w36.cell? ⟨gm, 3, none⟩ = some (.slice A0_3 l0_3.length c0_3) := (blk_cell BKgm.out 3).trans rfl; have hf43 := blk_frozen BKgm.out 0; have hf44 := blk_frozen BKgm.out 1; have hf45 := blk_frozen BKgm.out 2; have hf46 := blk_frozen BKgm.out 3))
   go_ret
   exact ⟨_, rfl, Kd.R_nil _ _ _ _ _, by exact qW HB.out⟩
  by_cases k2 : a1 < a0_0
  case neg =>
   have k2b : a0_0 ≤ a1 := by omega
   rw [if_neg (by omega)] at H
   obtain rfl := Option.some.inj H
   go_enter Try.func39, Try.ntmps39
   go_wp2_with (first | ((with_reducible refine gate_dst (N := 3) rfl ?_); (try (refine gate_guard (by rfl) ?_; dsimp only)); refine bxE (N := 3) (cs := #[.int .i64 a0_0, .int .i64 a0_1, .int .i64 a0_2, .slice A0_3 l0_3.length c0_3]) (t := 27) ?_; intro gm hg w47 hbox hb; have n48 := bS HB hb; have n49 := aM hbox; have n50 := aM ((by rw [hg]; exact (below_size (qW HB.out))) : w.heap.size ≤ gm); clear HB; have HB := n48; have BKgm := n49; have GEgm := n50; clear n48 n49 n50; clear hb hbox hg; have hz51 : w47.cell? ⟨gm, 0, none⟩ = some (.int .i64 a0_0) := (blk_cell BKgm.out 0).trans rfl; have hz52 : w47.cell? ⟨gm, 1, none⟩ = some (.int .i64 a0_1) := (blk_cell BKgm.out 1).trans rfl; have hz53 : w47.cell? ⟨gm, 2, none⟩ = some (.int .i64 a0_2) := (blk_cell BKgm.out 2).trans rfl; have hz54 : w47.cell? ⟨gm, 3, none⟩ = some (.slice A0_3 l0_3.length c0_3) := (blk_cell BKgm.out 3).trans rfl; have hf55 := blk_frozen BKgm.out 0; have hf56 := blk_frozen BKgm.out 1; have hf57 := blk_frozen BKgm.out 2; have hf58 := blk_frozen BKgm.out 3) | (go_at_call 47; (with_reducible refine (impl_isImage.calls a0_0 a0_1 a0_2 _ _ l0_3 true _ ?side1 ?side2 A0.out).mono ?_); (case side1 => exact (Kd.C_below HR0.out (qW HB.out))); (case side2 => exact HC0.out); rintro e w59 ⟨rfl, hb⟩; have n60 := bB BKgm hb; have n61 := bS HB hb; clear HB BKgm; have BKgm := n60; have HB := n61; clear n60 n61 hb; have hz62 : w59.cell? ⟨gm, 0, none⟩ = some (.int .i64 a0_0) := (blk_cell BKgm.out 0).trans rfl; have hz63 : w59.cell? ⟨gm, 1, none⟩ = some (.int .i64 a0_1) := (blk_cell BKgm.out 1).trans rfl; have hz64 : w59.cell? ⟨gm, 2, none⟩ = some (.int .i64 a0_2) := (blk_cell BKgm.out 2).trans rfl; have hz65 : w59.cell? ⟨gm, 3, none⟩ = some (.slice A0_3 l0_3.length c0_3) := (blk_cell BKgm.out 3).trans rfl; have hf66 := blk_frozen BKgm.out 0; have hf67 := blk_frozen BKgm.out 1; have hf68 := blk_frozen BKgm.out 2; have hf69 := blk_frozen BKgm.out 3))
   go_ret
   exact ⟨_, rfl, Kd.R_nil _ _ _ _ _, by exact qW HB.out⟩
  by_cases k3 : 0 ≤ a2
  case neg =>
   rw [if_neg (by omega)] at H
   obtain rfl := Option.some.inj H
   go_enter Try.func39, Try.ntmps39
   go_wp2_with (first | ((with_reducible refine gate_dst (N := 3) rfl ?_); (try (refine gate_guard (by rfl) ?_; dsimp only)); refine bxE (N := 3) (cs := #[.int .i64 a0_0, .int .i64 a0_1, .int .i64 a0_2, .slice A0_3 l0_3.length c0_3]) (t := 27) ?_; intro gm hg w70 hbox hb; have n71 := bS HB hb; have n72 := aM hbox; have n73 := aM ((by rw [hg]; exact (below_size (qW HB.out))) : w.heap.size ≤ gm); clear HB; have HB := n71; have BKgm := n72; have GEgm := n73; clear n71 n72 n73; clear hb hbox hg; have hz74 : w70.cell? ⟨gm, 0, none⟩ = some (.int .i64 a0_0) := (blk_cell BKgm.out 0).trans rfl; have hz75 : w70.cell? ⟨gm, 1, none⟩ = some (.int .i64 a0_1) := (blk_cell BKgm.out 1).trans rfl; have hz76 : w70.cell? ⟨gm, 2, none⟩ = some (.int .i64 a0_2) := (blk_cell BKgm.out 2).trans rfl; have hz77 : w70.cell? ⟨gm, 3, none⟩ = some (.slice A0_3 l0_3.length c0_3) := (blk_cell BKgm.out 3).trans rfl; have hf78 := blk_frozen BKgm.out 0; have hf79 := blk_frozen BKgm.out 1; have hf80 := blk_frozen BKgm.out 2; have hf81 := blk_frozen BKgm.out 3) | (go_at_call 47; (with_reducible refine (impl_isImage.calls a0_0 a0_1 a0_2 _ _ l0_3 true _ ?side1 ?side2 A0.out).mono ?_); (case side1 => exact (Kd.C_below HR0.out (qW HB.out))); (case side2 => exact HC0.out); rintro e w82 ⟨rfl, hb⟩; have n83 := bB BKgm hb; have n84 := bS HB hb; clear HB BKgm; have BKgm := n83; have HB := n84; clear n83 n84 hb; have hz85 : w82.cell? ⟨gm, 0, none⟩ = some (.int .i64 a0_0) := (blk_cell BKgm.out 0).trans rfl; have hz86 : w82.cell? ⟨gm, 1, none⟩ = some (.int .i64 a0_1) := (blk_cell BKgm.out 1).trans rfl; have hz87 : w82.cell? ⟨gm, 2, none⟩ = some (.int .i64 a0_2) := (blk_cell BKgm.out 2).trans rfl; have hz88 : w82.cell? ⟨gm, 3, none⟩ = some (.slice A0_3 l0_3.length c0_3) := (blk_cell BKgm.out 3).trans rfl; have hf89 := blk_frozen BKgm.out 0; have hf90 := blk_frozen BKgm.out 1; have hf91 := blk_frozen BKgm.out 2; have hf92 := blk_frozen BKgm.out 3))
   go_ret
   exact ⟨_, rfl, Kd.R_nil _ _ _ _ _, by exact qW HB.out⟩
  by_cases k4 : a2 < a0_1
  case neg =>
   have k4b : a0_1 ≤ a2 := by omega
   rw [if_neg (by omega)] at H
   obtain rfl := Option.some.inj H
   go_enter Try.func39, Try.ntmps39
   go_wp2_with (first | ((with_reducible refine gate_dst (N := 3) rfl ?_); (try (refine gate_guard (by rfl) ?_; dsimp only)); refine bxE (N := 3) (cs := #[.int .i64 a0_0, .int .i64 a0_1, .int .i64 a0_2, .slice A0_3 l0_3.length c0_3]) (t := 27) ?_; intro gm hg w93 hbox hb; have n94 := bS HB hb; have n95 := aM hbox; have n96 := aM ((by rw [hg]; exact (below_size (qW HB.out))) : w.heap.size ≤ gm); clear HB; have HB := n94; have BKgm := n95; have GEgm := n96; clear n94 n95 n96; clear hb hbox hg; have hz97 : w93.cell? ⟨gm, 0, none⟩ = some (.int .i64 a0_0) := (blk_cell BKgm.out 0).trans rfl; have hz98 : w93.cell? ⟨gm, 1, none⟩ = some (.int .i64 a0_1) := (blk_cell BKgm.out 1).trans rfl; have hz99 : w93.cell? ⟨gm, 2, none⟩ = some (.int .i64 a0_2) := (blk_cell BKgm.out 2).trans rfl; have hz100 : w93.cell? ⟨gm, 3, none⟩ = some (.slice A0_3 l0_3.length c0_3) := (blk_cell BKgm.out 3).trans rfl; have hf101 := blk_frozen BKgm.out 0; have hf102 := blk_frozen BKgm.out 1; have hf103 := blk_frozen BKgm.out 2; have hf104 := blk_frozen BKgm.out 3) | (go_at_call 47; (with_reducible refine (impl_isImage.calls a0_0 a0_1 a0_2 _ _ l0_3 true _ ?side1 ?side2 A0.out).mono ?_); (case side1 => exact (Kd.C_below HR0.out (qW HB.out))); (case side2 => exact HC0.out); rintro e w105 ⟨rfl, hb⟩; have n106 := bB BKgm hb; have n107 := bS HB hb; clear HB BKgm; have BKgm := n106; have HB := n107; clear n106 n107 hb; have hz108 : w105.cell? ⟨gm, 0, none⟩ = some (.int .i64 a0_0) := (blk_cell BKgm.out 0).trans rfl; have hz109 : w105.cell? ⟨gm, 1, none⟩ = some (.int .i64 a0_1) := (blk_cell BKgm.out 1).trans rfl; have hz110 : w105.cell? ⟨gm, 2, none⟩ = some (.int .i64 a0_2) := (blk_cell BKgm.out 2).trans rfl; have hz111 : w105.cell? ⟨gm, 3, none⟩ = some (.slice A0_3 l0_3.length c0_3) := (blk_cell BKgm.out 3).trans rfl; have hf112 := blk_frozen BKgm.out 0; have hf113 := blk_frozen BKgm.out 1; have hf114 := blk_frozen BKgm.out 2; have hf115 := blk_frozen BKgm.out 3))
   go_ret
   exact ⟨_, rfl, Kd.R_nil _ _ _ _ _, by exact qW HB.out⟩
  rw [if_pos ⟨⟨k1, k2⟩, ⟨k3, k4⟩⟩] at H
  obtain rfl := Option.some.inj H
  have b_ := V.out
  obtain ⟨⟨v0, v0'⟩, ⟨v1, v1'⟩, ⟨v2, v2'⟩, hlen, hby⟩ := b_
  have hfit := pix_fits (a0 := a0_0) (a1 := a0_1) (a2 := a0_2) (x := a1) (y := a2) (by omega) (by omega) (by omega) (by omega) (by omega)
  rw [← hlen] at hfit
  have HCA := aM (fun (W' : World) (hb' : Below w.heap.size w W') => impl_at.calls a0_0 a0_1 a0_2 A0_3 c0_3 l0_3 a1 a2 W' (Kd.C_below HR0.out hb') HC0.out (by omega) v0' (by omega) (by omega) (by omega) (by omega) (by omega) (by omega) hfit)
  have hpl := pixOf_len l0_3 a0_0 a0_2 a1 a2 (by omega) (by omega)
  clear hfit hlen hby
  generalize pixOf l0_3 a0_0 a0_2 a1 a2 = px at HCA hpl ⊢
  have HPL := aM hpl
  clear hpl
  go_enter Try.func39, Try.ntmps39
  go_wp2_with (first | ((with_reducible refine gate_dst (N := 3) rfl ?_); (try (refine gate_guard (by rfl) ?_; dsimp only)); refine bxE (N := 3) (cs := #[.int .i64 a0_0, .int .i64 a0_1, .int .i64 a0_2, .slice A0_3 l0_3.length c0_3]) (t := 27) ?_; intro gm hg w116 hbox hb; have n117 := bS HB hb; have n118 := aM hbox; have n119 := aM ((by rw [hg]; exact (below_size (qW HB.out))) : w.heap.size ≤ gm); clear HB; have HB := n117; have BKgm := n118; have GEgm := n119; clear n117 n118 n119; clear hb hbox hg; have hz120 : w116.cell? ⟨gm, 0, none⟩ = some (.int .i64 a0_0) := (blk_cell BKgm.out 0).trans rfl; have hz121 : w116.cell? ⟨gm, 1, none⟩ = some (.int .i64 a0_1) := (blk_cell BKgm.out 1).trans rfl; have hz122 : w116.cell? ⟨gm, 2, none⟩ = some (.int .i64 a0_2) := (blk_cell BKgm.out 2).trans rfl; have hz123 : w116.cell? ⟨gm, 3, none⟩ = some (.slice A0_3 l0_3.length c0_3) := (blk_cell BKgm.out 3).trans rfl; have hf124 := blk_frozen BKgm.out 0; have hf125 := blk_frozen BKgm.out 1; have hf126 := blk_frozen BKgm.out 2; have hf127 := blk_frozen BKgm.out 3) | (go_at_call 47; (with_reducible refine (impl_isImage.calls a0_0 a0_1 a0_2 _ _ l0_3 true _ ?side1 ?side2 A0.out).mono ?_); (case side1 => exact (Kd.C_below HR0.out (qW HB.out))); (case side2 => exact HC0.out); rintro e w128 ⟨rfl, hb⟩; have n129 := bB BKgm hb; have n130 := bS HB hb; clear HB BKgm; have BKgm := n129; have HB := n130; clear n129 n130 hb; have hz131 : w128.cell? ⟨gm, 0, none⟩ = some (.int .i64 a0_0) := (blk_cell BKgm.out 0).trans rfl; have hz132 : w128.cell? ⟨gm, 1, none⟩ = some (.int .i64 a0_1) := (blk_cell BKgm.out 1).trans rfl; have hz133 : w128.cell? ⟨gm, 2, none⟩ = some (.int .i64 a0_2) := (blk_cell BKgm.out 2).trans rfl; have hz134 : w128.cell? ⟨gm, 3, none⟩ = some (.slice A0_3 l0_3.length c0_3) := (blk_cell BKgm.out 3).trans rfl; have hf135 := blk_frozen BKgm.out 0; have hf136 := blk_frozen BKgm.out 1; have hf137 := blk_frozen BKgm.out 2; have hf138 := blk_frozen BKgm.out 3) | ((with_reducible refine gate_dst (N := 30) rfl ?_); refine Kd.R_lit (Kd.int .i64) _ 3 ?hg (N := 30) ?hd (xs := ([] : List (Int))) (inner := []) (ok := fun _ => True) (okp := fun _ => True) ?hr ?hp (fun _ hk => hk) trivial (Below.refl _ _) (Nat.le_refl _) (by simp) ?_; (case hd => rfl); (case hg => rfl); (case hr => first | (go_simp; done) | (go_simp; rfl)); (case hp => exact (Reps.none _ _)); intro vl w139 ho4 hb hg_ hnew_; clear hg_ hnew_; have r_ := oR ho4 HB; have n140 := bB BKgm hb; have n141 := bS HB hb; clear HB BKgm; have BKgm := n140; have HB := n141; clear n140 n141 hb; have hz142 : w139.cell? ⟨gm, 0, none⟩ = some (.int .i64 a0_0) := (blk_cell BKgm.out 0).trans rfl; have hz143 : w139.cell? ⟨gm, 1, none⟩ = some (.int .i64 a0_1) := (blk_cell BKgm.out 1).trans rfl; have hz144 : w139.cell? ⟨gm, 2, none⟩ = some (.int .i64 a0_2) := (blk_cell BKgm.out 2).trans rfl; have hz145 : w139.cell? ⟨gm, 3, none⟩ = some (.slice A0_3 l0_3.length c0_3) := (blk_cell BKgm.out 3).trans rfl; have hf146 := blk_frozen BKgm.out 0; have hf147 := blk_frozen BKgm.out 1; have hf148 := blk_frozen BKgm.out 2; have hf149 := blk_frozen BKgm.out 3; have HO := r_; clear r_ ho4) | (go_at_call 50; refine (HCA.out _ (qW HB.out)).mono ?_; rintro e w150 ⟨A', c', rfl, hr', hl', hb⟩; have r_ := aM (Kd.R_below (qR HO.out) hb); clear HO; have HO := r_; clear r_; have HPR := aM hr'; clear hr'; have n151 := bB BKgm hb; have n152 := bS HB hb; clear HB BKgm; have BKgm := n151; have HB := n152; clear n151 n152 hb; have hz153 : w150.cell? ⟨gm, 0, none⟩ = some (.int .i64 a0_0) := (blk_cell BKgm.out 0).trans rfl; have hz154 : w150.cell? ⟨gm, 1, none⟩ = some (.int .i64 a0_1) := (blk_cell BKgm.out 1).trans rfl; have hz155 : w150.cell? ⟨gm, 2, none⟩ = some (.int .i64 a0_2) := (blk_cell BKgm.out 2).trans rfl; have hz156 : w150.cell? ⟨gm, 3, none⟩ = some (.slice A0_3 l0_3.length c0_3) := (blk_cell BKgm.out 3).trans rfl; have hf157 := blk_frozen BKgm.out 0; have hf158 := blk_frozen BKgm.out 1; have hf159 := blk_frozen BKgm.out 2; have hf160 := blk_frozen BKgm.out 3) | ((with_reducible refine gate_builtin (b := .append) (xs := #[.tmp 30, .tmp 34]) rfl ?_); at_builtin; refine Kd.R_append_rows (Kd.int .i64) (w0 := w) w.heap.size rfl (.tmp 30) (.tmp 34) 25 3 (.int .i64 0) 8 rfl Try.underlying25 info3 rfl (by decide) (by omega) vl [] px _ _ _ (fun _ => True) (fun _ => False) rfl rfl ?aO ?aR (fun _ _ h => h) (fun _ h => h.elim) ?aF ?aB ?aS ?aL ?_; (case aR => exact HPR.out); (case aB => exact (qW HB.out)); (case aF => exact (fun _ _ => trivial)); (case aO => exact HO.out); (case aS => exact (below_size (qW HB.out))); (case aL => have := HPL.out; simp only [List.length_nil]; omega); intro v311 w5 ho hb hg hat; rw [List.nil_append] at ho; replace HB := aM (hb); replace HO := aM (ho); clear ho hb hg hat))
  go_ret
  exact ⟨_, rfl, by refine qR ?_; exact HO.out, by exact qW HB.out⟩
def idxOfL (p : List Int → Bool) (l : List (List Int)) : Int := if l.any p = true then (l.findIdx p : Int) else -1
theorem idxOfL_hit (p : List Int → Bool) (l : List (List Int)) (k : Nat) (hk : k < l.length) (h : p (l.getD k []) = true) (hn : ∀ j, j < k → p (l.getD j []) = false) : idxOfL p l = k := by
 have hx : l.findIdx p = k := by
  rw [List.findIdx_eq hk]
  refine ⟨by simpa [List.getD_eq_getElem?_getD, List.getElem?_eq_getElem hk] using h, fun j hj => ?_⟩
  have := hn j hj
  simpa [List.getD_eq_getElem?_getD, List.getElem?_eq_getElem (show j < l.length by omega)] using this
 have ha : l.any p = true := List.any_eq_true.2 ⟨l[k], List.getElem_mem hk, by simpa [List.getD_eq_getElem?_getD, List.getElem?_eq_getElem hk] using h⟩
 unfold idxOfL
 rw [if_pos ha, hx]
theorem idxOfL_miss (p : List Int → Bool) (l : List (List Int)) (hn : ∀ j, j < l.length → p (l.getD j []) = false) : idxOfL p l = -1 := by
 have ha : ¬ (l.any p = true) := by
  intro h
  obtain ⟨x, hx, hp⟩ := List.any_eq_true.1 h
  obtain ⟨j, hj, rfl⟩ := List.getElem_of_mem hx
  have := hn j hj
  simp [List.getD_eq_getElem?_getD, List.getElem?_eq_getElem hj, hp] at this
 unfold idxOfL
 rw [if_neg ha]
theorem idxOfL_nonneg (p : List Int → Bool) (l : List (List Int)) : decide (0 ≤ idxOfL p l) = l.any p := by
 unfold idxOfL
 cases h : l.any p <;> simp
def PredL (g : Nat) (lb : Array Value) (p : List Int → Bool) (w : World) : Prop :=
 ∀ (W : World) (A : Option Addr) (c : Nat) (x : List Int), Below w.heap.size w W → Kd.C (Kd.int .i64) W A x.length x → x.length ≤ c → Calls Try.prog g (#[.slice A x.length c] ++ lb) W fun e w' => e = .returned (.bool (p x)) ∧ Drawn0 W w'
set_option maxHeartbeats 8000000 in
set_option maxRecDepth 100000 in
theorem indexFuncList.calls (g : Nat) (lb : Array Value) (eg : ∀ args w, (callFunc g args).run Try.prog w = .ok (.enter g args) w) (p : List Int → Bool) (A0 : Option Addr) (c0 : Nat) (l0 : List (List Int)) (w : World)
  (hp : PredL g lb p w) (hr0 : Kd.C (Kd.slice 3 (Kd.int .i64)) w A0 l0.length l0) (hc0 : l0.length ≤ c0) :
  Calls Try.prog 102 #[.slice A0 l0.length c0, .func (.func g) #[] lb] w fun e w' => e = .returned (.int .i64 (idxOfL p l0)) ∧ Drawn0 w w' := by
 have hm : l0.length ≤ 9223372036854775807 := Kd.C_max hr0
 have HR0 := aM hr0
 have HP := aM hp
 clear hr0 hp
 go_enter Try.func102, Try.ntmps102
 go_wp2
 go_loopg [5, 8] l0.length (fun gg _ s8 wr => ∃ kk q : Nat, kk ≤ l0.length ∧ l0.length - kk ≤ gg ∧ s8 = .int .i64 kk ∧ wr = w.drewN q ∧ Aside0 (∀ j, j < kk → p (l0.getD j []) = false))
 case atStart => exact ⟨0, 0, Nat.zero_le _, by omega, rfl, rfl, ⟨fun j hj => absurd hj (Nat.not_lt_zero _)⟩⟩
 case round =>
  obtain ⟨kk, q, hkk, hg, rfl, rfl, NO⟩ := hrel
  by_cases hlt : kk < l0.length
  rotate_left
  ·have hltz : ¬ (kk : Int) < (l0.length : Int) := by omega
   have : kk = l0.length := by omega
   subst this
   go_wp2
   go_ret
   refine ⟨?_, ⟨⟨q, rfl⟩⟩⟩
   rw [idxOfL_miss p l0 NO.out]
   rfl
  have hltz : (kk : Int) < (l0.length : Int) := by omega
  obtain ⟨ad, A1, c1, e1, hcell, hl1, hi1⟩ := at_L2 HR0.out (kk : Int) (by omega) hltz
  cases e1
  simp only [Int.toNat_natCast] at hcell
  have hb : Below w.heap.size w (w.drewN q) := pw_below_drewN (Below.refl _ _) q
  have hcall := HP.out (w.drewN q) A1 c1 (rd_L2 l0 kk) hb (Kd.C_drewN hi1 q) hl1
  have hrd : rd_L2 l0 (kk : Int) = l0.getD kk [] := by simp [rd_L2]
  have HRD := aM hrd
  clear hrd hb hi1 hl1
  cases hq : p (rd_L2 l0 kk) with
  | true =>
   rw [hq] at hcall
   have HQ := aM hq
   clear hq
   go_wp2_with (go_at_fn g; refine hcall.mono ?_; rintro e w' ⟨rfl, ⟨q', rfl⟩⟩)
   go_ret
   refine ⟨?_, ⟨⟨q + q', by first | rfl | rw [World.drewN_drewN]⟩⟩⟩
   rw [idxOfL_hit p l0 kk hlt (by rw [← HRD.out]; exact HQ.out) NO.out]
   rfl
  | false =>
   rw [hq] at hcall
   have HQ := aM hq
   clear hq
   go_wp2_with (go_at_fn g; refine hcall.mono ?_; rintro e w' ⟨rfl, ⟨q', rfl⟩⟩)
   go_roundg (l0.length - (kk + 1))
   case measure => omega
   case rel =>
    refine ⟨kk + 1, q + q', by omega, by omega, by go_num, by first | rfl | rw [World.drewN_drewN], ⟨fun j hj => ?_⟩⟩
    by_cases e : j = kk
    rotate_left
    ·exact NO.out j (by omega)
    subst e
    rw [← HRD.out]; exact HQ.out
set_option maxHeartbeats 8000000 in
set_option maxRecDepth 100000 in
theorem containsFuncList.calls (g : Nat) (lb : Array Value) (eg : ∀ args w, (callFunc g args).run Try.prog w = .ok (.enter g args) w) (p : List Int → Bool) (A0 : Option Addr) (c0 : Nat) (l0 : List (List Int)) (w : World)
  (hp : PredL g lb p w) (hr0 : Kd.C (Kd.slice 3 (Kd.int .i64)) w A0 l0.length l0) (hc0 : l0.length ≤ c0) :
  Calls Try.prog 84 #[.slice A0 l0.length c0, .func (.func g) #[] lb] w fun e w' => e = .returned (.bool (l0.any p)) ∧ Drawn0 w w' := by
 rw [← idxOfL_nonneg p l0]
 go_enter Try.func84, Try.ntmps84
 go_wp2_with (go_at_call 102; refine (indexFuncList.calls g lb eg p _ _ l0 _ hp hr0 hc0).mono ?_; rintro e w' ⟨rfl, ⟨q, rfl⟩⟩)
 go_ret
 exact ⟨rfl, ⟨⟨q, rfl⟩⟩⟩
def slices_Equal_int_int.l0 : Nat → List Int → List Int → Int → Int → Option (Bool)
 | 0, _, _, _, _ => none
 | k + 1, x0, x1, x12, x13 => if x13 < x12 then (if 0 ≤ x13 then (if x13 < (x0.length : Int) then (if x13 < (x1.length : Int) then (if (rd x0 x13) = (rd x1 x13) then (slices_Equal_int_int.l0 k x0 x1 x12 (wrap64 (x13 + 1))) else (some false)) else (none)) else (none)) else (none)) else (some true)
def slices_Equal_int_int.f (k : Nat) (l0 : List Int) (l1 : List Int) : Option (Bool) := if (l0.length : Int) = (l1.length : Int) then (slices_Equal_int_int.l0 k l0 l1 (l0.length : Int) 0) else (some false)
theorem slices_Equal_int_int.mono_l : ∀ k, (∀ y0 y1 y2 y3, LeO (slices_Equal_int_int.l0 k y0 y1 y2 y3) (slices_Equal_int_int.l0 (k + 1) y0 y1 y2 y3))
 | 0 => fun _ _ _ _ r h => by simp [slices_Equal_int_int.l0] at h
 | k + 1 => by
  have ih0 := slices_Equal_int_int.mono_l k
  ·intro y0 y1 y2 y3
   unfold slices_Equal_int_int.l0
   repeat' first | (with_reducible first | exact ih0 _ _ _ _ | exact lR | exact lN | refine lI ?_ ?_ | refine lB ?_ fun _ => ?_) | exact ih0 _ _ _ _ | exact lN | refine lI ?_ ?_ | refine lB ?_ fun _ => ?_
theorem slices_Equal_int_int.mono : ∀ a0 a1 k, LeO (slices_Equal_int_int.f k a0 a1) (slices_Equal_int_int.f (k + 1) a0 a1) := by
 intro a0 a1 k
 have ih0 := slices_Equal_int_int.mono_l k
 unfold slices_Equal_int_int.f
 repeat' first | (with_reducible first | exact ih0 _ _ _ _ | exact lR | exact lN | refine lI ?_ ?_ | refine lB ?_ fun _ => ?_) | exact ih0 _ _ _ _ | exact lN | refine lI ?_ ?_ | refine lB ?_ fun _ => ?_
set_option maxHeartbeats 8000000 in
set_option maxRecDepth 100000 in
theorem slices_Equal_int_int.calls (k : Nat) (A0 : Option Addr) (c0 : Nat) (l0 : List Int) (A1 : Option Addr) (c1 : Nat) (l1 : List Int) (r : Bool) (w : World) (hr0 : Kd.C (Kd.int .i64) w A0 l0.length l0) (hc0 : l0.length ≤ c0) (hr1 : Kd.C (Kd.int .i64) w A1 l1.length l1) (hc1 : l1.length ≤ c1) (h : slices_Equal_int_int.f k l0 l1 = some r) :
  Calls Try.prog 86 #[.slice A0 l0.length c0, .slice A1 l1.length c1] w fun e w' => e = .returned (.bool r) ∧ Drawn0 w w' := by
 have HR0 := aM hr0
 have HC0 := aM hc0
 clear hr0 hc0
 have HR1 := aM hr1
 have HC1 := aM hc1
 clear hr1 hc1
 unfold slices_Equal_int_int.f at h
 have H := h
 clear h
 by_cases c3 : (l0.length : Int) = (l1.length : Int)
 ·rw [if_pos c3] at H
  have c3b0 : ((l0.length : Int) == (l1.length : Int)) = true := beq_iff_eq.mpr c3
  have c3b1 : ((l0.length : Int) != (l1.length : Int)) = false := bne_eq_false_iff_eq.mpr c3
  have c3b2 : (l0.length == l1.length) = true := by first | simpa using c3 | (simp at c3 ⊢; omega)
  clear c3
  have H' := aM H
  clear H
  go_enter Try.func86, Try.ntmps86
  go_wp2
  repeat (go_quiet (fail); try go_wp2)
  go_loopg [13] k (fun kq v13 w' => ∃ (x13_1 : Int), v13 = .int .i64 x13_1 ∧ Aside0 (slices_Equal_int_int.l0 kq l0 l1 (l0.length : Int) x13_1 = some r) ∧ Aside0 (kq ≤ k) ∧ Drawn0 w w')
  case atStart => exact ⟨(0), qE, H', ⟨Nat.le_refl _⟩, qD⟩
  case round =>
   clear H'
   try clear c1
   try clear c3
   try clear c3b0
   try clear c3b1
   try clear c3b2
   obtain ⟨x13_1, rfl, HA, HK1, ⟨m1, rfl⟩⟩ := hrel
   cases gk with
   | zero => exact absurd HA.out (by simp [slices_Equal_int_int.l0])
   | succ k1 =>
    have H := HA.out
    clear HA
    simp only [slices_Equal_int_int.l0] at H
    by_cases c4 : x13_1 < (l0.length : Int)
    rotate_left
    ·rw [if_neg c4] at H
     have c4b0 : decide (x13_1 < (l0.length : Int)) = false := decide_eq_false c4
     clear c4
     obtain rfl := Option.some.inj H
     go_wp2
     repeat (go_quiet (fail); try go_wp2)
     go_ret
     exact ⟨qE, qD⟩
    rw [if_pos c4] at H
    have c4b0 : decide (x13_1 < (l0.length : Int)) = true := decide_eq_true c4
    clear c4
    replace H := iD H
    obtain ⟨c5b0, H⟩ := H
    replace H := iD H
    obtain ⟨c6b0, H⟩ := H
    replace H := iD H
    obtain ⟨c7b0, H⟩ := H
    by_cases c8 : (rd l0 x13_1) = (rd l1 x13_1)
    rotate_left
    ·rw [if_neg c8] at H
     have c8b0 : ((rd l0 x13_1) == (rd l1 x13_1)) = false := beq_eq_false_iff_ne.mpr c8
     have c8b1 : ((rd l0 x13_1) != (rd l1 x13_1)) = true := bne_iff_ne.mpr c8
     obtain rfl := Option.some.inj H
     obtain ⟨ad793, e793, hx793_0⟩ := Kd.at_int HR0.out x13_1 oD oD
     cases e793
     have p793 := eq_true (oD : 0 ≤ (x13_1 : Int))
     have q793 := eq_true (oD : x13_1 < (l0.length : Int))
     obtain ⟨ad794, e794, hx794_0⟩ := Kd.at_int HR1.out x13_1 oD oD
     cases e794
     have p794 := eq_true (oD : 0 ≤ (x13_1 : Int))
     have q794 := eq_true (oD : x13_1 < (l1.length : Int))
     go_wp2
     repeat (go_quiet (fail); try go_wp2)
     go_ret
     exact ⟨qE, qD⟩
    rw [if_pos c8] at H
    have c8b0 : ((rd l0 x13_1) == (rd l1 x13_1)) = true := beq_iff_eq.mpr c8
    have c8b1 : ((rd l0 x13_1) != (rd l1 x13_1)) = false := bne_eq_false_iff_eq.mpr c8
    clear c8
    have H' := aM H
    clear H
    obtain ⟨ad793, e793, hx793_0⟩ := Kd.at_int HR0.out x13_1 oD oD
    cases e793
    have p793 := eq_true (oD : 0 ≤ (x13_1 : Int))
    have q793 := eq_true (oD : x13_1 < (l0.length : Int))
    obtain ⟨ad794, e794, hx794_0⟩ := Kd.at_int HR1.out x13_1 oD oD
    cases e794
    have p794 := eq_true (oD : 0 ≤ (x13_1 : Int))
    have q794 := eq_true (oD : x13_1 < (l1.length : Int))
    go_wp2
    repeat (go_quiet (fail); try go_wp2)
    go_roundg k1
    case measure => have := HK1.out; omega
    case rel => exact ⟨(wrap64 (x13_1 + 1)), qE, H', ⟨by have := HK1.out; omega⟩, qD⟩
 ·rw [if_neg c3] at H
  have c3b0 : ((l0.length : Int) == (l1.length : Int)) = false := beq_eq_false_iff_ne.mpr c3
  have c3b1 : ((l0.length : Int) != (l1.length : Int)) = true := bne_iff_ne.mpr c3
  have c3b2 : (l0.length == l1.length) = false := by first | simpa using c3 | (simp at c3 ⊢; omega)
  obtain rfl := Option.some.inj H
  go_enter Try.func86, Try.ntmps86
  go_wp2
  repeat (go_quiet (fail); try go_wp2)
  go_ret
  exact ⟨qE, qD⟩
end Go.Proofs.Yteeeedmmcdlhjaa.P
