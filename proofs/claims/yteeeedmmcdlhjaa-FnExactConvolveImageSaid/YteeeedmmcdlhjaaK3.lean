/- Contracts and row, written by a program of this place out of the translation: the call answers true and its argument reads as before, for every input; no condition. -/
import Derived.Test.YteeeedmmcdlhjaaK0
import Derived.Test.YteeeedmmcdlhjaaK1
import Derived.Test.YteeeedmmcdlhjaaK2
namespace Go.Proofs.Yteeeedmmcdlhjaa.P
open Go.RowKit Go.Proofs.YteeeedmmcdlhjaaW.PrintWords Go.Proofs.YteeeedmmcdlhjaaW.PrintLast Go.Proofs.YteeeedmmcdlhjaaW.PrintMore
attribute [local go_sem] max2_int min2_int max_two min_two max_three min_three max_four min_four   -- for this text's walks alone
set_option linter.unusedVariables false
set_option linter.unusedSimpArgs false
def spec_convolve.l0 : Nat → Int → Int → Int → Int → Int → Int → Int → Int → Int → List Int → Int → List Int → Int → Option (Int)
 | 0, _, _, _, _, _, _, _, _, _, _, _, _, _ => none
 | k + 1, x2, x3, x4, x11, x12, x13, x533000, x533001, x533002, x533003, x534000, x534001, x534002 => if x13 < (x534001.length : Int) then (if x12 = 0 then (none) else (if 0 ≤ x13 then (if 0 ≤ (wrap64 ((wrap64 ((wrap64 ((wrap64 ((mn (wrap64 (x533001 - 1)) (mx 0 (wrap64 ((wrap64 (x3 + (wrap64 (Int.tdiv x13 x12)))) - x534000)))) * x533000)) + (mn (wrap64 (x533000 - 1)) (mx 0 (wrap64 ((wrap64 (x2 + (Int.tmod x13 x12))) - x534000)))))) * x533002)) + x4)) then (if (wrap64 ((wrap64 ((wrap64 ((wrap64 ((mn (wrap64 (x533001 - 1)) (mx 0 (wrap64 ((wrap64 (x3 + (wrap64 (Int.tdiv x13 x12)))) - x534000)))) * x533000)) + (mn (wrap64 (x533000 - 1)) (mx 0 (wrap64 ((wrap64 (x2 + (Int.tmod x13 x12))) - x534000)))))) * x533002)) + x4)) < (x533003.length : Int) then (spec_convolve.l0 k x2 x3 x4 (wrap64 (x11 + (wrap64 ((rd x534001 x13) * (rd x533003 (wrap64 ((wrap64 ((wrap64 ((wrap64 ((mn (wrap64 (x533001 - 1)) (mx 0 (wrap64 ((wrap64 (x3 + (wrap64 (Int.tdiv x13 x12)))) - x534000)))) * x533000)) + (mn (wrap64 (x533000 - 1)) (mx 0 (wrap64 ((wrap64 (x2 + (Int.tmod x13 x12))) - x534000)))))) * x533002)) + x4))))))) x12 (wrap64 (x13 + 1)) x533000 x533001 x533002 x533003 x534000 x534001 x534002) else (none)) else (none)) else (none))) else (some x11)
def spec_convolve.f (k : Nat) (a0_0 : Int) (a0_1 : Int) (a0_2 : Int) (l0_3 : List Int) (a1_0 : Int) (l1_1 : List Int) (a1_2 : Int) (a2 : Int) (a3 : Int) (a4 : Int) : Option (Int) := spec_convolve.l0 k a2 a3 a4 0 (wrap64 ((wrap64 (2 * a1_0)) + 1)) 0 a0_0 a0_1 a0_2 l0_3 a1_0 l1_1 a1_2
theorem spec_convolve.mono_l : ∀ k, (∀ y0 y1 y2 y3 y4 y5 y6 y7 y8 y9 y10 y11 y12, LeO (spec_convolve.l0 k y0 y1 y2 y3 y4 y5 y6 y7 y8 y9 y10 y11 y12) (spec_convolve.l0 (k + 1) y0 y1 y2 y3 y4 y5 y6 y7 y8 y9 y10 y11 y12))
 | 0 => fun _ _ _ _ _ _ _ _ _ _ _ _ _ r h => by simp [spec_convolve.l0] at h
 | k + 1 => by
  have ih0 := spec_convolve.mono_l k
  ·intro y0 y1 y2 y3 y4 y5 y6 y7 y8 y9 y10 y11 y12
   unfold spec_convolve.l0
   repeat' first | (with_reducible first | exact ih0 _ _ _ _ _ _ _ _ _ _ _ _ _ | exact lR | exact lN | refine lI ?_ ?_ | refine lB ?_ fun _ => ?_) | exact ih0 _ _ _ _ _ _ _ _ _ _ _ _ _ | exact lN | refine lI ?_ ?_ | refine lB ?_ fun _ => ?_
theorem spec_convolve.mono : ∀ a0 a1 a2 a3 a4 a5 a6 a7 a8 a9 k, LeO (spec_convolve.f k a0 a1 a2 a3 a4 a5 a6 a7 a8 a9) (spec_convolve.f (k + 1) a0 a1 a2 a3 a4 a5 a6 a7 a8 a9) := by
 intro a0 a1 a2 a3 a4 a5 a6 a7 a8 a9 k
 have ih0 := spec_convolve.mono_l k
 unfold spec_convolve.f
 repeat' first | (with_reducible first | exact ih0 _ _ _ _ _ _ _ _ _ _ _ _ _ | exact lR | exact lN | refine lI ?_ ?_ | refine lB ?_ fun _ => ?_) | exact ih0 _ _ _ _ _ _ _ _ _ _ _ _ _ | exact lN | refine lI ?_ ?_ | refine lB ?_ fun _ => ?_
set_option maxHeartbeats 8000000 in
set_option maxRecDepth 100000 in
theorem spec_convolve.calls (k : Nat) (a0_0 : Int) (a0_1 : Int) (a0_2 : Int) (A0_3 : Option Addr) (c0_3 : Nat) (l0_3 : List Int) (a1_0 : Int) (A1_1 : Option Addr) (c1_1 : Nat) (l1_1 : List Int) (a1_2 : Int) (a2 : Int) (a3 : Int) (a4 : Int) (r : Int) (w : World) (hr0_3 : Kd.C (Kd.int .i64) w A0_3 l0_3.length l0_3) (hc0_3 : l0_3.length ≤ c0_3) (hr1_1 : Kd.C (Kd.int .i64) w A1_1 l1_1.length l1_1) (hc1_1 : l1_1.length ≤ c1_1) (h : spec_convolve.f k a0_0 a0_1 a0_2 l0_3 a1_0 l1_1 a1_2 a2 a3 a4 = some r) :
  Calls Try.prog 79 #[.agg #[.int .i64 a0_0, .int .i64 a0_1, .int .i64 a0_2, .slice A0_3 l0_3.length c0_3], .agg #[.int .i64 a1_0, .slice A1_1 l1_1.length c1_1, .int .i64 a1_2], .int .i64 a2, .int .i64 a3, .int .i64 a4] w fun e w' => e = .returned (.int .i64 r) ∧ Below w.heap.size w w' := by
 have hu27 := Try.underlying27
 have hu49 := Try.underlying49
 have HR0_3 := aM hr0_3
 have HC0_3 := aM hc0_3
 clear hr0_3 hc0_3
 have HR1_1 := aM hr1_1
 have HC1_1 := aM hc1_1
 clear hr1_1 hc1_1
 have HB := aM (Below.refl w.heap.size w)
 unfold spec_convolve.f at h
 have H := h
 clear h
 have H' := aM H
 clear H
 go_enter Try.func79, Try.ntmps79
 go_wp2_with (first | ((with_reducible refine gate_dst (N := 5) rfl ?_); refine bxE (N := 5) (cs := #[.int .i64 a0_0, .int .i64 a0_1, .int .i64 a0_2, .slice A0_3 l0_3.length c0_3]) (t := 27) ?_; intro gb532 hg w6 hbox hb; have BK532 := aM (hbox); have GW532 := gW hg HB; have GE532 := gW hg HB; replace HB := bS HB hb; clear hb hbox hg) | ((with_reducible refine gate_dst (N := 6) rfl ?_); refine bxE (N := 6) (cs := #[.int .i64 a1_0, .slice A1_1 l1_1.length c1_1, .int .i64 a1_2]) (t := 49) ?_; intro gb533 hg w7 hbox hb; have BK533 := aM (hbox); have GW533 := gW hg HB; have GE533 := gW hg HB; replace HB := bS HB hb; have NB532_533 := nL hg BK532; have NB533_532 := nG hg BK532; replace BK532 := bB BK532 hb; clear hb hbox hg; have hnb8 := NB533_532.out; have hnc8 := NB532_533.out; obtain ⟨⟨hcz9_0, hcz9_1, hcz9_2⟩, hfz9_0, hfz9_1, hfz9_2⟩ := cf3 BK533))
 repeat (go_quiet (first | ((with_reducible refine gate_dst (N := 5) rfl ?_); refine bxE (N := 5) (cs := #[.int .i64 a0_0, .int .i64 a0_1, .int .i64 a0_2, .slice A0_3 l0_3.length c0_3]) (t := 27) ?_; intro gb532 hg w6 hbox hb; have BK532 := aM (hbox); have GW532 := gW hg HB; have GE532 := gW hg HB; replace HB := bS HB hb; clear hb hbox hg) | ((with_reducible refine gate_dst (N := 6) rfl ?_); refine bxE (N := 6) (cs := #[.int .i64 a1_0, .slice A1_1 l1_1.length c1_1, .int .i64 a1_2]) (t := 49) ?_; intro gb533 hg w7 hbox hb; have BK533 := aM (hbox); have GW533 := gW hg HB; have GE533 := gW hg HB; replace HB := bS HB hb; have NB532_533 := nL hg BK532; have NB533_532 := nG hg BK532; replace BK532 := bB BK532 hb; clear hb hbox hg; have hnb8 := NB533_532.out; have hnc8 := NB532_533.out; obtain ⟨⟨hcz9_0, hcz9_1, hcz9_2⟩, hfz9_0, hfz9_1, hfz9_2⟩ := cf3 BK533)); try go_wp2_with (first | ((with_reducible refine gate_dst (N := 5) rfl ?_); refine bxE (N := 5) (cs := #[.int .i64 a0_0, .int .i64 a0_1, .int .i64 a0_2, .slice A0_3 l0_3.length c0_3]) (t := 27) ?_; intro gb532 hg w6 hbox hb; have BK532 := aM (hbox); have GW532 := gW hg HB; have GE532 := gW hg HB; replace HB := bS HB hb; clear hb hbox hg) | ((with_reducible refine gate_dst (N := 6) rfl ?_); refine bxE (N := 6) (cs := #[.int .i64 a1_0, .slice A1_1 l1_1.length c1_1, .int .i64 a1_2]) (t := 49) ?_; intro gb533 hg w7 hbox hb; have BK533 := aM (hbox); have GW533 := gW hg HB; have GE533 := gW hg HB; replace HB := bS HB hb; have NB532_533 := nL hg BK532; have NB533_532 := nG hg BK532; replace BK532 := bB BK532 hb; clear hb hbox hg; have hnb8 := NB533_532.out; have hnc8 := NB532_533.out; obtain ⟨⟨hcz9_0, hcz9_1, hcz9_2⟩, hfz9_0, hfz9_1, hfz9_2⟩ := cf3 BK533)))
 go_loopg [11, 13] k (fun kq v11 v13 w' => ∃ (x11_1 : Int) (x13_1 : Int), v11 = .int .i64 x11_1 ∧ v13 = .int .i64 x13_1 ∧ Aside0 (spec_convolve.l0 kq a2 a3 a4 x11_1 (wrap64 ((wrap64 (2 * a1_0)) + 1)) x13_1 a0_0 a0_1 a0_2 l0_3 a1_0 l1_1 a1_2 = some r) ∧ Aside0 (kq ≤ k) ∧ Aside0 (w'.heap[gb532]? = some (.cells #[.int .i64 a0_0, .int .i64 a0_1, .int .i64 a0_2, (.slice A0_3 l0_3.length c0_3)] 27 (0, 0))) ∧ Aside0 (w'.heap[gb533]? = some (.cells #[.int .i64 a1_0, (.slice A1_1 l1_1.length c1_1), .int .i64 a1_2] 49 (0, 0))) ∧ Aside0 (Below w.heap.size w w'))
 case atStart => exact ⟨(0), (0), qE, qE, H', ⟨Nat.le_refl _⟩, ⟨by refine qB ?_; exact BK532.out⟩, ⟨by refine qB ?_; exact BK533.out⟩, ⟨by exact qW HB.out⟩⟩
 case round =>
  clear H'
  try clear hcz9_0 hcz9_1 hcz9_2 hfz9_0 hfz9_1 hfz9_2
  obtain ⟨x11_1, x13_1, rfl, rfl, HA, HK1, BK532, BK533, HB⟩ := hrel
  cases gk with
  | zero => exact absurd HA.out (by simp [spec_convolve.l0])
  | succ k1 =>
   have H := HA.out
   clear HA
   simp only [spec_convolve.l0] at H
   by_cases c10 : x13_1 < (l1_1.length : Int)
   rotate_left
   ·rw [if_neg c10] at H
    have c10b0 : decide (x13_1 < (l1_1.length : Int)) = false := decide_eq_false c10
    clear c10
    obtain rfl := Option.some.inj H
    have hnb23 := NB533_532.out
    have hnc23 := NB532_533.out
    obtain ⟨⟨hcz24_0, hcz24_1, hcz24_2⟩, hfz24_0, hfz24_1, hfz24_2⟩ := cf3 BK533
    go_wp2
    repeat (go_quiet (fail); try go_wp2)
    go_ret
    exact ⟨qX, by exact qW HB.out⟩
   rw [if_pos c10] at H
   have c10b0 : decide (x13_1 < (l1_1.length : Int)) = true := decide_eq_true c10
   clear c10
   by_cases c11 : (wrap64 ((wrap64 (2 * a1_0)) + 1)) = 0
   ·rw [if_pos c11] at H
    exact absurd H (by simp)
   rw [if_neg c11] at H
   have c11b0 : ((wrap64 ((wrap64 (2 * a1_0)) + 1)) == 0) = false := beq_eq_false_iff_ne.mpr c11
   have c11b1 : ((wrap64 ((wrap64 (2 * a1_0)) + 1)) != 0) = true := bne_iff_ne.mpr c11
   obtain ⟨ji12, hji12⟩ : ∃ j_ : Int, (mx 0 (wrap64 ((wrap64 (a2 + (Int.tmod x13_1 (wrap64 ((wrap64 (2 * a1_0)) + 1))))) - a1_0))) = j_ := ⟨_, rfl⟩
   replace H : (if 0 ≤ x13_1 then (if 0 ≤ (wrap64 ((wrap64 ((wrap64 ((wrap64 ((mn (wrap64 (a0_1 - 1)) (mx 0 (wrap64 ((wrap64 (a3 + (wrap64 (Int.tdiv x13_1 (wrap64 ((wrap64 (2 * a1_0)) + 1)))))) - a1_0)))) * a0_0)) + (mn (wrap64 (a0_0 - 1)) (ji12)))) * a0_2)) + a4)) then (if (wrap64 ((wrap64 ((wrap64 ((wrap64 ((mn (wrap64 (a0_1 - 1)) (mx 0 (wrap64 ((wrap64 (a3 + (wrap64 (Int.tdiv x13_1 (wrap64 ((wrap64 (2 * a1_0)) + 1)))))) - a1_0)))) * a0_0)) + (mn (wrap64 (a0_0 - 1)) (ji12)))) * a0_2)) + a4)) < (l0_3.length : Int) then (spec_convolve.l0 k1 a2 a3 a4 (wrap64 (x11_1 + (wrap64 ((rd l1_1 x13_1) * (rd l0_3 (wrap64 ((wrap64 ((wrap64 ((wrap64 ((mn (wrap64 (a0_1 - 1)) (mx 0 (wrap64 ((wrap64 (a3 + (wrap64 (Int.tdiv x13_1 (wrap64 ((wrap64 (2 * a1_0)) + 1)))))) - a1_0)))) * a0_0)) + (mn (wrap64 (a0_0 - 1)) (ji12)))) * a0_2)) + a4))))))) (wrap64 ((wrap64 (2 * a1_0)) + 1)) (wrap64 (x13_1 + 1)) a0_0 a0_1 a0_2 l0_3 a1_0 l1_1 a1_2) else (none)) else (none)) else (none)) = some r := by first | (rw [hji12] at H; exact H) | (simp only [hji12] at H ⊢; exact H)
   have hji12_ : (if 0 < (wrap64 ((wrap64 (a2 + (Int.tmod x13_1 (wrap64 ((wrap64 (2 * a1_0)) + 1))))) - a1_0)) then (wrap64 ((wrap64 (a2 + (Int.tmod x13_1 (wrap64 ((wrap64 (2 * a1_0)) + 1))))) - a1_0)) else 0) = ji12 := hji12
   obtain ⟨ji13, hji13⟩ : ∃ j_ : Int, (mn (wrap64 (a0_0 - 1)) (ji12)) = j_ := ⟨_, rfl⟩
   replace H : (if 0 ≤ x13_1 then (if 0 ≤ (wrap64 ((wrap64 ((wrap64 ((wrap64 ((mn (wrap64 (a0_1 - 1)) (mx 0 (wrap64 ((wrap64 (a3 + (wrap64 (Int.tdiv x13_1 (wrap64 ((wrap64 (2 * a1_0)) + 1)))))) - a1_0)))) * a0_0)) + (ji13))) * a0_2)) + a4)) then (if (wrap64 ((wrap64 ((wrap64 ((wrap64 ((mn (wrap64 (a0_1 - 1)) (mx 0 (wrap64 ((wrap64 (a3 + (wrap64 (Int.tdiv x13_1 (wrap64 ((wrap64 (2 * a1_0)) + 1)))))) - a1_0)))) * a0_0)) + (ji13))) * a0_2)) + a4)) < (l0_3.length : Int) then (spec_convolve.l0 k1 a2 a3 a4 (wrap64 (x11_1 + (wrap64 ((rd l1_1 x13_1) * (rd l0_3 (wrap64 ((wrap64 ((wrap64 ((wrap64 ((mn (wrap64 (a0_1 - 1)) (mx 0 (wrap64 ((wrap64 (a3 + (wrap64 (Int.tdiv x13_1 (wrap64 ((wrap64 (2 * a1_0)) + 1)))))) - a1_0)))) * a0_0)) + (ji13))) * a0_2)) + a4))))))) (wrap64 ((wrap64 (2 * a1_0)) + 1)) (wrap64 (x13_1 + 1)) a0_0 a0_1 a0_2 l0_3 a1_0 l1_1 a1_2) else (none)) else (none)) else (none)) = some r := by first | (rw [hji13] at H; exact H) | (simp only [hji13] at H ⊢; exact H)
   have hji13_ : (if (ji12) < (wrap64 (a0_0 - 1)) then (ji12) else (wrap64 (a0_0 - 1))) = ji13 := hji13
   obtain ⟨ji14, hji14⟩ : ∃ j_ : Int, (mx 0 (wrap64 ((wrap64 (a3 + (wrap64 (Int.tdiv x13_1 (wrap64 ((wrap64 (2 * a1_0)) + 1)))))) - a1_0))) = j_ := ⟨_, rfl⟩
   replace H : (if 0 ≤ x13_1 then (if 0 ≤ (wrap64 ((wrap64 ((wrap64 ((wrap64 ((mn (wrap64 (a0_1 - 1)) (ji14)) * a0_0)) + (ji13))) * a0_2)) + a4)) then (if (wrap64 ((wrap64 ((wrap64 ((wrap64 ((mn (wrap64 (a0_1 - 1)) (ji14)) * a0_0)) + (ji13))) * a0_2)) + a4)) < (l0_3.length : Int) then (spec_convolve.l0 k1 a2 a3 a4 (wrap64 (x11_1 + (wrap64 ((rd l1_1 x13_1) * (rd l0_3 (wrap64 ((wrap64 ((wrap64 ((wrap64 ((mn (wrap64 (a0_1 - 1)) (ji14)) * a0_0)) + (ji13))) * a0_2)) + a4))))))) (wrap64 ((wrap64 (2 * a1_0)) + 1)) (wrap64 (x13_1 + 1)) a0_0 a0_1 a0_2 l0_3 a1_0 l1_1 a1_2) else (none)) else (none)) else (none)) = some r := by first | (rw [hji14] at H; exact H) | (simp only [hji14] at H ⊢; exact H)
   have hji14_ : (if 0 < (wrap64 ((wrap64 (a3 + (wrap64 (Int.tdiv x13_1 (wrap64 ((wrap64 (2 * a1_0)) + 1)))))) - a1_0)) then (wrap64 ((wrap64 (a3 + (wrap64 (Int.tdiv x13_1 (wrap64 ((wrap64 (2 * a1_0)) + 1)))))) - a1_0)) else 0) = ji14 := hji14
   obtain ⟨ji15, hji15⟩ : ∃ j_ : Int, (mn (wrap64 (a0_1 - 1)) (ji14)) = j_ := ⟨_, rfl⟩
   replace H : (if 0 ≤ x13_1 then (if 0 ≤ (wrap64 ((wrap64 ((wrap64 ((wrap64 ((ji15) * a0_0)) + (ji13))) * a0_2)) + a4)) then (if (wrap64 ((wrap64 ((wrap64 ((wrap64 ((ji15) * a0_0)) + (ji13))) * a0_2)) + a4)) < (l0_3.length : Int) then (spec_convolve.l0 k1 a2 a3 a4 (wrap64 (x11_1 + (wrap64 ((rd l1_1 x13_1) * (rd l0_3 (wrap64 ((wrap64 ((wrap64 ((wrap64 ((ji15) * a0_0)) + (ji13))) * a0_2)) + a4))))))) (wrap64 ((wrap64 (2 * a1_0)) + 1)) (wrap64 (x13_1 + 1)) a0_0 a0_1 a0_2 l0_3 a1_0 l1_1 a1_2) else (none)) else (none)) else (none)) = some r := by first | (rw [hji15] at H; exact H) | (simp only [hji15] at H ⊢; exact H)
   have hji15_ : (if (ji14) < (wrap64 (a0_1 - 1)) then (ji14) else (wrap64 (a0_1 - 1))) = ji15 := hji15
   replace H := iD H
   obtain ⟨c16b0, H⟩ := H
   obtain ⟨ji17, hji17⟩ : ∃ j_ : Int, (wrap64 ((wrap64 ((wrap64 ((wrap64 ((ji15) * a0_0)) + (ji13))) * a0_2)) + a4)) = j_ := ⟨_, rfl⟩
   replace H : (if 0 ≤ (ji17) then (if (ji17) < (l0_3.length : Int) then (spec_convolve.l0 k1 a2 a3 a4 (wrap64 (x11_1 + (wrap64 ((rd l1_1 x13_1) * (rd l0_3 (ji17)))))) (wrap64 ((wrap64 (2 * a1_0)) + 1)) (wrap64 (x13_1 + 1)) a0_0 a0_1 a0_2 l0_3 a1_0 l1_1 a1_2) else (none)) else (none)) = some r := by first | (rw [hji17] at H; exact H) | (simp only [hji17] at H ⊢; exact H)
   have hji17w : (IntKind.i64.wrap ((wrap64 ((wrap64 ((wrap64 ((ji15) * a0_0)) + (ji13))) * a0_2)) + a4)) = ji17 := (i64_w _).trans hji17
   replace H := iD H
   obtain ⟨c18b0, H⟩ := H
   replace H := iD H
   obtain ⟨c19b0, H⟩ := H
   have H' := aM H
   clear H
   have hnb20 := NB533_532.out
   have hnc20 := NB532_533.out
   obtain ⟨⟨hcz21_0, hcz21_1, hcz21_2⟩, hfz21_0, hfz21_1, hfz21_2⟩ := cf3 BK533
   obtain ⟨⟨hcz22_0, hcz22_1, hcz22_2, hcz22_3⟩, hfz22_0, hfz22_1, hfz22_2, hfz22_3⟩ := cf4 BK532
   obtain ⟨ad534, e534, hx534_0⟩ := Kd.at_int HR1_1.out x13_1 oD oD
   cases e534
   replace hx534_0 := bD HB hx534_0
   have p534 := eq_true (oD : 0 ≤ (x13_1 : Int))
   have q534 := eq_true (oD : x13_1 < (l1_1.length : Int))
   obtain ⟨ad535, e535, hx535_0⟩ := Kd.at_int HR0_3.out (ji17) oD oD
   cases e535
   replace hx535_0 := bD HB hx535_0
   have p535 := eq_true (oD : 0 ≤ ((ji17) : Int))
   have q535 := eq_true (oD : (ji17) < (l0_3.length : Int))
   go_wp2
   repeat (go_quiet (fail); try go_wp2)
   go_roundg k1
   case measure => have := HK1.out; omega
   case rel => exact ⟨(wrap64 (x11_1 + (wrap64 ((rd l1_1 x13_1) * (rd l0_3 (ji17)))))), (wrap64 (x13_1 + 1)), (by first | rfl | (simp; done) | (simp only [← hji17] <;> (first | rfl | simp)) | (simp [*]; done)), qE, H', ⟨by have := HK1.out; omega⟩, ⟨by refine qB ?_; exact BK532.out⟩, ⟨by refine qB ?_; exact BK533.out⟩, ⟨by exact qW HB.out⟩⟩
mutual
def spec_ConvolveImage.j0 : Nat → Bool → Int → Int → Int → List Int → Int → List Int → Int → Option (Int × Int × Int × List Int)
 | 0, _, _, _, _, _, _, _, _ => none
 | k + 1, x17, x537000, x537001, x537002, x537003, x538000, x538001, x538002 => if x17 = true then (some (0, 0, 0, ([] : List Int))) else ((spec_copyImage.f x537000 x537001 x537002 x537003).bind fun bt541 => (spec_ConvolveImage.l0 k 0 x537000 x537001 x537002 x537003 x538000 x538001 x538002 bt541.1 bt541.2.1 bt541.2.2.1 bt541.2.2.2))
def spec_ConvolveImage.l0 : Nat → Int → Int → Int → Int → List Int → Int → List Int → Int → Int → Int → Int → List Int → Option (Int × Int × Int × List Int)
 | 0, _, _, _, _, _, _, _, _, _, _, _, _ => none
 | k + 1, x6, x537000, x537001, x537002, x537003, x538000, x538001, x538002, x548000, x548001, x548002, x548003 => if x6 < x537001 then (spec_ConvolveImage.l1 k x6 0 x537000 x537001 x537002 x537003 x538000 x538001 x538002 x548000 x548001 x548002 x548003) else (some (x548000, x548001, x548002, x548003))
def spec_ConvolveImage.l1 : Nat → Int → Int → Int → Int → Int → List Int → Int → List Int → Int → Int → Int → Int → List Int → Option (Int × Int × Int × List Int)
 | 0, _, _, _, _, _, _, _, _, _, _, _, _, _ => none
 | k + 1, x6, x7, x537000, x537001, x537002, x537003, x538000, x538001, x538002, x548000, x548001, x548002, x548003 => if x7 < x537000 then (spec_ConvolveImage.l2 k x6 x7 0 x537000 x537001 x537002 x537003 x538000 x538001 x538002 x548000 x548001 x548002 x548003) else (spec_ConvolveImage.l0 k (wrap64 (x6 + 1)) x537000 x537001 x537002 x537003 x538000 x538001 x538002 x548000 x548001 x548002 x548003)
def spec_ConvolveImage.l2 : Nat → Int → Int → Int → Int → Int → Int → List Int → Int → List Int → Int → Int → Int → Int → List Int → Option (Int × Int × Int × List Int)
 | 0, _, _, _, _, _, _, _, _, _, _, _, _, _, _ => none
 | k + 1, x6, x7, x8, x537000, x537001, x537002, x537003, x538000, x538001, x538002, x548000, x548001, x548002, x548003 => if x8 < x537002 then ((spec_convolve.f k x537000 x537001 x537002 x537003 x538000 x538001 x538002 x7 x6 x8).bind fun t548 => ((spec_floorDiv.f (wrap64 ((wrap64 (2 * t548)) + x538002)) (wrap64 (2 * x538002))).bind fun t549 => (if 0 ≤ (wrap64 ((wrap64 ((wrap64 ((wrap64 (x6 * x537000)) + x7)) * x537002)) + x8)) then (if (wrap64 ((wrap64 ((wrap64 ((wrap64 (x6 * x537000)) + x7)) * x537002)) + x8)) < (x548003.length : Int) then (spec_ConvolveImage.l2 k x6 x7 (wrap64 (x8 + 1)) x537000 x537001 x537002 x537003 x538000 x538001 x538002 x548000 x548001 x548002 (x548003.set ((wrap64 ((wrap64 ((wrap64 ((wrap64 (x6 * x537000)) + x7)) * x537002)) + x8)) : Int).toNat (mn 255 (mx 0 t549)))) else (none)) else (none)))) else (spec_ConvolveImage.l1 k x6 (wrap64 (x7 + 1)) x537000 x537001 x537002 x537003 x538000 x538001 x538002 x548000 x548001 x548002 x548003)
end
def spec_ConvolveImage.f (k : Nat) (a0_0 : Int) (a0_1 : Int) (a0_2 : Int) (l0_3 : List Int) (a1_0 : Int) (l1_1 : List Int) (a1_2 : Int) : Option (Int × Int × Int × List Int) := (spec_validImage.f k a0_0 a0_1 a0_2 l0_3).bind fun t539 => (if t539 = true then ((spec_validKernel.f k a1_0 l1_1 a1_2).bind fun t540 => (spec_ConvolveImage.j0 k (!t540) a0_0 a0_1 a0_2 l0_3 a1_0 l1_1 a1_2)) else (spec_ConvolveImage.j0 k true a0_0 a0_1 a0_2 l0_3 a1_0 l1_1 a1_2))
theorem spec_ConvolveImage.mono_l : ∀ k, (∀ y0 y1 y2 y3 y4 y5 y6 y7, LeO (spec_ConvolveImage.j0 k y0 y1 y2 y3 y4 y5 y6 y7) (spec_ConvolveImage.j0 (k + 1) y0 y1 y2 y3 y4 y5 y6 y7)) ∧ (∀ y0 y1 y2 y3 y4 y5 y6 y7 y8 y9 y10 y11, LeO (spec_ConvolveImage.l0 k y0 y1 y2 y3 y4 y5 y6 y7 y8 y9 y10 y11) (spec_ConvolveImage.l0 (k + 1) y0 y1 y2 y3 y4 y5 y6 y7 y8 y9 y10 y11)) ∧ (∀ y0 y1 y2 y3 y4 y5 y6 y7 y8 y9 y10 y11 y12, LeO (spec_ConvolveImage.l1 k y0 y1 y2 y3 y4 y5 y6 y7 y8 y9 y10 y11 y12) (spec_ConvolveImage.l1 (k + 1) y0 y1 y2 y3 y4 y5 y6 y7 y8 y9 y10 y11 y12)) ∧ (∀ y0 y1 y2 y3 y4 y5 y6 y7 y8 y9 y10 y11 y12 y13, LeO (spec_ConvolveImage.l2 k y0 y1 y2 y3 y4 y5 y6 y7 y8 y9 y10 y11 y12 y13) (spec_ConvolveImage.l2 (k + 1) y0 y1 y2 y3 y4 y5 y6 y7 y8 y9 y10 y11 y12 y13))
 | 0 => ⟨fun _ _ _ _ _ _ _ _ r h => by simp [spec_ConvolveImage.j0] at h, fun _ _ _ _ _ _ _ _ _ _ _ _ r h => by simp [spec_ConvolveImage.l0] at h, fun _ _ _ _ _ _ _ _ _ _ _ _ _ r h => by simp [spec_ConvolveImage.l1] at h, fun _ _ _ _ _ _ _ _ _ _ _ _ _ _ r h => by simp [spec_ConvolveImage.l2] at h⟩
 | k + 1 => by
  obtain ⟨ih0, ih1, ih2, ih3⟩ := spec_ConvolveImage.mono_l k
  refine ⟨?_, ?_, ?_, ?_⟩
  all_goals intros
  all_goals first | unfold spec_ConvolveImage.j0 | unfold spec_ConvolveImage.l0 | unfold spec_ConvolveImage.l1 | unfold spec_ConvolveImage.l2
  all_goals repeat' first | (with_reducible first | exact ih0 _ _ _ _ _ _ _ _ | exact ih1 _ _ _ _ _ _ _ _ _ _ _ _ | exact ih2 _ _ _ _ _ _ _ _ _ _ _ _ _ | exact ih3 _ _ _ _ _ _ _ _ _ _ _ _ _ _ | exact spec_convolve.mono _ _ _ _ _ _ _ _ _ _ _ | exact spec_validImage.mono _ _ _ _ _ | exact spec_validKernel.mono _ _ _ _ | exact lR | exact lN | refine lI ?_ ?_ | refine lB ?_ fun _ => ?_) | exact ih0 _ _ _ _ _ _ _ _ | exact ih1 _ _ _ _ _ _ _ _ _ _ _ _ | exact ih2 _ _ _ _ _ _ _ _ _ _ _ _ _ | exact ih3 _ _ _ _ _ _ _ _ _ _ _ _ _ _ | exact spec_convolve.mono _ _ _ _ _ _ _ _ _ _ _ | exact spec_validImage.mono _ _ _ _ _ | exact spec_validKernel.mono _ _ _ _ | exact lN | refine lI ?_ ?_ | refine lB ?_ fun _ => ?_
theorem spec_ConvolveImage.mono : ∀ a0 a1 a2 a3 a4 a5 a6 k, LeO (spec_ConvolveImage.f k a0 a1 a2 a3 a4 a5 a6) (spec_ConvolveImage.f (k + 1) a0 a1 a2 a3 a4 a5 a6) := by
 intro a0 a1 a2 a3 a4 a5 a6 k
 obtain ⟨ih0, ih1, ih2, ih3⟩ := spec_ConvolveImage.mono_l k
 unfold spec_ConvolveImage.f
 repeat' first | (with_reducible first | exact ih0 _ _ _ _ _ _ _ _ | exact ih1 _ _ _ _ _ _ _ _ _ _ _ _ | exact ih2 _ _ _ _ _ _ _ _ _ _ _ _ _ | exact ih3 _ _ _ _ _ _ _ _ _ _ _ _ _ _ | exact spec_convolve.mono _ _ _ _ _ _ _ _ _ _ _ | exact spec_validImage.mono _ _ _ _ _ | exact spec_validKernel.mono _ _ _ _ | exact lR | exact lN | refine lI ?_ ?_ | refine lB ?_ fun _ => ?_) | exact ih0 _ _ _ _ _ _ _ _ | exact ih1 _ _ _ _ _ _ _ _ _ _ _ _ | exact ih2 _ _ _ _ _ _ _ _ _ _ _ _ _ | exact ih3 _ _ _ _ _ _ _ _ _ _ _ _ _ _ | exact spec_convolve.mono _ _ _ _ _ _ _ _ _ _ _ | exact spec_validImage.mono _ _ _ _ _ | exact spec_validKernel.mono _ _ _ _ | exact lN | refine lI ?_ ?_ | refine lB ?_ fun _ => ?_
def spec_ConvolveImage.T13 : Bool × List (List Nat × List Nat) := (true, [([], []), ([], []), ([], []), ([], []), ([], []), ([0, 1, 2, 3, 4], [0, 1, 2, 3, 4]), ([5], [5]), ([], []), ([7], [7]), ([6, 8], [6, 8]), ([], []), ([10], [10]), ([11], [11]), ([9, 12, 5], [9, 12]), ([13, 13, 0, 1, 2, 3, 4, 5, 6, 7, 8, 9, 10, 11, 12, 13], [13])])
def spec_ConvolveImage.B13 : List Nat := [0, 0, 0, 0, 0, 31, 63, 0, 128, 511, 0, 1024, 3072, 8191, 16383]
theorem spec_ConvolveImage.tab13 : rtab .any (opsOf Try.f33 13) = spec_ConvolveImage.T13 := by kernel_rfl
theorem spec_ConvolveImage.bits13 : waitsOk spec_ConvolveImage.T13.2 spec_ConvolveImage.B13 = true := by kernel_rfl
set_option maxHeartbeats 8000000 in
set_option maxRecDepth 100000 in
theorem spec_ConvolveImage.calls (k : Nat) (a0_0 : Int) (a0_1 : Int) (a0_2 : Int) (A0_3 : Option Addr) (c0_3 : Nat) (l0_3 : List Int) (a1_0 : Int) (A1_1 : Option Addr) (c1_1 : Nat) (l1_1 : List Int) (a1_2 : Int) (r1 : Int) (r2 : Int) (r3 : Int) (r4 : List Int) (w : World) (hr0_3 : Kd.C (Kd.int .i64) w A0_3 l0_3.length l0_3) (hc0_3 : l0_3.length ≤ c0_3) (hr1_1 : Kd.C (Kd.int .i64) w A1_1 l1_1.length l1_1) (hc1_1 : l1_1.length ≤ c1_1) (h : spec_ConvolveImage.f k a0_0 a0_1 a0_2 l0_3 a1_0 l1_1 a1_2 = some (r1, r2, r3, r4)) :
  Calls Try.prog 33 #[.agg #[.int .i64 a0_0, .int .i64 a0_1, .int .i64 a0_2, .slice A0_3 l0_3.length c0_3], .agg #[.int .i64 a1_0, .slice A1_1 l1_1.length c1_1, .int .i64 a1_2]] w fun e w' => ∃ v3_ : Value, e = .returned (.agg #[.int .i64 r1, .int .i64 r2, .int .i64 r3, v3_]) ∧ Kd.R (Kd.int .i64) 3 w' w.heap.size (fun _ => True) v3_ r4 ∧ Below w.heap.size w w' := by
 have hu27 := Try.underlying27
 have hu49 := Try.underlying49
 have HR0_3 := aM hr0_3
 have HC0_3 := aM hc0_3
 clear hr0_3 hc0_3
 have HR1_1 := aM hr1_1
 have HC1_1 := aM hc1_1
 clear hr1_1 hc1_1
 have HB := aM (Below.refl w.heap.size w)
 unfold spec_ConvolveImage.f at h
 have H := h
 clear h
 have HC3 := aM H
 clear H
 go_enter Try.func33, Try.ntmps33
 go_upto_region 1 with (first | ((with_reducible refine gate_dst (N := 2) rfl ?_); refine bxE (N := 2) (cs := #[.int .i64 a0_0, .int .i64 a0_1, .int .i64 a0_2, .slice A0_3 l0_3.length c0_3]) (t := 27) ?_; intro gb536 hg w4 hbox hb; have BK536 := aM (hbox); have GW536 := gW hg HB; have GE536 := gW hg HB; replace HB := bS HB hb; clear hb hbox hg) | ((with_reducible refine gate_dst (N := 3) rfl ?_); refine bxE (N := 3) (cs := #[.int .i64 a1_0, .slice A1_1 l1_1.length c1_1, .int .i64 a1_2]) (t := 49) ?_; intro gb537 hg w5 hbox hb; have BK537 := aM (hbox); have GW537 := gW hg HB; have GE537 := gW hg HB; replace HB := bS HB hb; have NB536_537 := nL hg BK536; have NB537_536 := nG hg BK536; replace BK536 := bB BK536 hb; clear hb hbox hg) | ((with_reducible refine gate_dst (N := 4) rfl ?_); refine bxE (N := 4) (cs := #[.int .i64 0, .int .i64 0, .int .i64 0, .slice none 0 0]) (t := 27) ?_; intro gb538 hg w6 hbox hb; have BK538 := aM (hbox); have GW538 := gW hg HB; have GE538 := gW hg HB; replace HB := bS HB hb; have NB536_538 := nL hg BK536; have NB538_536 := nG hg BK536; replace BK536 := bB BK536 hb; have NB537_538 := nL hg BK537; have NB538_537 := nG hg BK537; replace BK537 := bB BK537 hb; clear hb hbox hg))
 (try simp only [Act.put, List.setIfInBounds_toArray, List.set_cons_zero, List.set_cons_succ])
 go_cut [17] (fun v17 wc => ∃ (kq : Nat) (x17_2 : Bool), v17 = .bool x17_2 ∧ Aside0 (spec_ConvolveImage.j0 kq x17_2 a0_0 a0_1 a0_2 l0_3 a1_0 l1_1 a1_2 = some (r1, r2, r3, r4)) ∧ Aside0 (kq ≤ k) ∧ Aside0 (wc.heap[gb536]? = some (.cells #[.int .i64 a0_0, .int .i64 a0_1, .int .i64 a0_2, (.slice A0_3 l0_3.length c0_3)] 27 (0, 0))) ∧ Aside0 (wc.heap[gb537]? = some (.cells #[.int .i64 a1_0, (.slice A1_1 l1_1.length c1_1), .int .i64 a1_2] 49 (0, 0))) ∧ Aside0 (wc.heap[gb538]? = some (.cells #[.int .i64 0, .int .i64 0, .int .i64 0, (.slice none 0 0)] 27 (0, 0))) ∧ Aside0 (Below w.heap.size w wc))
 case first =>
  have H := HC3.out
  clear HC3
  replace H := Option.bind_eq_some_iff.mp H
  obtain ⟨t539, A70, H⟩ := H
  replace H : (if t539 = true then ((spec_validKernel.f k a1_0 l1_1 a1_2).bind fun t540 => (spec_ConvolveImage.j0 k (!t540) a0_0 a0_1 a0_2 l0_3 a1_0 l1_1 a1_2)) else (spec_ConvolveImage.j0 k true a0_0 a0_1 a0_2 l0_3 a1_0 l1_1 a1_2)) = some (r1, r2, r3, r4) := H
  have A7 := aM A70
  clear A70
  by_cases c8 : t539 = true
  rotate_left
  ·replace c8 := Bool.eq_false_iff.mpr c8
   subst c8
   have H1 : (spec_ConvolveImage.j0 k true a0_0 a0_1 a0_2 l0_3 a1_0 l1_1 a1_2) = some (r1, r2, r3, r4) := by rw [if_neg (show ¬ (false = true) by decide)] at H; exact H
   clear H
   have H := H1
   clear H1
   have H' := aM H
   clear H
   have hnb17 := NB536_537.out
   have hnc17 := NB537_536.out
   have hnb18 := NB536_538.out
   have hnc18 := NB538_536.out
   obtain ⟨⟨hcz19_0, hcz19_1, hcz19_2, hcz19_3⟩, hfz19_0, hfz19_1, hfz19_2, hfz19_3⟩ := cf4 BK536
   go_wp2_with (first | ((with_reducible refine gate_callee (f := 52) rfl ?_); refine gL (some 11) Try.func52 #[.agg #[.int .i64 a0_0, .int .i64 a0_1, .int .i64 a0_2, .slice A0_3 l0_3.length c0_3]] ?_; (with_reducible refine (spec_validImage.calls k a0_0 a0_1 a0_2 _ _ l0_3 false _ ?side1 ?side2 A7.out).mono ?_); (case side1 => exact qC (Kd.C_below HR0_3.out HB.out)); (case side2 => exact HC0_3.out); rintro e w20 ⟨rfl, hb⟩; refine ⟨_, rfl, ?_⟩; replace BK536 := bB BK536 hb; replace BK537 := bB BK537 hb; replace BK538 := bB BK538 hb; replace HB := bS HB hb; clear hb))
   go_meet
   case rel => exact ⟨_, (true), qE, H', ⟨by first | omega | exact Nat.le_refl _⟩, ⟨by refine qB ?_; exact BK536.out⟩, ⟨by refine qB ?_; exact BK537.out⟩, ⟨by refine qB ?_; exact BK538.out⟩, ⟨by exact qW HB.out⟩⟩
  subst c8
  have H1 : ((spec_validKernel.f k a1_0 l1_1 a1_2).bind fun t540 => (spec_ConvolveImage.j0 k (!t540) a0_0 a0_1 a0_2 l0_3 a1_0 l1_1 a1_2)) = some (r1, r2, r3, r4) := by rw [if_pos rfl] at H; exact H
  clear H
  have H := H1
  clear H1
  replace H := Option.bind_eq_some_iff.mp H
  obtain ⟨t540, A90, H⟩ := H
  replace H : (spec_ConvolveImage.j0 k (!t540) a0_0 a0_1 a0_2 l0_3 a1_0 l1_1 a1_2) = some (r1, r2, r3, r4) := H
  have A9 := aM A90
  clear A90
  have H' := aM H
  clear H
  have hnb10 := NB536_537.out
  have hnc10 := NB537_536.out
  have hnb11 := NB536_538.out
  have hnc11 := NB538_536.out
  obtain ⟨⟨hcz12_0, hcz12_1, hcz12_2, hcz12_3⟩, hfz12_0, hfz12_1, hfz12_2, hfz12_3⟩ := cf4 BK536
  go_wp2_with (first | ((with_reducible refine gate_callee (f := 52) rfl ?_); refine gL (some 11) Try.func52 #[.agg #[.int .i64 a0_0, .int .i64 a0_1, .int .i64 a0_2, .slice A0_3 l0_3.length c0_3]] ?_; (with_reducible refine (spec_validImage.calls k a0_0 a0_1 a0_2 _ _ l0_3 true _ ?side1 ?side2 A7.out).mono ?_); (case side1 => exact qC (Kd.C_below HR0_3.out HB.out)); (case side2 => exact HC0_3.out); rintro e w13 ⟨rfl, hb⟩; refine ⟨_, rfl, ?_⟩; replace BK536 := bB BK536 hb; replace BK537 := bB BK537 hb; replace BK538 := bB BK538 hb; replace HB := bS HB hb; clear hb; have hnb14 := NB537_538.out; have hnc14 := NB538_537.out; obtain ⟨⟨hcz15_0, hcz15_1, hcz15_2⟩, hfz15_0, hfz15_1, hfz15_2⟩ := cf3 BK537) | (go_at_call 78; (with_reducible refine (spec_validKernel.calls k a1_0 _ _ l1_1 a1_2 t540 _ ?side1 ?side2 A9.out).mono ?_); (case side1 => exact qC (Kd.C_below HR1_1.out HB.out)); (case side2 => exact HC1_1.out); rintro e w16 ⟨rfl, hb⟩; replace BK536 := bB BK536 hb; replace BK537 := bB BK537 hb; replace BK538 := bB BK538 hb; replace HB := bS HB hb; clear hb))
  go_meet
  case rel => exact ⟨_, (!t540), qE, H', ⟨by first | omega | exact Nat.le_refl _⟩, ⟨by refine qB ?_; exact BK536.out⟩, ⟨by refine qB ?_; exact BK537.out⟩, ⟨by refine qB ?_; exact BK538.out⟩, ⟨by exact qW HB.out⟩⟩
 case rest =>
  clear HC3
  try clear c8
  try clear hcz12_0 hcz12_1 hcz12_2 hcz12_3 hfz12_0 hfz12_1 hfz12_2 hfz12_3
  try clear hcz15_0 hcz15_1 hcz15_2 hfz15_0 hfz15_1 hfz15_2
  try clear hcz19_0 hcz19_1 hcz19_2 hcz19_3 hfz19_0 hfz19_1 hfz19_2 hfz19_3
  obtain ⟨kq, x17_2, rfl, HA, HJ2, BK536, BK537, BK538, HB⟩ := hcut
  cases kq with
  | zero => exact absurd HA.out (by simp [spec_ConvolveImage.j0])
  | succ kj2 =>
   have H := HA.out
   clear HA
   simp only [spec_ConvolveImage.j0] at H
   by_cases c21 : x17_2 = true
   ·subst c21
    have H1 : (some (0, 0, 0, ([] : List Int))) = some (r1, r2, r3, r4) := by rw [if_pos rfl] at H; exact H
    clear H
    have H := H1
    clear H1
    simp only [Option.some.injEq, Prod.mk.injEq] at H
    obtain ⟨rfl, rfl, rfl, rfl⟩ := H
    have hnb22 := NB538_536.out
    have hnc22 := NB536_538.out
    have hnb23 := NB538_537.out
    have hnc23 := NB537_538.out
    obtain ⟨⟨hcz24_0, hcz24_1, hcz24_2, hcz24_3⟩, hfz24_0, hfz24_1, hfz24_2, hfz24_3⟩ := cf4 BK538
    go_wp2
    refine bodyPost_ret (results_cell_row rfl _ _ gb538 27 #[.int .i64 0, .int .i64 0, .int .i64 0, .slice none 0 0] (0, 0) _ rfl (by exact bP BK538.out) Try.underlying27 rfl (by kernel_rfl)) rfl ?_
    exact ⟨_, qX, qN, by exact qW HB.out⟩
   replace c21 := Bool.eq_false_iff.mpr c21
   subst c21
   have H1 : ((spec_copyImage.f a0_0 a0_1 a0_2 l0_3).bind fun bt541 => (spec_ConvolveImage.l0 kj2 0 a0_0 a0_1 a0_2 l0_3 a1_0 l1_1 a1_2 bt541.1 bt541.2.1 bt541.2.2.1 bt541.2.2.2)) = some (r1, r2, r3, r4) := by rw [if_neg (show ¬ (false = true) by decide)] at H; exact H
   clear H
   have H := H1
   clear H1
   replace H := Option.bind_eq_some_iff.mp H
   obtain ⟨⟨t541, t542, t543, t544⟩, A250, H⟩ := H
   replace H : (spec_ConvolveImage.l0 kj2 0 a0_0 a0_1 a0_2 l0_3 a1_0 l1_1 a1_2 t541 t542 t543 t544) = some (r1, r2, r3, r4) := H
   have A25 := aM A250
   clear A250
   have H' := aM H
   clear H
   have hnb26 := NB536_537.out
   have hnc26 := NB537_536.out
   have hnb27 := NB536_538.out
   have hnc27 := NB538_536.out
   obtain ⟨⟨hcz28_0, hcz28_1, hcz28_2, hcz28_3⟩, hfz28_0, hfz28_1, hfz28_2, hfz28_3⟩ := cf4 BK536
   go_wp2_with (first | ((with_reducible refine gate_callee (f := 58) rfl ?_); refine gL (some 20) Try.func58 #[.agg #[.int .i64 a0_0, .int .i64 a0_1, .int .i64 a0_2, .slice A0_3 l0_3.length c0_3]] ?_; (with_reducible refine (spec_copyImage.calls a0_0 a0_1 a0_2 _ _ l0_3 t541 t542 t543 t544 _ ?side1 ?side2 A25.out).mono ?_); (case side1 => exact qC (Kd.C_below HR0_3.out HB.out)); (case side2 => exact HC0_3.out); rintro e w29 ⟨v545, rfl, ho0, hb⟩; refine ⟨_, rfl, ?_⟩; have HO546 := oR ho0 HB; replace BK536 := bB BK536 hb; replace BK537 := bB BK537 hb; replace BK538 := bB BK538 hb; replace HB := bS HB hb; clear hb ho0) | ((with_reducible refine gate_dst (N := 5) rfl ?_); refine bxE (N := 5) (cs := #[.int .i64 0, .int .i64 0, .int .i64 0, .slice none 0 0]) (t := 27) ?_; intro gb547 hg w30 hbox hb; replace HO546 := aM (Kd.R_below (qR HO546.out) hb); have BK547 := aM (hbox); have GW547 := gW hg HB; have GE547 := gW hg HB; replace HB := bS HB hb; have NB536_547 := nL hg BK536; have NB547_536 := nG hg BK536; replace BK536 := bB BK536 hb; have NB537_547 := nL hg BK537; have NB547_537 := nG hg BK537; replace BK537 := bB BK537 hb; have NB538_547 := nL hg BK538; have NB547_538 := nG hg BK538; replace BK538 := bB BK538 hb; clear hb hbox hg; have hnb31 := NB547_536.out; have hnc31 := NB536_547.out; have hnb32 := NB547_537.out; have hnc32 := NB537_547.out; have hnb33 := NB547_538.out; have hnc33 := NB538_547.out; obtain ⟨⟨hcz34_0, hcz34_1, hcz34_2, hcz34_3⟩, hfz34_0, hfz34_1, hfz34_2, hfz34_3⟩ := cf4 BK547; obtain ⟨Ao35, co35, rfl⟩ := sL HO546))
   go_loopg [6] kj2 (fun kq v6 w' => ∃ (x6_2 : Int) (x548003_2 : List Int) (u548003 : Value), v6 = .int .i64 x6_2 ∧ Aside0 (spec_ConvolveImage.l0 kq x6_2 a0_0 a0_1 a0_2 l0_3 a1_0 l1_1 a1_2 t541 t542 t543 x548003_2 = some (r1, r2, r3, r4)) ∧ Aside0 (kq ≤ kj2) ∧ Aside0 (Kd.R (Kd.int .i64) 3 w' w.heap.size (fun _ => True) u548003 x548003_2) ∧ Aside0 (w'.heap[gb536]? = some (.cells #[.int .i64 a0_0, .int .i64 a0_1, .int .i64 a0_2, (.slice A0_3 l0_3.length c0_3)] 27 (0, 0))) ∧ Aside0 (w'.heap[gb537]? = some (.cells #[.int .i64 a1_0, (.slice A1_1 l1_1.length c1_1), .int .i64 a1_2] 49 (0, 0))) ∧ Aside0 (w'.heap[gb538]? = some (.cells #[.int .i64 0, .int .i64 0, .int .i64 0, (.slice none 0 0)] 27 (0, 0))) ∧ Aside0 (w'.heap[gb547]? = some (.cells #[.int .i64 t541, .int .i64 t542, .int .i64 t543, u548003] 27 (0, 0))) ∧ Aside0 (Below w.heap.size w w'))
   case atStart => exact ⟨(0), (t544), (.slice Ao35 t544.length co35), qE, H', ⟨Nat.le_refl _⟩, ⟨by refine qR ?_; exact Kd.R_mono (rT HO546 BK547) (fun _ hk => trivial)⟩, ⟨by refine qB ?_; refine blk_far ?_ NB536_547.out _; refine qB ?_; refine blk_far ?_ NB536_547.out _; refine qB ?_; refine blk_far ?_ NB536_547.out _; refine qB ?_; refine blk_far ?_ NB536_547.out _; refine qB ?_; exact BK536.out⟩, ⟨by refine qB ?_; refine blk_far ?_ NB537_547.out _; refine qB ?_; refine blk_far ?_ NB537_547.out _; refine qB ?_; refine blk_far ?_ NB537_547.out _; refine qB ?_; refine blk_far ?_ NB537_547.out _; refine qB ?_; exact BK537.out⟩, ⟨by refine qB ?_; refine blk_far ?_ NB538_547.out _; refine qB ?_; refine blk_far ?_ NB538_547.out _; refine qB ?_; refine blk_far ?_ NB538_547.out _; refine qB ?_; refine blk_far ?_ NB538_547.out _; refine qB ?_; exact BK538.out⟩, ⟨by exact bP BK547.out⟩, ⟨by exact qW HB.out⟩⟩
   case round =>
    clear H'
    try clear c8
    try clear c21
    try clear hcz12_0 hcz12_1 hcz12_2 hcz12_3 hfz12_0 hfz12_1 hfz12_2 hfz12_3
    try clear hcz15_0 hcz15_1 hcz15_2 hfz15_0 hfz15_1 hfz15_2
    try clear hcz19_0 hcz19_1 hcz19_2 hcz19_3 hfz19_0 hfz19_1 hfz19_2 hfz19_3
    try clear hcz24_0 hcz24_1 hcz24_2 hcz24_3 hfz24_0 hfz24_1 hfz24_2 hfz24_3
    try clear hcz28_0 hcz28_1 hcz28_2 hcz28_3 hfz28_0 hfz28_1 hfz28_2 hfz28_3
    try clear hcz34_0 hcz34_1 hcz34_2 hcz34_3 hfz34_0 hfz34_1 hfz34_2 hfz34_3
    obtain ⟨x6_2, x548003_2, u548003, rfl, HA, HK2, HO_548003, BK536, BK537, BK538, BK547, HB⟩ := hrel
    cases gk with
    | zero => exact absurd HA.out (by simp [spec_ConvolveImage.l0])
    | succ k2 =>
     have H := HA.out
     clear HA
     simp only [spec_ConvolveImage.l0] at H
     by_cases c36 : x6_2 < a0_1
     rotate_left
     ·rw [if_neg c36] at H
      have c36b0 : decide (x6_2 < a0_1) = false := decide_eq_false c36
      clear c36
      simp only [Option.some.injEq, Prod.mk.injEq] at H
      obtain ⟨rfl, rfl, rfl, rfl⟩ := H
      have hnb75 := NB536_537.out
      have hnc75 := NB537_536.out
      have hnb76 := NB536_538.out
      have hnc76 := NB538_536.out
      have hnb77 := NB536_547.out
      have hnc77 := NB547_536.out
      obtain ⟨⟨hcz78_0, hcz78_1, hcz78_2, hcz78_3⟩, hfz78_0, hfz78_1, hfz78_2, hfz78_3⟩ := cf4 BK536
      have hnb79 := NB547_537.out
      have hnc79 := NB537_547.out
      have hnb80 := NB547_538.out
      have hnc80 := NB538_547.out
      obtain ⟨⟨hcz81_0, hcz81_1, hcz81_2, hcz81_3⟩, hfz81_0, hfz81_1, hfz81_2, hfz81_3⟩ := cf4 BK547
      have hnb82 := NB538_537.out
      have hnc82 := NB537_538.out
      obtain ⟨⟨hcz83_0, hcz83_1, hcz83_2, hcz83_3⟩, hfz83_0, hfz83_1, hfz83_2, hfz83_3⟩ := cf4 BK538
      obtain ⟨Ao84, co84, rfl⟩ := sL HO_548003
      go_wp2
      refine bodyPost_ret (results_cell_row rfl _ _ gb538 27 #[.int .i64 t541, .int .i64 t542, .int .i64 t543, .slice Ao84 x548003_2.length co84] (0, 0) _ rfl (by exact bP BK538.out) Try.underlying27 rfl (by kernel_rfl)) rfl ?_
      exact ⟨_, qX, by refine qR ?_; exact Kd.R_mono (rT HO_548003 BK538) (fun _ hk => trivial), by exact qW HB.out⟩
     rw [if_pos c36] at H
     have c36b0 : decide (x6_2 < a0_1) = true := decide_eq_true c36
     clear c36
     have H' := aM H
     clear H
     have hnb37 := NB536_537.out
     have hnc37 := NB537_536.out
     have hnb38 := NB536_538.out
     have hnc38 := NB538_536.out
     have hnb39 := NB536_547.out
     have hnc39 := NB547_536.out
     obtain ⟨⟨hcz40_0, hcz40_1, hcz40_2, hcz40_3⟩, hfz40_0, hfz40_1, hfz40_2, hfz40_3⟩ := cf4 BK536
     go_wp2
     go_loopg [7] k2 (fun kq v7 w' => ∃ (x7_3 : Int) (x548003_3 : List Int) (u548003 : Value), v7 = .int .i64 x7_3 ∧ Aside0 (spec_ConvolveImage.l1 kq x6_2 x7_3 a0_0 a0_1 a0_2 l0_3 a1_0 l1_1 a1_2 t541 t542 t543 x548003_3 = some (r1, r2, r3, r4)) ∧ Aside0 (kq ≤ k2) ∧ Aside0 (Kd.R (Kd.int .i64) 3 w' w.heap.size (fun _ => True) u548003 x548003_3) ∧ Aside0 (w'.heap[gb536]? = some (.cells #[.int .i64 a0_0, .int .i64 a0_1, .int .i64 a0_2, (.slice A0_3 l0_3.length c0_3)] 27 (0, 0))) ∧ Aside0 (w'.heap[gb537]? = some (.cells #[.int .i64 a1_0, (.slice A1_1 l1_1.length c1_1), .int .i64 a1_2] 49 (0, 0))) ∧ Aside0 (w'.heap[gb538]? = some (.cells #[.int .i64 0, .int .i64 0, .int .i64 0, (.slice none 0 0)] 27 (0, 0))) ∧ Aside0 (w'.heap[gb547]? = some (.cells #[.int .i64 t541, .int .i64 t542, .int .i64 t543, u548003] 27 (0, 0))) ∧ Aside0 (Below w.heap.size w w'))
     case atStart => exact ⟨(0), (x548003_2), (u548003), qE, H', ⟨Nat.le_refl _⟩, ⟨by refine qR ?_; exact HO_548003.out⟩, ⟨by refine qB ?_; exact BK536.out⟩, ⟨by refine qB ?_; exact BK537.out⟩, ⟨by refine qB ?_; exact BK538.out⟩, ⟨by refine qB ?_; exact BK547.out⟩, ⟨by exact qW HB.out⟩⟩
     case round =>
      clear H'
      try clear c8
      try clear c21
      try clear c36
      try clear c36b0
      try clear hcz12_0 hcz12_1 hcz12_2 hcz12_3 hfz12_0 hfz12_1 hfz12_2 hfz12_3
      try clear hcz15_0 hcz15_1 hcz15_2 hfz15_0 hfz15_1 hfz15_2
      try clear hcz19_0 hcz19_1 hcz19_2 hcz19_3 hfz19_0 hfz19_1 hfz19_2 hfz19_3
      try clear hcz24_0 hcz24_1 hcz24_2 hcz24_3 hfz24_0 hfz24_1 hfz24_2 hfz24_3
      try clear hcz28_0 hcz28_1 hcz28_2 hcz28_3 hfz28_0 hfz28_1 hfz28_2 hfz28_3
      try clear hcz34_0 hcz34_1 hcz34_2 hcz34_3 hfz34_0 hfz34_1 hfz34_2 hfz34_3
      try clear hcz40_0 hcz40_1 hcz40_2 hcz40_3 hfz40_0 hfz40_1 hfz40_2 hfz40_3
      obtain ⟨x7_3, x548003_3, u548003, rfl, HA, HK3, HO_548003, BK536, BK537, BK538, BK547, HB⟩ := hrel
      cases gk with
      | zero => exact absurd HA.out (by simp [spec_ConvolveImage.l1])
      | succ k3 =>
       have H := HA.out
       clear HA
       simp only [spec_ConvolveImage.l1] at H
       by_cases c41 : x7_3 < a0_0
       rotate_left
       ·rw [if_neg c41] at H
        have c41b0 : decide (x7_3 < a0_0) = false := decide_eq_false c41
        clear c41
        have H' := aM H
        clear H
        have hnb71 := NB536_537.out
        have hnc71 := NB537_536.out
        have hnb72 := NB536_538.out
        have hnc72 := NB538_536.out
        have hnb73 := NB536_547.out
        have hnc73 := NB547_536.out
        obtain ⟨⟨hcz74_0, hcz74_1, hcz74_2, hcz74_3⟩, hfz74_0, hfz74_1, hfz74_2, hfz74_3⟩ := cf4 BK536
        go_wp2
        go_roundg k3
        case measure => have := HJ2.out; have := HK2.out; have := HK3.out; omega
        case rel => exact ⟨(wrap64 (x6_2 + 1)), (x548003_3), (u548003), qE, H', ⟨by have := HJ2.out; have := HK2.out; have := HK3.out; omega⟩, ⟨by refine qR ?_; exact HO_548003.out⟩, ⟨by refine qB ?_; exact BK536.out⟩, ⟨by refine qB ?_; exact BK537.out⟩, ⟨by refine qB ?_; exact BK538.out⟩, ⟨by refine qB ?_; exact BK547.out⟩, ⟨by exact qW HB.out⟩⟩
       rw [if_pos c41] at H
       have c41b0 : decide (x7_3 < a0_0) = true := decide_eq_true c41
       clear c41
       have H' := aM H
       clear H
       have hnb42 := NB536_537.out
       have hnc42 := NB537_536.out
       have hnb43 := NB536_538.out
       have hnc43 := NB538_536.out
       have hnb44 := NB536_547.out
       have hnc44 := NB547_536.out
       obtain ⟨⟨hcz45_0, hcz45_1, hcz45_2, hcz45_3⟩, hfz45_0, hfz45_1, hfz45_2, hfz45_3⟩ := cf4 BK536
       go_wp2
       go_loopg [8] k3 (fun kq v8 w' => ∃ (x8_4 : Int) (x548003_4 : List Int) (u548003 : Value), v8 = .int .i64 x8_4 ∧ Aside0 (spec_ConvolveImage.l2 kq x6_2 x7_3 x8_4 a0_0 a0_1 a0_2 l0_3 a1_0 l1_1 a1_2 t541 t542 t543 x548003_4 = some (r1, r2, r3, r4)) ∧ Aside0 (kq ≤ k3) ∧ Aside0 (Kd.R (Kd.int .i64) 3 w' w.heap.size (fun _ => True) u548003 x548003_4) ∧ Aside0 (w'.heap[gb536]? = some (.cells #[.int .i64 a0_0, .int .i64 a0_1, .int .i64 a0_2, (.slice A0_3 l0_3.length c0_3)] 27 (0, 0))) ∧ Aside0 (w'.heap[gb537]? = some (.cells #[.int .i64 a1_0, (.slice A1_1 l1_1.length c1_1), .int .i64 a1_2] 49 (0, 0))) ∧ Aside0 (w'.heap[gb538]? = some (.cells #[.int .i64 0, .int .i64 0, .int .i64 0, (.slice none 0 0)] 27 (0, 0))) ∧ Aside0 (w'.heap[gb547]? = some (.cells #[.int .i64 t541, .int .i64 t542, .int .i64 t543, u548003] 27 (0, 0))) ∧ Aside0 (Below w.heap.size w w'))
       case atStart => exact ⟨(0), (x548003_3), (u548003), qE, H', ⟨Nat.le_refl _⟩, ⟨by refine qR ?_; exact HO_548003.out⟩, ⟨by refine qB ?_; exact BK536.out⟩, ⟨by refine qB ?_; exact BK537.out⟩, ⟨by refine qB ?_; exact BK538.out⟩, ⟨by refine qB ?_; exact BK547.out⟩, ⟨by exact qW HB.out⟩⟩
       case round =>
        clear H'
        try clear c8
        try clear c21
        try clear c36
        try clear c36b0
        try clear c41
        try clear c41b0
        try clear hcz12_0 hcz12_1 hcz12_2 hcz12_3 hfz12_0 hfz12_1 hfz12_2 hfz12_3
        try clear hcz15_0 hcz15_1 hcz15_2 hfz15_0 hfz15_1 hfz15_2
        try clear hcz19_0 hcz19_1 hcz19_2 hcz19_3 hfz19_0 hfz19_1 hfz19_2 hfz19_3
        try clear hcz24_0 hcz24_1 hcz24_2 hcz24_3 hfz24_0 hfz24_1 hfz24_2 hfz24_3
        try clear hcz28_0 hcz28_1 hcz28_2 hcz28_3 hfz28_0 hfz28_1 hfz28_2 hfz28_3
        try clear hcz34_0 hcz34_1 hcz34_2 hcz34_3 hfz34_0 hfz34_1 hfz34_2 hfz34_3
        try clear hcz40_0 hcz40_1 hcz40_2 hcz40_3 hfz40_0 hfz40_1 hfz40_2 hfz40_3
        try clear hcz45_0 hcz45_1 hcz45_2 hcz45_3 hfz45_0 hfz45_1 hfz45_2 hfz45_3
        obtain ⟨x8_4, x548003_4, u548003, rfl, HA, HK4, HO_548003, BK536, BK537, BK538, BK547, HB⟩ := hrel
        cases gk with
        | zero => exact absurd HA.out (by simp [spec_ConvolveImage.l2])
        | succ k4 =>
         have H := HA.out
         clear HA
         simp only [spec_ConvolveImage.l2] at H
         by_cases c46 : x8_4 < a0_2
         rotate_left
         ·rw [if_neg c46] at H
          have c46b0 : decide (x8_4 < a0_2) = false := decide_eq_false c46
          clear c46
          have H' := aM H
          clear H
          have hnb67 := NB536_537.out
          have hnc67 := NB537_536.out
          have hnb68 := NB536_538.out
          have hnc68 := NB538_536.out
          have hnb69 := NB536_547.out
          have hnc69 := NB547_536.out
          obtain ⟨⟨hcz70_0, hcz70_1, hcz70_2, hcz70_3⟩, hfz70_0, hfz70_1, hfz70_2, hfz70_3⟩ := cf4 BK536
          go_wp2
          go_roundg k4
          case measure => have := HJ2.out; have := HK2.out; have := HK3.out; have := HK4.out; omega
          case rel => exact ⟨(wrap64 (x7_3 + 1)), (x548003_4), (u548003), qE, H', ⟨by have := HJ2.out; have := HK2.out; have := HK3.out; have := HK4.out; omega⟩, ⟨by refine qR ?_; exact HO_548003.out⟩, ⟨by refine qB ?_; exact BK536.out⟩, ⟨by refine qB ?_; exact BK537.out⟩, ⟨by refine qB ?_; exact BK538.out⟩, ⟨by refine qB ?_; exact BK547.out⟩, ⟨by exact qW HB.out⟩⟩
         rw [if_pos c46] at H
         have c46b0 : decide (x8_4 < a0_2) = true := decide_eq_true c46
         clear c46
         replace H := Option.bind_eq_some_iff.mp H
         obtain ⟨t548, A470, H⟩ := H
         replace H : ((spec_floorDiv.f (wrap64 ((wrap64 (2 * t548)) + a1_2)) (wrap64 (2 * a1_2))).bind fun t549 => (if 0 ≤ (wrap64 ((wrap64 ((wrap64 ((wrap64 (x6_2 * a0_0)) + x7_3)) * a0_2)) + x8_4)) then (if (wrap64 ((wrap64 ((wrap64 ((wrap64 (x6_2 * a0_0)) + x7_3)) * a0_2)) + x8_4)) < (x548003_4.length : Int) then (spec_ConvolveImage.l2 k4 x6_2 x7_3 (wrap64 (x8_4 + 1)) a0_0 a0_1 a0_2 l0_3 a1_0 l1_1 a1_2 t541 t542 t543 (x548003_4.set ((wrap64 ((wrap64 ((wrap64 ((wrap64 (x6_2 * a0_0)) + x7_3)) * a0_2)) + x8_4)) : Int).toNat (mn 255 (mx 0 t549)))) else (none)) else (none))) = some (r1, r2, r3, r4) := H
         have A47 := aM A470
         clear A470
         replace H := Option.bind_eq_some_iff.mp H
         obtain ⟨t549, A480, H⟩ := H
         replace H : (if 0 ≤ (wrap64 ((wrap64 ((wrap64 ((wrap64 (x6_2 * a0_0)) + x7_3)) * a0_2)) + x8_4)) then (if (wrap64 ((wrap64 ((wrap64 ((wrap64 (x6_2 * a0_0)) + x7_3)) * a0_2)) + x8_4)) < (x548003_4.length : Int) then (spec_ConvolveImage.l2 k4 x6_2 x7_3 (wrap64 (x8_4 + 1)) a0_0 a0_1 a0_2 l0_3 a1_0 l1_1 a1_2 t541 t542 t543 (x548003_4.set ((wrap64 ((wrap64 ((wrap64 ((wrap64 (x6_2 * a0_0)) + x7_3)) * a0_2)) + x8_4)) : Int).toNat (mn 255 (mx 0 t549)))) else (none)) else (none)) = some (r1, r2, r3, r4) := H
         have A48 := aM A480
         clear A480
         obtain ⟨ji49, hji49⟩ : ∃ j_ : Int, (mx 0 t549) = j_ := ⟨_, rfl⟩
         replace H : (if 0 ≤ (wrap64 ((wrap64 ((wrap64 ((wrap64 (x6_2 * a0_0)) + x7_3)) * a0_2)) + x8_4)) then (if (wrap64 ((wrap64 ((wrap64 ((wrap64 (x6_2 * a0_0)) + x7_3)) * a0_2)) + x8_4)) < (x548003_4.length : Int) then (spec_ConvolveImage.l2 k4 x6_2 x7_3 (wrap64 (x8_4 + 1)) a0_0 a0_1 a0_2 l0_3 a1_0 l1_1 a1_2 t541 t542 t543 (x548003_4.set ((wrap64 ((wrap64 ((wrap64 ((wrap64 (x6_2 * a0_0)) + x7_3)) * a0_2)) + x8_4)) : Int).toNat (mn 255 (ji49)))) else (none)) else (none)) = some (r1, r2, r3, r4) := by first | (rw [hji49] at H; exact H) | (simp only [hji49] at H ⊢; exact H)
         (try rw [hji49] at A47)
         (try rw [hji49] at A48)
         (try (have hji49l : 0 ≤ ji49 := by (rw [← hji49]; unfold mx; (repeat' split) <;> omega)))
         (try (have hji49m : 0 ≤ ji49 := by omega))
         have hji49_ : (if 0 < t549 then t549 else 0) = ji49 := hji49
         obtain ⟨ji50, hji50⟩ : ∃ j_ : Int, (mn 255 (ji49)) = j_ := ⟨_, rfl⟩
         replace H : (if 0 ≤ (wrap64 ((wrap64 ((wrap64 ((wrap64 (x6_2 * a0_0)) + x7_3)) * a0_2)) + x8_4)) then (if (wrap64 ((wrap64 ((wrap64 ((wrap64 (x6_2 * a0_0)) + x7_3)) * a0_2)) + x8_4)) < (x548003_4.length : Int) then (spec_ConvolveImage.l2 k4 x6_2 x7_3 (wrap64 (x8_4 + 1)) a0_0 a0_1 a0_2 l0_3 a1_0 l1_1 a1_2 t541 t542 t543 (x548003_4.set ((wrap64 ((wrap64 ((wrap64 ((wrap64 (x6_2 * a0_0)) + x7_3)) * a0_2)) + x8_4)) : Int).toNat (ji50))) else (none)) else (none)) = some (r1, r2, r3, r4) := by first | (rw [hji50] at H; exact H) | (simp only [hji50] at H ⊢; exact H)
         (try rw [hji50] at A47)
         (try rw [hji50] at A48)
         have hji50_ : (if (ji49) < 255 then (ji49) else 255) = ji50 := hji50
         obtain ⟨ji51, hji51⟩ : ∃ j_ : Int, (wrap64 ((wrap64 ((wrap64 ((wrap64 (x6_2 * a0_0)) + x7_3)) * a0_2)) + x8_4)) = j_ := ⟨_, rfl⟩
         replace H : (if 0 ≤ (ji51) then (if (ji51) < (x548003_4.length : Int) then (spec_ConvolveImage.l2 k4 x6_2 x7_3 (wrap64 (x8_4 + 1)) a0_0 a0_1 a0_2 l0_3 a1_0 l1_1 a1_2 t541 t542 t543 (x548003_4.set ((ji51) : Int).toNat (ji50))) else (none)) else (none)) = some (r1, r2, r3, r4) := by first | (rw [hji51] at H; exact H) | (simp only [hji51] at H ⊢; exact H)
         (try rw [hji51] at A47)
         (try rw [hji51] at A48)
         have hji51w : (IntKind.i64.wrap ((wrap64 ((wrap64 ((wrap64 (x6_2 * a0_0)) + x7_3)) * a0_2)) + x8_4)) = ji51 := (i64_w _).trans hji51
         replace H := iD H
         obtain ⟨c52b0, H⟩ := H
         replace H := iD H
         obtain ⟨c53b0, H⟩ := H
         obtain ⟨y550, hy550⟩ : ∃ y_ : List Int, y_ = (x548003_4.set ((ji51) : Int).toNat (ji50)) := ⟨_, rfl⟩
         replace H : (spec_ConvolveImage.l2 k4 x6_2 x7_3 (wrap64 (x8_4 + 1)) a0_0 a0_1 a0_2 l0_3 a1_0 l1_1 a1_2 t541 t542 t543 y550) = some (r1, r2, r3, r4) := rY hy550 H
         have Ny550 := aM hy550
         clear hy550
         have H' := aM H
         clear H
         have hnb55 := NB536_537.out
         have hnc55 := NB537_536.out
         have hnb56 := NB536_538.out
         have hnc56 := NB538_536.out
         have hnb57 := NB536_547.out
         have hnc57 := NB547_536.out
         obtain ⟨⟨hcz58_0, hcz58_1, hcz58_2, hcz58_3⟩, hfz58_0, hfz58_1, hfz58_2, hfz58_3⟩ := cf4 BK536
         try go_wp2
         replace HO_548003 := aM (Kd.R_drew HO_548003.out)
         replace BK536 := aM (blk_drew BK536.out)
         replace BK537 := aM (blk_drew BK537.out)
         replace BK538 := aM (blk_drew BK538.out)
         replace BK547 := aM (blk_drew BK547.out)
         replace HB := aM (below_drew1 HB.out)
         refine start_ (n := 15) (S := fun w' => w'.cell? ⟨gb536, 0, none⟩ = some (.int .i64 a0_0) ∧ w'.cell? ⟨gb536, 1, none⟩ = some (.int .i64 a0_1) ∧ w'.cell? ⟨gb536, 2, none⟩ = some (.int .i64 a0_2) ∧ w'.cell? ⟨gb536, 3, none⟩ = some (.slice A0_3 l0_3.length c0_3) ∧ w'.cell? ⟨gb537, 0, none⟩ = some (.int .i64 a1_0) ∧ w'.cell? ⟨gb537, 1, none⟩ = some (.slice A1_1 l1_1.length c1_1) ∧ w'.cell? ⟨gb537, 2, none⟩ = some (.int .i64 a1_2)) (ds := []) (bA 15 0) (by kernel_rfl) rfl rfl ⟨(blk_cell BK536.out 0).trans rfl, (blk_cell BK536.out 1).trans rfl, (blk_cell BK536.out 2).trans rfl, (blk_cell BK536.out 3).trans rfl, (blk_cell BK537.out 0).trans rfl, (blk_cell BK537.out 1).trans rfl, (blk_cell BK537.out 2).trans rfl⟩ (fun hHeld => ?_); refine with_tabW spec_ConvolveImage.tab13 spec_ConvolveImage.bits13 (fun HT_ HW_ => ?_)
         generalize wr.drew = w59 at HO_548003 BK536 BK537 BK538 BK547 HB hHeld ⊢
         refine pQ 2 41 HT_ (bA 15 4) ?_
         refine pQ 3 42 HT_ (bA 15 12) ?_
         refine pQ 4 43 HT_ (bA 15 28) ?_
         refine pQ 7 46 HT_ (bA 15 156) ?_
         refine pQ 10 49 HT_ (bA 15 1180) ?_
         refine take_ (i := 0) (N := some 39) (v := ?_) (a' := ?_) (bA 15 1181) rfl rfl (take_ofW HT_.out HW_.out (by kernel_rfl)) (fun _ _ _ h => h) (Or.inl ⟨by rfl, ?_⟩) hHeld ?_ ?_
         rotate_left
         ·rintro w' ⟨s0, s1, s2, s3, s4, s5, s6⟩
          go_simp
          with_reducible rfl
         rotate_left
         ·refine pZ ?_
          rfl
         refine take_ (i := 1) (N := some 40) (v := ?_) (a' := ?_) (bA 15 1183) rfl rfl (take_ofW HT_.out HW_.out (by kernel_rfl)) (fun _ _ _ h => h) (Or.inl ⟨by rfl, ?_⟩) hHeld ?_ ?_
         rotate_left
         ·rintro w' ⟨s0, s1, s2, s3, s4, s5, s6⟩
          go_simp
          with_reducible rfl
         rotate_left
         ·refine pZ ?_
          rfl
         refine take_ (i := 8) (N := some 47) (v := ?_) (a' := ?_) (bA 15 1439) rfl rfl (take_ofW HT_.out HW_.out (by kernel_rfl)) (fun _ _ _ h => h) (Or.inl ⟨by rfl, ?_⟩) hHeld ?_ ?_
         rotate_left
         ·rintro w' ⟨s0, s1, s2, s3, s4, s5, s6⟩
          go_simp
          with_reducible rfl
         rotate_left
         ·refine pZ ?_
          rfl
         refine take_ (i := 11) (N := some 50) (v := ?_) (a' := ?_) (bA 15 3487) rfl rfl (take_ofW HT_.out HW_.out (by kernel_rfl)) (fun _ _ _ h => h) (Or.inl ⟨by rfl, ?_⟩) hHeld ?_ ?_
         rotate_left
         ·rintro w' ⟨s0, s1, s2, s3, s4, s5, s6⟩
          go_simp
          with_reducible rfl
         rotate_left
         ·refine pZ ?_
          rfl
         refine pQ 12 51 HT_ (bA 15 7583) ?_
         refine one_ (i := 5) (N := some 44) (bA 15 7615) rfl rfl (one_of HT_.out (by kernel_rfl)) (by decide) (fun K hK => ?_)
         refine goes_ Try.func79 (by kernel_rfl) rfl #[.agg #[.int .i64 a0_0, .int .i64 a0_1, .int .i64 a0_2, .slice A0_3 l0_3.length c0_3], .agg #[.int .i64 a1_0, .slice A1_1 l1_1.length c1_1, .int .i64 a1_2], .int .i64 x7_3, .int .i64 x6_2, .int .i64 x8_4] (by rfl) rfl rfl qM ?_
         with_reducible refine (spec_convolve.calls k4 a0_0 a0_1 a0_2 _ _ l0_3 a1_0 _ _ l1_1 a1_2 x7_3 x6_2 x8_4 t548 _ ?side1 ?side2 ?side3 ?side4 A47.out).mono ?_
         (case side1 => exact qC (Kd.C_below HR0_3.out HB.out))
         (case side2 => exact HC0_3.out)
         (case side3 => exact qC (Kd.C_below HR1_1.out HB.out))
         (case side4 => exact HC1_1.out)
         rintro e w60 ⟨rfl, hb⟩
         refine ⟨_, rfl, ?_⟩
         replace HO_548003 := aM (Kd.R_below (qR HO_548003.out) hb)
         replace BK536 := bB BK536 hb
         replace BK537 := bB BK537 hb
         replace BK538 := bB BK538 hb
         replace BK547 := bB BK547 hb
         replace HB := bS HB hb
         (try clear hb)
         (try clear hb2)
         (try clear hk)
         (try clear hi)
         refine hK.out _ _ ⟨(blk_cell BK536.out 0).trans rfl, (blk_cell BK536.out 1).trans rfl, (blk_cell BK536.out 2).trans rfl, (blk_cell BK536.out 3).trans rfl, (blk_cell BK537.out 0).trans rfl, (blk_cell BK537.out 1).trans rfl, (blk_cell BK537.out 2).trans rfl⟩ (fun hHeld => ?_)
         clear hK K
         refine norm_ (a' := ?_) ?_ ?_
         rotate_left
         ·show Act.put _ (some 44) _ = _
          refine pZ ?_
          rfl
         refine pQ 6 45 HT_ (bA 15 7679) ?_
         refine pQ 9 48 HT_ (bA 15 8191) ?_
         refine one_ (i := 13) (N := some 52) (bA 15 16383) rfl rfl (one_of HT_.out (by kernel_rfl)) (by decide) (fun K hK => ?_)
         refine goes_ Try.func70 (by kernel_rfl) rfl #[.int .i64 (wrap64 ((wrap64 (2 * t548)) + a1_2)), .int .i64 (wrap64 (2 * a1_2))] (by rfl) rfl rfl qM ?_
         with_reducible refine (spec_floorDiv.calls (wrap64 ((wrap64 (2 * t548)) + a1_2)) (wrap64 (2 * a1_2)) t549 _ A48.out).mono ?_
         rintro e w' ⟨rfl, ⟨nd, rfl⟩⟩
         have m0_ := aM (Kd.R_drewN HO_548003.out nd)
         have mb536_ := aM (blk_drewN BK536.out nd)
         have mb537_ := aM (blk_drewN BK537.out nd)
         have mb538_ := aM (blk_drewN BK538.out nd)
         have mb547_ := aM (blk_drewN BK547.out nd)
         have mh_ := aM (pw_below_drewN HB.out nd)
         clear HO_548003 BK536 BK537 BK538 BK547 HB
         have HO_548003 := m0_
         have BK536 := mb536_
         have BK537 := mb537_
         have BK538 := mb538_
         have BK547 := mb547_
         have HB := mh_
         clear m0_ mb536_ mb537_ mb538_ mb547_ mh_
         obtain ⟨w60, hq_⟩ : ∃ z_ : World, w60.drewN nd = z_ := ⟨_, rfl⟩
         rw [hq_] at HO_548003 BK536 BK537 BK538 BK547 HB ⊢
         clear hq_
         refine ⟨_, rfl, ?_⟩
         refine hK.out _ _ ⟨(blk_cell BK536.out 0).trans rfl, (blk_cell BK536.out 1).trans rfl, (blk_cell BK536.out 2).trans rfl, (blk_cell BK536.out 3).trans rfl, (blk_cell BK537.out 0).trans rfl, (blk_cell BK537.out 1).trans rfl, (blk_cell BK537.out 2).trans rfl⟩ (fun hHeld => ?_)
         clear hK K
         refine norm_ (a' := ?_) ?_ ?_
         rotate_left
         ·show Act.put _ (some 52) _ = _
          refine pZ ?_
          rfl
         refine pQ 14 9 HT_ (bA 15 32767) ?_
         refine done_ (done_of HT_.out (by kernel_rfl)) ?_
         have hnb61 := NB547_537.out
         have hnc61 := NB537_547.out
         have hnb62 := NB547_538.out
         have hnc62 := NB538_547.out
         obtain ⟨⟨hcz63_0, hcz63_1, hcz63_2, hcz63_3⟩, hfz63_0, hfz63_1, hfz63_2, hfz63_3⟩ := cf4 BK547
         obtain ⟨⟨hcz64_0, hcz64_1, hcz64_2, hcz64_3⟩, hfz64_0, hfz64_1, hfz64_2, hfz64_3⟩ := cf4 BK536
         have p54 : 0 ≤ ((ji51) : Int) := oD
         have q54 : ((ji51) : Int) < ((x548003_4.length : Int) : Int) := oD
         obtain ⟨go54, co54, eo54, gb54, gl54, cl54, HG54⟩ := Kd.R_form HO_548003.out (by omega)
         (first | cases eo54 | (injection eo54 with ea_ en_ ec_; (first | subst ea_ | (injection ea_ with ea_; subst ea_)); subst ec_; clear en_))
         have GB54 := aM gb54
         have GG54 := aM HG54
         clear gb54 gl54 HG54
         obtain ⟨hx54_0, hf54_0⟩ := Kd.R_celln 0 HO_548003.out ((ji51) : Int) p54 q54
         replace p54 := eq_true p54
         replace q54 := eq_true q54
         obtain ⟨hy65_, hz65_⟩ := Kd.R_celln 0 HO_548003.out ((ji51) : Int) oD oD
         have HP65 := Kd.R_putg HO_548003.out ((ji51) : Int) ji50
         try go_wp2_with (first | ((with_reducible refine gate_store (t := 3) (p := 69) rfl ?_); refine store_event (t := 3) (p := 69) (v := ?vo_w66) (w1 := (w60.setCell ⟨go54, ((ji51) : Int).toNat, none⟩ (.int .i64 ji50))) ?hg ?ho ?hn ?hr ?_; (case ho => rfl); (case hg => rfl); (case hn => rfl); (case hr => first | (go_simp; done) | (go_simp; rfl)); intro w66 hw; have hg : w60.grownBy w66 (some go54) := (by rw [hw]; exact HP65.2); have hp_ : Kd.R (Kd.int .i64) 3 w66 w.heap.size (fun _ => True) (.slice (some ⟨go54, 0, none⟩) x548003_4.length co54) y550 := (by rw [hw, Ny550.out]; exact HP65.1); clear HP65; replace BK536 := gB BK536 hg (Kd.R_ne HO_548003.out BK536.out (by decide)); replace BK537 := gB BK537 hg (Kd.R_ne HO_548003.out BK537.out (by decide)); replace BK538 := gB BK538 hg (Kd.R_ne HO_548003.out BK538.out (by decide)); replace BK547 := gB BK547 hg (Kd.R_ne HO_548003.out BK547.out (by decide)); replace HO_548003 := aM (hp_); replace HB := aM ((by rw [hw]; exact below_set (HB.out) GB54.out : Below w.heap.size w w66)); clear hg hw hp_))
         go_roundg k4
         case measure => have := HJ2.out; have := HK2.out; have := HK3.out; have := HK4.out; omega
         case rel => exact ⟨(wrap64 (x8_4 + 1)), (y550), (.slice (some ⟨go54, 0, none⟩) x548003_4.length co54), qE, H', ⟨by have := HJ2.out; have := HK2.out; have := HK3.out; have := HK4.out; omega⟩, ⟨by refine qR ?_; exact HO_548003.out⟩, ⟨by refine qB ?_; exact BK536.out⟩, ⟨by refine qB ?_; exact BK537.out⟩, ⟨by refine qB ?_; exact BK538.out⟩, ⟨by refine qB ?_; exact BK547.out⟩, ⟨by exact qW HB.out⟩⟩
def laws_szIntS.f (l0 : List Int) (a1 : Int) : Option (Int) := if (wrap64 (a1 - (l0.length : Int))) < 0 then (some (-1)) else (some (wrap64 (a1 - (l0.length : Int))))
set_option maxHeartbeats 8000000 in
set_option maxRecDepth 100000 in
theorem laws_szIntS.calls (A0 : Option Addr) (c0 : Nat) (l0 : List Int) (a1 : Int) (r : Int) (w : World) (hr0 : Kd.C (Kd.int .i64) w A0 l0.length l0) (hc0 : l0.length ≤ c0) (h : laws_szIntS.f l0 a1 = some r) :
  Calls Try.prog 56 #[.slice A0 l0.length c0, .int .i64 a1] w fun e w' => e = .returned (.int .i64 r) ∧ Drawn0 w w' := by
 have HR0 := aM hr0
 have HC0 := aM hc0
 clear hr0 hc0
 unfold laws_szIntS.f at h
 have H := h
 clear h
 by_cases c3 : (wrap64 (a1 - (l0.length : Int))) < 0
 ·rw [if_pos c3] at H
  have c3b0 : decide ((wrap64 (a1 - (l0.length : Int))) < 0) = true := decide_eq_true c3
  clear c3
  obtain rfl := Option.some.inj H
  go_enter Try.func56, Try.ntmps56
  go_wp2
  go_ret
  exact ⟨qE, qD⟩
 rw [if_neg c3] at H
 have c3b0 : decide ((wrap64 (a1 - (l0.length : Int))) < 0) = false := decide_eq_false c3
 clear c3
 obtain rfl := Option.some.inj H
 go_enter Try.func56, Try.ntmps56
 go_wp2
 go_ret
 exact ⟨qE, qD⟩
def laws_szImage.f (a0_0 : Int) (a0_1 : Int) (a0_2 : Int) (l0_3 : List Int) (a1 : Int) : Option (Int) := (laws_szIntS.f l0_3 a1).bind fun t305 => (if t305 < 0 then (some (-1)) else (some t305))
set_option maxHeartbeats 8000000 in
set_option maxRecDepth 100000 in
theorem laws_szImage.calls (a0_0 : Int) (a0_1 : Int) (a0_2 : Int) (A0_3 : Option Addr) (c0_3 : Nat) (l0_3 : List Int) (a1 : Int) (r : Int) (w : World) (hr0_3 : Kd.C (Kd.int .i64) w A0_3 l0_3.length l0_3) (hc0_3 : l0_3.length ≤ c0_3) (h : laws_szImage.f a0_0 a0_1 a0_2 l0_3 a1 = some r) :
  Calls Try.prog 18 #[.agg #[.int .i64 a0_0, .int .i64 a0_1, .int .i64 a0_2, .slice A0_3 l0_3.length c0_3], .int .i64 a1] w fun e w' => e = .returned (.int .i64 r) ∧ Below w.heap.size w w' := by
 have hu34 := Try.underlying34
 have HR0_3 := aM hr0_3
 have HC0_3 := aM hc0_3
 clear hr0_3 hc0_3
 have HB := aM (Below.refl w.heap.size w)
 unfold laws_szImage.f at h
 have H := h
 clear h
 replace H := Option.bind_eq_some_iff.mp H
 obtain ⟨t305, A30, H⟩ := H
 replace H : (if t305 < 0 then (some (-1)) else (some t305)) = some r := H
 have A3 := aM A30
 clear A30
 by_cases c4 : t305 < 0
 ·rw [if_pos c4] at H
  have c4b0 : decide (t305 < 0) = true := decide_eq_true c4
  clear c4
  obtain rfl := Option.some.inj H
  go_enter Try.func18, Try.ntmps18
  go_wp2_with (first | ((with_reducible refine gate_dst (N := 2) rfl ?_); refine bxE (N := 2) (cs := #[.int .i64 a0_0, .int .i64 a0_1, .int .i64 a0_2, .slice A0_3 l0_3.length c0_3]) (t := 34) ?_; intro gb304 hg w5 hbox hb; have BK304 := aM (hbox); have GW304 := gW hg HB; have GE304 := gW hg HB; replace HB := bS HB hb; clear hb hbox hg; obtain ⟨⟨hcz6_0, hcz6_1, hcz6_2, hcz6_3⟩, hfz6_0, hfz6_1, hfz6_2, hfz6_3⟩ := cf4 BK304) | ((with_reducible refine gate_callee (f := 56) rfl ?_); refine gL (some 8) Try.func56 #[.slice A0_3 l0_3.length c0_3, .int .i64 a1] ?_; (with_reducible refine (laws_szIntS.calls _ _ l0_3 a1 t305 _ ?side1 ?side2 A3.out).mono ?_); (case side1 => exact qC (Kd.C_below HR0_3.out HB.out)); (case side2 => exact HC0_3.out); rintro e w' ⟨rfl, ⟨nd, rfl⟩⟩; refine ⟨_, rfl, ?_⟩))
  go_ret
  exact ⟨qX, by exact qW HB.out⟩
 rw [if_neg c4] at H
 have c4b0 : decide (t305 < 0) = false := decide_eq_false c4
 clear c4
 obtain rfl := Option.some.inj H
 go_enter Try.func18, Try.ntmps18
 go_wp2_with (first | ((with_reducible refine gate_dst (N := 2) rfl ?_); refine bxE (N := 2) (cs := #[.int .i64 a0_0, .int .i64 a0_1, .int .i64 a0_2, .slice A0_3 l0_3.length c0_3]) (t := 34) ?_; intro gb304 hg w7 hbox hb; have BK304 := aM (hbox); have GW304 := gW hg HB; have GE304 := gW hg HB; replace HB := bS HB hb; clear hb hbox hg; obtain ⟨⟨hcz8_0, hcz8_1, hcz8_2, hcz8_3⟩, hfz8_0, hfz8_1, hfz8_2, hfz8_3⟩ := cf4 BK304) | ((with_reducible refine gate_callee (f := 56) rfl ?_); refine gL (some 8) Try.func56 #[.slice A0_3 l0_3.length c0_3, .int .i64 a1] ?_; (with_reducible refine (laws_szIntS.calls _ _ l0_3 a1 t305 _ ?side1 ?side2 A3.out).mono ?_); (case side1 => exact qC (Kd.C_below HR0_3.out HB.out)); (case side2 => exact HC0_3.out); rintro e w' ⟨rfl, ⟨nd, rfl⟩⟩; refine ⟨_, rfl, ?_⟩))
 go_ret
 exact ⟨qX, by exact qW HB.out⟩
def laws_toImage.f (k : Nat) (a0_0 : Int) (a0_1 : Int) (a0_2 : Int) (l0_3 : List Int) : Option (Int × Int × Int × List Int) := (laws_toIntS.f k l0_3).bind fun t345 => (some (a0_0, a0_1, a0_2, t345))
theorem laws_toImage.mono : ∀ a0 a1 a2 a3 k, LeO (laws_toImage.f k a0 a1 a2 a3) (laws_toImage.f (k + 1) a0 a1 a2 a3) := by
 intro a0 a1 a2 a3 k
 unfold laws_toImage.f
 repeat' first | (with_reducible first | exact laws_toIntS.mono _ _ | exact lR | exact lN | refine lI ?_ ?_ | refine lB ?_ fun _ => ?_) | exact laws_toIntS.mono _ _ | exact lN | refine lI ?_ ?_ | refine lB ?_ fun _ => ?_
set_option maxHeartbeats 8000000 in
set_option maxRecDepth 100000 in
theorem laws_toImage.calls (k : Nat) (a0_0 : Int) (a0_1 : Int) (a0_2 : Int) (A0_3 : Option Addr) (c0_3 : Nat) (l0_3 : List Int) (r1 : Int) (r2 : Int) (r3 : Int) (r4 : List Int) (w : World) (hr0_3 : Kd.C (Kd.int .i64) w A0_3 l0_3.length l0_3) (hc0_3 : l0_3.length ≤ c0_3) (h : laws_toImage.f k a0_0 a0_1 a0_2 l0_3 = some (r1, r2, r3, r4)) :
  Calls Try.prog 20 #[.agg #[.int .i64 a0_0, .int .i64 a0_1, .int .i64 a0_2, .slice A0_3 l0_3.length c0_3]] w fun e w' => ∃ v3_ : Value, e = .returned (.agg #[.int .i64 r1, .int .i64 r2, .int .i64 r3, v3_]) ∧ Kd.R (Kd.int .i64) 3 w' w.heap.size (fun _ => True) v3_ r4 ∧ Below w.heap.size w w' := by
 have hu34 := Try.underlying34
 have hu27 := Try.underlying27
 have HR0_3 := aM hr0_3
 have HC0_3 := aM hc0_3
 clear hr0_3 hc0_3
 have HB := aM (Below.refl w.heap.size w)
 unfold laws_toImage.f at h
 have H := h
 clear h
 replace H := Option.bind_eq_some_iff.mp H
 obtain ⟨t345, A20, H⟩ := H
 replace H : (some (a0_0, a0_1, a0_2, t345)) = some (r1, r2, r3, r4) := H
 have A2 := aM A20
 clear A20
 simp only [Option.some.injEq, Prod.mk.injEq] at H
 obtain ⟨rfl, rfl, rfl, rfl⟩ := H
 go_enter Try.func20, Try.ntmps20
 go_wp2_with (first | ((with_reducible refine gate_dst (N := 1) rfl ?_); refine bxE (N := 1) (cs := #[.int .i64 a0_0, .int .i64 a0_1, .int .i64 a0_2, .slice A0_3 l0_3.length c0_3]) (t := 34) ?_; intro gb342 hg w3 hbox hb; have BK342 := aM (hbox); have GW342 := gW hg HB; have GE342 := gW hg HB; replace HB := bS HB hb; clear hb hbox hg) | ((with_reducible refine gate_dst (N := 2) rfl ?_); refine bxE (N := 2) (cs := #[.int .i64 0, .int .i64 0, .int .i64 0, .slice none 0 0]) (t := 27) ?_; intro gb343 hg w4 hbox hb; have BK343 := aM (hbox); have GW343 := gW hg HB; have GE343 := gW hg HB; replace HB := bS HB hb; have NB342_343 := nL hg BK342; have NB343_342 := nG hg BK342; replace BK342 := bB BK342 hb; clear hb hbox hg) | ((with_reducible refine gate_dst (N := 3) rfl ?_); refine bxE (N := 3) (cs := #[.int .i64 0, .int .i64 0, .int .i64 0, .slice none 0 0]) (t := 27) ?_; intro gb344 hg w5 hbox hb; have BK344 := aM (hbox); have GW344 := gW hg HB; have GE344 := gW hg HB; replace HB := bS HB hb; have NB342_344 := nL hg BK342; have NB344_342 := nG hg BK342; replace BK342 := bB BK342 hb; have NB343_344 := nL hg BK343; have NB344_343 := nG hg BK343; replace BK343 := bB BK343 hb; clear hb hbox hg; have hnb6 := NB342_343.out; have hnc6 := NB343_342.out; have hnb7 := NB342_344.out; have hnc7 := NB344_342.out; obtain ⟨⟨hcz8_0, hcz8_1, hcz8_2, hcz8_3⟩, hfz8_0, hfz8_1, hfz8_2, hfz8_3⟩ := cf4 BK342; have hnb9 := NB344_343.out; have hnc9 := NB343_344.out; obtain ⟨⟨hcz10_0, hcz10_1, hcz10_2, hcz10_3⟩, hfz10_0, hfz10_1, hfz10_2, hfz10_3⟩ := cf4 BK344) | ((with_reducible refine gate_callee (f := 61) rfl ?_); refine gL (some 15) Try.func61 #[.slice A0_3 l0_3.length c0_3] ?_; (with_reducible refine (laws_toIntS.calls k _ _ l0_3 t345 _ ?side1 ?side2 A2.out).mono ?_); (case side1 => exact Kd.C_below HR0_3.out (qW HB.out)); (case side2 => exact HC0_3.out); rintro e w11 ⟨v346, rfl, ho0, hb⟩; refine ⟨_, rfl, ?_⟩; have HO347 := oR ho0 HB; replace BK342 := aM (blk_below (g := gb342) (o := .cells #[.int .i64 a0_0, .int .i64 a0_1, .int .i64 a0_2, .slice A0_3 l0_3.length c0_3] 34 (0, 0)) (by refine qB ?_; refine blk_far ?_ NB342_344.out _; refine qB ?_; refine blk_far ?_ NB342_344.out _; refine qB ?_; refine blk_far ?_ NB342_344.out _; refine qB ?_; exact BK342.out) hb); replace BK343 := aM (blk_below (g := gb343) (o := .cells #[.int .i64 0, .int .i64 0, .int .i64 0, .slice none 0 0] 27 (0, 0)) (by refine qB ?_; refine blk_far ?_ NB343_344.out _; refine qB ?_; refine blk_far ?_ NB343_344.out _; refine qB ?_; refine blk_far ?_ NB343_344.out _; refine qB ?_; exact BK343.out) hb); replace BK344 := aM (blk_below (g := gb344) (o := .cells #[.int .i64 a0_0, .int .i64 a0_1, .int .i64 a0_2, .slice none 0 0] 27 (0, 0)) (by exact bP BK344.out) hb); replace HB := bS HB hb; clear hb ho0; obtain ⟨Ao12, co12, rfl⟩ := sL HO347; obtain ⟨⟨hcz13_0, hcz13_1, hcz13_2, hcz13_3⟩, hfz13_0, hfz13_1, hfz13_2, hfz13_3⟩ := cf4 BK344; obtain ⟨⟨hcz14_0, hcz14_1, hcz14_2, hcz14_3⟩, hfz14_0, hfz14_1, hfz14_2, hfz14_3⟩ := cf4 BK343))
 refine bodyPost_ret (results_cell_row rfl _ _ gb343 27 #[.int .i64 a0_0, .int .i64 a0_1, .int .i64 a0_2, .slice Ao12 t345.length co12] (0, 0) _ rfl (by refine qB ?_; refine blk_put (cs := #[.int .i64 a0_0, .int .i64 a0_1, .int .i64 a0_2, .slice none 0 0]) ?_ 3 _ rfl; refine qB ?_; refine blk_put (cs := #[.int .i64 a0_0, .int .i64 a0_1, .int .i64 0, .slice none 0 0]) ?_ 2 _ rfl; refine qB ?_; refine blk_put (cs := #[.int .i64 a0_0, .int .i64 0, .int .i64 0, .slice none 0 0]) ?_ 1 _ rfl; refine qB ?_; refine blk_put (cs := #[.int .i64 0, .int .i64 0, .int .i64 0, .slice none 0 0]) ?_ 0 _ rfl; refine qB ?_; refine blk_far ?_ NB343_344.out _; refine qB ?_; exact BK343.out) Try.underlying27 rfl (by kernel_rfl)) rfl ?_
 exact ⟨_, qX, by refine qR ?_; exact Kd.R_mono (Kd.R_far (p := ⟨gb343, 3, none⟩) (Kd.R_far (p := ⟨gb343, 2, none⟩) (Kd.R_far (p := ⟨gb343, 1, none⟩) (Kd.R_far (p := ⟨gb343, 0, none⟩) (Kd.R_far (p := ⟨gb344, 3, none⟩) (Kd.R_types (Kd.R_types HO347.out BK344.out (by decide)) BK343.out (by decide)) (fun _ hk => hk.1.2) (.slice Ao12 t345.length co12)) (fun _ hk => hk.2) (.int .i64 a0_0)) (fun _ hk => hk.2) (.int .i64 a0_1)) (fun _ hk => hk.2) (.int .i64 a0_2)) (fun _ hk => hk.2) (.slice Ao12 t345.length co12)) (fun _ hk => trivial), by exact qW HB.out⟩
def laws_eqImage.f (k : Nat) (a0_0 : Int) (a0_1 : Int) (a0_2 : Int) (l0_3 : List Int) (a1_0 : Int) (a1_1 : Int) (a1_2 : Int) (l1_3 : List Int) : Option (Bool) := if a0_0 = a1_0 then (if a0_1 = a1_1 then (if a0_2 = a1_2 then ((laws_eqIntS.f k l0_3 l1_3).bind fun t353 => (if t353 = true then (some true) else (some false))) else (some false)) else (some false)) else (some false)
theorem laws_eqImage.mono : ∀ a0 a1 a2 a3 a4 a5 a6 a7 k, LeO (laws_eqImage.f k a0 a1 a2 a3 a4 a5 a6 a7) (laws_eqImage.f (k + 1) a0 a1 a2 a3 a4 a5 a6 a7) := by
 intro a0 a1 a2 a3 a4 a5 a6 a7 k
 unfold laws_eqImage.f
 repeat' first | (with_reducible first | exact laws_eqIntS.mono _ _ _ | exact lR | exact lN | refine lI ?_ ?_ | refine lB ?_ fun _ => ?_) | exact laws_eqIntS.mono _ _ _ | exact lN | refine lI ?_ ?_ | refine lB ?_ fun _ => ?_
set_option maxHeartbeats 8000000 in
set_option maxRecDepth 100000 in
theorem laws_eqImage.calls (k : Nat) (a0_0 : Int) (a0_1 : Int) (a0_2 : Int) (A0_3 : Option Addr) (c0_3 : Nat) (l0_3 : List Int) (a1_0 : Int) (a1_1 : Int) (a1_2 : Int) (A1_3 : Option Addr) (c1_3 : Nat) (l1_3 : List Int) (r : Bool) (w : World) (hr0_3 : Kd.C (Kd.int .i64) w A0_3 l0_3.length l0_3) (hc0_3 : l0_3.length ≤ c0_3) (hr1_3 : Kd.C (Kd.int .i64) w A1_3 l1_3.length l1_3) (hc1_3 : l1_3.length ≤ c1_3) (h : laws_eqImage.f k a0_0 a0_1 a0_2 l0_3 a1_0 a1_1 a1_2 l1_3 = some r) :
  Calls Try.prog 22 #[.agg #[.int .i64 a0_0, .int .i64 a0_1, .int .i64 a0_2, .slice A0_3 l0_3.length c0_3], .agg #[.int .i64 a1_0, .int .i64 a1_1, .int .i64 a1_2, .slice A1_3 l1_3.length c1_3]] w fun e w' => e = .returned (.bool r) ∧ Below w.heap.size w w' := by
 have hu27 := Try.underlying27
 have HR0_3 := aM hr0_3
 have HC0_3 := aM hc0_3
 clear hr0_3 hc0_3
 have HR1_3 := aM hr1_3
 have HC1_3 := aM hc1_3
 clear hr1_3 hc1_3
 have HB := aM (Below.refl w.heap.size w)
 unfold laws_eqImage.f at h
 have H := h
 clear h
 by_cases c3 : a0_0 = a1_0
 rotate_left
 ·rw [if_neg c3] at H
  have c3b0 : (a0_0 == a1_0) = false := beq_eq_false_iff_ne.mpr c3
  have c3b1 : (a0_0 != a1_0) = true := bne_iff_ne.mpr c3
  obtain rfl := Option.some.inj H
  go_enter Try.func22, Try.ntmps22
  go_wp2_with (first | ((with_reducible refine gate_dst (N := 2) rfl ?_); refine bxE (N := 2) (cs := #[.int .i64 a0_0, .int .i64 a0_1, .int .i64 a0_2, .slice A0_3 l0_3.length c0_3]) (t := 27) ?_; intro gb351 hg w28 hbox hb; have BK351 := aM (hbox); have GW351 := gW hg HB; have GE351 := gW hg HB; replace HB := bS HB hb; clear hb hbox hg) | ((with_reducible refine gate_dst (N := 3) rfl ?_); refine bxE (N := 3) (cs := #[.int .i64 a1_0, .int .i64 a1_1, .int .i64 a1_2, .slice A1_3 l1_3.length c1_3]) (t := 27) ?_; intro gb352 hg w29 hbox hb; have BK352 := aM (hbox); have GW352 := gW hg HB; have GE352 := gW hg HB; replace HB := bS HB hb; have NB351_352 := nL hg BK351; have NB352_351 := nG hg BK351; replace BK351 := bB BK351 hb; clear hb hbox hg; have hnb30 := NB351_352.out; have hnc30 := NB352_351.out; obtain ⟨⟨hcz31_0, hcz31_1, hcz31_2, hcz31_3⟩, hfz31_0, hfz31_1, hfz31_2, hfz31_3⟩ := cf4 BK351; obtain ⟨⟨hcz32_0, hcz32_1, hcz32_2, hcz32_3⟩, hfz32_0, hfz32_1, hfz32_2, hfz32_3⟩ := cf4 BK352))
  go_ret
  exact ⟨qX, by exact qW HB.out⟩
 rw [if_pos c3] at H
 have c3b0 : (a0_0 == a1_0) = true := beq_iff_eq.mpr c3
 have c3b1 : (a0_0 != a1_0) = false := bne_eq_false_iff_eq.mpr c3
 clear c3
 by_cases c4 : a0_1 = a1_1
 rotate_left
 ·rw [if_neg c4] at H
  have c4b0 : (a0_1 == a1_1) = false := beq_eq_false_iff_ne.mpr c4
  have c4b1 : (a0_1 != a1_1) = true := bne_iff_ne.mpr c4
  obtain rfl := Option.some.inj H
  go_enter Try.func22, Try.ntmps22
  go_wp2_with (first | ((with_reducible refine gate_dst (N := 2) rfl ?_); refine bxE (N := 2) (cs := #[.int .i64 a0_0, .int .i64 a0_1, .int .i64 a0_2, .slice A0_3 l0_3.length c0_3]) (t := 27) ?_; intro gb351 hg w23 hbox hb; have BK351 := aM (hbox); have GW351 := gW hg HB; have GE351 := gW hg HB; replace HB := bS HB hb; clear hb hbox hg) | ((with_reducible refine gate_dst (N := 3) rfl ?_); refine bxE (N := 3) (cs := #[.int .i64 a1_0, .int .i64 a1_1, .int .i64 a1_2, .slice A1_3 l1_3.length c1_3]) (t := 27) ?_; intro gb352 hg w24 hbox hb; have BK352 := aM (hbox); have GW352 := gW hg HB; have GE352 := gW hg HB; replace HB := bS HB hb; have NB351_352 := nL hg BK351; have NB352_351 := nG hg BK351; replace BK351 := bB BK351 hb; clear hb hbox hg; have hnb25 := NB351_352.out; have hnc25 := NB352_351.out; obtain ⟨⟨hcz26_0, hcz26_1, hcz26_2, hcz26_3⟩, hfz26_0, hfz26_1, hfz26_2, hfz26_3⟩ := cf4 BK351; obtain ⟨⟨hcz27_0, hcz27_1, hcz27_2, hcz27_3⟩, hfz27_0, hfz27_1, hfz27_2, hfz27_3⟩ := cf4 BK352))
  go_ret
  exact ⟨qX, by exact qW HB.out⟩
 rw [if_pos c4] at H
 have c4b0 : (a0_1 == a1_1) = true := beq_iff_eq.mpr c4
 have c4b1 : (a0_1 != a1_1) = false := bne_eq_false_iff_eq.mpr c4
 clear c4
 by_cases c5 : a0_2 = a1_2
 rotate_left
 ·rw [if_neg c5] at H
  have c5b0 : (a0_2 == a1_2) = false := beq_eq_false_iff_ne.mpr c5
  have c5b1 : (a0_2 != a1_2) = true := bne_iff_ne.mpr c5
  obtain rfl := Option.some.inj H
  go_enter Try.func22, Try.ntmps22
  go_wp2_with (first | ((with_reducible refine gate_dst (N := 2) rfl ?_); refine bxE (N := 2) (cs := #[.int .i64 a0_0, .int .i64 a0_1, .int .i64 a0_2, .slice A0_3 l0_3.length c0_3]) (t := 27) ?_; intro gb351 hg w18 hbox hb; have BK351 := aM (hbox); have GW351 := gW hg HB; have GE351 := gW hg HB; replace HB := bS HB hb; clear hb hbox hg) | ((with_reducible refine gate_dst (N := 3) rfl ?_); refine bxE (N := 3) (cs := #[.int .i64 a1_0, .int .i64 a1_1, .int .i64 a1_2, .slice A1_3 l1_3.length c1_3]) (t := 27) ?_; intro gb352 hg w19 hbox hb; have BK352 := aM (hbox); have GW352 := gW hg HB; have GE352 := gW hg HB; replace HB := bS HB hb; have NB351_352 := nL hg BK351; have NB352_351 := nG hg BK351; replace BK351 := bB BK351 hb; clear hb hbox hg; have hnb20 := NB351_352.out; have hnc20 := NB352_351.out; obtain ⟨⟨hcz21_0, hcz21_1, hcz21_2, hcz21_3⟩, hfz21_0, hfz21_1, hfz21_2, hfz21_3⟩ := cf4 BK351; obtain ⟨⟨hcz22_0, hcz22_1, hcz22_2, hcz22_3⟩, hfz22_0, hfz22_1, hfz22_2, hfz22_3⟩ := cf4 BK352))
  go_ret
  exact ⟨qX, by exact qW HB.out⟩
 rw [if_pos c5] at H
 have c5b0 : (a0_2 == a1_2) = true := beq_iff_eq.mpr c5
 have c5b1 : (a0_2 != a1_2) = false := bne_eq_false_iff_eq.mpr c5
 clear c5
 replace H := Option.bind_eq_some_iff.mp H
 obtain ⟨t353, A60, H⟩ := H
 replace H : (if t353 = true then (some true) else (some false)) = some r := H
 have A6 := aM A60
 clear A60
 by_cases c7 : t353 = true
 ·subst c7
  have H1 : (some true) = some r := by rw [if_pos rfl] at H; exact H
  clear H
  have H := H1
  clear H1
  obtain rfl := Option.some.inj H
  go_enter Try.func22, Try.ntmps22
  go_wp2_with (first | ((with_reducible refine gate_dst (N := 2) rfl ?_); refine bxE (N := 2) (cs := #[.int .i64 a0_0, .int .i64 a0_1, .int .i64 a0_2, .slice A0_3 l0_3.length c0_3]) (t := 27) ?_; intro gb351 hg w8 hbox hb; have BK351 := aM (hbox); have GW351 := gW hg HB; have GE351 := gW hg HB; replace HB := bS HB hb; clear hb hbox hg) | ((with_reducible refine gate_dst (N := 3) rfl ?_); refine bxE (N := 3) (cs := #[.int .i64 a1_0, .int .i64 a1_1, .int .i64 a1_2, .slice A1_3 l1_3.length c1_3]) (t := 27) ?_; intro gb352 hg w9 hbox hb; have BK352 := aM (hbox); have GW352 := gW hg HB; have GE352 := gW hg HB; replace HB := bS HB hb; have NB351_352 := nL hg BK351; have NB352_351 := nG hg BK351; replace BK351 := bB BK351 hb; clear hb hbox hg; have hnb10 := NB351_352.out; have hnc10 := NB352_351.out; obtain ⟨⟨hcz11_0, hcz11_1, hcz11_2, hcz11_3⟩, hfz11_0, hfz11_1, hfz11_2, hfz11_3⟩ := cf4 BK351; obtain ⟨⟨hcz12_0, hcz12_1, hcz12_2, hcz12_3⟩, hfz12_0, hfz12_1, hfz12_2, hfz12_3⟩ := cf4 BK352) | ((with_reducible refine gate_callee (f := 65) rfl ?_); refine gL (some 24) Try.func65 #[.slice A0_3 l0_3.length c0_3, .slice A1_3 l1_3.length c1_3] ?_; (with_reducible refine (laws_eqIntS.calls k _ _ l0_3 _ _ l1_3 true _ ?side1 ?side2 ?side3 ?side4 A6.out).mono ?_); (case side1 => exact qC (Kd.C_below HR0_3.out HB.out)); (case side2 => exact HC0_3.out); (case side3 => exact qC (Kd.C_below HR1_3.out HB.out)); (case side4 => exact HC1_3.out); rintro e w' ⟨rfl, ⟨nd, rfl⟩⟩; refine ⟨_, rfl, ?_⟩))
  go_ret
  exact ⟨qX, by exact qW HB.out⟩
 replace c7 := Bool.eq_false_iff.mpr c7
 subst c7
 have H1 : (some false) = some r := by rw [if_neg (show ¬ (false = true) by decide)] at H; exact H
 clear H
 have H := H1
 clear H1
 obtain rfl := Option.some.inj H
 go_enter Try.func22, Try.ntmps22
 go_wp2_with (first | ((with_reducible refine gate_dst (N := 2) rfl ?_); refine bxE (N := 2) (cs := #[.int .i64 a0_0, .int .i64 a0_1, .int .i64 a0_2, .slice A0_3 l0_3.length c0_3]) (t := 27) ?_; intro gb351 hg w13 hbox hb; have BK351 := aM (hbox); have GW351 := gW hg HB; have GE351 := gW hg HB; replace HB := bS HB hb; clear hb hbox hg) | ((with_reducible refine gate_dst (N := 3) rfl ?_); refine bxE (N := 3) (cs := #[.int .i64 a1_0, .int .i64 a1_1, .int .i64 a1_2, .slice A1_3 l1_3.length c1_3]) (t := 27) ?_; intro gb352 hg w14 hbox hb; have BK352 := aM (hbox); have GW352 := gW hg HB; have GE352 := gW hg HB; replace HB := bS HB hb; have NB351_352 := nL hg BK351; have NB352_351 := nG hg BK351; replace BK351 := bB BK351 hb; clear hb hbox hg; have hnb15 := NB351_352.out; have hnc15 := NB352_351.out; obtain ⟨⟨hcz16_0, hcz16_1, hcz16_2, hcz16_3⟩, hfz16_0, hfz16_1, hfz16_2, hfz16_3⟩ := cf4 BK351; obtain ⟨⟨hcz17_0, hcz17_1, hcz17_2, hcz17_3⟩, hfz17_0, hfz17_1, hfz17_2, hfz17_3⟩ := cf4 BK352) | ((with_reducible refine gate_callee (f := 65) rfl ?_); refine gL (some 24) Try.func65 #[.slice A0_3 l0_3.length c0_3, .slice A1_3 l1_3.length c1_3] ?_; (with_reducible refine (laws_eqIntS.calls k _ _ l0_3 _ _ l1_3 false _ ?side1 ?side2 ?side3 ?side4 A6.out).mono ?_); (case side1 => exact qC (Kd.C_below HR0_3.out HB.out)); (case side2 => exact HC0_3.out); (case side3 => exact qC (Kd.C_below HR1_3.out HB.out)); (case side4 => exact HC1_3.out); rintro e w' ⟨rfl, ⟨nd, rfl⟩⟩; refine ⟨_, rfl, ?_⟩))
 go_ret
 exact ⟨qX, by exact qW HB.out⟩
def laws_markImage.f (k : Nat) (a0_0 : Int) (a0_1 : Int) (a0_2 : Int) (l0_3 : List Int) (a1 : Int) : Option (Int × List Int) := (laws_markIntS.f k l0_3 a1).bind fun bt356 => (some (bt356.1, bt356.2))
theorem laws_markImage.mono : ∀ a0 a1 a2 a3 a4 k, LeO (laws_markImage.f k a0 a1 a2 a3 a4) (laws_markImage.f (k + 1) a0 a1 a2 a3 a4) := by
 intro a0 a1 a2 a3 a4 k
 unfold laws_markImage.f
 repeat' first | (with_reducible first | exact laws_markIntS.mono _ _ _ | exact lR | exact lN | refine lI ?_ ?_ | refine lB ?_ fun _ => ?_) | exact laws_markIntS.mono _ _ _ | exact lN | refine lI ?_ ?_ | refine lB ?_ fun _ => ?_
set_option maxHeartbeats 8000000 in
set_option maxRecDepth 100000 in
theorem laws_markImage.calls (k : Nat) (a0_0 : Int) (a0_1 : Int) (a0_2 : Int) (P0_3_ : Nat → Prop) (u9000_ : Value) (l0_3 : List Int) (a1 : Int) (r1 : Int) (r2 : List Int) (w0 w : World) (hB : Below w0.heap.size w0 w) (ho0_3 : Kd.R (Kd.int .i64) 3 w w0.heap.size P0_3_ u9000_ l0_3) (h : laws_markImage.f k a0_0 a0_1 a0_2 l0_3 a1 = some (r1, r2)) :
  Calls Try.prog 23 #[.agg #[.int .i64 a0_0, .int .i64 a0_1, .int .i64 a0_2, u9000_], .int .i64 a1] w fun e w' => e = .returned (.int .i64 r1) ∧ Kd.R (Kd.int .i64) 3 w' w0.heap.size (fun k_ => (P0_3_ k_ ∨ w.heap.size ≤ k_)) u9000_ r2 ∧ Below w0.heap.size w0 w' ∧ Kept w w' (fun k_ => P0_3_ k_) := by
 have hu27 := Try.underlying27
 have HO0_3 := aM (show Kd.R (Kd.int .i64) 3 w w0.heap.size (fun k_ => (P0_3_ k_ ∨ w.heap.size ≤ k_)) u9000_ l0_3 from Kd.R_mono ho0_3 (fun k_ hk => (.inl hk)))
 have HK := aM (Kept.refl w (fun k_ => P0_3_ k_))
 have HW0 := aM hB.size
 have HB := aM hB
 clear hB
 unfold laws_markImage.f at h
 have H := h
 clear h
 replace H := Option.bind_eq_some_iff.mp H
 obtain ⟨⟨t356, t357⟩, A30, H⟩ := H
 replace H : (some (t356, t357)) = some (r1, r2) := H
 have A3 := aM A30
 clear A30
 simp only [Option.some.injEq, Prod.mk.injEq] at H
 obtain ⟨rfl, rfl⟩ := H
 obtain ⟨Ao4, co4, rfl⟩ := sL HO0_3
 go_enter Try.func23, Try.ntmps23
 go_wp2_with (first | ((with_reducible refine gate_dst (N := 2) rfl ?_); refine bxE (N := 2) (cs := #[.int .i64 a0_0, .int .i64 a0_1, .int .i64 a0_2, .slice Ao4 l0_3.length co4]) (t := 27) ?_; intro gb355 hg w5 hbox hb; replace HO0_3 := aM (Kd.R_below (qR HO0_3.out) hb); have BK355 := aM (hbox); have GW355 := aM ((by rw [hg]; exact (by first | exact HK.out.1 | exact (show Kept w _ (fun k_ => P0_3_ k_) from kP HK.out).1) : w.heap.size ≤ gb355)); replace HK := aM (Kept.below (S := (fun k_ => P0_3_ k_)) (kP HK.out) hb); have GE355 := aM ((by rw [hg]; exact (below_size (qW HB.out)) : w0.heap.size ≤ gb355)); replace HB := bS HB hb; clear hb hbox hg; obtain ⟨⟨hcz6_0, hcz6_1, hcz6_2, hcz6_3⟩, hfz6_0, hfz6_1, hfz6_2, hfz6_3⟩ := cf4 BK355) | ((with_reducible refine gate_callee (f := 66) rfl ?_); refine gL (some 8) Try.func66 #[.slice Ao4 l0_3.length co4, .int .i64 a1] ?_; (with_reducible refine (laws_markIntS.calls k (fun k_ => some k_ = (.slice Ao4 l0_3.length co4 : Value).ownBlock) (.slice Ao4 l0_3.length co4) l0_3 a1 t356 t357 w0 _ ?side1 ?side2 A3.out).mono ?_); (case side1 => exact qW HB.out); (case side2 => exact Kd.R_tight rfl HO0_3.out); rintro e w7 ⟨rfl, hy0, hb, hkp⟩; refine ⟨_, rfl, ?_⟩; replace BK355 := aM (blk_kept (qB BK355.out) hkp (fun hs_ => (fun e_ => (Kd.R_ne HO0_3.out BK355.out (by decide)) e_) hs_)); replace HK := aM (Kept.then_ (S := (fun k_ => P0_3_ k_)) (kP HK.out) hkp (fun k_ hs_ => (fun e_ => (HO0_3.out.1 k_ e_.symm)) hs_)); replace HO0_3 := aM (Kd.R_reok rfl hy0 (fun k_ e_ => HO0_3.out.1 k_ e_)); replace HB := aM (hb); clear hb hkp hy0))
 go_ret
 exact ⟨qX, by refine qR ?_; exact HO0_3.out, by exact qW HB.out, kP HK.out⟩
def laws_heldImage.f (k : Nat) (a0_0 : Int) (a0_1 : Int) (a0_2 : Int) (l0_3 : List Int) (a1 : Int) : Option (Int) := (laws_heldIntS.f k l0_3 a1).bind fun t360 => (if t360 < 0 then (some (-1)) else (some t360))
theorem laws_heldImage.mono : ∀ a0 a1 a2 a3 a4 k, LeO (laws_heldImage.f k a0 a1 a2 a3 a4) (laws_heldImage.f (k + 1) a0 a1 a2 a3 a4) := by
 intro a0 a1 a2 a3 a4 k
 unfold laws_heldImage.f
 repeat' first | (with_reducible first | exact laws_heldIntS.mono _ _ _ | exact lR | exact lN | refine lI ?_ ?_ | refine lB ?_ fun _ => ?_) | exact laws_heldIntS.mono _ _ _ | exact lN | refine lI ?_ ?_ | refine lB ?_ fun _ => ?_
set_option maxHeartbeats 8000000 in
set_option maxRecDepth 100000 in
theorem laws_heldImage.calls (k : Nat) (a0_0 : Int) (a0_1 : Int) (a0_2 : Int) (A0_3 : Option Addr) (c0_3 : Nat) (l0_3 : List Int) (a1 : Int) (r : Int) (w : World) (hr0_3 : Kd.C (Kd.int .i64) w A0_3 l0_3.length l0_3) (hc0_3 : l0_3.length ≤ c0_3) (h : laws_heldImage.f k a0_0 a0_1 a0_2 l0_3 a1 = some r) :
  Calls Try.prog 24 #[.agg #[.int .i64 a0_0, .int .i64 a0_1, .int .i64 a0_2, .slice A0_3 l0_3.length c0_3], .int .i64 a1] w fun e w' => e = .returned (.int .i64 r) ∧ Below w.heap.size w w' := by
 have hu27 := Try.underlying27
 have HR0_3 := aM hr0_3
 have HC0_3 := aM hc0_3
 clear hr0_3 hc0_3
 have HB := aM (Below.refl w.heap.size w)
 unfold laws_heldImage.f at h
 have H := h
 clear h
 replace H := Option.bind_eq_some_iff.mp H
 obtain ⟨t360, A30, H⟩ := H
 replace H : (if t360 < 0 then (some (-1)) else (some t360)) = some r := H
 have A3 := aM A30
 clear A30
 by_cases c4 : t360 < 0
 ·rw [if_pos c4] at H
  have c4b0 : decide (t360 < 0) = true := decide_eq_true c4
  clear c4
  obtain rfl := Option.some.inj H
  go_enter Try.func24, Try.ntmps24
  go_wp2_with (first | ((with_reducible refine gate_dst (N := 2) rfl ?_); refine bxE (N := 2) (cs := #[.int .i64 a0_0, .int .i64 a0_1, .int .i64 a0_2, .slice A0_3 l0_3.length c0_3]) (t := 27) ?_; intro gb359 hg w5 hbox hb; have BK359 := aM (hbox); have GW359 := gW hg HB; have GE359 := gW hg HB; replace HB := bS HB hb; clear hb hbox hg; obtain ⟨⟨hcz6_0, hcz6_1, hcz6_2, hcz6_3⟩, hfz6_0, hfz6_1, hfz6_2, hfz6_3⟩ := cf4 BK359) | ((with_reducible refine gate_callee (f := 67) rfl ?_); refine gL (some 8) Try.func67 #[.slice A0_3 l0_3.length c0_3, .int .i64 a1] ?_; (with_reducible refine (laws_heldIntS.calls k _ _ l0_3 a1 t360 _ ?side1 ?side2 A3.out).mono ?_); (case side1 => exact qC (Kd.C_below HR0_3.out HB.out)); (case side2 => exact HC0_3.out); rintro e w' ⟨rfl, ⟨nd, rfl⟩⟩; refine ⟨_, rfl, ?_⟩))
  go_ret
  exact ⟨qX, by exact qW HB.out⟩
 ·rw [if_neg c4] at H
  have c4b0 : decide (t360 < 0) = false := decide_eq_false c4
  clear c4
  obtain rfl := Option.some.inj H
  go_enter Try.func24, Try.ntmps24
  go_wp2_with (first | ((with_reducible refine gate_dst (N := 2) rfl ?_); refine bxE (N := 2) (cs := #[.int .i64 a0_0, .int .i64 a0_1, .int .i64 a0_2, .slice A0_3 l0_3.length c0_3]) (t := 27) ?_; intro gb359 hg w7 hbox hb; have BK359 := aM (hbox); have GW359 := gW hg HB; have GE359 := gW hg HB; replace HB := bS HB hb; clear hb hbox hg; obtain ⟨⟨hcz8_0, hcz8_1, hcz8_2, hcz8_3⟩, hfz8_0, hfz8_1, hfz8_2, hfz8_3⟩ := cf4 BK359) | ((with_reducible refine gate_callee (f := 67) rfl ?_); refine gL (some 8) Try.func67 #[.slice A0_3 l0_3.length c0_3, .int .i64 a1] ?_; (with_reducible refine (laws_heldIntS.calls k _ _ l0_3 a1 t360 _ ?side1 ?side2 A3.out).mono ?_); (case side1 => exact qC (Kd.C_below HR0_3.out HB.out)); (case side2 => exact HC0_3.out); rintro e w' ⟨rfl, ⟨nd, rfl⟩⟩; refine ⟨_, rfl, ?_⟩))
  go_ret
  exact ⟨qX, by exact qW HB.out⟩
def laws_szKernel.f (a0_0 : Int) (l0_1 : List Int) (a0_2 : Int) (a1 : Int) : Option (Int) := (laws_szIntS.f l0_1 a1).bind fun t527 => (if t527 < 0 then (some (-1)) else (some t527))
set_option maxHeartbeats 8000000 in
set_option maxRecDepth 100000 in
theorem laws_szKernel.calls (a0_0 : Int) (A0_1 : Option Addr) (c0_1 : Nat) (l0_1 : List Int) (a0_2 : Int) (a1 : Int) (r : Int) (w : World) (hr0_1 : Kd.C (Kd.int .i64) w A0_1 l0_1.length l0_1) (hc0_1 : l0_1.length ≤ c0_1) (h : laws_szKernel.f a0_0 l0_1 a0_2 a1 = some r) :
  Calls Try.prog 32 #[.agg #[.int .i64 a0_0, .slice A0_1 l0_1.length c0_1, .int .i64 a0_2], .int .i64 a1] w fun e w' => e = .returned (.int .i64 r) ∧ Below w.heap.size w w' := by
 have hu46 := Try.underlying46
 have HR0_1 := aM hr0_1
 have HC0_1 := aM hc0_1
 clear hr0_1 hc0_1
 have HB := aM (Below.refl w.heap.size w)
 unfold laws_szKernel.f at h
 have H := h
 clear h
 replace H := Option.bind_eq_some_iff.mp H
 obtain ⟨t527, A30, H⟩ := H
 replace H : (if t527 < 0 then (some (-1)) else (some t527)) = some r := H
 have A3 := aM A30
 clear A30
 by_cases c4 : t527 < 0
 ·rw [if_pos c4] at H
  have c4b0 : decide (t527 < 0) = true := decide_eq_true c4
  clear c4
  obtain rfl := Option.some.inj H
  go_enter Try.func32, Try.ntmps32
  go_wp2_with (first | ((with_reducible refine gate_dst (N := 2) rfl ?_); refine bxE (N := 2) (cs := #[.int .i64 a0_0, .slice A0_1 l0_1.length c0_1, .int .i64 a0_2]) (t := 46) ?_; intro gb526 hg w5 hbox hb; have BK526 := aM (hbox); have GW526 := gW hg HB; have GE526 := gW hg HB; replace HB := bS HB hb; clear hb hbox hg; obtain ⟨⟨hcz6_0, hcz6_1, hcz6_2⟩, hfz6_0, hfz6_1, hfz6_2⟩ := cf3 BK526) | ((with_reducible refine gate_callee (f := 56) rfl ?_); refine gL (some 8) Try.func56 #[.slice A0_1 l0_1.length c0_1, .int .i64 a1] ?_; (with_reducible refine (laws_szIntS.calls _ _ l0_1 a1 t527 _ ?side1 ?side2 A3.out).mono ?_); (case side1 => exact qC (Kd.C_below HR0_1.out HB.out)); (case side2 => exact HC0_1.out); rintro e w' ⟨rfl, ⟨nd, rfl⟩⟩; refine ⟨_, rfl, ?_⟩))
  go_ret
  exact ⟨qX, by exact qW HB.out⟩
 rw [if_neg c4] at H
 have c4b0 : decide (t527 < 0) = false := decide_eq_false c4
 clear c4
 obtain rfl := Option.some.inj H
 go_enter Try.func32, Try.ntmps32
 go_wp2_with (first | ((with_reducible refine gate_dst (N := 2) rfl ?_); refine bxE (N := 2) (cs := #[.int .i64 a0_0, .slice A0_1 l0_1.length c0_1, .int .i64 a0_2]) (t := 46) ?_; intro gb526 hg w7 hbox hb; have BK526 := aM (hbox); have GW526 := gW hg HB; have GE526 := gW hg HB; replace HB := bS HB hb; clear hb hbox hg; obtain ⟨⟨hcz8_0, hcz8_1, hcz8_2⟩, hfz8_0, hfz8_1, hfz8_2⟩ := cf3 BK526) | ((with_reducible refine gate_callee (f := 56) rfl ?_); refine gL (some 8) Try.func56 #[.slice A0_1 l0_1.length c0_1, .int .i64 a1] ?_; (with_reducible refine (laws_szIntS.calls _ _ l0_1 a1 t527 _ ?side1 ?side2 A3.out).mono ?_); (case side1 => exact qC (Kd.C_below HR0_1.out HB.out)); (case side2 => exact HC0_1.out); rintro e w' ⟨rfl, ⟨nd, rfl⟩⟩; refine ⟨_, rfl, ?_⟩))
 go_ret
 exact ⟨qX, by exact qW HB.out⟩
def laws_toKernel.f (k : Nat) (a0_0 : Int) (l0_1 : List Int) (a0_2 : Int) : Option (Int × List Int × Int) := (laws_toIntS.f k l0_1).bind fun t554 => (some (a0_0, t554, a0_2))
theorem laws_toKernel.mono : ∀ a0 a1 a2 k, LeO (laws_toKernel.f k a0 a1 a2) (laws_toKernel.f (k + 1) a0 a1 a2) := by
 intro a0 a1 a2 k
 unfold laws_toKernel.f
 repeat' first | (with_reducible first | exact laws_toIntS.mono _ _ | exact lR | exact lN | refine lI ?_ ?_ | refine lB ?_ fun _ => ?_) | exact laws_toIntS.mono _ _ | exact lN | refine lI ?_ ?_ | refine lB ?_ fun _ => ?_
set_option maxHeartbeats 8000000 in
set_option maxRecDepth 100000 in
theorem laws_toKernel.calls (k : Nat) (a0_0 : Int) (A0_1 : Option Addr) (c0_1 : Nat) (l0_1 : List Int) (a0_2 : Int) (r1 : Int) (r2 : List Int) (r3 : Int) (w : World) (hr0_1 : Kd.C (Kd.int .i64) w A0_1 l0_1.length l0_1) (hc0_1 : l0_1.length ≤ c0_1) (h : laws_toKernel.f k a0_0 l0_1 a0_2 = some (r1, r2, r3)) :
  Calls Try.prog 34 #[.agg #[.int .i64 a0_0, .slice A0_1 l0_1.length c0_1, .int .i64 a0_2]] w fun e w' => ∃ v1_ : Value, e = .returned (.agg #[.int .i64 r1, v1_, .int .i64 r3]) ∧ Kd.R (Kd.int .i64) 3 w' w.heap.size (fun _ => True) v1_ r2 ∧ Below w.heap.size w w' := by
 have hu46 := Try.underlying46
 have hu49 := Try.underlying49
 have HR0_1 := aM hr0_1
 have HC0_1 := aM hc0_1
 clear hr0_1 hc0_1
 have HB := aM (Below.refl w.heap.size w)
 unfold laws_toKernel.f at h
 have H := h
 clear h
 replace H := Option.bind_eq_some_iff.mp H
 obtain ⟨t554, A20, H⟩ := H
 replace H : (some (a0_0, t554, a0_2)) = some (r1, r2, r3) := H
 have A2 := aM A20
 clear A20
 simp only [Option.some.injEq, Prod.mk.injEq] at H
 obtain ⟨rfl, rfl, rfl⟩ := H
 go_enter Try.func34, Try.ntmps34
 go_wp2_with (first | ((with_reducible refine gate_dst (N := 1) rfl ?_); refine bxE (N := 1) (cs := #[.int .i64 a0_0, .slice A0_1 l0_1.length c0_1, .int .i64 a0_2]) (t := 46) ?_; intro gb551 hg w3 hbox hb; have BK551 := aM (hbox); have GW551 := gW hg HB; have GE551 := gW hg HB; replace HB := bS HB hb; clear hb hbox hg) | ((with_reducible refine gate_dst (N := 2) rfl ?_); refine bxE (N := 2) (cs := #[.int .i64 0, .slice none 0 0, .int .i64 0]) (t := 49) ?_; intro gb552 hg w4 hbox hb; have BK552 := aM (hbox); have GW552 := gW hg HB; have GE552 := gW hg HB; replace HB := bS HB hb; have NB551_552 := nL hg BK551; have NB552_551 := nG hg BK551; replace BK551 := bB BK551 hb; clear hb hbox hg) | ((with_reducible refine gate_dst (N := 3) rfl ?_); refine bxE (N := 3) (cs := #[.int .i64 0, .slice none 0 0, .int .i64 0]) (t := 49) ?_; intro gb553 hg w5 hbox hb; have BK553 := aM (hbox); have GW553 := gW hg HB; have GE553 := gW hg HB; replace HB := bS HB hb; have NB551_553 := nL hg BK551; have NB553_551 := nG hg BK551; replace BK551 := bB BK551 hb; have NB552_553 := nL hg BK552; have NB553_552 := nG hg BK552; replace BK552 := bB BK552 hb; clear hb hbox hg; have hnb6 := NB551_552.out; have hnc6 := NB552_551.out; have hnb7 := NB551_553.out; have hnc7 := NB553_551.out; obtain ⟨⟨hcz8_0, hcz8_1, hcz8_2⟩, hfz8_0, hfz8_1, hfz8_2⟩ := cf3 BK551; have hnb9 := NB553_552.out; have hnc9 := NB552_553.out; obtain ⟨⟨hcz10_0, hcz10_1, hcz10_2⟩, hfz10_0, hfz10_1, hfz10_2⟩ := cf3 BK553) | ((with_reducible refine gate_callee (f := 61) rfl ?_); refine gL (some 9) Try.func61 #[.slice A0_1 l0_1.length c0_1] ?_; (with_reducible refine (laws_toIntS.calls k _ _ l0_1 t554 _ ?side1 ?side2 A2.out).mono ?_); (case side1 => exact Kd.C_below HR0_1.out (qW HB.out)); (case side2 => exact HC0_1.out); rintro e w11 ⟨v555, rfl, ho0, hb⟩; refine ⟨_, rfl, ?_⟩; have HO556 := oR ho0 HB; replace BK551 := aM (blk_below (g := gb551) (o := .cells #[.int .i64 a0_0, .slice A0_1 l0_1.length c0_1, .int .i64 a0_2] 46 (0, 0)) (by refine qB ?_; refine blk_far ?_ NB551_553.out _; refine qB ?_; exact BK551.out) hb); replace BK552 := aM (blk_below (g := gb552) (o := .cells #[.int .i64 0, .slice none 0 0, .int .i64 0] 49 (0, 0)) (by refine qB ?_; refine blk_far ?_ NB552_553.out _; refine qB ?_; exact BK552.out) hb); replace BK553 := aM (blk_below (g := gb553) (o := .cells #[.int .i64 a0_0, .slice none 0 0, .int .i64 0] 49 (0, 0)) (by exact bP BK553.out) hb); replace HB := bS HB hb; clear hb ho0; obtain ⟨Ao12, co12, rfl⟩ := sL HO556; obtain ⟨⟨hcz13_0, hcz13_1, hcz13_2⟩, hfz13_0, hfz13_1, hfz13_2⟩ := cf3 BK553; obtain ⟨⟨hcz14_0, hcz14_1, hcz14_2⟩, hfz14_0, hfz14_1, hfz14_2⟩ := cf3 BK551; obtain ⟨⟨hcz15_0, hcz15_1, hcz15_2⟩, hfz15_0, hfz15_1, hfz15_2⟩ := cf3 BK552))
 refine bodyPost_ret (results_cell_row rfl _ _ gb552 49 #[.int .i64 a0_0, .slice Ao12 t554.length co12, .int .i64 a0_2] (0, 0) _ rfl (by refine qB ?_; refine blk_put (cs := #[.int .i64 a0_0, .slice Ao12 t554.length co12, .int .i64 0]) ?_ 2 _ rfl; refine qB ?_; refine blk_put (cs := #[.int .i64 a0_0, .slice none 0 0, .int .i64 0]) ?_ 1 _ rfl; refine qB ?_; refine blk_put (cs := #[.int .i64 0, .slice none 0 0, .int .i64 0]) ?_ 0 _ rfl; refine qB ?_; refine blk_far ?_ NB552_553.out _; refine qB ?_; refine blk_far ?_ NB552_553.out _; refine qB ?_; exact BK552.out) Try.underlying49 rfl (by kernel_rfl)) rfl ?_
 exact ⟨_, qX, by refine qR ?_; exact Kd.R_mono (Kd.R_far (p := ⟨gb552, 2, none⟩) (Kd.R_far (p := ⟨gb552, 1, none⟩) (Kd.R_far (p := ⟨gb552, 0, none⟩) (Kd.R_far (p := ⟨gb553, 2, none⟩) (Kd.R_far (p := ⟨gb553, 1, none⟩) (Kd.R_types (Kd.R_types HO556.out BK553.out (by decide)) BK552.out (by decide)) (fun _ hk => hk.1.2) (.slice Ao12 t554.length co12)) (fun _ hk => hk.1.2) (.int .i64 a0_2)) (fun _ hk => hk.2) (.int .i64 a0_0)) (fun _ hk => hk.2) (.slice Ao12 t554.length co12)) (fun _ hk => hk.2) (.int .i64 a0_2)) (fun _ hk => trivial), by exact qW HB.out⟩
def laws_eqKernel.f (k : Nat) (a0_0 : Int) (l0_1 : List Int) (a0_2 : Int) (a1_0 : Int) (l1_1 : List Int) (a1_2 : Int) : Option (Bool) := if a0_0 = a1_0 then ((laws_eqIntS.f k l0_1 l1_1).bind fun t560 => (if t560 = true then (if a0_2 = a1_2 then (some true) else (some false)) else (some false))) else (some false)
theorem laws_eqKernel.mono : ∀ a0 a1 a2 a3 a4 a5 k, LeO (laws_eqKernel.f k a0 a1 a2 a3 a4 a5) (laws_eqKernel.f (k + 1) a0 a1 a2 a3 a4 a5) := by
 intro a0 a1 a2 a3 a4 a5 k
 unfold laws_eqKernel.f
 repeat' first | (with_reducible first | exact laws_eqIntS.mono _ _ _ | exact lR | exact lN | refine lI ?_ ?_ | refine lB ?_ fun _ => ?_) | exact laws_eqIntS.mono _ _ _ | exact lN | refine lI ?_ ?_ | refine lB ?_ fun _ => ?_
set_option maxHeartbeats 8000000 in
set_option maxRecDepth 100000 in
theorem laws_eqKernel.calls (k : Nat) (a0_0 : Int) (A0_1 : Option Addr) (c0_1 : Nat) (l0_1 : List Int) (a0_2 : Int) (a1_0 : Int) (A1_1 : Option Addr) (c1_1 : Nat) (l1_1 : List Int) (a1_2 : Int) (r : Bool) (w : World) (hr0_1 : Kd.C (Kd.int .i64) w A0_1 l0_1.length l0_1) (hc0_1 : l0_1.length ≤ c0_1) (hr1_1 : Kd.C (Kd.int .i64) w A1_1 l1_1.length l1_1) (hc1_1 : l1_1.length ≤ c1_1) (h : laws_eqKernel.f k a0_0 l0_1 a0_2 a1_0 l1_1 a1_2 = some r) :
  Calls Try.prog 36 #[.agg #[.int .i64 a0_0, .slice A0_1 l0_1.length c0_1, .int .i64 a0_2], .agg #[.int .i64 a1_0, .slice A1_1 l1_1.length c1_1, .int .i64 a1_2]] w fun e w' => e = .returned (.bool r) ∧ Below w.heap.size w w' := by
 have hu49 := Try.underlying49
 have HR0_1 := aM hr0_1
 have HC0_1 := aM hc0_1
 clear hr0_1 hc0_1
 have HR1_1 := aM hr1_1
 have HC1_1 := aM hc1_1
 clear hr1_1 hc1_1
 have HB := aM (Below.refl w.heap.size w)
 unfold laws_eqKernel.f at h
 have H := h
 clear h
 by_cases c3 : a0_0 = a1_0
 rotate_left
 ·rw [if_neg c3] at H
  have c3b0 : (a0_0 == a1_0) = false := beq_eq_false_iff_ne.mpr c3
  have c3b1 : (a0_0 != a1_0) = true := bne_iff_ne.mpr c3
  obtain rfl := Option.some.inj H
  go_enter Try.func36, Try.ntmps36
  go_wp2_with (first | ((with_reducible refine gate_dst (N := 2) rfl ?_); refine bxE (N := 2) (cs := #[.int .i64 a0_0, .slice A0_1 l0_1.length c0_1, .int .i64 a0_2]) (t := 49) ?_; intro gb558 hg w22 hbox hb; have BK558 := aM (hbox); have GW558 := gW hg HB; have GE558 := gW hg HB; replace HB := bS HB hb; clear hb hbox hg) | ((with_reducible refine gate_dst (N := 3) rfl ?_); refine bxE (N := 3) (cs := #[.int .i64 a1_0, .slice A1_1 l1_1.length c1_1, .int .i64 a1_2]) (t := 49) ?_; intro gb559 hg w23 hbox hb; have BK559 := aM (hbox); have GW559 := gW hg HB; have GE559 := gW hg HB; replace HB := bS HB hb; have NB558_559 := nL hg BK558; have NB559_558 := nG hg BK558; replace BK558 := bB BK558 hb; clear hb hbox hg; have hnb24 := NB558_559.out; have hnc24 := NB559_558.out; obtain ⟨⟨hcz25_0, hcz25_1, hcz25_2⟩, hfz25_0, hfz25_1, hfz25_2⟩ := cf3 BK558; obtain ⟨⟨hcz26_0, hcz26_1, hcz26_2⟩, hfz26_0, hfz26_1, hfz26_2⟩ := cf3 BK559))
  go_ret
  exact ⟨qX, by exact qW HB.out⟩
 rw [if_pos c3] at H
 have c3b0 : (a0_0 == a1_0) = true := beq_iff_eq.mpr c3
 have c3b1 : (a0_0 != a1_0) = false := bne_eq_false_iff_eq.mpr c3
 clear c3
 replace H := Option.bind_eq_some_iff.mp H
 obtain ⟨t560, A40, H⟩ := H
 replace H : (if t560 = true then (if a0_2 = a1_2 then (some true) else (some false)) else (some false)) = some r := H
 have A4 := aM A40
 clear A40
 by_cases c5 : t560 = true
 rotate_left
 ·replace c5 := Bool.eq_false_iff.mpr c5
  subst c5
  have H1 : (some false) = some r := by rw [if_neg (show ¬ (false = true) by decide)] at H; exact H
  clear H
  have H := H1
  clear H1
  obtain rfl := Option.some.inj H
  go_enter Try.func36, Try.ntmps36
  go_wp2_with (first | ((with_reducible refine gate_dst (N := 2) rfl ?_); refine bxE (N := 2) (cs := #[.int .i64 a0_0, .slice A0_1 l0_1.length c0_1, .int .i64 a0_2]) (t := 49) ?_; intro gb558 hg w17 hbox hb; have BK558 := aM (hbox); have GW558 := gW hg HB; have GE558 := gW hg HB; replace HB := bS HB hb; clear hb hbox hg) | ((with_reducible refine gate_dst (N := 3) rfl ?_); refine bxE (N := 3) (cs := #[.int .i64 a1_0, .slice A1_1 l1_1.length c1_1, .int .i64 a1_2]) (t := 49) ?_; intro gb559 hg w18 hbox hb; have BK559 := aM (hbox); have GW559 := gW hg HB; have GE559 := gW hg HB; replace HB := bS HB hb; have NB558_559 := nL hg BK558; have NB559_558 := nG hg BK558; replace BK558 := bB BK558 hb; clear hb hbox hg; have hnb19 := NB558_559.out; have hnc19 := NB559_558.out; obtain ⟨⟨hcz20_0, hcz20_1, hcz20_2⟩, hfz20_0, hfz20_1, hfz20_2⟩ := cf3 BK558; obtain ⟨⟨hcz21_0, hcz21_1, hcz21_2⟩, hfz21_0, hfz21_1, hfz21_2⟩ := cf3 BK559) | ((with_reducible refine gate_callee (f := 65) rfl ?_); refine gL (some 14) Try.func65 #[.slice A0_1 l0_1.length c0_1, .slice A1_1 l1_1.length c1_1] ?_; (with_reducible refine (laws_eqIntS.calls k _ _ l0_1 _ _ l1_1 false _ ?side1 ?side2 ?side3 ?side4 A4.out).mono ?_); (case side1 => exact qC (Kd.C_below HR0_1.out HB.out)); (case side2 => exact HC0_1.out); (case side3 => exact qC (Kd.C_below HR1_1.out HB.out)); (case side4 => exact HC1_1.out); rintro e w' ⟨rfl, ⟨nd, rfl⟩⟩; refine ⟨_, rfl, ?_⟩))
  go_ret
  exact ⟨qX, by exact qW HB.out⟩
 subst c5
 have H1 : (if a0_2 = a1_2 then (some true) else (some false)) = some r := by rw [if_pos rfl] at H; exact H
 clear H
 have H := H1
 clear H1
 by_cases c6 : a0_2 = a1_2
 rotate_left
 ·rw [if_neg c6] at H
  have c6b0 : (a0_2 == a1_2) = false := beq_eq_false_iff_ne.mpr c6
  have c6b1 : (a0_2 != a1_2) = true := bne_iff_ne.mpr c6
  obtain rfl := Option.some.inj H
  go_enter Try.func36, Try.ntmps36
  go_wp2_with (first | ((with_reducible refine gate_dst (N := 2) rfl ?_); refine bxE (N := 2) (cs := #[.int .i64 a0_0, .slice A0_1 l0_1.length c0_1, .int .i64 a0_2]) (t := 49) ?_; intro gb558 hg w12 hbox hb; have BK558 := aM (hbox); have GW558 := gW hg HB; have GE558 := gW hg HB; replace HB := bS HB hb; clear hb hbox hg) | ((with_reducible refine gate_dst (N := 3) rfl ?_); refine bxE (N := 3) (cs := #[.int .i64 a1_0, .slice A1_1 l1_1.length c1_1, .int .i64 a1_2]) (t := 49) ?_; intro gb559 hg w13 hbox hb; have BK559 := aM (hbox); have GW559 := gW hg HB; have GE559 := gW hg HB; replace HB := bS HB hb; have NB558_559 := nL hg BK558; have NB559_558 := nG hg BK558; replace BK558 := bB BK558 hb; clear hb hbox hg; have hnb14 := NB558_559.out; have hnc14 := NB559_558.out; obtain ⟨⟨hcz15_0, hcz15_1, hcz15_2⟩, hfz15_0, hfz15_1, hfz15_2⟩ := cf3 BK558; obtain ⟨⟨hcz16_0, hcz16_1, hcz16_2⟩, hfz16_0, hfz16_1, hfz16_2⟩ := cf3 BK559) | ((with_reducible refine gate_callee (f := 65) rfl ?_); refine gL (some 14) Try.func65 #[.slice A0_1 l0_1.length c0_1, .slice A1_1 l1_1.length c1_1] ?_; (with_reducible refine (laws_eqIntS.calls k _ _ l0_1 _ _ l1_1 true _ ?side1 ?side2 ?side3 ?side4 A4.out).mono ?_); (case side1 => exact qC (Kd.C_below HR0_1.out HB.out)); (case side2 => exact HC0_1.out); (case side3 => exact qC (Kd.C_below HR1_1.out HB.out)); (case side4 => exact HC1_1.out); rintro e w' ⟨rfl, ⟨nd, rfl⟩⟩; refine ⟨_, rfl, ?_⟩))
  go_ret
  exact ⟨qX, by exact qW HB.out⟩
 rw [if_pos c6] at H
 have c6b0 : (a0_2 == a1_2) = true := beq_iff_eq.mpr c6
 have c6b1 : (a0_2 != a1_2) = false := bne_eq_false_iff_eq.mpr c6
 clear c6
 obtain rfl := Option.some.inj H
 go_enter Try.func36, Try.ntmps36
 go_wp2_with (first | ((with_reducible refine gate_dst (N := 2) rfl ?_); refine bxE (N := 2) (cs := #[.int .i64 a0_0, .slice A0_1 l0_1.length c0_1, .int .i64 a0_2]) (t := 49) ?_; intro gb558 hg w7 hbox hb; have BK558 := aM (hbox); have GW558 := gW hg HB; have GE558 := gW hg HB; replace HB := bS HB hb; clear hb hbox hg) | ((with_reducible refine gate_dst (N := 3) rfl ?_); refine bxE (N := 3) (cs := #[.int .i64 a1_0, .slice A1_1 l1_1.length c1_1, .int .i64 a1_2]) (t := 49) ?_; intro gb559 hg w8 hbox hb; have BK559 := aM (hbox); have GW559 := gW hg HB; have GE559 := gW hg HB; replace HB := bS HB hb; have NB558_559 := nL hg BK558; have NB559_558 := nG hg BK558; replace BK558 := bB BK558 hb; clear hb hbox hg; have hnb9 := NB558_559.out; have hnc9 := NB559_558.out; obtain ⟨⟨hcz10_0, hcz10_1, hcz10_2⟩, hfz10_0, hfz10_1, hfz10_2⟩ := cf3 BK558; obtain ⟨⟨hcz11_0, hcz11_1, hcz11_2⟩, hfz11_0, hfz11_1, hfz11_2⟩ := cf3 BK559) | ((with_reducible refine gate_callee (f := 65) rfl ?_); refine gL (some 14) Try.func65 #[.slice A0_1 l0_1.length c0_1, .slice A1_1 l1_1.length c1_1] ?_; (with_reducible refine (laws_eqIntS.calls k _ _ l0_1 _ _ l1_1 true _ ?side1 ?side2 ?side3 ?side4 A4.out).mono ?_); (case side1 => exact qC (Kd.C_below HR0_1.out HB.out)); (case side2 => exact HC0_1.out); (case side3 => exact qC (Kd.C_below HR1_1.out HB.out)); (case side4 => exact HC1_1.out); rintro e w' ⟨rfl, ⟨nd, rfl⟩⟩; refine ⟨_, rfl, ?_⟩))
 go_ret
 exact ⟨qX, by exact qW HB.out⟩
def laws_markKernel.f (k : Nat) (a0_0 : Int) (l0_1 : List Int) (a0_2 : Int) (a1 : Int) : Option (Int × List Int) := (laws_markIntS.f k l0_1 a1).bind fun bt562 => (some (bt562.1, bt562.2))
theorem laws_markKernel.mono : ∀ a0 a1 a2 a3 k, LeO (laws_markKernel.f k a0 a1 a2 a3) (laws_markKernel.f (k + 1) a0 a1 a2 a3) := by
 intro a0 a1 a2 a3 k
 unfold laws_markKernel.f
 repeat' first | (with_reducible first | exact laws_markIntS.mono _ _ _ | exact lR | exact lN | refine lI ?_ ?_ | refine lB ?_ fun _ => ?_) | exact laws_markIntS.mono _ _ _ | exact lN | refine lI ?_ ?_ | refine lB ?_ fun _ => ?_
set_option maxHeartbeats 8000000 in
set_option maxRecDepth 100000 in
theorem laws_markKernel.calls (k : Nat) (a0_0 : Int) (P0_1_ : Nat → Prop) (u9000_ : Value) (l0_1 : List Int) (a0_2 : Int) (a1 : Int) (r1 : Int) (r2 : List Int) (w0 w : World) (hB : Below w0.heap.size w0 w) (ho0_1 : Kd.R (Kd.int .i64) 3 w w0.heap.size P0_1_ u9000_ l0_1) (h : laws_markKernel.f k a0_0 l0_1 a0_2 a1 = some (r1, r2)) :
  Calls Try.prog 37 #[.agg #[.int .i64 a0_0, u9000_, .int .i64 a0_2], .int .i64 a1] w fun e w' => e = .returned (.int .i64 r1) ∧ Kd.R (Kd.int .i64) 3 w' w0.heap.size (fun k_ => (P0_1_ k_ ∨ w.heap.size ≤ k_)) u9000_ r2 ∧ Below w0.heap.size w0 w' ∧ Kept w w' (fun k_ => P0_1_ k_) := by
 have hu49 := Try.underlying49
 have HO0_1 := aM (show Kd.R (Kd.int .i64) 3 w w0.heap.size (fun k_ => (P0_1_ k_ ∨ w.heap.size ≤ k_)) u9000_ l0_1 from Kd.R_mono ho0_1 (fun k_ hk => (.inl hk)))
 have HK := aM (Kept.refl w (fun k_ => P0_1_ k_))
 have HW0 := aM hB.size
 have HB := aM hB
 clear hB
 unfold laws_markKernel.f at h
 have H := h
 clear h
 replace H := Option.bind_eq_some_iff.mp H
 obtain ⟨⟨t562, t563⟩, A30, H⟩ := H
 replace H : (some (t562, t563)) = some (r1, r2) := H
 have A3 := aM A30
 clear A30
 simp only [Option.some.injEq, Prod.mk.injEq] at H
 obtain ⟨rfl, rfl⟩ := H
 obtain ⟨Ao4, co4, rfl⟩ := sL HO0_1
 go_enter Try.func37, Try.ntmps37
 go_wp2_with (first | ((with_reducible refine gate_dst (N := 2) rfl ?_); refine bxE (N := 2) (cs := #[.int .i64 a0_0, .slice Ao4 l0_1.length co4, .int .i64 a0_2]) (t := 49) ?_; intro gb561 hg w5 hbox hb; replace HO0_1 := aM (Kd.R_below (qR HO0_1.out) hb); have BK561 := aM (hbox); have GW561 := aM ((by rw [hg]; exact (by first | exact HK.out.1 | exact (show Kept w _ (fun k_ => P0_1_ k_) from kP HK.out).1) : w.heap.size ≤ gb561)); replace HK := aM (Kept.below (S := (fun k_ => P0_1_ k_)) (kP HK.out) hb); have GE561 := aM ((by rw [hg]; exact (below_size (qW HB.out)) : w0.heap.size ≤ gb561)); replace HB := bS HB hb; clear hb hbox hg; obtain ⟨⟨hcz6_0, hcz6_1, hcz6_2⟩, hfz6_0, hfz6_1, hfz6_2⟩ := cf3 BK561) | ((with_reducible refine gate_callee (f := 66) rfl ?_); refine gL (some 8) Try.func66 #[.slice Ao4 l0_1.length co4, .int .i64 a1] ?_; (with_reducible refine (laws_markIntS.calls k (fun k_ => some k_ = (.slice Ao4 l0_1.length co4 : Value).ownBlock) (.slice Ao4 l0_1.length co4) l0_1 a1 t562 t563 w0 _ ?side1 ?side2 A3.out).mono ?_); (case side1 => exact qW HB.out); (case side2 => exact Kd.R_tight rfl HO0_1.out); rintro e w7 ⟨rfl, hy0, hb, hkp⟩; refine ⟨_, rfl, ?_⟩; replace BK561 := aM (blk_kept (qB BK561.out) hkp (fun hs_ => (fun e_ => (Kd.R_ne HO0_1.out BK561.out (by decide)) e_) hs_)); replace HK := aM (Kept.then_ (S := (fun k_ => P0_1_ k_)) (kP HK.out) hkp (fun k_ hs_ => (fun e_ => (HO0_1.out.1 k_ e_.symm)) hs_)); replace HO0_1 := aM (Kd.R_reok rfl hy0 (fun k_ e_ => HO0_1.out.1 k_ e_)); replace HB := aM (hb); clear hb hkp hy0))
 go_ret
 exact ⟨qX, by refine qR ?_; exact HO0_1.out, by exact qW HB.out, kP HK.out⟩
end Go.Proofs.Yteeeedmmcdlhjaa.P
