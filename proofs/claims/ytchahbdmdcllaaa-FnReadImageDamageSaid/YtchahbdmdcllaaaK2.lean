/- Contracts and row, written by a program of this place out of the translation: the call answers true and its argument reads as before, for every input; no condition. -/
import Derived.Test.YtchahbdmdcllaaaK0
import Derived.Test.YtchahbdmdcllaaaK1
namespace Go.Proofs.Ytchahbdmdcllaaa.P
open Go.RowKit Go.Proofs.YtchahbdmdcllaaaW.PrintWords Go.Proofs.YtchahbdmdcllaaaW.PrintLast Go.Proofs.YtchahbdmdcllaaaW.PrintMore
attribute [local go_sem] max2_int min2_int max_two min_two max_three min_three max_four min_four   -- for this text's walks alone
set_option linter.unusedVariables false
set_option linter.unusedSimpArgs false
def spec_paeth.j0 : Nat → Int → Int → Int → Int → Int → Bool → Option (Int)
 | 0, _, _, _, _, _, _ => none
 | k + 1, x0, x1, x2, x9, x10, x35 => if x35 = true then (some x0) else (if x9 ≤ x10 then (some x1) else (some x2))
def spec_paeth.f (k : Nat) (a0 : Int) (a1 : Int) (a2 : Int) : Option (Int) := (spec_distance.f (wrap64 ((wrap64 ((wrap64 (a0 + a1)) - a2)) - a0))).bind fun t144 => ((spec_distance.f (wrap64 ((wrap64 ((wrap64 (a0 + a1)) - a2)) - a1))).bind fun t145 => ((spec_distance.f (wrap64 ((wrap64 ((wrap64 (a0 + a1)) - a2)) - a2))).bind fun t146 => (if t144 ≤ t145 then (spec_paeth.j0 k a0 a1 a2 t145 t146 (decide (t144 ≤ t146))) else (spec_paeth.j0 k a0 a1 a2 t145 t146 false))))
theorem spec_paeth.mono_l : ∀ k, (∀ y0 y1 y2 y3 y4 y5, LeO (spec_paeth.j0 k y0 y1 y2 y3 y4 y5) (spec_paeth.j0 (k + 1) y0 y1 y2 y3 y4 y5))
 | 0 => fun _ _ _ _ _ _ r h => by simp [spec_paeth.j0] at h
 | k + 1 => by
  have ih0 := spec_paeth.mono_l k
  ·intro y0 y1 y2 y3 y4 y5
   unfold spec_paeth.j0
   repeat' first | (with_reducible first | exact ih0 _ _ _ _ _ _ | exact lR | exact lN | refine lI ?_ ?_ | refine lB ?_ fun _ => ?_) | exact ih0 _ _ _ _ _ _ | exact lN | refine lI ?_ ?_ | refine lB ?_ fun _ => ?_
theorem spec_paeth.mono : ∀ a0 a1 a2 k, LeO (spec_paeth.f k a0 a1 a2) (spec_paeth.f (k + 1) a0 a1 a2) := by
 intro a0 a1 a2 k
 have ih0 := spec_paeth.mono_l k
 unfold spec_paeth.f
 repeat' first | (with_reducible first | exact ih0 _ _ _ _ _ _ | exact lR | exact lN | refine lI ?_ ?_ | refine lB ?_ fun _ => ?_) | exact ih0 _ _ _ _ _ _ | exact lN | refine lI ?_ ?_ | refine lB ?_ fun _ => ?_
set_option maxHeartbeats 8000000 in
set_option maxRecDepth 100000 in
theorem spec_paeth.calls (k : Nat) (a0 : Int) (a1 : Int) (a2 : Int) (r : Int) (w : World) (h : spec_paeth.f k a0 a1 a2 = some r) :
  Calls Try.prog 88 #[.int .i64 a0, .int .i64 a1, .int .i64 a2] w fun e w' => e = .returned (.int .i64 r) ∧ Drawn0 w w' := by
 unfold spec_paeth.f at h
 have H := h
 clear h
 replace H := Option.bind_eq_some_iff.mp H
 obtain ⟨t144, A40, H⟩ := H
 replace H : ((spec_distance.f (wrap64 ((wrap64 ((wrap64 (a0 + a1)) - a2)) - a1))).bind fun t145 => ((spec_distance.f (wrap64 ((wrap64 ((wrap64 (a0 + a1)) - a2)) - a2))).bind fun t146 => (if t144 ≤ t145 then (spec_paeth.j0 k a0 a1 a2 t145 t146 (decide (t144 ≤ t146))) else (spec_paeth.j0 k a0 a1 a2 t145 t146 false)))) = some r := H
 have A4 := aM A40
 clear A40
 replace H := Option.bind_eq_some_iff.mp H
 obtain ⟨t145, A50, H⟩ := H
 replace H : ((spec_distance.f (wrap64 ((wrap64 ((wrap64 (a0 + a1)) - a2)) - a2))).bind fun t146 => (if t144 ≤ t145 then (spec_paeth.j0 k a0 a1 a2 t145 t146 (decide (t144 ≤ t146))) else (spec_paeth.j0 k a0 a1 a2 t145 t146 false))) = some r := H
 have A5 := aM A50
 clear A50
 replace H := Option.bind_eq_some_iff.mp H
 obtain ⟨t146, A60, H⟩ := H
 replace H : (if t144 ≤ t145 then (spec_paeth.j0 k a0 a1 a2 t145 t146 (decide (t144 ≤ t146))) else (spec_paeth.j0 k a0 a1 a2 t145 t146 false)) = some r := H
 have A6 := aM A60
 clear A60
 have HC7 := aM H
 clear H
 go_enter Try.func88, Try.ntmps88
 go_upto_region 5 with (first | ((with_reducible refine gate_callee (f := 92) rfl ?_); refine gL (some 19) Try.func92 #[.int .i64 (wrap64 ((wrap64 ((wrap64 (a0 + a1)) - a2)) - a0))] ?_; (with_reducible refine (spec_distance.calls (wrap64 ((wrap64 ((wrap64 (a0 + a1)) - a2)) - a0)) t144 _ A4.out).mono ?_); rintro e w' ⟨rfl, ⟨nd, rfl⟩⟩; refine ⟨_, rfl, ?_⟩) | ((with_reducible refine gate_callee (f := 92) rfl ?_); refine gL (some 23) Try.func92 #[.int .i64 (wrap64 ((wrap64 ((wrap64 (a0 + a1)) - a2)) - a1))] ?_; (with_reducible refine (spec_distance.calls (wrap64 ((wrap64 ((wrap64 (a0 + a1)) - a2)) - a1)) t145 _ A5.out).mono ?_); rintro e w' ⟨rfl, ⟨nd, rfl⟩⟩; refine ⟨_, rfl, ?_⟩) | ((with_reducible refine gate_callee (f := 92) rfl ?_); refine gL (some 27) Try.func92 #[.int .i64 (wrap64 ((wrap64 ((wrap64 (a0 + a1)) - a2)) - a2))] ?_; (with_reducible refine (spec_distance.calls (wrap64 ((wrap64 ((wrap64 (a0 + a1)) - a2)) - a2)) t146 _ A6.out).mono ?_); rintro e w' ⟨rfl, ⟨nd, rfl⟩⟩; refine ⟨_, rfl, ?_⟩))
 (try simp only [Act.put, List.setIfInBounds_toArray, List.set_cons_zero, List.set_cons_succ])
 go_cut [35] (fun v35 wc => ∃ (kq : Nat) (x35_6 : Bool), v35 = .bool x35_6 ∧ Aside0 (spec_paeth.j0 kq a0 a1 a2 t145 t146 x35_6 = some r) ∧ Aside0 (kq ≤ k) ∧ Drawn0 w wc)
 case first =>
  have H := HC7.out
  clear HC7
  by_cases c8 : t144 ≤ t145
  rotate_left
  ·rw [if_neg c8] at H
   have c8b0 : decide (t144 ≤ t145) = false := decide_eq_false c8
   clear c8
   (first | rw [c8b0] | (simp only [i64_w, i32_w]; rw [c8b0]) | skip)
   have H' := aM H
   clear H
   go_wp2
   go_meet
   case rel => exact ⟨_, (false), qE, H', ⟨by first | omega | exact Nat.le_refl _⟩, qD⟩
  rw [if_pos c8] at H
  have c8b0 : decide (t144 ≤ t145) = true := decide_eq_true c8
  clear c8
  (first | rw [c8b0] | (simp only [i64_w, i32_w]; rw [c8b0]) | skip)
  have H' := aM H
  clear H
  go_wp2
  go_meet
  case rel => exact ⟨_, (decide (t144 ≤ t146)), qE, H', ⟨by first | omega | exact Nat.le_refl _⟩, qD⟩
 case rest =>
  clear HC7
  try clear c8
  try clear c8b0
  obtain ⟨kq, x35_6, rfl, HA, HJ6, ⟨mc6, rfl⟩⟩ := hcut
  cases kq with
  | zero => exact absurd HA.out (by simp [spec_paeth.j0])
  | succ kj6 =>
   have H := HA.out
   clear HA
   simp only [spec_paeth.j0] at H
   by_cases c9 : x35_6 = true
   ·subst c9
    have H1 : (some a0) = some r := by rw [if_pos rfl] at H; exact H
    clear H
    have H := H1
    clear H1
    obtain rfl := Option.some.inj H
    go_wp2
    go_ret
    exact ⟨qE, qD⟩
   replace c9 := Bool.eq_false_iff.mpr c9
   subst c9
   have H1 : (if t145 ≤ t146 then (some a1) else (some a2)) = some r := by rw [if_neg (show ¬ (false = true) by decide)] at H; exact H
   clear H
   have H := H1
   clear H1
   by_cases c10 : t145 ≤ t146
   ·rw [if_pos c10] at H
    have c10b0 : decide (t145 ≤ t146) = true := decide_eq_true c10
    clear c10
    obtain rfl := Option.some.inj H
    go_wp2
    go_ret
    exact ⟨qE, qD⟩
   rw [if_neg c10] at H
   have c10b0 : decide (t145 ≤ t146) = false := decide_eq_false c10
   clear c10
   obtain rfl := Option.some.inj H
   go_wp2
   go_ret
   exact ⟨qE, qD⟩
def spec_guess.j0 : Nat → Int → List Int → Int → Int → Int → Option (Int)
 | 0, _, _, _, _, _ => none
 | k + 1, x0, x2, x4, x11, x12 => if x0 = 1 then (some x11) else (if x0 = 2 then (if 0 ≤ x4 then (if x4 < (x2.length : Int) then (some (rd x2 x4)) else (none)) else (none)) else (if x0 = 3 then (if 0 ≤ x4 then (if x4 < (x2.length : Int) then (some (wrap64 (Int.tdiv (wrap64 (x11 + (rd x2 x4))) 2))) else (none)) else (none)) else (if x0 = 4 then (if 0 ≤ x4 then (if x4 < (x2.length : Int) then ((spec_paeth.f k x11 (rd x2 x4) x12).bind fun t152 => (some t152)) else (none)) else (none)) else (some 0))))
def spec_guess.f (k : Nat) (a0 : Int) (l1 : List Int) (l2 : List Int) (a3 : Int) (a4 : Int) : Option (Int) := if a4 ≥ a3 then (if 0 ≤ (wrap64 (a4 - a3)) then (if (wrap64 (a4 - a3)) < (l1.length : Int) then (if (wrap64 (a4 - a3)) < (l2.length : Int) then (spec_guess.j0 k a0 l2 a4 (rd l1 (wrap64 (a4 - a3))) (rd l2 (wrap64 (a4 - a3)))) else (none)) else (none)) else (none)) else (spec_guess.j0 k a0 l2 a4 0 0)
theorem spec_guess.mono_l : ∀ k, (∀ y0 y1 y2 y3 y4, LeO (spec_guess.j0 k y0 y1 y2 y3 y4) (spec_guess.j0 (k + 1) y0 y1 y2 y3 y4))
 | 0 => fun _ _ _ _ _ r h => by simp [spec_guess.j0] at h
 | k + 1 => by
  have ih0 := spec_guess.mono_l k
  ·intro y0 y1 y2 y3 y4
   unfold spec_guess.j0
   repeat' first | (with_reducible first | exact ih0 _ _ _ _ _ | exact spec_paeth.mono _ _ _ _ | exact lR | exact lN | refine lI ?_ ?_ | refine lB ?_ fun _ => ?_) | exact ih0 _ _ _ _ _ | exact spec_paeth.mono _ _ _ _ | exact lN | refine lI ?_ ?_ | refine lB ?_ fun _ => ?_
theorem spec_guess.mono : ∀ a0 a1 a2 a3 a4 k, LeO (spec_guess.f k a0 a1 a2 a3 a4) (spec_guess.f (k + 1) a0 a1 a2 a3 a4) := by
 intro a0 a1 a2 a3 a4 k
 have ih0 := spec_guess.mono_l k
 unfold spec_guess.f
 repeat' first | (with_reducible first | exact ih0 _ _ _ _ _ | exact spec_paeth.mono _ _ _ _ | exact lR | exact lN | refine lI ?_ ?_ | refine lB ?_ fun _ => ?_) | exact ih0 _ _ _ _ _ | exact spec_paeth.mono _ _ _ _ | exact lN | refine lI ?_ ?_ | refine lB ?_ fun _ => ?_
set_option maxHeartbeats 8000000 in
set_option maxRecDepth 100000 in
theorem spec_guess.calls (k : Nat) (a0 : Int) (A1 : Option Addr) (c1 : Nat) (l1 : List Int) (A2 : Option Addr) (c2 : Nat) (l2 : List Int) (a3 : Int) (a4 : Int) (r : Int) (w : World) (hr1 : Kd.C (Kd.int .i64) w A1 l1.length l1) (hc1 : l1.length ≤ c1) (hr2 : Kd.C (Kd.int .i64) w A2 l2.length l2) (hc2 : l2.length ≤ c2) (h : spec_guess.f k a0 l1 l2 a3 a4 = some r) :
  Calls Try.prog 80 #[.int .i64 a0, .slice A1 l1.length c1, .slice A2 l2.length c2, .int .i64 a3, .int .i64 a4] w fun e w' => e = .returned (.int .i64 r) ∧ Drawn0 w w' := by
 have HR1 := aM hr1
 have HC1 := aM hc1
 clear hr1 hc1
 have HR2 := aM hr2
 have HC2 := aM hc2
 clear hr2 hc2
 unfold spec_guess.f at h
 have H := h
 clear h
 have HC6 := aM H
 clear H
 go_enter Try.func80, Try.ntmps80
 go_upto_if 15 with (fail)
 go_cut [11, 12] (fun v11 v12 wc => ∃ (kq : Nat) (x11_5 : Int) (x12_5 : Int), v11 = .int .i64 x11_5 ∧ v12 = .int .i64 x12_5 ∧ Aside0 (spec_guess.j0 kq a0 l2 a4 x11_5 x12_5 = some r) ∧ Aside0 (kq ≤ k) ∧ Drawn0 w wc)
 case first =>
  have H := HC6.out
  clear HC6
  by_cases c7 : a4 ≥ a3
  rotate_left
  ·rw [if_neg c7] at H
   have c7b0 : decide (a3 ≤ a4) = false := decide_eq_false c7
   clear c7
   (first | rw [c7b0] | (simp only [i64_w, i32_w]; rw [c7b0]) | skip)
   have H' := aM H
   clear H
   go_wp2
   go_meet
   case rel => exact ⟨_, (0), (0), qE, qE, H', ⟨by first | omega | exact Nat.le_refl _⟩, qD⟩
  rw [if_pos c7] at H
  have c7b0 : decide (a3 ≤ a4) = true := decide_eq_true c7
  clear c7
  (first | rw [c7b0] | (simp only [i64_w, i32_w]; rw [c7b0]) | skip)
  obtain ⟨ji8, hji8⟩ : ∃ j_ : Int, (wrap64 (a4 - a3)) = j_ := ⟨_, rfl⟩
  replace H : (if 0 ≤ (ji8) then (if (ji8) < (l1.length : Int) then (if (ji8) < (l2.length : Int) then (spec_guess.j0 k a0 l2 a4 (rd l1 (ji8)) (rd l2 (ji8))) else (none)) else (none)) else (none)) = some r := by first | (rw [hji8] at H; exact H) | (simp only [hji8] at H ⊢; exact H)
  have hji8w : (IntKind.i64.wrap (a4 - a3)) = ji8 := (i64_w _).trans hji8
  replace H := iD H
  obtain ⟨c9b0, H⟩ := H
  replace H := iD H
  obtain ⟨c10b0, H⟩ := H
  replace H := iD H
  obtain ⟨c11b0, H⟩ := H
  have H' := aM H
  clear H
  obtain ⟨ad147, e147, hx147_0⟩ := Kd.at_int HR1.out (ji8) oD oD
  cases e147
  have p147 := eq_true (oD : 0 ≤ ((ji8) : Int))
  have q147 := eq_true (oD : (ji8) < (l1.length : Int))
  obtain ⟨ad148, e148, hx148_0⟩ := Kd.at_int HR2.out (ji8) oD oD
  cases e148
  have p148 := eq_true (oD : 0 ≤ ((ji8) : Int))
  have q148 := eq_true (oD : (ji8) < (l2.length : Int))
  go_wp2
  go_meet
  case rel => exact ⟨_, (rd l1 (ji8)), (rd l2 (ji8)), (by first | rfl | (simp; done) | (simp only [← hji8] <;> (first | rfl | simp)) | (simp [*]; done)), (by first | rfl | (simp; done) | (simp only [← hji8] <;> (first | rfl | simp)) | (simp [*]; done)), H', ⟨by first | omega | exact Nat.le_refl _⟩, qD⟩
 case rest =>
  clear HC6
  try clear c1
  try clear c2
  try clear c7
  try clear c7b0
  try clear c9b0
  try clear c10b0
  try clear c11b0
  try clear hx147_0
  try clear hx148_0
  try clear p147
  try clear p148
  try clear q147
  try clear q148
  obtain ⟨kq, x11_5, x12_5, rfl, rfl, HA, HJ5, ⟨mc5, rfl⟩⟩ := hcut
  cases kq with
  | zero => exact absurd HA.out (by simp [spec_guess.j0])
  | succ kj5 =>
   have H := HA.out
   clear HA
   simp only [spec_guess.j0] at H
   by_cases c12 : a0 = 1
   ·rw [if_pos c12] at H
    have c12b0 : (a0 == 1) = true := beq_iff_eq.mpr c12
    have c12b1 : (a0 != 1) = false := bne_eq_false_iff_eq.mpr c12
    clear c12
    obtain rfl := Option.some.inj H
    go_wp2
    go_ret
    exact ⟨qE, qD⟩
   rw [if_neg c12] at H
   have c12b0 : (a0 == 1) = false := beq_eq_false_iff_ne.mpr c12
   have c12b1 : (a0 != 1) = true := bne_iff_ne.mpr c12
   by_cases c13 : a0 = 2
   ·rw [if_pos c13] at H
    have c13b0 : (a0 == 2) = true := beq_iff_eq.mpr c13
    have c13b1 : (a0 != 2) = false := bne_eq_false_iff_eq.mpr c13
    clear c13
    replace H := iD H
    obtain ⟨c14b0, H⟩ := H
    replace H := iD H
    obtain ⟨c15b0, H⟩ := H
    obtain rfl := Option.some.inj H
    obtain ⟨ad149, e149, hx149_0⟩ := Kd.at_int HR2.out a4 oD oD
    cases e149
    have p149 := eq_true (oD : 0 ≤ (a4 : Int))
    have q149 := eq_true (oD : a4 < (l2.length : Int))
    go_wp2
    go_ret
    exact ⟨qE, qD⟩
   rw [if_neg c13] at H
   have c13b0 : (a0 == 2) = false := beq_eq_false_iff_ne.mpr c13
   have c13b1 : (a0 != 2) = true := bne_iff_ne.mpr c13
   by_cases c16 : a0 = 3
   ·rw [if_pos c16] at H
    have c16b0 : (a0 == 3) = true := beq_iff_eq.mpr c16
    have c16b1 : (a0 != 3) = false := bne_eq_false_iff_eq.mpr c16
    clear c16
    replace H := iD H
    obtain ⟨c17b0, H⟩ := H
    replace H := iD H
    obtain ⟨c18b0, H⟩ := H
    obtain rfl := Option.some.inj H
    obtain ⟨ad150, e150, hx150_0⟩ := Kd.at_int HR2.out a4 oD oD
    cases e150
    have p150 := eq_true (oD : 0 ≤ (a4 : Int))
    have q150 := eq_true (oD : a4 < (l2.length : Int))
    go_wp2
    go_ret
    exact ⟨qE, qD⟩
   rw [if_neg c16] at H
   have c16b0 : (a0 == 3) = false := beq_eq_false_iff_ne.mpr c16
   have c16b1 : (a0 != 3) = true := bne_iff_ne.mpr c16
   by_cases c19 : a0 = 4
   rotate_left
   ·rw [if_neg c19] at H
    have c19b0 : (a0 == 4) = false := beq_eq_false_iff_ne.mpr c19
    have c19b1 : (a0 != 4) = true := bne_iff_ne.mpr c19
    obtain rfl := Option.some.inj H
    go_wp2
    go_ret
    exact ⟨qE, qD⟩
   rw [if_pos c19] at H
   have c19b0 : (a0 == 4) = true := beq_iff_eq.mpr c19
   have c19b1 : (a0 != 4) = false := bne_eq_false_iff_eq.mpr c19
   clear c19
   replace H := iD H
   obtain ⟨c20b0, H⟩ := H
   replace H := iD H
   obtain ⟨c21b0, H⟩ := H
   replace H := Option.bind_eq_some_iff.mp H
   obtain ⟨t152, A220, H⟩ := H
   replace H : (some t152) = some r := H
   have A22 := aM A220
   clear A220
   obtain rfl := Option.some.inj H
   obtain ⟨ad151, e151, hx151_0⟩ := Kd.at_int HR2.out a4 oD oD
   cases e151
   have p151 := eq_true (oD : 0 ≤ (a4 : Int))
   have q151 := eq_true (oD : a4 < (l2.length : Int))
   go_wp2_with (first | ((with_reducible refine gate_callee (f := 88) rfl ?_); refine gL (some 55) Try.func88 #[.int .i64 x11_5, .int .i64 (rd l2 a4), .int .i64 x12_5] ?_; (with_reducible refine (spec_paeth.calls kj5 x11_5 (rd l2 a4) x12_5 t152 _ A22.out).mono ?_); rintro e w' ⟨rfl, ⟨nd, rfl⟩⟩; refine ⟨_, rfl, ?_⟩))
   go_ret
   exact ⟨qE, qD⟩
def spec_filterRow.l0 : Nat → Int → List Int → List Int → Int → List Int → Int → Option (List Int)
 | 0, _, _, _, _, _, _ => none
 | k + 1, x0, x1, x2, x3, x9, x10 => if x10 < (x1.length : Int) then (if 0 ≤ x10 then ((spec_guess.f k x0 x1 x2 x3 x10).bind fun t196 => (if x9.length < 17592186044416 then (spec_filterRow.l0 k x0 x1 x2 x3 (x9 ++ [Int.tmod (wrap64 ((wrap64 ((rd x1 x10) - t196)) + 256)) 256]) (wrap64 (x10 + 1))) else (none))) else (none)) else (some x9)
def spec_filterRow.f (k : Nat) (a0 : Int) (l1 : List Int) (l2 : List Int) (a3 : Int) : Option (List Int) := spec_filterRow.l0 k a0 l1 l2 a3 (([] : List Int)) 0
theorem spec_filterRow.mono_l : ∀ k, (∀ y0 y1 y2 y3 y4 y5, LeO (spec_filterRow.l0 k y0 y1 y2 y3 y4 y5) (spec_filterRow.l0 (k + 1) y0 y1 y2 y3 y4 y5))
 | 0 => fun _ _ _ _ _ _ r h => by simp [spec_filterRow.l0] at h
 | k + 1 => by
  have ih0 := spec_filterRow.mono_l k
  ·intro y0 y1 y2 y3 y4 y5
   unfold spec_filterRow.l0
   repeat' first | (with_reducible first | exact ih0 _ _ _ _ _ _ | exact spec_guess.mono _ _ _ _ _ _ | exact lR | exact lN | refine lI ?_ ?_ | refine lB ?_ fun _ => ?_) | exact ih0 _ _ _ _ _ _ | exact spec_guess.mono _ _ _ _ _ _ | exact lN | refine lI ?_ ?_ | refine lB ?_ fun _ => ?_
theorem spec_filterRow.mono : ∀ a0 a1 a2 a3 k, LeO (spec_filterRow.f k a0 a1 a2 a3) (spec_filterRow.f (k + 1) a0 a1 a2 a3) := by
 intro a0 a1 a2 a3 k
 have ih0 := spec_filterRow.mono_l k
 unfold spec_filterRow.f
 repeat' first | (with_reducible first | exact ih0 _ _ _ _ _ _ | exact spec_guess.mono _ _ _ _ _ _ | exact lR | exact lN | refine lI ?_ ?_ | refine lB ?_ fun _ => ?_) | exact ih0 _ _ _ _ _ _ | exact spec_guess.mono _ _ _ _ _ _ | exact lN | refine lI ?_ ?_ | refine lB ?_ fun _ => ?_
def spec_filterRow.T5 : Bool × List (List Nat × List Nat) := (true, [([], []), ([], []), ([], []), ([1, 2], [1, 2]), ([3], [3]), ([], []), ([], []), ([], []), ([], []), ([], []), ([5, 6, 7, 8, 9], [5, 6, 7, 8, 9]), ([4, 10], [4, 10]), ([11], [11]), ([12], [12]), ([13], [13]), ([0, 14, 10], [0, 14]), ([15, 15, 0, 1, 2, 3, 4, 5, 6, 7, 8, 9, 10, 11, 12, 13, 14, 15], [0, 15])])
def spec_filterRow.B5 : List Nat := [0, 0, 0, 6, 14, 0, 0, 0, 0, 0, 992, 2046, 4094, 8190, 16382, 32767, 65535]
theorem spec_filterRow.tab5 : rtab .any (opsOf Try.f77 5) = spec_filterRow.T5 := by kernel_rfl
theorem spec_filterRow.bits5 : waitsOk spec_filterRow.T5.2 spec_filterRow.B5 = true := by kernel_rfl
set_option maxHeartbeats 8000000 in
set_option maxRecDepth 100000 in
theorem spec_filterRow.calls (k : Nat) (a0 : Int) (A1 : Option Addr) (c1 : Nat) (l1 : List Int) (A2 : Option Addr) (c2 : Nat) (l2 : List Int) (a3 : Int) (r : List Int) (w : World) (hr1 : Kd.C (Kd.int .i64) w A1 l1.length l1) (hc1 : l1.length ≤ c1) (hr2 : Kd.C (Kd.int .i64) w A2 l2.length l2) (hc2 : l2.length ≤ c2) (h : spec_filterRow.f k a0 l1 l2 a3 = some r) :
  Calls Try.prog 77 #[.int .i64 a0, .slice A1 l1.length c1, .slice A2 l2.length c2, .int .i64 a3] w fun e w' => ∃ v0_ : Value, e = .returned (v0_) ∧ Kd.R (Kd.int .i64) 3 w' w.heap.size (fun _ => True) v0_ r ∧ Below w.heap.size w w' := by
 have HR1 := aM hr1
 have HC1 := aM hc1
 clear hr1 hc1
 have HR2 := aM hr2
 have HC2 := aM hc2
 clear hr2 hc2
 have HB := aM (Below.refl w.heap.size w)
 unfold spec_filterRow.f at h
 have H := h
 clear h
 obtain ⟨y192, hy192⟩ : ∃ y_ : List Int, y_ = (([] : List Int)) := ⟨_, rfl⟩
 replace H : (spec_filterRow.l0 k a0 l1 l2 a3 y192 0) = some r := rY hy192 H
 have Ny192 := aM hy192
 clear hy192
 have H' := aM H
 clear H
 go_enter Try.func77, Try.ntmps77
 go_wp2_with (first | ((with_reducible refine gate_dst (N := 11) rfl ?_); refine iL ([] : List Int) [] ?_; intro v193 w5 ho6 hb hg_ hnew_; clear hg_ hnew_; (first | rw [← Ny192.out] at ho6 | (simp only [Int.reduceToNat] at ho6; rw [← Ny192.out] at ho6)); have HO194 := oR ho6 HB; replace HB := bS HB hb; clear hb ho6))
 go_loopg [9, 10] k (fun kq v9 v10 w' => ∃ (x9_1 : List Int) (x10_1 : Int), v10 = .int .i64 x10_1 ∧ Aside0 (spec_filterRow.l0 kq a0 l1 l2 a3 x9_1 x10_1 = some r) ∧ Aside0 (kq ≤ k) ∧ Aside0 (Kd.R (Kd.int .i64) 3 w' w.heap.size (fun _ => True) v9 x9_1) ∧ Aside0 (Below w.heap.size w w'))
 case atStart => exact ⟨(y192), (0), qE, H', ⟨Nat.le_refl _⟩, ⟨by refine qR ?_; exact HO194.out⟩, ⟨by exact qW HB.out⟩⟩
 case round =>
  clear H'
  try clear c1
  try clear c2
  obtain ⟨x9_1, x10_1, rfl, HA, HK1, HO_9, HB⟩ := hrel
  cases gk with
  | zero => exact absurd HA.out (by simp [spec_filterRow.l0])
  | succ k1 =>
   have H := HA.out
   clear HA
   simp only [spec_filterRow.l0] at H
   by_cases c7 : x10_1 < (l1.length : Int)
   rotate_left
   ·rw [if_neg c7] at H
    have c7b0 : decide (x10_1 < (l1.length : Int)) = false := decide_eq_false c7
    clear c7
    obtain rfl := Option.some.inj H
    go_wp2
    go_ret
    exact ⟨_, qX, by refine qR ?_; exact HO_9.out, by exact qW HB.out⟩
   rw [if_pos c7] at H
   have c7b0 : decide (x10_1 < (l1.length : Int)) = true := decide_eq_true c7
   clear c7
   replace H := iD H
   obtain ⟨c8b0, H⟩ := H
   replace H := Option.bind_eq_some_iff.mp H
   obtain ⟨t196, A90, H⟩ := H
   replace H : (if x9_1.length < 17592186044416 then (spec_filterRow.l0 k1 a0 l1 l2 a3 (x9_1 ++ [Int.tmod (wrap64 ((wrap64 ((rd l1 x10_1) - t196)) + 256)) 256]) (wrap64 (x10_1 + 1))) else (none)) = some r := H
   have A9 := aM A90
   clear A90
   replace H := iS H
   obtain ⟨c10, H⟩ := H
   have LMc10 := aM c10
   clear c10
   obtain ⟨y197, hy197⟩ : ∃ y_ : List Int, y_ = (x9_1 ++ [Int.tmod (wrap64 ((wrap64 ((rd l1 x10_1) - t196)) + 256)) 256]) := ⟨_, rfl⟩
   replace H : (spec_filterRow.l0 k1 a0 l1 l2 a3 y197 (wrap64 (x10_1 + 1))) = some r := rY hy197 H
   have Ny197 := aM hy197
   clear hy197
   have H' := aM H
   clear H
   try go_wp2
   replace HO_9 := aM (Kd.R_drew HO_9.out)
   replace HB := aM (below_drew1 HB.out)
   obtain ⟨ad195, e195, hx195_0⟩ := Kd.at_int HR1.out x10_1 oD oD
   have hw195_0 := hx195_0
   cases e195
   replace hx195_0 := bD HB hx195_0
   have p195 := eq_true (oD : 0 ≤ (x10_1 : Int))
   have q195 := eq_true (oD : x10_1 < (l1.length : Int))
   refine start_ (n := 17) (S := fun w' => w'.cell? (ad195.add (x10_1).toNat) = some (.int .i64 (rd l1 x10_1))) (ds := []) (bA 17 0) (by kernel_rfl) rfl rfl ((bC HB hw195_0)) (fun hHeld => ?_); refine with_tabW spec_filterRow.tab5 spec_filterRow.bits5 (fun HT_ HW_ => ?_)
   generalize wr.drew = w11 at HO_9 HB hx195_0 hHeld ⊢
   refine pQ 0 18 HT_ (bA 17 1) ?_
   refine pQ 1 19 HT_ (bA 17 3) ?_
   refine pQ 2 20 HT_ (bA 17 7) ?_
   refine pQ 3 21 HT_ (bA 17 15) ?_
   refine pQ 5 23 HT_ (bA 17 47) ?_
   refine pQ 6 24 HT_ (bA 17 111) ?_
   refine pQ 7 25 HT_ (bA 17 239) ?_
   refine pQ 8 26 HT_ (bA 17 495) ?_
   refine pQ 9 27 HT_ (bA 17 1007) ?_
   refine take_ (i := 4) (N := some 22) (v := ?_) (a' := ?_) (bA 17 1023) rfl rfl (take_ofW HT_.out HW_.out (by kernel_rfl)) (fun _ _ _ h => h) (Or.inl ⟨by rfl, ?_⟩) hHeld ?_ ?_
   rotate_left
   ·intro w' s0
    go_simp
    with_reducible rfl
   rotate_left
   ·refine pZ ?_
    rfl
   refine one_ (i := 10) (N := some 28) (bA 17 2047) rfl rfl (one_of HT_.out (by kernel_rfl)) (by decide) (fun K hK => ?_)
   refine goes_ Try.func80 (by kernel_rfl) rfl #[.int .i64 a0, .slice (some ad195) l1.length c1, .slice A2 l2.length c2, .int .i64 a3, .int .i64 x10_1] (by rfl) rfl rfl qM ?_
   with_reducible refine (spec_guess.calls k1 a0 _ _ l1 _ _ l2 a3 x10_1 t196 _ ?side1 ?side2 ?side3 ?side4 A9.out).mono ?_
   (case side1 => exact qC (Kd.C_below HR1.out HB.out))
   (case side2 => exact HC1.out)
   (case side3 => exact qC (Kd.C_below HR2.out HB.out))
   (case side4 => exact HC2.out)
   rintro e w' ⟨rfl, ⟨nd, rfl⟩⟩
   refine ⟨_, rfl, ?_⟩
   refine hK.out _ _ ((bC HB hw195_0)) (fun hHeld => ?_)
   clear hK K
   refine norm_ (a' := ?_) ?_ ?_
   rotate_left
   ·show Act.put _ (some 28) _ = _
    refine pZ ?_
    rfl
   refine pQ 11 29 HT_ (bA 17 4095) ?_
   refine pQ 12 30 HT_ (bA 17 8191) ?_
   refine pQ 13 31 HT_ (bA 17 16383) ?_
   refine one_ (i := 14) (N := some 32) (bA 17 32767) rfl rfl (one_of HT_.out (by kernel_rfl)) (by decide) (fun K hK => ?_)
   refine value_ (w1 := ?_) (v := ?_) (by rfl) rfl ?_ ?_
   rotate_left 2
   ·go_simp
    constructor
    rotate_left
    ·rfl
    rfl
   refine hK.out _ _ ((World.cell?_alloc_lt _ _ _ (World.block_lt_of_cell? _ _ ((bC HB hw195_0)))).trans ((bC HB hw195_0))) (fun hHeld => ?_)
   clear hK K
   refine norm_ (a' := ?_) ?_ ?_
   rotate_left
   ·show Act.put _ (some 32) _ = _
    refine pZ ?_
    rfl
   refine one_ (i := 15) (N := some 33) (bA 17 65535) rfl rfl (one_of HT_.out (by kernel_rfl)) (by decide) (fun K hK => ?_)
   refine Kd.R_append_step (Kd.int .i64) (w0 := w) w.heap.size (by rfl) (.tmp 18) (.tmp 32) 22 3 (.int .i64 0) 8 rfl Try.underlying22 info3 rfl (by decide) (by omega) u9 x9_1 (Int.tmod (wrap64 ((wrap64 ((rd l1 x10_1) - t196)) + 256)) 256) [.int .i64 (Int.tmod (wrap64 ((wrap64 ((rd l1 x10_1) - t196)) + 256)) 256)] (fun _ => True) (fun _ => False) rfl rfl ?aP (fun _ hk => hk.elim) ?aF ?aO ?aB ?aS ?aL ?_
   (case aP => exact rfl)
   (case aB => exact (qW HB.out))
   (case aF => exact (fun _ _ => trivial))
   (case aO => exact (qR HO_9.out))
   (case aS => exact (below_size (qW HB.out)))
   (case aL => have := LMc10.out; omega)
   intro v198 w12 ho hb hg hat
   rw [← Ny197.out] at ho
   replace HB := aM (hb)
   have HO199 := aM (ho)
   clear HO_9
   clear ho hb hg hat
   refine hK.out _ _ ((bC HB hw195_0)) (fun hHeld => ?_)
   clear hK K
   refine norm_ (a' := ?_) ?_ ?_
   rotate_left
   ·show Act.put _ (some 33) _ = _
    refine pZ ?_
    rfl
   refine pQ 16 9 HT_ (bA 17 131071) ?_
   refine done_ (done_of HT_.out (by kernel_rfl)) ?_
   try go_wp2
   go_roundg k1
   case measure => have := HK1.out; omega
   case rel => exact ⟨(y197), (wrap64 (x10_1 + 1)), qE, H', ⟨by have := HK1.out; omega⟩, ⟨by refine qR ?_; exact HO199.out⟩, ⟨by exact qW HB.out⟩⟩
def spec_filterCost.l0 : Nat → List Int → Int → Int → Option (Int)
 | 0, _, _, _ => none
 | k + 1, x0, x3, x4 => if x4 < (x0.length : Int) then (if 0 ≤ x4 then (spec_filterCost.l0 k x0 (wrap64 (x3 + (mn (rd x0 x4) (wrap64 (256 - (rd x0 x4)))))) (wrap64 (x4 + 1))) else (none)) else (some x3)
def spec_filterCost.f (k : Nat) (l0 : List Int) : Option (Int) := spec_filterCost.l0 k l0 0 0
theorem spec_filterCost.mono_l : ∀ k, (∀ y0 y1 y2, LeO (spec_filterCost.l0 k y0 y1 y2) (spec_filterCost.l0 (k + 1) y0 y1 y2))
 | 0 => fun _ _ _ r h => by simp [spec_filterCost.l0] at h
 | k + 1 => by
  have ih0 := spec_filterCost.mono_l k
  ·intro y0 y1 y2
   unfold spec_filterCost.l0
   repeat' first | (with_reducible first | exact ih0 _ _ _ | exact lR | exact lN | refine lI ?_ ?_ | refine lB ?_ fun _ => ?_) | exact ih0 _ _ _ | exact lN | refine lI ?_ ?_ | refine lB ?_ fun _ => ?_
theorem spec_filterCost.mono : ∀ a0 k, LeO (spec_filterCost.f k a0) (spec_filterCost.f (k + 1) a0) := by
 intro a0 k
 have ih0 := spec_filterCost.mono_l k
 unfold spec_filterCost.f
 repeat' first | (with_reducible first | exact ih0 _ _ _ | exact lR | exact lN | refine lI ?_ ?_ | refine lB ?_ fun _ => ?_) | exact ih0 _ _ _ | exact lN | refine lI ?_ ?_ | refine lB ?_ fun _ => ?_
set_option maxHeartbeats 8000000 in
set_option maxRecDepth 100000 in
theorem spec_filterCost.calls (k : Nat) (A0 : Option Addr) (c0 : Nat) (l0 : List Int) (r : Int) (w : World) (hr0 : Kd.C (Kd.int .i64) w A0 l0.length l0) (hc0 : l0.length ≤ c0) (h : spec_filterCost.f k l0 = some r) :
  Calls Try.prog 87 #[.slice A0 l0.length c0] w fun e w' => e = .returned (.int .i64 r) ∧ Below w.heap.size w w' := by
 have HR0 := aM hr0
 have HC0 := aM hc0
 clear hr0 hc0
 have HB := aM (Below.refl w.heap.size w)
 unfold spec_filterCost.f at h
 have H := h
 clear h
 have H' := aM H
 clear H
 go_enter Try.func87, Try.ntmps87
 go_wp2
 repeat (go_quiet (fail); try go_wp2)
 go_loopg [3, 4] k (fun kq v3 v4 w' => ∃ (x3_1 : Int) (x4_1 : Int), v3 = .int .i64 x3_1 ∧ v4 = .int .i64 x4_1 ∧ Aside0 (spec_filterCost.l0 kq l0 x3_1 x4_1 = some r) ∧ Aside0 (kq ≤ k) ∧ Aside0 (Below w.heap.size w w'))
 case atStart => exact ⟨(0), (0), qE, qE, H', ⟨Nat.le_refl _⟩, ⟨by exact qW HB.out⟩⟩
 case round =>
  clear H'
  obtain ⟨x3_1, x4_1, rfl, rfl, HA, HK1, HB⟩ := hrel
  cases gk with
  | zero => exact absurd HA.out (by simp [spec_filterCost.l0])
  | succ k1 =>
   have H := HA.out
   clear HA
   simp only [spec_filterCost.l0] at H
   by_cases c2 : x4_1 < (l0.length : Int)
   rotate_left
   ·rw [if_neg c2] at H
    have c2b0 : decide (x4_1 < (l0.length : Int)) = false := decide_eq_false c2
    clear c2
    obtain rfl := Option.some.inj H
    go_wp2
    repeat (go_quiet (fail); try go_wp2)
    go_ret
    exact ⟨qX, by exact qW HB.out⟩
   rw [if_pos c2] at H
   have c2b0 : decide (x4_1 < (l0.length : Int)) = true := decide_eq_true c2
   clear c2
   replace H := iD H
   obtain ⟨c3b0, H⟩ := H
   obtain ⟨ji4, hji4⟩ : ∃ j_ : Int, (mn (rd l0 x4_1) (wrap64 (256 - (rd l0 x4_1)))) = j_ := ⟨_, rfl⟩
   replace H : (spec_filterCost.l0 k1 l0 (wrap64 (x3_1 + (ji4))) (wrap64 (x4_1 + 1))) = some r := by first | (rw [hji4] at H; exact H) | (simp only [hji4] at H ⊢; exact H)
   have hji4_ : (if (wrap64 (256 - (rd l0 x4_1))) < (rd l0 x4_1) then (wrap64 (256 - (rd l0 x4_1))) else (rd l0 x4_1)) = ji4 := hji4
   have H' := aM H
   clear H
   obtain ⟨ad200, e200, hx200_0⟩ := Kd.at_int HR0.out x4_1 oD oD
   cases e200
   replace hx200_0 := bD HB hx200_0
   have p200 := eq_true (oD : 0 ≤ (x4_1 : Int))
   have q200 := eq_true (oD : x4_1 < (l0.length : Int))
   obtain ⟨ad201, e201, hx201_0⟩ := Kd.at_int HR0.out x4_1 oD oD
   obtain rfl : ad200 = ad201 := (by injection e201)
   replace hx201_0 := bD HB hx201_0
   have p201 := eq_true (oD : 0 ≤ (x4_1 : Int))
   have q201 := eq_true (oD : x4_1 < (l0.length : Int))
   go_wp2
   repeat (go_quiet (fail); try go_wp2)
   go_roundg k1
   case measure => have := HK1.out; omega
   case rel => exact ⟨(wrap64 (x3_1 + (ji4))), (wrap64 (x4_1 + 1)), (by first | rfl | (simp; done) | (simp only [← hji4] <;> (first | rfl | simp)) | (simp [*]; done)), qE, H', ⟨by have := HK1.out; omega⟩, ⟨by exact qW HB.out⟩⟩
def spec_bestFilter.l0 : Nat → List Int → List Int → Int → Int → Int → Option (Int)
 | 0, _, _, _, _, _ => none
 | k + 1, x0, x1, x2, x7, x8 => if x8 ≤ 4 then ((spec_filterRow.f k x8 x0 x1 x2).bind fun t202 => ((spec_filterCost.f k t202).bind fun t205 => ((spec_filterRow.f k x7 x0 x1 x2).bind fun t206 => ((spec_filterCost.f k t206).bind fun t209 => (if t205 < t209 then (spec_bestFilter.l0 k x0 x1 x2 x8 (wrap64 (x8 + 1))) else (spec_bestFilter.l0 k x0 x1 x2 x7 (wrap64 (x8 + 1)))))))) else (some x7)
def spec_bestFilter.f (k : Nat) (l0 : List Int) (l1 : List Int) (a2 : Int) : Option (Int) := spec_bestFilter.l0 k l0 l1 a2 0 1
theorem spec_bestFilter.mono_l : ∀ k, (∀ y0 y1 y2 y3 y4, LeO (spec_bestFilter.l0 k y0 y1 y2 y3 y4) (spec_bestFilter.l0 (k + 1) y0 y1 y2 y3 y4))
 | 0 => fun _ _ _ _ _ r h => by simp [spec_bestFilter.l0] at h
 | k + 1 => by
  have ih0 := spec_bestFilter.mono_l k
  ·intro y0 y1 y2 y3 y4
   unfold spec_bestFilter.l0
   repeat' first | (with_reducible first | exact ih0 _ _ _ _ _ | exact spec_filterCost.mono _ _ | exact spec_filterRow.mono _ _ _ _ _ | exact lR | exact lN | refine lI ?_ ?_ | refine lB ?_ fun _ => ?_) | exact ih0 _ _ _ _ _ | exact spec_filterCost.mono _ _ | exact spec_filterRow.mono _ _ _ _ _ | exact lN | refine lI ?_ ?_ | refine lB ?_ fun _ => ?_
theorem spec_bestFilter.mono : ∀ a0 a1 a2 k, LeO (spec_bestFilter.f k a0 a1 a2) (spec_bestFilter.f (k + 1) a0 a1 a2) := by
 intro a0 a1 a2 k
 have ih0 := spec_bestFilter.mono_l k
 unfold spec_bestFilter.f
 repeat' first | (with_reducible first | exact ih0 _ _ _ _ _ | exact spec_filterCost.mono _ _ | exact spec_filterRow.mono _ _ _ _ _ | exact lR | exact lN | refine lI ?_ ?_ | refine lB ?_ fun _ => ?_) | exact ih0 _ _ _ _ _ | exact spec_filterCost.mono _ _ | exact spec_filterRow.mono _ _ _ _ _ | exact lN | refine lI ?_ ?_ | refine lB ?_ fun _ => ?_
set_option maxHeartbeats 8000000 in
set_option maxRecDepth 100000 in
theorem spec_bestFilter.calls (k : Nat) (A0 : Option Addr) (c0 : Nat) (l0 : List Int) (A1 : Option Addr) (c1 : Nat) (l1 : List Int) (a2 : Int) (r : Int) (w : World) (hr0 : Kd.C (Kd.int .i64) w A0 l0.length l0) (hc0 : l0.length ≤ c0) (hr1 : Kd.C (Kd.int .i64) w A1 l1.length l1) (hc1 : l1.length ≤ c1) (h : spec_bestFilter.f k l0 l1 a2 = some r) :
  Calls Try.prog 76 #[.slice A0 l0.length c0, .slice A1 l1.length c1, .int .i64 a2] w fun e w' => e = .returned (.int .i64 r) ∧ Below w.heap.size w w' := by
 have HR0 := aM hr0
 have HC0 := aM hc0
 clear hr0 hc0
 have HR1 := aM hr1
 have HC1 := aM hc1
 clear hr1 hc1
 have HB := aM (Below.refl w.heap.size w)
 unfold spec_bestFilter.f at h
 have H := h
 clear h
 have H' := aM H
 clear H
 go_enter Try.func76, Try.ntmps76
 go_wp2
 go_loopg [7, 8] k (fun kq v7 v8 w' => ∃ (x7_1 : Int) (x8_1 : Int), v7 = .int .i64 x7_1 ∧ v8 = .int .i64 x8_1 ∧ Aside0 (spec_bestFilter.l0 kq l0 l1 a2 x7_1 x8_1 = some r) ∧ Aside0 (kq ≤ k) ∧ Aside0 (Below w.heap.size w w'))
 case atStart => exact ⟨(0), (1), qE, qE, H', ⟨Nat.le_refl _⟩, ⟨by exact qW HB.out⟩⟩
 case round =>
  clear H'
  try clear c1
  obtain ⟨x7_1, x8_1, rfl, rfl, HA, HK1, HB⟩ := hrel
  cases gk with
  | zero => exact absurd HA.out (by simp [spec_bestFilter.l0])
  | succ k1 =>
   have H := HA.out
   clear HA
   simp only [spec_bestFilter.l0] at H
   by_cases c4 : x8_1 ≤ 4
   rotate_left
   ·rw [if_neg c4] at H
    have c4b0 : decide (x8_1 ≤ 4) = false := decide_eq_false c4
    clear c4
    obtain rfl := Option.some.inj H
    go_wp2
    go_ret
    exact ⟨qX, by exact qW HB.out⟩
   rw [if_pos c4] at H
   have c4b0 : decide (x8_1 ≤ 4) = true := decide_eq_true c4
   clear c4
   replace H := Option.bind_eq_some_iff.mp H
   obtain ⟨t202, A50, H⟩ := H
   replace H : ((spec_filterCost.f k1 t202).bind fun t205 => ((spec_filterRow.f k1 x7_1 l0 l1 a2).bind fun t206 => ((spec_filterCost.f k1 t206).bind fun t209 => (if t205 < t209 then (spec_bestFilter.l0 k1 l0 l1 a2 x8_1 (wrap64 (x8_1 + 1))) else (spec_bestFilter.l0 k1 l0 l1 a2 x7_1 (wrap64 (x8_1 + 1))))))) = some r := H
   have A5 := aM A50
   clear A50
   replace H := Option.bind_eq_some_iff.mp H
   obtain ⟨t205, A60, H⟩ := H
   replace H : ((spec_filterRow.f k1 x7_1 l0 l1 a2).bind fun t206 => ((spec_filterCost.f k1 t206).bind fun t209 => (if t205 < t209 then (spec_bestFilter.l0 k1 l0 l1 a2 x8_1 (wrap64 (x8_1 + 1))) else (spec_bestFilter.l0 k1 l0 l1 a2 x7_1 (wrap64 (x8_1 + 1)))))) = some r := H
   have A6 := aM A60
   clear A60
   replace H := Option.bind_eq_some_iff.mp H
   obtain ⟨t206, A70, H⟩ := H
   replace H : ((spec_filterCost.f k1 t206).bind fun t209 => (if t205 < t209 then (spec_bestFilter.l0 k1 l0 l1 a2 x8_1 (wrap64 (x8_1 + 1))) else (spec_bestFilter.l0 k1 l0 l1 a2 x7_1 (wrap64 (x8_1 + 1))))) = some r := H
   have A7 := aM A70
   clear A70
   replace H := Option.bind_eq_some_iff.mp H
   obtain ⟨t209, A80, H⟩ := H
   replace H : (if t205 < t209 then (spec_bestFilter.l0 k1 l0 l1 a2 x8_1 (wrap64 (x8_1 + 1))) else (spec_bestFilter.l0 k1 l0 l1 a2 x7_1 (wrap64 (x8_1 + 1)))) = some r := H
   have A8 := aM A80
   clear A80
   by_cases c9 : t205 < t209
   ·rw [if_pos c9] at H
    have c9b0 : decide (t205 < t209) = true := decide_eq_true c9
    clear c9
    have H' := aM H
    clear H
    go_wp2_with (first | ((with_reducible refine gate_callee (f := 77) rfl ?_); refine gL (some 17) Try.func77 #[.int .i64 x8_1, .slice A0 l0.length c0, .slice A1 l1.length c1, .int .i64 a2] ?_; (with_reducible refine (spec_filterRow.calls k1 x8_1 _ _ l0 _ _ l1 a2 t202 _ ?side1 ?side2 ?side3 ?side4 A5.out).mono ?_); (case side1 => exact qC (Kd.C_below HR0.out HB.out)); (case side2 => exact HC0.out); (case side3 => exact qC (Kd.C_below HR1.out HB.out)); (case side4 => exact HC1.out); rintro e w10 ⟨v203, rfl, ho0, hb⟩; refine ⟨_, rfl, ?_⟩; have HO204 := oR ho0 HB; replace HB := bS HB hb; clear hb ho0; obtain ⟨Ao11, co11, rfl⟩ := sL HO204) | ((with_reducible refine gate_callee (f := 87) rfl ?_); refine gL (some 18) Try.func87 #[.slice Ao11 t202.length co11] ?_; (with_reducible refine (spec_filterCost.calls k1 _ _ t202 t205 _ ?side1 ?side2 A6.out).mono ?_); (case side1 => exact qC (Kd.R_reads' HO204.out).2.2); (case side2 => exact (Kd.R_reads' HO204.out).2.1); rintro e w12 ⟨rfl, hb⟩; refine ⟨_, rfl, ?_⟩; replace HO204 := aM (Kd.R_below (qR HO204.out) hb); replace HB := bS HB hb; clear hb) | ((with_reducible refine gate_callee (f := 77) rfl ?_); refine gL (some 23) Try.func77 #[.int .i64 x7_1, .slice A0 l0.length c0, .slice A1 l1.length c1, .int .i64 a2] ?_; (with_reducible refine (spec_filterRow.calls k1 x7_1 _ _ l0 _ _ l1 a2 t206 _ ?side1 ?side2 ?side3 ?side4 A7.out).mono ?_); (case side1 => exact qC (Kd.C_below HR0.out HB.out)); (case side2 => exact HC0.out); (case side3 => exact qC (Kd.C_below HR1.out HB.out)); (case side4 => exact HC1.out); rintro e w13 ⟨v207, rfl, ho0, hb⟩; refine ⟨_, rfl, ?_⟩; have HO208 := nR ho0 HO204 HB; replace HO204 := aM (Kd.R_elder' (qR HO204.out) (Kd.R_base ho0) hb); replace HB := bS HB hb; clear hb ho0; obtain ⟨Ao14, co14, rfl⟩ := sL HO208) | ((with_reducible refine gate_callee (f := 87) rfl ?_); refine gL (some 24) Try.func87 #[.slice Ao14 t206.length co14] ?_; (with_reducible refine (spec_filterCost.calls k1 _ _ t206 t209 _ ?side1 ?side2 A8.out).mono ?_); (case side1 => exact qC (Kd.R_reads' HO208.out).2.2); (case side2 => exact (Kd.R_reads' HO208.out).2.1); rintro e w15 ⟨rfl, hb⟩; refine ⟨_, rfl, ?_⟩; replace HO204 := aM (Kd.R_below (qR HO204.out) hb); replace HO208 := aM (Kd.R_below (qR HO208.out) hb); replace HB := bS HB hb; clear hb))
    go_roundg k1
    case measure => have := HK1.out; omega
    case rel => exact ⟨(x8_1), (wrap64 (x8_1 + 1)), qE, qE, H', ⟨by have := HK1.out; omega⟩, ⟨by exact qW HB.out⟩⟩
   rw [if_neg c9] at H
   have c9b0 : decide (t205 < t209) = false := decide_eq_false c9
   clear c9
   have H' := aM H
   clear H
   go_wp2_with (first | ((with_reducible refine gate_callee (f := 77) rfl ?_); refine gL (some 17) Try.func77 #[.int .i64 x8_1, .slice A0 l0.length c0, .slice A1 l1.length c1, .int .i64 a2] ?_; (with_reducible refine (spec_filterRow.calls k1 x8_1 _ _ l0 _ _ l1 a2 t202 _ ?side1 ?side2 ?side3 ?side4 A5.out).mono ?_); (case side1 => exact qC (Kd.C_below HR0.out HB.out)); (case side2 => exact HC0.out); (case side3 => exact qC (Kd.C_below HR1.out HB.out)); (case side4 => exact HC1.out); rintro e w16 ⟨v203, rfl, ho0, hb⟩; refine ⟨_, rfl, ?_⟩; have HO204 := oR ho0 HB; replace HB := bS HB hb; clear hb ho0; obtain ⟨Ao17, co17, rfl⟩ := sL HO204) | ((with_reducible refine gate_callee (f := 87) rfl ?_); refine gL (some 18) Try.func87 #[.slice Ao17 t202.length co17] ?_; (with_reducible refine (spec_filterCost.calls k1 _ _ t202 t205 _ ?side1 ?side2 A6.out).mono ?_); (case side1 => exact qC (Kd.R_reads' HO204.out).2.2); (case side2 => exact (Kd.R_reads' HO204.out).2.1); rintro e w18 ⟨rfl, hb⟩; refine ⟨_, rfl, ?_⟩; replace HO204 := aM (Kd.R_below (qR HO204.out) hb); replace HB := bS HB hb; clear hb) | ((with_reducible refine gate_callee (f := 77) rfl ?_); refine gL (some 23) Try.func77 #[.int .i64 x7_1, .slice A0 l0.length c0, .slice A1 l1.length c1, .int .i64 a2] ?_; (with_reducible refine (spec_filterRow.calls k1 x7_1 _ _ l0 _ _ l1 a2 t206 _ ?side1 ?side2 ?side3 ?side4 A7.out).mono ?_); (case side1 => exact qC (Kd.C_below HR0.out HB.out)); (case side2 => exact HC0.out); (case side3 => exact qC (Kd.C_below HR1.out HB.out)); (case side4 => exact HC1.out); rintro e w19 ⟨v207, rfl, ho0, hb⟩; refine ⟨_, rfl, ?_⟩; have HO208 := nR ho0 HO204 HB; replace HO204 := aM (Kd.R_elder' (qR HO204.out) (Kd.R_base ho0) hb); replace HB := bS HB hb; clear hb ho0; obtain ⟨Ao20, co20, rfl⟩ := sL HO208) | ((with_reducible refine gate_callee (f := 87) rfl ?_); refine gL (some 24) Try.func87 #[.slice Ao20 t206.length co20] ?_; (with_reducible refine (spec_filterCost.calls k1 _ _ t206 t209 _ ?side1 ?side2 A8.out).mono ?_); (case side1 => exact qC (Kd.R_reads' HO208.out).2.2); (case side2 => exact (Kd.R_reads' HO208.out).2.1); rintro e w21 ⟨rfl, hb⟩; refine ⟨_, rfl, ?_⟩; replace HO204 := aM (Kd.R_below (qR HO204.out) hb); replace HO208 := aM (Kd.R_below (qR HO208.out) hb); replace HB := bS HB hb; clear hb))
   go_roundg k1
   case measure => have := HK1.out; omega
   case rel => exact ⟨(x7_1), (wrap64 (x8_1 + 1)), qE, qE, H', ⟨by have := HK1.out; omega⟩, ⟨by exact qW HB.out⟩⟩
def impl_size.f (a0 : Int) : Option (Int) := some (mx a0 (wrap64 (-a0)))
set_option maxHeartbeats 8000000 in
set_option maxRecDepth 100000 in
theorem impl_size.calls (a0 : Int) (r : Int) (w : World) (h : impl_size.f a0 = some r) :
  Calls Try.prog 91 #[.int .i64 a0] w fun e w' => e = .returned (.int .i64 r) ∧ Below w.heap.size w w' := by
 have HB := aM (Below.refl w.heap.size w)
 unfold impl_size.f at h
 have H := h
 clear h
 obtain ⟨ji2, hji2⟩ : ∃ j_ : Int, (mx a0 (wrap64 (-a0))) = j_ := ⟨_, rfl⟩
 replace H : (some ji2) = some r := by first | (rw [hji2] at H; exact H) | (simp only [hji2] at H ⊢; exact H)
 have hji2_ : (if a0 < (wrap64 (-a0)) then (wrap64 (-a0)) else a0) = ji2 := hji2
 obtain rfl := Option.some.inj H
 go_enter Try.func91, Try.ntmps91
 go_wp2
 go_ret
 exact ⟨by first | rfl | (simp [errW_none, errW_some] <;> rfl) | (simp only [← hji2]; first | rfl | (simp [errW_none, errW_some] <;> rfl)) | (simp [*, errW_none, errW_some] <;> rfl), by exact qW HB.out⟩
mutual
def impl_predicted.j0 : Nat → Int → Int → Int → Int → Option (Int)
 | 0, _, _, _, _ => none
 | k + 1, x0, x11, x12, x13 => if x0 = 1 then (some x11) else (if x0 = 2 then (some x12) else (if x0 = 3 then (some (wrap64 (Int.tdiv (wrap64 (x11 + x12)) 2))) else (if x0 = 4 then ((some (([x12, x13] : List Int) : List Int)).bind fun y362 => (impl_predicted.l0 k x11 x12 x13 x11 y362 (y362.length : Int) 0)) else (some 0))))
def impl_predicted.l0 : Nat → Int → Int → Int → Int → List Int → Int → Int → Option (Int)
 | 0, _, _, _, _, _, _, _ => none
 | k + 1, x11, x12, x13, x14, x54, x55, x56 => if x56 < x55 then (if 0 ≤ x56 then (if x56 < (x54.length : Int) then ((impl_size.f (wrap64 ((wrap64 ((wrap64 ((rd x54 x56) - x11)) - x12)) + x13))).bind fun t366 => ((impl_size.f (wrap64 ((wrap64 ((wrap64 (x14 - x11)) - x12)) + x13))).bind fun t367 => (if t366 < t367 then (impl_predicted.l0 k x11 x12 x13 (rd x54 x56) x54 x55 (wrap64 (x56 + 1))) else (impl_predicted.l0 k x11 x12 x13 x14 x54 x55 (wrap64 (x56 + 1)))))) else (none)) else (none)) else (some x14)
end
def impl_predicted.f (k : Nat) (a0 : Int) (l1 : List Int) (l2 : List Int) (a3 : Int) (a4 : Int) : Option (Int) := if 0 ≤ a4 then (if a4 < (l2.length : Int) then (if a4 ≥ a3 then (if 0 ≤ (wrap64 (a4 - a3)) then (if (wrap64 (a4 - a3)) < (l1.length : Int) then (if (wrap64 (a4 - a3)) < (l2.length : Int) then (impl_predicted.j0 k a0 (rd l1 (wrap64 (a4 - a3))) (rd l2 a4) (rd l2 (wrap64 (a4 - a3)))) else (none)) else (none)) else (none)) else (impl_predicted.j0 k a0 0 (rd l2 a4) 0)) else (none)) else (none)
theorem impl_predicted.mono_l : ∀ k, (∀ y0 y1 y2 y3, LeO (impl_predicted.j0 k y0 y1 y2 y3) (impl_predicted.j0 (k + 1) y0 y1 y2 y3)) ∧ (∀ y0 y1 y2 y3 y4 y5 y6, LeO (impl_predicted.l0 k y0 y1 y2 y3 y4 y5 y6) (impl_predicted.l0 (k + 1) y0 y1 y2 y3 y4 y5 y6))
 | 0 => ⟨fun _ _ _ _ r h => by simp [impl_predicted.j0] at h, fun _ _ _ _ _ _ _ r h => by simp [impl_predicted.l0] at h⟩
 | k + 1 => by
  obtain ⟨ih0, ih1⟩ := impl_predicted.mono_l k
  refine ⟨?_, ?_⟩
  all_goals intros
  all_goals first | unfold impl_predicted.j0 | unfold impl_predicted.l0
  all_goals repeat' first | (with_reducible first | exact ih0 _ _ _ _ | exact ih1 _ _ _ _ _ _ _ | exact lR | exact lN | refine lI ?_ ?_ | refine lB ?_ fun _ => ?_) | exact ih0 _ _ _ _ | exact ih1 _ _ _ _ _ _ _ | exact lN | refine lI ?_ ?_ | refine lB ?_ fun _ => ?_
theorem impl_predicted.mono : ∀ a0 a1 a2 a3 a4 k, LeO (impl_predicted.f k a0 a1 a2 a3 a4) (impl_predicted.f (k + 1) a0 a1 a2 a3 a4) := by
 intro a0 a1 a2 a3 a4 k
 obtain ⟨ih0, ih1⟩ := impl_predicted.mono_l k
 unfold impl_predicted.f
 repeat' first | (with_reducible first | exact ih0 _ _ _ _ | exact ih1 _ _ _ _ _ _ _ | exact lR | exact lN | refine lI ?_ ?_ | refine lB ?_ fun _ => ?_) | exact ih0 _ _ _ _ | exact ih1 _ _ _ _ _ _ _ | exact lN | refine lI ?_ ?_ | refine lB ?_ fun _ => ?_
set_option maxHeartbeats 8000000 in
set_option maxRecDepth 100000 in
theorem impl_predicted.calls (k : Nat) (a0 : Int) (A1 : Option Addr) (c1 : Nat) (l1 : List Int) (A2 : Option Addr) (c2 : Nat) (l2 : List Int) (a3 : Int) (a4 : Int) (r : Int) (w : World) (hr1 : Kd.C (Kd.int .i64) w A1 l1.length l1) (hc1 : l1.length ≤ c1) (hr2 : Kd.C (Kd.int .i64) w A2 l2.length l2) (hc2 : l2.length ≤ c2) (h : impl_predicted.f k a0 l1 l2 a3 a4 = some r) :
  Calls Try.prog 85 #[.int .i64 a0, .slice A1 l1.length c1, .slice A2 l2.length c2, .int .i64 a3, .int .i64 a4] w fun e w' => e = .returned (.int .i64 r) ∧ Below w.heap.size w w' := by
 have HR1 := aM hr1
 have HC1 := aM hc1
 clear hr1 hc1
 have HR2 := aM hr2
 have HC2 := aM hc2
 clear hr2 hc2
 have HB := aM (Below.refl w.heap.size w)
 unfold impl_predicted.f at h
 have H := h
 clear h
 replace H := iD H
 obtain ⟨c6b0, H⟩ := H
 replace H := iD H
 obtain ⟨c7b0, H⟩ := H
 have HC8 := aM H
 clear H
 obtain ⟨ad359, e359, hx359_0⟩ := Kd.at_int HR2.out a4 oD oD
 cases e359
 have p359 := eq_true (oD : 0 ≤ (a4 : Int))
 have q359 := eq_true (oD : a4 < (l2.length : Int))
 go_enter Try.func85, Try.ntmps85
 go_upto_if 23 with (fail)
 repeat (go_quiet (fail); go_upto_if 23 with (fail))
 go_cut [11, 13] (fun v11 v13 wc => ∃ (kq : Nat) (x11_7 : Int) (x13_7 : Int), v11 = .int .i64 x11_7 ∧ v13 = .int .i64 x13_7 ∧ Aside0 (impl_predicted.j0 kq a0 x11_7 (rd l2 a4) x13_7 = some r) ∧ Aside0 (kq ≤ k) ∧ Aside0 (Below w.heap.size w wc))
 case first =>
  have H := HC8.out
  clear HC8
  by_cases c9 : a4 ≥ a3
  rotate_left
  ·rw [if_neg c9] at H
   have c9b0 : decide (a3 ≤ a4) = false := decide_eq_false c9
   clear c9
   (first | rw [c9b0] | (simp only [i64_w, i32_w]; rw [c9b0]) | skip)
   have H' := aM H
   clear H
   go_wp2
   repeat (go_quiet (fail); try go_wp2)
   go_meet
   case rel => exact ⟨_, (0), (0), qE, qE, H', ⟨by first | omega | exact Nat.le_refl _⟩, ⟨by exact qW HB.out⟩⟩
  rw [if_pos c9] at H
  have c9b0 : decide (a3 ≤ a4) = true := decide_eq_true c9
  clear c9
  (first | rw [c9b0] | (simp only [i64_w, i32_w]; rw [c9b0]) | skip)
  obtain ⟨ji10, hji10⟩ : ∃ j_ : Int, (wrap64 (a4 - a3)) = j_ := ⟨_, rfl⟩
  replace H : (if 0 ≤ (ji10) then (if (ji10) < (l1.length : Int) then (if (ji10) < (l2.length : Int) then (impl_predicted.j0 k a0 (rd l1 (ji10)) (rd l2 a4) (rd l2 (ji10))) else (none)) else (none)) else (none)) = some r := by first | (rw [hji10] at H; exact H) | (simp only [hji10] at H ⊢; exact H)
  have hji10w : (IntKind.i64.wrap (a4 - a3)) = ji10 := (i64_w _).trans hji10
  replace H := iD H
  obtain ⟨c11b0, H⟩ := H
  replace H := iD H
  obtain ⟨c12b0, H⟩ := H
  replace H := iD H
  obtain ⟨c13b0, H⟩ := H
  have H' := aM H
  clear H
  obtain ⟨ad360, e360, hx360_0⟩ := Kd.at_int HR1.out (ji10) oD oD
  cases e360
  replace hx360_0 := bD HB hx360_0
  have p360 := eq_true (oD : 0 ≤ ((ji10) : Int))
  have q360 := eq_true (oD : (ji10) < (l1.length : Int))
  obtain ⟨ad361, e361, hx361_0⟩ := Kd.at_int HR2.out (ji10) oD oD
  obtain rfl : ad359 = ad361 := (by injection e361)
  replace hx361_0 := bD HB hx361_0
  have p361 := eq_true (oD : 0 ≤ ((ji10) : Int))
  have q361 := eq_true (oD : (ji10) < (l2.length : Int))
  go_wp2
  repeat (go_quiet (fail); try go_wp2)
  go_meet
  case rel => exact ⟨_, (rd l1 (ji10)), (rd l2 (ji10)), (by first | rfl | (simp; done) | (simp only [← hji10] <;> (first | rfl | simp)) | (simp [*]; done)), (by first | rfl | (simp; done) | (simp only [← hji10] <;> (first | rfl | simp)) | (simp [*]; done)), H', ⟨by first | omega | exact Nat.le_refl _⟩, ⟨by exact qW HB.out⟩⟩
 case rest =>
  clear HC8
  try clear c1
  try clear c2
  try clear c6b0
  try clear c7b0
  try clear c9
  try clear c9b0
  try clear c11b0
  try clear c12b0
  try clear c13b0
  try clear hx359_0
  try clear hx360_0
  try clear hx361_0
  try clear p359
  try clear p360
  try clear p361
  try clear q359
  try clear q360
  try clear q361
  obtain ⟨kq, x11_7, x13_7, rfl, rfl, HA, HJ7, HB⟩ := hcut
  cases kq with
  | zero => exact absurd HA.out (by simp [impl_predicted.j0])
  | succ kj7 =>
   have H := HA.out
   clear HA
   simp only [impl_predicted.j0] at H
   by_cases c14 : a0 = 1
   ·rw [if_pos c14] at H
    have c14b0 : (a0 == 1) = true := beq_iff_eq.mpr c14
    have c14b1 : (a0 != 1) = false := bne_eq_false_iff_eq.mpr c14
    clear c14
    obtain rfl := Option.some.inj H
    go_wp2
    repeat (go_quiet (fail); try go_wp2)
    go_ret
    exact ⟨qX, by exact qW HB.out⟩
   rw [if_neg c14] at H
   have c14b0 : (a0 == 1) = false := beq_eq_false_iff_ne.mpr c14
   have c14b1 : (a0 != 1) = true := bne_iff_ne.mpr c14
   by_cases c15 : a0 = 2
   ·rw [if_pos c15] at H
    have c15b0 : (a0 == 2) = true := beq_iff_eq.mpr c15
    have c15b1 : (a0 != 2) = false := bne_eq_false_iff_eq.mpr c15
    clear c15
    obtain rfl := Option.some.inj H
    go_wp2
    repeat (go_quiet (fail); try go_wp2)
    go_ret
    exact ⟨qX, by exact qW HB.out⟩
   rw [if_neg c15] at H
   have c15b0 : (a0 == 2) = false := beq_eq_false_iff_ne.mpr c15
   have c15b1 : (a0 != 2) = true := bne_iff_ne.mpr c15
   by_cases c16 : a0 = 3
   ·rw [if_pos c16] at H
    have c16b0 : (a0 == 3) = true := beq_iff_eq.mpr c16
    have c16b1 : (a0 != 3) = false := bne_eq_false_iff_eq.mpr c16
    clear c16
    obtain rfl := Option.some.inj H
    go_wp2
    repeat (go_quiet (fail); try go_wp2)
    go_ret
    exact ⟨qX, by exact qW HB.out⟩
   rw [if_neg c16] at H
   have c16b0 : (a0 == 3) = false := beq_eq_false_iff_ne.mpr c16
   have c16b1 : (a0 != 3) = true := bne_iff_ne.mpr c16
   by_cases c17 : a0 = 4
   rotate_left
   ·rw [if_neg c17] at H
    have c17b0 : (a0 == 4) = false := beq_eq_false_iff_ne.mpr c17
    have c17b1 : (a0 != 4) = true := bne_iff_ne.mpr c17
    obtain rfl := Option.some.inj H
    go_wp2
    repeat (go_quiet (fail); try go_wp2)
    go_ret
    exact ⟨qX, by exact qW HB.out⟩
   rw [if_pos c17] at H
   have c17b0 : (a0 == 4) = true := beq_iff_eq.mpr c17
   have c17b1 : (a0 != 4) = false := bne_eq_false_iff_eq.mpr c17
   clear c17
   obtain ⟨y362, hy362⟩ : ∃ y_ : List Int, y_ = (([(rd l2 a4), x13_7] : List Int)) := ⟨_, rfl⟩
   replace H : (impl_predicted.l0 kj7 x11_7 (rd l2 a4) x13_7 x11_7 y362 (y362.length : Int) 0) = some r := rY hy362 H
   have Ny362 := aM hy362
   clear hy362
   have H' := aM H
   clear H
   go_wp2_with (first | ((with_reducible refine gate_dst (N := 54) rfl ?_); refine iL ([(rd l2 a4), x13_7] : List Int) [.int .i64 (rd l2 a4), .int .i64 x13_7] ?_; intro v363 w18 ho19 hb hg_ hnew_; clear hg_ hnew_; (first | rw [← Ny362.out] at ho19 | (simp only [Int.reduceToNat] at ho19; rw [← Ny362.out] at ho19)); have HO364 := oR ho19 HB; replace HB := bS HB hb; clear hb ho19; obtain ⟨Ao20, co20, rfl⟩ := sL HO364))
   repeat (go_quiet (first | ((with_reducible refine gate_dst (N := 54) rfl ?_); refine iL ([(rd l2 a4), x13_7] : List Int) [.int .i64 (rd l2 a4), .int .i64 x13_7] ?_; intro v363 w18 ho19 hb hg_ hnew_; clear hg_ hnew_; (first | rw [← Ny362.out] at ho19 | (simp only [Int.reduceToNat] at ho19; rw [← Ny362.out] at ho19)); have HO364 := oR ho19 HB; replace HB := bS HB hb; clear hb ho19; obtain ⟨Ao20, co20, rfl⟩ := sL HO364)); try go_wp2_with (first | ((with_reducible refine gate_dst (N := 54) rfl ?_); refine iL ([(rd l2 a4), x13_7] : List Int) [.int .i64 (rd l2 a4), .int .i64 x13_7] ?_; intro v363 w18 ho19 hb hg_ hnew_; clear hg_ hnew_; (first | rw [← Ny362.out] at ho19 | (simp only [Int.reduceToNat] at ho19; rw [← Ny362.out] at ho19)); have HO364 := oR ho19 HB; replace HB := bS HB hb; clear hb ho19; obtain ⟨Ao20, co20, rfl⟩ := sL HO364)))
   go_loopg [14, 56] kj7 (fun kq v14 v56 w' => ∃ (x14_2 : Int) (x56_2 : Int), v14 = .int .i64 x14_2 ∧ v56 = .int .i64 x56_2 ∧ Aside0 (impl_predicted.l0 kq x11_7 (rd l2 a4) x13_7 x14_2 y362 (y362.length : Int) x56_2 = some r) ∧ Aside0 (kq ≤ kj7) ∧ Aside0 (Kd.R (Kd.int .i64) 3 w' w.heap.size (fun _ => True) (.slice Ao20 y362.length co20) y362) ∧ Aside0 (Below w.heap.size w w'))
   case atStart => exact ⟨(x11_7), (0), qE, qE, H', ⟨Nat.le_refl _⟩, ⟨by refine qR ?_; exact HO364.out⟩, ⟨by exact qW HB.out⟩⟩
   case round =>
    clear H'
    try clear c1
    try clear c2
    try clear c6b0
    try clear c7b0
    try clear c9
    try clear c9b0
    try clear c11b0
    try clear c12b0
    try clear c13b0
    try clear c14
    try clear c14b0
    try clear c14b1
    try clear c15
    try clear c15b0
    try clear c15b1
    try clear c16
    try clear c16b0
    try clear c16b1
    try clear c17
    try clear c17b0
    try clear c17b1
    try clear hx359_0
    try clear hx360_0
    try clear hx361_0
    try clear p359
    try clear p360
    try clear p361
    try clear q359
    try clear q360
    try clear q361
    obtain ⟨x14_2, x56_2, rfl, rfl, HA, HK2, HO_54, HB⟩ := hrel
    cases gk with
    | zero => exact absurd HA.out (by simp [impl_predicted.l0])
    | succ k2 =>
     have H := HA.out
     clear HA
     simp only [impl_predicted.l0] at H
     by_cases c21 : x56_2 < (y362.length : Int)
     rotate_left
     ·rw [if_neg c21] at H
      have c21b0 : decide (x56_2 < (y362.length : Int)) = false := decide_eq_false c21
      clear c21
      obtain rfl := Option.some.inj H
      go_wp2
      repeat (go_quiet (fail); try go_wp2)
      go_ret
      exact ⟨qX, by exact qW HB.out⟩
     rw [if_pos c21] at H
     have c21b0 : decide (x56_2 < (y362.length : Int)) = true := decide_eq_true c21
     clear c21
     replace H := iD H
     obtain ⟨c22b0, H⟩ := H
     replace H := iD H
     obtain ⟨c23b0, H⟩ := H
     replace H := Option.bind_eq_some_iff.mp H
     obtain ⟨t366, A240, H⟩ := H
     replace H : ((impl_size.f (wrap64 ((wrap64 ((wrap64 (x14_2 - x11_7)) - (rd l2 a4))) + x13_7))).bind fun t367 => (if t366 < t367 then (impl_predicted.l0 k2 x11_7 (rd l2 a4) x13_7 (rd y362 x56_2) y362 (y362.length : Int) (wrap64 (x56_2 + 1))) else (impl_predicted.l0 k2 x11_7 (rd l2 a4) x13_7 x14_2 y362 (y362.length : Int) (wrap64 (x56_2 + 1))))) = some r := H
     have A24 := aM A240
     clear A240
     replace H := Option.bind_eq_some_iff.mp H
     obtain ⟨t367, A250, H⟩ := H
     replace H : (if t366 < t367 then (impl_predicted.l0 k2 x11_7 (rd l2 a4) x13_7 (rd y362 x56_2) y362 (y362.length : Int) (wrap64 (x56_2 + 1))) else (impl_predicted.l0 k2 x11_7 (rd l2 a4) x13_7 x14_2 y362 (y362.length : Int) (wrap64 (x56_2 + 1)))) = some r := H
     have A25 := aM A250
     clear A250
     by_cases c26 : t366 < t367
     rotate_left
     ·rw [if_neg c26] at H
      have c26b0 : decide (t366 < t367) = false := decide_eq_false c26
      clear c26
      have H' := aM H
      clear H
      obtain ⟨ad365, e365, hx365_0⟩ := Kd.at_int (Kd.R_reads' HO_54.out).2.2 x56_2 oD oD
      cases e365
      have p365 := eq_true (oD : 0 ≤ (x56_2 : Int))
      have q365 := eq_true (oD : x56_2 < (y362.length : Int))
      go_wp2_with (first | (go_at_call 91; (with_reducible refine (impl_size.calls (wrap64 ((wrap64 ((wrap64 ((rd y362 x56_2) - x11_7)) - (rd l2 a4))) + x13_7)) t366 _ A24.out).mono ?_); rintro e w29 ⟨rfl, hb⟩; replace HO_54 := aM (Kd.R_below (qR HO_54.out) hb); replace HB := bS HB hb; clear hb) | (go_at_call 91; (with_reducible refine (impl_size.calls (wrap64 ((wrap64 ((wrap64 (x14_2 - x11_7)) - (rd l2 a4))) + x13_7)) t367 _ A25.out).mono ?_); rintro e w30 ⟨rfl, hb⟩; replace HO_54 := aM (Kd.R_below (qR HO_54.out) hb); replace HB := bS HB hb; clear hb))
      repeat (go_quiet (first | (go_at_call 91; (with_reducible refine (impl_size.calls (wrap64 ((wrap64 ((wrap64 ((rd y362 x56_2) - x11_7)) - (rd l2 a4))) + x13_7)) t366 _ A24.out).mono ?_); rintro e w29 ⟨rfl, hb⟩; replace HO_54 := aM (Kd.R_below (qR HO_54.out) hb); replace HB := bS HB hb; clear hb) | (go_at_call 91; (with_reducible refine (impl_size.calls (wrap64 ((wrap64 ((wrap64 (x14_2 - x11_7)) - (rd l2 a4))) + x13_7)) t367 _ A25.out).mono ?_); rintro e w30 ⟨rfl, hb⟩; replace HO_54 := aM (Kd.R_below (qR HO_54.out) hb); replace HB := bS HB hb; clear hb)); try go_wp2_with (first | (go_at_call 91; (with_reducible refine (impl_size.calls (wrap64 ((wrap64 ((wrap64 ((rd y362 x56_2) - x11_7)) - (rd l2 a4))) + x13_7)) t366 _ A24.out).mono ?_); rintro e w29 ⟨rfl, hb⟩; replace HO_54 := aM (Kd.R_below (qR HO_54.out) hb); replace HB := bS HB hb; clear hb) | (go_at_call 91; (with_reducible refine (impl_size.calls (wrap64 ((wrap64 ((wrap64 (x14_2 - x11_7)) - (rd l2 a4))) + x13_7)) t367 _ A25.out).mono ?_); rintro e w30 ⟨rfl, hb⟩; replace HO_54 := aM (Kd.R_below (qR HO_54.out) hb); replace HB := bS HB hb; clear hb)))
      go_roundg k2
      case measure => have := HJ7.out; have := HK2.out; omega
      case rel => exact ⟨(x14_2), (wrap64 (x56_2 + 1)), qE, qE, H', ⟨by have := HJ7.out; have := HK2.out; omega⟩, ⟨by refine qR ?_; exact HO_54.out⟩, ⟨by exact qW HB.out⟩⟩
     rw [if_pos c26] at H
     have c26b0 : decide (t366 < t367) = true := decide_eq_true c26
     clear c26
     have H' := aM H
     clear H
     obtain ⟨ad365, e365, hx365_0⟩ := Kd.at_int (Kd.R_reads' HO_54.out).2.2 x56_2 oD oD
     cases e365
     have p365 := eq_true (oD : 0 ≤ (x56_2 : Int))
     have q365 := eq_true (oD : x56_2 < (y362.length : Int))
     go_wp2_with (first | (go_at_call 91; (with_reducible refine (impl_size.calls (wrap64 ((wrap64 ((wrap64 ((rd y362 x56_2) - x11_7)) - (rd l2 a4))) + x13_7)) t366 _ A24.out).mono ?_); rintro e w27 ⟨rfl, hb⟩; replace HO_54 := aM (Kd.R_below (qR HO_54.out) hb); replace HB := bS HB hb; clear hb) | (go_at_call 91; (with_reducible refine (impl_size.calls (wrap64 ((wrap64 ((wrap64 (x14_2 - x11_7)) - (rd l2 a4))) + x13_7)) t367 _ A25.out).mono ?_); rintro e w28 ⟨rfl, hb⟩; replace HO_54 := aM (Kd.R_below (qR HO_54.out) hb); replace HB := bS HB hb; clear hb))
     repeat (go_quiet (first | (go_at_call 91; (with_reducible refine (impl_size.calls (wrap64 ((wrap64 ((wrap64 ((rd y362 x56_2) - x11_7)) - (rd l2 a4))) + x13_7)) t366 _ A24.out).mono ?_); rintro e w27 ⟨rfl, hb⟩; replace HO_54 := aM (Kd.R_below (qR HO_54.out) hb); replace HB := bS HB hb; clear hb) | (go_at_call 91; (with_reducible refine (impl_size.calls (wrap64 ((wrap64 ((wrap64 (x14_2 - x11_7)) - (rd l2 a4))) + x13_7)) t367 _ A25.out).mono ?_); rintro e w28 ⟨rfl, hb⟩; replace HO_54 := aM (Kd.R_below (qR HO_54.out) hb); replace HB := bS HB hb; clear hb)); try go_wp2_with (first | (go_at_call 91; (with_reducible refine (impl_size.calls (wrap64 ((wrap64 ((wrap64 ((rd y362 x56_2) - x11_7)) - (rd l2 a4))) + x13_7)) t366 _ A24.out).mono ?_); rintro e w27 ⟨rfl, hb⟩; replace HO_54 := aM (Kd.R_below (qR HO_54.out) hb); replace HB := bS HB hb; clear hb) | (go_at_call 91; (with_reducible refine (impl_size.calls (wrap64 ((wrap64 ((wrap64 (x14_2 - x11_7)) - (rd l2 a4))) + x13_7)) t367 _ A25.out).mono ?_); rintro e w28 ⟨rfl, hb⟩; replace HO_54 := aM (Kd.R_below (qR HO_54.out) hb); replace HB := bS HB hb; clear hb)))
     go_roundg k2
     case measure => have := HJ7.out; have := HK2.out; omega
     case rel => exact ⟨(rd y362 x56_2), (wrap64 (x56_2 + 1)), qE, qE, H', ⟨by have := HJ7.out; have := HK2.out; omega⟩, ⟨by refine qR ?_; exact HO_54.out⟩, ⟨by exact qW HB.out⟩⟩
def impl_filterRow.l0 : Nat → Int → List Int → List Int → Int → List Int → List Int → Int → Int → Option (List Int)
 | 0, _, _, _, _, _, _, _, _ => none
 | k + 1, x0, x1, x2, x3, x9, x13, x14, x15 => if x15 < x14 then (if 0 ≤ x15 then (if x15 < (x13.length : Int) then ((impl_predicted.f k x0 x1 x2 x3 x15).bind fun t397 => (if x9.length < 17592186044416 then (impl_filterRow.l0 k x0 x1 x2 x3 (x9 ++ [Int.tmod (wrap64 ((wrap64 ((rd x13 x15) - t397)) + 256)) 256]) x13 x14 (wrap64 (x15 + 1))) else (none))) else (none)) else (none)) else (some x9)
def impl_filterRow.f (k : Nat) (a0 : Int) (l1 : List Int) (l2 : List Int) (a3 : Int) : Option (List Int) := impl_filterRow.l0 k a0 l1 l2 a3 (([] : List Int)) l1 (l1.length : Int) 0
theorem impl_filterRow.mono_l : ∀ k, (∀ y0 y1 y2 y3 y4 y5 y6 y7, LeO (impl_filterRow.l0 k y0 y1 y2 y3 y4 y5 y6 y7) (impl_filterRow.l0 (k + 1) y0 y1 y2 y3 y4 y5 y6 y7))
 | 0 => fun _ _ _ _ _ _ _ _ r h => by simp [impl_filterRow.l0] at h
 | k + 1 => by
  have ih0 := impl_filterRow.mono_l k
  ·intro y0 y1 y2 y3 y4 y5 y6 y7
   unfold impl_filterRow.l0
   repeat' first | (with_reducible first | exact ih0 _ _ _ _ _ _ _ _ | exact impl_predicted.mono _ _ _ _ _ _ | exact lR | exact lN | refine lI ?_ ?_ | refine lB ?_ fun _ => ?_) | exact ih0 _ _ _ _ _ _ _ _ | exact impl_predicted.mono _ _ _ _ _ _ | exact lN | refine lI ?_ ?_ | refine lB ?_ fun _ => ?_
theorem impl_filterRow.mono : ∀ a0 a1 a2 a3 k, LeO (impl_filterRow.f k a0 a1 a2 a3) (impl_filterRow.f (k + 1) a0 a1 a2 a3) := by
 intro a0 a1 a2 a3 k
 have ih0 := impl_filterRow.mono_l k
 unfold impl_filterRow.f
 repeat' first | (with_reducible first | exact ih0 _ _ _ _ _ _ _ _ | exact impl_predicted.mono _ _ _ _ _ _ | exact lR | exact lN | refine lI ?_ ?_ | refine lB ?_ fun _ => ?_) | exact ih0 _ _ _ _ _ _ _ _ | exact impl_predicted.mono _ _ _ _ _ _ | exact lN | refine lI ?_ ?_ | refine lB ?_ fun _ => ?_
set_option maxHeartbeats 8000000 in
set_option maxRecDepth 100000 in
theorem impl_filterRow.calls (k : Nat) (a0 : Int) (A1 : Option Addr) (c1 : Nat) (l1 : List Int) (A2 : Option Addr) (c2 : Nat) (l2 : List Int) (a3 : Int) (r : List Int) (w : World) (hr1 : Kd.C (Kd.int .i64) w A1 l1.length l1) (hc1 : l1.length ≤ c1) (hr2 : Kd.C (Kd.int .i64) w A2 l2.length l2) (hc2 : l2.length ≤ c2) (h : impl_filterRow.f k a0 l1 l2 a3 = some r) :
  Calls Try.prog 79 #[.int .i64 a0, .slice A1 l1.length c1, .slice A2 l2.length c2, .int .i64 a3] w fun e w' => ∃ v0_ : Value, e = .returned (v0_) ∧ Kd.R (Kd.int .i64) 3 w' w.heap.size (fun _ => True) v0_ r ∧ Below w.heap.size w w' := by
 have HR1 := aM hr1
 have HC1 := aM hc1
 clear hr1 hc1
 have HR2 := aM hr2
 have HC2 := aM hc2
 clear hr2 hc2
 have HB := aM (Below.refl w.heap.size w)
 unfold impl_filterRow.f at h
 have H := h
 clear h
 obtain ⟨y393, hy393⟩ : ∃ y_ : List Int, y_ = (([] : List Int)) := ⟨_, rfl⟩
 replace H : (impl_filterRow.l0 k a0 l1 l2 a3 y393 l1 (l1.length : Int) 0) = some r := rY hy393 H
 have Ny393 := aM hy393
 clear hy393
 have H' := aM H
 clear H
 go_enter Try.func79, Try.ntmps79
 go_wp2_with (first | ((with_reducible refine gate_dst (N := 12) rfl ?_); refine iL ([] : List Int) [] ?_; intro v394 w5 ho6 hb hg_ hnew_; clear hg_ hnew_; (first | rw [← Ny393.out] at ho6 | (simp only [Int.reduceToNat] at ho6; rw [← Ny393.out] at ho6)); have HO395 := oR ho6 HB; replace HB := bS HB hb; clear hb ho6))
 go_loopg [9, 15] k (fun kq v9 v15 w' => ∃ (x9_1 : List Int) (x15_1 : Int), v15 = .int .i64 x15_1 ∧ Aside0 (impl_filterRow.l0 kq a0 l1 l2 a3 x9_1 l1 (l1.length : Int) x15_1 = some r) ∧ Aside0 (kq ≤ k) ∧ Aside0 (Kd.R (Kd.int .i64) 3 w' w.heap.size (fun _ => True) v9 x9_1) ∧ Aside0 (Below w.heap.size w w'))
 case atStart => exact ⟨(y393), (0), qE, H', ⟨Nat.le_refl _⟩, ⟨by refine qR ?_; exact HO395.out⟩, ⟨by exact qW HB.out⟩⟩
 case round =>
  clear H'
  try clear c1
  try clear c2
  obtain ⟨x9_1, x15_1, rfl, HA, HK1, HO_9, HB⟩ := hrel
  cases gk with
  | zero => exact absurd HA.out (by simp [impl_filterRow.l0])
  | succ k1 =>
   have H := HA.out
   clear HA
   simp only [impl_filterRow.l0] at H
   by_cases c7 : x15_1 < (l1.length : Int)
   rotate_left
   ·rw [if_neg c7] at H
    have c7b0 : decide (x15_1 < (l1.length : Int)) = false := decide_eq_false c7
    clear c7
    obtain rfl := Option.some.inj H
    go_wp2
    go_ret
    exact ⟨_, qX, by refine qR ?_; exact HO_9.out, by exact qW HB.out⟩
   rw [if_pos c7] at H
   have c7b0 : decide (x15_1 < (l1.length : Int)) = true := decide_eq_true c7
   clear c7
   replace H := iD H
   obtain ⟨c8b0, H⟩ := H
   replace H := iD H
   obtain ⟨c9b0, H⟩ := H
   replace H := Option.bind_eq_some_iff.mp H
   obtain ⟨t397, A100, H⟩ := H
   replace H : (if x9_1.length < 17592186044416 then (impl_filterRow.l0 k1 a0 l1 l2 a3 (x9_1 ++ [Int.tmod (wrap64 ((wrap64 ((rd l1 x15_1) - t397)) + 256)) 256]) l1 (l1.length : Int) (wrap64 (x15_1 + 1))) else (none)) = some r := H
   have A10 := aM A100
   clear A100
   replace H := iS H
   obtain ⟨c11, H⟩ := H
   have LMc11 := aM c11
   clear c11
   obtain ⟨y398, hy398⟩ : ∃ y_ : List Int, y_ = (x9_1 ++ [Int.tmod (wrap64 ((wrap64 ((rd l1 x15_1) - t397)) + 256)) 256]) := ⟨_, rfl⟩
   replace H : (impl_filterRow.l0 k1 a0 l1 l2 a3 y398 l1 (l1.length : Int) (wrap64 (x15_1 + 1))) = some r := rY hy398 H
   have Ny398 := aM hy398
   clear hy398
   have H' := aM H
   clear H
   obtain ⟨ad396, e396, hx396_0⟩ := Kd.at_int HR1.out x15_1 oD oD
   cases e396
   replace hx396_0 := bD HB hx396_0
   have p396 := eq_true (oD : 0 ≤ (x15_1 : Int))
   have q396 := eq_true (oD : x15_1 < (l1.length : Int))
   go_wp2_with (first | ((with_reducible refine gate_callee (f := 85) rfl ?_); refine gL (some 27) Try.func85 #[.int .i64 a0, .slice (some ad396) l1.length c1, .slice A2 l2.length c2, .int .i64 a3, .int .i64 x15_1] ?_; (with_reducible refine (impl_predicted.calls k1 a0 _ _ l1 _ _ l2 a3 x15_1 t397 _ ?side1 ?side2 ?side3 ?side4 A10.out).mono ?_); (case side1 => exact qC (Kd.C_below HR1.out HB.out)); (case side2 => exact HC1.out); (case side3 => exact qC (Kd.C_below HR2.out HB.out)); (case side4 => exact HC2.out); rintro e w12 ⟨rfl, hb⟩; refine ⟨_, rfl, ?_⟩; replace HO_9 := aM (Kd.R_below (qR HO_9.out) hb); replace HB := bS HB hb; clear hb) | ((with_reducible refine gate_builtin (b := .append) (xs := #[.tmp 20, .tmp 31]) rfl ?_); at_builtin; refine Kd.R_append (Kd.int .i64) (w0 := w) w.heap.size rfl (.tmp 20) (.tmp 31) 22 3 (.int .i64 0) 8 rfl Try.underlying22 info3 rfl (by decide) (by omega) u9 x9_1 (Int.tmod (wrap64 ((wrap64 ((rd l1 x15_1) - t397)) + 256)) 256) [.int .i64 (Int.tmod (wrap64 ((wrap64 ((rd l1 x15_1) - t397)) + 256)) 256)] (fun _ => True) (fun _ => False) rfl rfl ?aP (fun _ hk => hk.elim) ?aF ?aO ?aB ?aS ?aL ?_; (case aP => exact rfl); (case aB => exact (qW HB.out)); (case aF => exact (fun _ _ => trivial)); (case aO => exact (qR HO_9.out)); (case aS => exact (below_size (qW HB.out))); (case aL => have := LMc11.out; omega); intro v399 w13 ho hb hg hat; rw [← Ny398.out] at ho; replace HB := aM (hb); have HO400 := aM (ho); clear HO_9; clear ho hb hg hat))
   go_roundg k1
   case measure => have := HK1.out; omega
   case rel => exact ⟨(y398), (wrap64 (x15_1 + 1)), qE, H', ⟨by have := HK1.out; omega⟩, ⟨by refine qR ?_; exact HO400.out⟩, ⟨by exact qW HB.out⟩⟩
mutual
def impl_bestFilter.l0 : Nat → List Int → List Int → Int → Int → Int → Int → Option (Int)
 | 0, _, _, _, _, _, _ => none
 | k + 1, x0, x1, x2, x7, x8, x9 => if x9 ≤ 4 then ((impl_filterRow.f k x9 x0 x1 x2).bind fun t401 => (impl_bestFilter.l1 k x0 x1 x2 x7 x8 x9 0 t401 (t401.length : Int) 0)) else (some x7)
def impl_bestFilter.l1 : Nat → List Int → List Int → Int → Int → Int → Int → Int → List Int → Int → Int → Option (Int)
 | 0, _, _, _, _, _, _, _, _, _, _ => none
 | k + 1, x0, x1, x2, x7, x8, x9, x10, x21, x22, x23 => if x23 < x22 then (if 0 ≤ x23 then (if x23 < (x21.length : Int) then (impl_bestFilter.l1 k x0 x1 x2 x7 x8 x9 (wrap64 (x10 + (mn (rd x21 x23) (wrap64 (256 - (rd x21 x23)))))) x21 x22 (wrap64 (x23 + 1))) else (none)) else (none)) else (if x8 < 0 then (impl_bestFilter.l0 k x0 x1 x2 x9 x10 (wrap64 (x9 + 1))) else (if x10 < x8 then (impl_bestFilter.l0 k x0 x1 x2 x9 x10 (wrap64 (x9 + 1))) else (impl_bestFilter.l0 k x0 x1 x2 x7 x8 (wrap64 (x9 + 1)))))
end
def impl_bestFilter.f (k : Nat) (l0 : List Int) (l1 : List Int) (a2 : Int) : Option (Int) := impl_bestFilter.l0 k l0 l1 a2 0 (-1) 0
theorem impl_bestFilter.mono_l : ∀ k, (∀ y0 y1 y2 y3 y4 y5, LeO (impl_bestFilter.l0 k y0 y1 y2 y3 y4 y5) (impl_bestFilter.l0 (k + 1) y0 y1 y2 y3 y4 y5)) ∧ (∀ y0 y1 y2 y3 y4 y5 y6 y7 y8 y9, LeO (impl_bestFilter.l1 k y0 y1 y2 y3 y4 y5 y6 y7 y8 y9) (impl_bestFilter.l1 (k + 1) y0 y1 y2 y3 y4 y5 y6 y7 y8 y9))
 | 0 => ⟨fun _ _ _ _ _ _ r h => by simp [impl_bestFilter.l0] at h, fun _ _ _ _ _ _ _ _ _ _ r h => by simp [impl_bestFilter.l1] at h⟩
 | k + 1 => by
  obtain ⟨ih0, ih1⟩ := impl_bestFilter.mono_l k
  refine ⟨?_, ?_⟩
  all_goals intros
  all_goals first | unfold impl_bestFilter.l0 | unfold impl_bestFilter.l1
  all_goals repeat' first | (with_reducible first | exact ih0 _ _ _ _ _ _ | exact ih1 _ _ _ _ _ _ _ _ _ _ | exact impl_filterRow.mono _ _ _ _ _ | exact lR | exact lN | refine lI ?_ ?_ | refine lB ?_ fun _ => ?_) | exact ih0 _ _ _ _ _ _ | exact ih1 _ _ _ _ _ _ _ _ _ _ | exact impl_filterRow.mono _ _ _ _ _ | exact lN | refine lI ?_ ?_ | refine lB ?_ fun _ => ?_
theorem impl_bestFilter.mono : ∀ a0 a1 a2 k, LeO (impl_bestFilter.f k a0 a1 a2) (impl_bestFilter.f (k + 1) a0 a1 a2) := by
 intro a0 a1 a2 k
 obtain ⟨ih0, ih1⟩ := impl_bestFilter.mono_l k
 unfold impl_bestFilter.f
 repeat' first | (with_reducible first | exact ih0 _ _ _ _ _ _ | exact ih1 _ _ _ _ _ _ _ _ _ _ | exact impl_filterRow.mono _ _ _ _ _ | exact lR | exact lN | refine lI ?_ ?_ | refine lB ?_ fun _ => ?_) | exact ih0 _ _ _ _ _ _ | exact ih1 _ _ _ _ _ _ _ _ _ _ | exact impl_filterRow.mono _ _ _ _ _ | exact lN | refine lI ?_ ?_ | refine lB ?_ fun _ => ?_
set_option maxHeartbeats 8000000 in
set_option maxRecDepth 100000 in
theorem impl_bestFilter.calls (k : Nat) (A0 : Option Addr) (c0 : Nat) (l0 : List Int) (A1 : Option Addr) (c1 : Nat) (l1 : List Int) (a2 : Int) (r : Int) (w : World) (hr0 : Kd.C (Kd.int .i64) w A0 l0.length l0) (hc0 : l0.length ≤ c0) (hr1 : Kd.C (Kd.int .i64) w A1 l1.length l1) (hc1 : l1.length ≤ c1) (h : impl_bestFilter.f k l0 l1 a2 = some r) :
  Calls Try.prog 78 #[.slice A0 l0.length c0, .slice A1 l1.length c1, .int .i64 a2] w fun e w' => e = .returned (.int .i64 r) ∧ Below w.heap.size w w' := by
 have HR0 := aM hr0
 have HC0 := aM hc0
 clear hr0 hc0
 have HR1 := aM hr1
 have HC1 := aM hc1
 clear hr1 hc1
 have HB := aM (Below.refl w.heap.size w)
 unfold impl_bestFilter.f at h
 have H := h
 clear h
 have H' := aM H
 clear H
 go_enter Try.func78, Try.ntmps78
 go_wp2
 go_loopg [7, 8, 9] k (fun kq v7 v8 v9 w' => ∃ (x7_1 : Int) (x8_1 : Int) (x9_1 : Int), v7 = .int .i64 x7_1 ∧ v8 = .int .i64 x8_1 ∧ v9 = .int .i64 x9_1 ∧ Aside0 (impl_bestFilter.l0 kq l0 l1 a2 x7_1 x8_1 x9_1 = some r) ∧ Aside0 (kq ≤ k) ∧ Aside0 (Below w.heap.size w w'))
 case atStart => exact ⟨(0), ((-1)), (0), qE, qE, qE, H', ⟨Nat.le_refl _⟩, ⟨by exact qW HB.out⟩⟩
 case round =>
  clear H'
  try clear c1
  obtain ⟨x7_1, x8_1, x9_1, rfl, rfl, rfl, HA, HK1, HB⟩ := hrel
  cases gk with
  | zero => exact absurd HA.out (by simp [impl_bestFilter.l0])
  | succ k1 =>
   have H := HA.out
   clear HA
   simp only [impl_bestFilter.l0] at H
   by_cases c4 : x9_1 ≤ 4
   rotate_left
   ·rw [if_neg c4] at H
    have c4b0 : decide (x9_1 ≤ 4) = false := decide_eq_false c4
    clear c4
    obtain rfl := Option.some.inj H
    go_wp2
    go_ret
    exact ⟨qX, by exact qW HB.out⟩
   rw [if_pos c4] at H
   have c4b0 : decide (x9_1 ≤ 4) = true := decide_eq_true c4
   clear c4
   replace H := Option.bind_eq_some_iff.mp H
   obtain ⟨t401, A50, H⟩ := H
   replace H : (impl_bestFilter.l1 k1 l0 l1 a2 x7_1 x8_1 x9_1 0 t401 (t401.length : Int) 0) = some r := H
   have A5 := aM A50
   clear A50
   have H' := aM H
   clear H
   go_wp2_with (first | ((with_reducible refine gate_callee (f := 79) rfl ?_); refine gL (some 21) Try.func79 #[.int .i64 x9_1, .slice A0 l0.length c0, .slice A1 l1.length c1, .int .i64 a2] ?_; (with_reducible refine (impl_filterRow.calls k1 x9_1 _ _ l0 _ _ l1 a2 t401 _ ?side1 ?side2 ?side3 ?side4 A5.out).mono ?_); (case side1 => exact qC (Kd.C_below HR0.out HB.out)); (case side2 => exact HC0.out); (case side3 => exact qC (Kd.C_below HR1.out HB.out)); (case side4 => exact HC1.out); rintro e w6 ⟨v402, rfl, ho0, hb⟩; refine ⟨_, rfl, ?_⟩; have HO403 := oR ho0 HB; replace HB := bS HB hb; clear hb ho0; obtain ⟨Ao7, co7, rfl⟩ := sL HO403))
   go_loopg [10, 23] k1 (fun kq v10 v23 w' => ∃ (x10_2 : Int) (x23_2 : Int), v10 = .int .i64 x10_2 ∧ v23 = .int .i64 x23_2 ∧ Aside0 (impl_bestFilter.l1 kq l0 l1 a2 x7_1 x8_1 x9_1 x10_2 t401 (t401.length : Int) x23_2 = some r) ∧ Aside0 (kq ≤ k1) ∧ Aside0 (Kd.R (Kd.int .i64) 3 w' w.heap.size (fun _ => True) (.slice Ao7 t401.length co7) t401) ∧ Aside0 (Below w.heap.size w w'))
   case atStart => exact ⟨(0), (0), qE, qE, H', ⟨Nat.le_refl _⟩, ⟨by refine qR ?_; exact HO403.out⟩, ⟨by exact qW HB.out⟩⟩
   case round =>
    clear H'
    try clear c1
    try clear c4
    try clear c4b0
    obtain ⟨x10_2, x23_2, rfl, rfl, HA, HK2, HO_21, HB⟩ := hrel
    cases gk with
    | zero => exact absurd HA.out (by simp [impl_bestFilter.l1])
    | succ k2 =>
     have H := HA.out
     clear HA
     simp only [impl_bestFilter.l1] at H
     by_cases c8 : x23_2 < (t401.length : Int)
     ·rw [if_pos c8] at H
      have c8b0 : decide (x23_2 < (t401.length : Int)) = true := decide_eq_true c8
      clear c8
      replace H := iD H
      obtain ⟨c9b0, H⟩ := H
      replace H := iD H
      obtain ⟨c10b0, H⟩ := H
      obtain ⟨ji11, hji11⟩ : ∃ j_ : Int, (mn (rd t401 x23_2) (wrap64 (256 - (rd t401 x23_2)))) = j_ := ⟨_, rfl⟩
      replace H : (impl_bestFilter.l1 k2 l0 l1 a2 x7_1 x8_1 x9_1 (wrap64 (x10_2 + (ji11))) t401 (t401.length : Int) (wrap64 (x23_2 + 1))) = some r := by first | (rw [hji11] at H; exact H) | (simp only [hji11] at H ⊢; exact H)
      have hji11_ : (if (wrap64 (256 - (rd t401 x23_2))) < (rd t401 x23_2) then (wrap64 (256 - (rd t401 x23_2))) else (rd t401 x23_2)) = ji11 := hji11
      have H' := aM H
      clear H
      obtain ⟨ad404, e404, hx404_0⟩ := Kd.at_int (Kd.R_reads' HO_21.out).2.2 x23_2 oD oD
      cases e404
      have p404 := eq_true (oD : 0 ≤ (x23_2 : Int))
      have q404 := eq_true (oD : x23_2 < (t401.length : Int))
      go_wp2
      go_roundg k2
      case measure => have := HK1.out; have := HK2.out; omega
      case rel => exact ⟨(wrap64 (x10_2 + (ji11))), (wrap64 (x23_2 + 1)), (by first | rfl | (simp; done) | (simp only [← hji11] <;> (first | rfl | simp)) | (simp [*]; done)), qE, H', ⟨by have := HK1.out; have := HK2.out; omega⟩, ⟨by refine qR ?_; exact HO_21.out⟩, ⟨by exact qW HB.out⟩⟩
     rw [if_neg c8] at H
     have c8b0 : decide (x23_2 < (t401.length : Int)) = false := decide_eq_false c8
     clear c8
     by_cases c12 : x8_1 < 0
     ·rw [if_pos c12] at H
      have c12b0 : decide (x8_1 < 0) = true := decide_eq_true c12
      clear c12
      have H' := aM H
      clear H
      go_wp2
      go_roundg k2
      case measure => have := HK1.out; have := HK2.out; omega
      case rel => exact ⟨(x9_1), (x10_2), (wrap64 (x9_1 + 1)), qE, qE, qE, H', ⟨by have := HK1.out; have := HK2.out; omega⟩, ⟨by exact qW HB.out⟩⟩
     rw [if_neg c12] at H
     have c12b0 : decide (x8_1 < 0) = false := decide_eq_false c12
     clear c12
     by_cases c13 : x10_2 < x8_1
     ·rw [if_pos c13] at H
      have c13b0 : decide (x10_2 < x8_1) = true := decide_eq_true c13
      clear c13
      have H' := aM H
      clear H
      go_wp2
      go_roundg k2
      case measure => have := HK1.out; have := HK2.out; omega
      case rel => exact ⟨(x9_1), (x10_2), (wrap64 (x9_1 + 1)), qE, qE, qE, H', ⟨by have := HK1.out; have := HK2.out; omega⟩, ⟨by exact qW HB.out⟩⟩
     rw [if_neg c13] at H
     have c13b0 : decide (x10_2 < x8_1) = false := decide_eq_false c13
     clear c13
     have H' := aM H
     clear H
     go_wp2
     go_roundg k2
     case measure => have := HK1.out; have := HK2.out; omega
     case rel => exact ⟨(x7_1), (x8_1), (wrap64 (x9_1 + 1)), qE, qE, qE, H', ⟨by have := HK1.out; have := HK2.out; omega⟩, ⟨by exact qW HB.out⟩⟩
def spec_unfilterRow.l0 : Nat → Int → List Int → List Int → Int → List Int → Int → Option (List Int)
 | 0, _, _, _, _, _, _ => none
 | k + 1, x0, x1, x2, x3, x9, x10 => if x10 < (x1.length : Int) then (if 0 ≤ x10 then ((spec_guess.f k x0 x9 x2 x3 x10).bind fun t157 => (if x10 < (x9.length : Int) then (spec_unfilterRow.l0 k x0 x1 x2 x3 (x9.set (x10 : Int).toNat (Int.tmod (wrap64 ((rd x1 x10) + t157)) 256)) (wrap64 (x10 + 1))) else (none))) else (none)) else (some x9)
def spec_unfilterRow.f (k : Nat) (a0 : Int) (l1 : List Int) (l2 : List Int) (a3 : Int) : Option (List Int) := if 0 ≤ (l1.length : Int) then (if ((l1.length : Int) : Int).toNat ≤ 35184372088832 then (spec_unfilterRow.l0 k a0 l1 l2 a3 (List.replicate ((l1.length : Int) : Int).toNat 0) 0) else (none)) else (none)
theorem spec_unfilterRow.mono_l : ∀ k, (∀ y0 y1 y2 y3 y4 y5, LeO (spec_unfilterRow.l0 k y0 y1 y2 y3 y4 y5) (spec_unfilterRow.l0 (k + 1) y0 y1 y2 y3 y4 y5))
 | 0 => fun _ _ _ _ _ _ r h => by simp [spec_unfilterRow.l0] at h
 | k + 1 => by
  have ih0 := spec_unfilterRow.mono_l k
  ·intro y0 y1 y2 y3 y4 y5
   unfold spec_unfilterRow.l0
   repeat' first | (with_reducible first | exact ih0 _ _ _ _ _ _ | exact spec_guess.mono _ _ _ _ _ _ | exact lR | exact lN | refine lI ?_ ?_ | refine lB ?_ fun _ => ?_) | exact ih0 _ _ _ _ _ _ | exact spec_guess.mono _ _ _ _ _ _ | exact lN | refine lI ?_ ?_ | refine lB ?_ fun _ => ?_
theorem spec_unfilterRow.mono : ∀ a0 a1 a2 a3 k, LeO (spec_unfilterRow.f k a0 a1 a2 a3) (spec_unfilterRow.f (k + 1) a0 a1 a2 a3) := by
 intro a0 a1 a2 a3 k
 have ih0 := spec_unfilterRow.mono_l k
 unfold spec_unfilterRow.f
 repeat' first | (with_reducible first | exact ih0 _ _ _ _ _ _ | exact spec_guess.mono _ _ _ _ _ _ | exact lR | exact lN | refine lI ?_ ?_ | refine lB ?_ fun _ => ?_) | exact ih0 _ _ _ _ _ _ | exact spec_guess.mono _ _ _ _ _ _ | exact lN | refine lI ?_ ?_ | refine lB ?_ fun _ => ?_
def spec_unfilterRow.T5 : Bool × List (List Nat × List Nat) := (true, [([], []), ([], []), ([], []), ([], []), ([2, 3], [2, 3]), ([4], [4]), ([], []), ([], []), ([], []), ([], []), ([], []), ([6, 7, 8, 9, 10], [6, 7, 8, 9, 10]), ([5, 11], [5, 11]), ([12], [12]), ([0, 1, 0, 1, 2, 3, 4, 5, 6, 7, 8, 9, 10, 11, 12, 13], [0, 1]), ([14, 13, 11, 0, 1, 2, 3, 4, 5, 6, 7, 8, 9, 10, 11, 12, 13], [13, 14])])
def spec_unfilterRow.B5 : List Nat := [0, 0, 0, 0, 12, 28, 0, 0, 0, 0, 0, 1984, 4092, 8188, 16383, 32767]
theorem spec_unfilterRow.tab5 : rtab .any (opsOf Try.f62 5) = spec_unfilterRow.T5 := by kernel_rfl
theorem spec_unfilterRow.bits5 : waitsOk spec_unfilterRow.T5.2 spec_unfilterRow.B5 = true := by kernel_rfl
set_option maxHeartbeats 8000000 in
set_option maxRecDepth 100000 in
theorem spec_unfilterRow.calls (k : Nat) (a0 : Int) (A1 : Option Addr) (c1 : Nat) (l1 : List Int) (A2 : Option Addr) (c2 : Nat) (l2 : List Int) (a3 : Int) (r : List Int) (w : World) (hr1 : Kd.C (Kd.int .i64) w A1 l1.length l1) (hc1 : l1.length ≤ c1) (hr2 : Kd.C (Kd.int .i64) w A2 l2.length l2) (hc2 : l2.length ≤ c2) (h : spec_unfilterRow.f k a0 l1 l2 a3 = some r) :
  Calls Try.prog 62 #[.int .i64 a0, .slice A1 l1.length c1, .slice A2 l2.length c2, .int .i64 a3] w fun e w' => ∃ v0_ : Value, e = .returned (v0_) ∧ Kd.R (Kd.int .i64) 3 w' w.heap.size (fun _ => True) v0_ r ∧ Below w.heap.size w w' := by
 have HR1 := aM hr1
 have HC1 := aM hc1
 clear hr1 hc1
 have HR2 := aM hr2
 have HC2 := aM hc2
 clear hr2 hc2
 have HB := aM (Below.refl w.heap.size w)
 unfold spec_unfilterRow.f at h
 have H := h
 clear h
 replace H := iS H
 obtain ⟨c5, H⟩ := H
 have c5b0 := eq_true c5
 have c5b1 : decide (0 ≤ (l1.length : Int)) = true := decide_eq_true c5
 clear c5
 replace H := iS H
 obtain ⟨c6, H⟩ := H
 have c6b0 := eq_true c6
 have c6b1 : decide (((l1.length : Int) : Int).toNat ≤ 35184372088832) = true := decide_eq_true c6
 clear c6
 obtain ⟨y153, hy153⟩ : ∃ y_ : List Int, y_ = (List.replicate ((l1.length : Int) : Int).toNat 0) := ⟨_, rfl⟩
 replace H : (spec_unfilterRow.l0 k a0 l1 l2 a3 y153 0) = some r := rY hy153 H
 have Ny153 := aM hy153
 clear hy153
 have H' := aM H
 clear H
 go_enter Try.func62, Try.ntmps62
 go_wp2_with (first | ((with_reducible refine gate_dst (N := 13) rfl ?_); refine Kd.R_make (Kd.int .i64) _ 3 rfl (N := 13) rfl 22 _ _ rfl (l1.length : Int) rfl rfl Try.underlying22 (.int .i64 0) 8 info3 rfl (by decide) (by omega) 0 (ok := fun _ => True) (okp := fun _ => True) rfl (fun _ hk => hk) trivial oD (Nat.le_trans (Nat.mul_le_mul_right _ (oD : (l1.length : Int).toNat ≤ 35184372088832)) (by omega)) (Below.refl _ _) (Nat.le_refl _) ?_; intro v154 w7 ho8 hb hg_ hnew_; clear hg_ hnew_; (first | rw [← Ny153.out] at ho8 | (simp only [Int.reduceToNat] at ho8; rw [← Ny153.out] at ho8)); have HO155 := oR ho8 HB; replace HB := bS HB hb; clear hb ho8))
 go_loopg [10] k (fun kq v10 w' => ∃ (x9_1 : List Int) (x10_1 : Int), v10 = .int .i64 x10_1 ∧ Aside0 (spec_unfilterRow.l0 kq a0 l1 l2 a3 x9_1 x10_1 = some r) ∧ Aside0 (kq ≤ k) ∧ Aside0 (Kd.R (Kd.int .i64) 3 w' w.heap.size (fun _ => True) v154 x9_1) ∧ Aside0 (Below w.heap.size w w'))
 case atStart => exact ⟨(y153), (0), qE, H', ⟨Nat.le_refl _⟩, ⟨by refine qR ?_; exact HO155.out⟩, ⟨by exact qW HB.out⟩⟩
 case round =>
  clear H'
  try clear c1
  try clear c2
  try clear c5
  try clear c5b0
  try clear c5b1
  try clear c6
  try clear c6b0
  try clear c6b1
  obtain ⟨x9_1, x10_1, rfl, HA, HK1, HO_9, HB⟩ := hrel
  cases gk with
  | zero => exact absurd HA.out (by simp [spec_unfilterRow.l0])
  | succ k1 =>
   have H := HA.out
   clear HA
   simp only [spec_unfilterRow.l0] at H
   by_cases c9 : x10_1 < (l1.length : Int)
   rotate_left
   ·rw [if_neg c9] at H
    have c9b0 : decide (x10_1 < (l1.length : Int)) = false := decide_eq_false c9
    clear c9
    obtain rfl := Option.some.inj H
    go_wp2
    go_ret
    exact ⟨_, qX, by refine qR ?_; exact HO_9.out, by exact qW HB.out⟩
   rw [if_pos c9] at H
   have c9b0 : decide (x10_1 < (l1.length : Int)) = true := decide_eq_true c9
   clear c9
   replace H := iD H
   obtain ⟨c10b0, H⟩ := H
   replace H := Option.bind_eq_some_iff.mp H
   obtain ⟨t157, A110, H⟩ := H
   replace H : (if x10_1 < (x9_1.length : Int) then (spec_unfilterRow.l0 k1 a0 l1 l2 a3 (x9_1.set (x10_1 : Int).toNat (Int.tmod (wrap64 ((rd l1 x10_1) + t157)) 256)) (wrap64 (x10_1 + 1))) else (none)) = some r := H
   have A11 := aM A110
   clear A110
   replace H := iD H
   obtain ⟨c12b0, H⟩ := H
   obtain ⟨y158, hy158⟩ : ∃ y_ : List Int, y_ = (x9_1.set (x10_1 : Int).toNat (Int.tmod (wrap64 ((rd l1 x10_1) + t157)) 256)) := ⟨_, rfl⟩
   replace H : (spec_unfilterRow.l0 k1 a0 l1 l2 a3 y158 (wrap64 (x10_1 + 1))) = some r := rY hy158 H
   have Ny158 := aM hy158
   clear hy158
   have H' := aM H
   clear H
   try go_wp2
   replace HO_9 := aM (Kd.R_drew HO_9.out)
   replace HB := aM (below_drew1 HB.out)
   obtain ⟨ad156, e156, hx156_0⟩ := Kd.at_int HR1.out x10_1 oD oD
   have hw156_0 := hx156_0
   cases e156
   replace hx156_0 := bD HB hx156_0
   have p156 := eq_true (oD : 0 ≤ (x10_1 : Int))
   have q156 := eq_true (oD : x10_1 < (l1.length : Int))
   obtain ⟨Ao15, co15, eo15⟩ := Kd.R_slice HO_9.out
   (first | subst eo15 | (injection eo15 with f1_ f2_ f3_; have f4_ := f1_.symm; have f5_ := f3_.symm; clear f1_ f2_ f3_; subst f4_; subst f5_))
   refine start_ (n := 16) (S := fun w' => w'.cell? (ad156.add (x10_1).toNat) = some (.int .i64 (rd l1 x10_1))) (ds := [15]) (bA 16 0) (by kernel_rfl) rfl rfl ((bC HB hw156_0)) (fun hHeld => ?_); refine with_tabW spec_unfilterRow.tab5 spec_unfilterRow.bits5 (fun HT_ HW_ => ?_)
   generalize wr.drew = w14 at HO_9 HB hx156_0 hHeld ⊢
   refine pQ 0 20 HT_ (bA 16 1) ?_
   refine pQ 1 21 HT_ (bA 16 3) ?_
   refine pQ 2 22 HT_ (bA 16 7) ?_
   refine pQ 3 23 HT_ (bA 16 15) ?_
   refine pQ 4 24 HT_ (bA 16 31) ?_
   refine pQ 6 26 HT_ (bA 16 95) ?_
   refine pQ 7 27 HT_ (bA 16 223) ?_
   refine pQ 8 28 HT_ (bA 16 479) ?_
   refine pQ 9 29 HT_ (bA 16 991) ?_
   refine pQ 10 30 HT_ (bA 16 2015) ?_
   refine take_ (i := 5) (N := some 25) (v := ?_) (a' := ?_) (bA 16 2047) rfl rfl (take_ofW HT_.out HW_.out (by kernel_rfl)) (fun _ _ _ h => h) (Or.inl ⟨by rfl, ?_⟩) hHeld ?_ ?_
   rotate_left
   ·intro w' s0
    go_simp
    with_reducible rfl
   rotate_left
   ·refine pZ ?_
    rfl
   refine one_ (i := 11) (N := some 31) (bA 16 4095) rfl rfl (one_of HT_.out (by kernel_rfl)) (by decide) (fun K hK => ?_)
   refine goes_ Try.func80 (by kernel_rfl) rfl #[.int .i64 a0, .slice Ao15 x9_1.length co15, .slice A2 l2.length c2, .int .i64 a3, .int .i64 x10_1] (by rfl) rfl rfl qM ?_
   with_reducible refine (spec_guess.calls k1 a0 _ _ x9_1 _ _ l2 a3 x10_1 t157 _ ?side1 ?side2 ?side3 ?side4 A11.out).mono ?_
   (case side1 => exact qC (Kd.R_reads' HO_9.out).2.2)
   (case side2 => exact (Kd.R_reads' HO_9.out).2.1)
   (case side3 => exact qC (Kd.C_below HR2.out HB.out))
   (case side4 => exact HC2.out)
   rintro e w' ⟨rfl, ⟨nd, rfl⟩⟩
   refine ⟨_, rfl, ?_⟩
   have p13 : 0 ≤ (x10_1 : Int) := oD
   have q13 : (x10_1 : Int) < ((x9_1.length : Int) : Int) := oD
   obtain ⟨go13, co13, eo13, gb13, gl13, cl13, HG13⟩ := Kd.R_form HO_9.out (by omega)
   (first | cases eo13 | (injection eo13 with ea_ en_ ec_; (first | subst ea_ | (injection ea_ with ea_; subst ea_)); subst ec_; clear en_))
   have GB13 := aM gb13
   have GG13 := aM HG13
   clear gb13 gl13 HG13
   obtain ⟨hx13_0, hf13_0⟩ := Kd.R_celln 0 HO_9.out (x10_1 : Int) p13 q13
   replace p13 := eq_true p13
   replace q13 := eq_true q13
   have HP16 := Kd.R_putn HO_9.out (x10_1 : Int) (Int.tmod (wrap64 ((rd l1 x10_1) + t157)) 256)
   rw [← Ny158.out] at HP16
   have HQ16 := aM HP16
   clear HP16
   refine hK.out _ _ ((bC HB hw156_0)) (fun hHeld => ?_)
   clear hK K
   refine norm_ (a' := ?_) ?_ ?_
   rotate_left
   ·show Act.put _ (some 31) _ = _
    refine pZ ?_
    rfl
   refine pQ 12 32 HT_ (bA 16 8191) ?_
   refine pQ 13 33 HT_ (bA 16 16383) ?_
   refine pQ 14 34 HT_ (bA 16 32767) ?_
   refine last_ (i := 15) (N := none) (bA 16 65535) rfl rfl (one_of HT_.out (by kernel_rfl)) (by decide) (fun K hK => ?_)
   refine skip_ (w1 := ?_) (by rfl) rfl ?_ ?_
   rotate_left
   ·go_simp
    rfl
   refine hK.out _ _ ?_
   clear hK K
   refine done_ (done_of HT_.out (by kernel_rfl)) ?_
   try go_wp2
   go_roundg k1
   case measure => have := HK1.out; omega
   case rel => exact ⟨(y158), (wrap64 (x10_1 + 1)), qE, H', ⟨by have := HK1.out; omega⟩, ⟨by refine qR ?_; exact HQ16.out⟩, ⟨by exact qW HB.out⟩⟩
def impl_unfilterRow.l0 : Nat → Int → List Int → Int → List Int → List Int → Int → Int → Option (List Int)
 | 0, _, _, _, _, _, _, _ => none
 | k + 1, x0, x2, x3, x9, x13, x14, x15 => if x15 < x14 then (if 0 ≤ x15 then (if x15 < (x13.length : Int) then ((impl_predicted.f k x0 x9 x2 x3 x15).bind fun t372 => (if x9.length < 17592186044416 then (impl_unfilterRow.l0 k x0 x2 x3 (x9 ++ [Int.tmod (wrap64 ((rd x13 x15) + t372)) 256]) x13 x14 (wrap64 (x15 + 1))) else (none))) else (none)) else (none)) else (some x9)
def impl_unfilterRow.f (k : Nat) (a0 : Int) (l1 : List Int) (l2 : List Int) (a3 : Int) : Option (List Int) := impl_unfilterRow.l0 k a0 l2 a3 (([] : List Int)) l1 (l1.length : Int) 0
theorem impl_unfilterRow.mono_l : ∀ k, (∀ y0 y1 y2 y3 y4 y5 y6, LeO (impl_unfilterRow.l0 k y0 y1 y2 y3 y4 y5 y6) (impl_unfilterRow.l0 (k + 1) y0 y1 y2 y3 y4 y5 y6))
 | 0 => fun _ _ _ _ _ _ _ r h => by simp [impl_unfilterRow.l0] at h
 | k + 1 => by
  have ih0 := impl_unfilterRow.mono_l k
  ·intro y0 y1 y2 y3 y4 y5 y6
   unfold impl_unfilterRow.l0
   repeat' first | (with_reducible first | exact ih0 _ _ _ _ _ _ _ | exact impl_predicted.mono _ _ _ _ _ _ | exact lR | exact lN | refine lI ?_ ?_ | refine lB ?_ fun _ => ?_) | exact ih0 _ _ _ _ _ _ _ | exact impl_predicted.mono _ _ _ _ _ _ | exact lN | refine lI ?_ ?_ | refine lB ?_ fun _ => ?_
theorem impl_unfilterRow.mono : ∀ a0 a1 a2 a3 k, LeO (impl_unfilterRow.f k a0 a1 a2 a3) (impl_unfilterRow.f (k + 1) a0 a1 a2 a3) := by
 intro a0 a1 a2 a3 k
 have ih0 := impl_unfilterRow.mono_l k
 unfold impl_unfilterRow.f
 repeat' first | (with_reducible first | exact ih0 _ _ _ _ _ _ _ | exact impl_predicted.mono _ _ _ _ _ _ | exact lR | exact lN | refine lI ?_ ?_ | refine lB ?_ fun _ => ?_) | exact ih0 _ _ _ _ _ _ _ | exact impl_predicted.mono _ _ _ _ _ _ | exact lN | refine lI ?_ ?_ | refine lB ?_ fun _ => ?_
set_option maxHeartbeats 8000000 in
set_option maxRecDepth 100000 in
theorem impl_unfilterRow.calls (k : Nat) (a0 : Int) (A1 : Option Addr) (c1 : Nat) (l1 : List Int) (A2 : Option Addr) (c2 : Nat) (l2 : List Int) (a3 : Int) (r : List Int) (w : World) (hr1 : Kd.C (Kd.int .i64) w A1 l1.length l1) (hc1 : l1.length ≤ c1) (hr2 : Kd.C (Kd.int .i64) w A2 l2.length l2) (hc2 : l2.length ≤ c2) (h : impl_unfilterRow.f k a0 l1 l2 a3 = some r) :
  Calls Try.prog 68 #[.int .i64 a0, .slice A1 l1.length c1, .slice A2 l2.length c2, .int .i64 a3] w fun e w' => ∃ v0_ : Value, e = .returned (v0_) ∧ Kd.R (Kd.int .i64) 3 w' w.heap.size (fun _ => True) v0_ r ∧ Below w.heap.size w w' := by
 have HR1 := aM hr1
 have HC1 := aM hc1
 clear hr1 hc1
 have HR2 := aM hr2
 have HC2 := aM hc2
 clear hr2 hc2
 have HB := aM (Below.refl w.heap.size w)
 unfold impl_unfilterRow.f at h
 have H := h
 clear h
 obtain ⟨y368, hy368⟩ : ∃ y_ : List Int, y_ = (([] : List Int)) := ⟨_, rfl⟩
 replace H : (impl_unfilterRow.l0 k a0 l2 a3 y368 l1 (l1.length : Int) 0) = some r := rY hy368 H
 have Ny368 := aM hy368
 clear hy368
 have H' := aM H
 clear H
 go_enter Try.func68, Try.ntmps68
 go_wp2_with (first | ((with_reducible refine gate_dst (N := 12) rfl ?_); refine iL ([] : List Int) [] ?_; intro v369 w5 ho6 hb hg_ hnew_; clear hg_ hnew_; (first | rw [← Ny368.out] at ho6 | (simp only [Int.reduceToNat] at ho6; rw [← Ny368.out] at ho6)); have HO370 := oR ho6 HB; replace HB := bS HB hb; clear hb ho6))
 go_loopg [9, 15] k (fun kq v9 v15 w' => ∃ (x9_1 : List Int) (x15_1 : Int), v15 = .int .i64 x15_1 ∧ Aside0 (impl_unfilterRow.l0 kq a0 l2 a3 x9_1 l1 (l1.length : Int) x15_1 = some r) ∧ Aside0 (kq ≤ k) ∧ Aside0 (Kd.R (Kd.int .i64) 3 w' w.heap.size (fun _ => True) v9 x9_1) ∧ Aside0 (Below w.heap.size w w'))
 case atStart => exact ⟨(y368), (0), qE, H', ⟨Nat.le_refl _⟩, ⟨by refine qR ?_; exact HO370.out⟩, ⟨by exact qW HB.out⟩⟩
 case round =>
  clear H'
  try clear c1
  try clear c2
  obtain ⟨x9_1, x15_1, rfl, HA, HK1, HO_9, HB⟩ := hrel
  cases gk with
  | zero => exact absurd HA.out (by simp [impl_unfilterRow.l0])
  | succ k1 =>
   have H := HA.out
   clear HA
   simp only [impl_unfilterRow.l0] at H
   by_cases c7 : x15_1 < (l1.length : Int)
   rotate_left
   ·rw [if_neg c7] at H
    have c7b0 : decide (x15_1 < (l1.length : Int)) = false := decide_eq_false c7
    clear c7
    obtain rfl := Option.some.inj H
    go_wp2
    go_ret
    exact ⟨_, qX, by refine qR ?_; exact HO_9.out, by exact qW HB.out⟩
   rw [if_pos c7] at H
   have c7b0 : decide (x15_1 < (l1.length : Int)) = true := decide_eq_true c7
   clear c7
   replace H := iD H
   obtain ⟨c8b0, H⟩ := H
   replace H := iD H
   obtain ⟨c9b0, H⟩ := H
   replace H := Option.bind_eq_some_iff.mp H
   obtain ⟨t372, A100, H⟩ := H
   replace H : (if x9_1.length < 17592186044416 then (impl_unfilterRow.l0 k1 a0 l2 a3 (x9_1 ++ [Int.tmod (wrap64 ((rd l1 x15_1) + t372)) 256]) l1 (l1.length : Int) (wrap64 (x15_1 + 1))) else (none)) = some r := H
   have A10 := aM A100
   clear A100
   replace H := iS H
   obtain ⟨c11, H⟩ := H
   have LMc11 := aM c11
   clear c11
   obtain ⟨y373, hy373⟩ : ∃ y_ : List Int, y_ = (x9_1 ++ [Int.tmod (wrap64 ((rd l1 x15_1) + t372)) 256]) := ⟨_, rfl⟩
   replace H : (impl_unfilterRow.l0 k1 a0 l2 a3 y373 l1 (l1.length : Int) (wrap64 (x15_1 + 1))) = some r := rY hy373 H
   have Ny373 := aM hy373
   clear hy373
   have H' := aM H
   clear H
   obtain ⟨ad371, e371, hx371_0⟩ := Kd.at_int HR1.out x15_1 oD oD
   cases e371
   replace hx371_0 := bD HB hx371_0
   have p371 := eq_true (oD : 0 ≤ (x15_1 : Int))
   have q371 := eq_true (oD : x15_1 < (l1.length : Int))
   obtain ⟨Ao12, co12, rfl⟩ := sL HO_9
   go_wp2_with (first | ((with_reducible refine gate_callee (f := 85) rfl ?_); refine gL (some 27) Try.func85 #[.int .i64 a0, .slice Ao12 x9_1.length co12, .slice A2 l2.length c2, .int .i64 a3, .int .i64 x15_1] ?_; (with_reducible refine (impl_predicted.calls k1 a0 _ _ x9_1 _ _ l2 a3 x15_1 t372 _ ?side1 ?side2 ?side3 ?side4 A10.out).mono ?_); (case side1 => exact qC (Kd.R_reads' HO_9.out).2.2); (case side2 => exact (Kd.R_reads' HO_9.out).2.1); (case side3 => exact qC (Kd.C_below HR2.out HB.out)); (case side4 => exact HC2.out); rintro e w13 ⟨rfl, hb⟩; refine ⟨_, rfl, ?_⟩; replace HO_9 := aM (Kd.R_below (qR HO_9.out) hb); replace HB := bS HB hb; clear hb) | ((with_reducible refine gate_builtin (b := .append) (xs := #[.tmp 20, .tmp 30]) rfl ?_); at_builtin; refine Kd.R_append (Kd.int .i64) (w0 := w) w.heap.size rfl (.tmp 20) (.tmp 30) 22 3 (.int .i64 0) 8 rfl Try.underlying22 info3 rfl (by decide) (by omega) (.slice Ao12 x9_1.length co12) x9_1 (Int.tmod (wrap64 ((rd l1 x15_1) + t372)) 256) [.int .i64 (Int.tmod (wrap64 ((rd l1 x15_1) + t372)) 256)] (fun _ => True) (fun _ => False) rfl rfl ?aP (fun _ hk => hk.elim) ?aF ?aO ?aB ?aS ?aL ?_; (case aP => exact rfl); (case aB => exact (qW HB.out)); (case aF => exact (fun _ _ => trivial)); (case aO => exact (qR HO_9.out)); (case aS => exact (below_size (qW HB.out))); (case aL => have := LMc11.out; omega); intro v374 w14 ho hb hg hat; rw [← Ny373.out] at ho; replace HB := aM (hb); have HO375 := aM (ho); clear HO_9; clear ho hb hg hat))
   go_roundg k1
   case measure => have := HK1.out; omega
   case rel => exact ⟨(y373), (wrap64 (x15_1 + 1)), qE, H', ⟨by have := HK1.out; omega⟩, ⟨by refine qR ?_; exact HO375.out⟩, ⟨by exact qW HB.out⟩⟩
def spec_copyInts.f (l0 : List Int) : Option (List Int) := (some (([] : List Int) : List Int)).bind fun y181 => (if y181.length + l0.length < 17592186044416 then (some (y181 ++ l0)) else (none))
set_option maxHeartbeats 8000000 in
set_option maxRecDepth 100000 in
theorem spec_copyInts.calls (A0 : Option Addr) (c0 : Nat) (l0 : List Int) (r : List Int) (w : World) (hr0 : Kd.C (Kd.int .i64) w A0 l0.length l0) (hc0 : l0.length ≤ c0) (h : spec_copyInts.f l0 = some r) :
  Calls Try.prog 74 #[.slice A0 l0.length c0] w fun e w' => ∃ v0_ : Value, e = .returned (v0_) ∧ Kd.R (Kd.int .i64) 3 w' w.heap.size (fun _ => True) v0_ r ∧ Below w.heap.size w w' := by
 have HR0 := aM hr0
 have HC0 := aM hc0
 clear hr0 hc0
 have HB := aM (Below.refl w.heap.size w)
 unfold spec_copyInts.f at h
 have H := h
 clear h
 obtain ⟨y181, hy181⟩ : ∃ y_ : List Int, y_ = (([] : List Int)) := ⟨_, rfl⟩
 replace H : (if y181.length + l0.length < 17592186044416 then (some (y181 ++ l0)) else (none)) = some r := rY hy181 H
 have Ny181 := aM hy181
 clear hy181
 replace H := iS H
 obtain ⟨c2, H⟩ := H
 have LMc2 := aM c2
 clear c2
 obtain ⟨y184, hy184⟩ : ∃ y_ : List Int, y_ = (y181 ++ l0) := ⟨_, rfl⟩
 replace H : (some y184) = some r := rY hy184 H
 have Ny184 := aM hy184
 clear hy184
 obtain rfl := Option.some.inj H
 go_enter Try.func74, Try.ntmps74
 go_wp2_with (first | ((with_reducible refine gate_dst (N := 3) rfl ?_); refine iL ([] : List Int) [] ?_; intro v182 w3 ho4 hb hg_ hnew_; clear hg_ hnew_; (first | rw [← Ny181.out] at ho4 | (simp only [Int.reduceToNat] at ho4; rw [← Ny181.out] at ho4)); have HO183 := oR ho4 HB; replace HB := bS HB hb; clear hb ho4) | ((with_reducible refine gate_builtin (b := .append) (xs := #[.tmp 3, .tmp 4]) rfl ?_); at_builtin; refine Kd.R_append_rows (Kd.int .i64) (w0 := w) w.heap.size rfl (.tmp 3) (.tmp 4) 22 3 (.int .i64 0) 8 rfl Try.underlying22 info3 rfl (by decide) (by omega) v182 y181 l0 _ _ _ (fun _ => True) (fun _ => False) rfl rfl ?aO ?aR (fun _ _ h => h) (fun _ h => h.elim) ?aF ?aB ?aS ?aL ?_; (case aR => exact qC (Kd.C_below HR0.out HB.out)); (case aB => exact (qW HB.out)); (case aF => exact (fun _ _ => trivial)); (case aO => exact (qR HO183.out)); (case aS => exact (below_size (qW HB.out))); (case aL => have := LMc2.out; omega); intro v185 w5 ho hb hg hat; rw [← Ny184.out] at ho; replace HB := aM (hb); have HO186 := aM (ho); clear HO183; clear ho hb hg hat))
 go_ret
 exact ⟨_, qX, by refine qR ?_; exact HO186.out, by exact qW HB.out⟩
def spec_rowData.f (a0_0 : Int) (a0_1 : Int) (a0_2 : Int) (l0_3 : List Int) (a1 : Int) : Option (List Int) := if 0 ≤ (wrap64 (a1 * (wrap64 (a0_0 * a0_2)))) then (if (wrap64 (a1 * (wrap64 (a0_0 * a0_2)))) ≤ (wrap64 ((wrap64 (a1 + 1)) * (wrap64 (a0_0 * a0_2)))) then (if (wrap64 ((wrap64 (a1 + 1)) * (wrap64 (a0_0 * a0_2)))) ≤ (l0_3.length : Int) then ((spec_copyInts.f ((l0_3.take ((wrap64 ((wrap64 (a1 + 1)) * (wrap64 (a0_0 * a0_2)))) : Int).toNat).drop ((wrap64 (a1 * (wrap64 (a0_0 * a0_2)))) : Int).toNat)).bind fun t189 => (some t189)) else (none)) else (none)) else (none)
set_option maxHeartbeats 8000000 in
set_option maxRecDepth 100000 in
theorem spec_rowData.calls (a0_0 : Int) (a0_1 : Int) (a0_2 : Int) (A0_3 : Option Addr) (c0_3 : Nat) (l0_3 : List Int) (a1 : Int) (r : List Int) (w : World) (hr0_3 : Kd.C (Kd.int .i64) w A0_3 l0_3.length l0_3) (hc0_3 : l0_3.length ≤ c0_3) (h : spec_rowData.f a0_0 a0_1 a0_2 l0_3 a1 = some r) :
  Calls Try.prog 75 #[.agg #[.int .i64 a0_0, .int .i64 a0_1, .int .i64 a0_2, .slice A0_3 l0_3.length c0_3], .int .i64 a1] w fun e w' => ∃ v0_ : Value, e = .returned (v0_) ∧ Kd.R (Kd.int .i64) 3 w' w.heap.size (fun _ => True) v0_ r ∧ Below w.heap.size w w' := by
 have hu24 := Try.underlying24
 have HR0_3 := aM hr0_3
 have HC0_3 := aM hc0_3
 clear hr0_3 hc0_3
 have HB := aM (Below.refl w.heap.size w)
 unfold spec_rowData.f at h
 have H := h
 clear h
 obtain ⟨ji3, hji3⟩ : ∃ j_ : Int, (wrap64 (a1 * (wrap64 (a0_0 * a0_2)))) = j_ := ⟨_, rfl⟩
 replace H : (if 0 ≤ (ji3) then (if (ji3) ≤ (wrap64 ((wrap64 (a1 + 1)) * (wrap64 (a0_0 * a0_2)))) then (if (wrap64 ((wrap64 (a1 + 1)) * (wrap64 (a0_0 * a0_2)))) ≤ (l0_3.length : Int) then ((spec_copyInts.f ((l0_3.take ((wrap64 ((wrap64 (a1 + 1)) * (wrap64 (a0_0 * a0_2)))) : Int).toNat).drop ((ji3) : Int).toNat)).bind fun t189 => (some t189)) else (none)) else (none)) else (none)) = some r := by first | (rw [hji3] at H; exact H) | (simp only [hji3] at H ⊢; exact H)
 have hji3w : (IntKind.i64.wrap (a1 * (wrap64 (a0_0 * a0_2)))) = ji3 := (i64_w _).trans hji3
 replace H := iS H
 obtain ⟨c4, H⟩ := H
 have c4b0 := eq_true c4
 have c4b1 : decide (0 ≤ (ji3)) = true := decide_eq_true c4
 clear c4
 replace H := iS H
 obtain ⟨c5, H⟩ := H
 have c5b0 := eq_true c5
 have c5b1 : decide ((ji3) ≤ (wrap64 ((wrap64 (a1 + 1)) * (wrap64 (a0_0 * a0_2))))) = true := decide_eq_true c5
 replace H := iS H
 obtain ⟨c6, H⟩ := H
 have c6b0 := eq_true c6
 have c6b1 : decide ((wrap64 ((wrap64 (a1 + 1)) * (wrap64 (a0_0 * a0_2)))) ≤ (l0_3.length : Int)) = true := decide_eq_true c6
 replace H := Option.bind_eq_some_iff.mp H
 obtain ⟨t189, A70, H⟩ := H
 replace H : (some t189) = some r := H
 have A7 := aM A70
 clear A70
 obtain rfl := Option.some.inj H
 go_enter Try.func75, Try.ntmps75
 go_wp2_with (first | ((with_reducible refine gate_dst (N := 2) rfl ?_); refine bxE (N := 2) (cs := #[.int .i64 a0_0, .int .i64 a0_1, .int .i64 a0_2, .slice A0_3 l0_3.length c0_3]) (t := 24) ?_; intro gb187 hg w8 hbox hb; have BK187 := aM (hbox); have GW187 := gW hg HB; have GE187 := gW hg HB; replace HB := bS HB hb; clear hb hbox hg; obtain ⟨⟨hcz9_0, hcz9_1, hcz9_2, hcz9_3⟩, hfz9_0, hfz9_1, hfz9_2, hfz9_3⟩ := cf4 BK187; obtain ⟨i010, hi010, _, hsz10, _⟩ := info_parts info3; obtain ⟨A10, hcut10, hA10, hC10⟩ := print_mid_of (P := Try.prog) (Value.int .i64) 0 22 3 .i64 .i64 Try.underlying22 hi010 hsz10 A0_3 c0_3 l0_3 (ji3) (wrap64 ((wrap64 (a1 + 1)) * (wrap64 (a0_0 * a0_2)))) oD (by first | omega | exact oD) oD HC0_3.out; have HR188 := aM (Kd.C_of_reads (h1 := fun _ => rfl) (hA10 _ (Kd.reads_of_C HR0_3.out))); have HC188 := aM hC10; clear hA10 hC10 hi010 hsz10) | ((with_reducible refine gate_callee (f := 74) rfl ?_); refine goesL_ (some 21) rfl rfl Try.func74 (by kernel_rfl) rfl #[.slice A10 ((l0_3.take ((wrap64 ((wrap64 (a1 + 1)) * (wrap64 (a0_0 * a0_2)))) : Int).toNat).drop ((ji3) : Int).toNat).length (c0_3 - (ji3).toNat)] rfl (by (try simp only [List.map_toArray, List.map_cons, List.map_nil]); first | done | (rw [show ((l0_3.take ((wrap64 ((wrap64 (a1 + 1)) * (wrap64 (a0_0 * a0_2)))) : Int).toNat).drop ((ji3) : Int).toNat).length = ((wrap64 ((wrap64 (a1 + 1)) * (wrap64 (a0_0 * a0_2)))).toNat - (ji3).toNat) from (by rw [List.length_drop, List.length_take]; have h_ : ((wrap64 ((wrap64 (a1 + 1)) * (wrap64 (a0_0 * a0_2)))) : Int) ≤ (l0_3.length : Int) := oD; omega)] <;> rfl) | (simp only [hji3]; rfl) | rfl | (simp only [List.length_drop, List.length_take]; rfl)) ?_; (with_reducible refine (spec_copyInts.calls _ _ ((l0_3.take ((wrap64 ((wrap64 (a1 + 1)) * (wrap64 (a0_0 * a0_2)))) : Int).toNat).drop ((ji3) : Int).toNat) t189 _ ?side1 ?side2 A7.out).mono ?_); (case side1 => exact qC (Kd.C_below HR188.out HB.out)); (case side2 => exact HC188.out); rintro e w11 ⟨v190, rfl, ho0, hb⟩; refine ⟨_, rfl, ?_⟩; have HO191 := oR ho0 HB; replace BK187 := bB BK187 hb; replace HB := bS HB hb; clear hb ho0))
 go_ret
 exact ⟨_, by first | rfl | (simp [errW_none, errW_some] <;> rfl) | (simp only [← hji3]; first | rfl | (simp [errW_none, errW_some] <;> rfl)) | (simp [*, errW_none, errW_some] <;> rfl), by refine qR ?_; exact HO191.out, by exact qW HB.out⟩
def spec_filterImage.l0 : Nat → List Int → List Int → Int → Int → Int → Int → List Int → Option (List Int)
 | 0, _, _, _, _, _, _, _ => none
 | k + 1, x3, x4, x5, x211000, x211001, x211002, x211003 => if x5 < x211001 then ((spec_rowData.f x211000 x211001 x211002 x211003 x5).bind fun t217 => ((spec_bestFilter.f k t217 x4 x211002).bind fun t220 => (if x3.length < 17592186044416 then ((some (x3 ++ [t220] : List Int)).bind fun y221 => ((spec_filterRow.f k t220 t217 x4 x211002).bind fun t224 => (if y221.length + t224.length < 17592186044416 then (spec_filterImage.l0 k (y221 ++ t224) t217 (wrap64 (x5 + 1)) x211000 x211001 x211002 x211003) else (none)))) else (none)))) else (some x3)
def spec_filterImage.f (k : Nat) (a0_0 : Int) (a0_1 : Int) (a0_2 : Int) (l0_3 : List Int) : Option (List Int) := if 0 ≤ (wrap64 (a0_0 * a0_2)) then (if (wrap64 (a0_0 * a0_2) : Int).toNat ≤ 35184372088832 then (spec_filterImage.l0 k (([] : List Int)) (List.replicate (wrap64 (a0_0 * a0_2) : Int).toNat 0) 0 a0_0 a0_1 a0_2 l0_3) else (none)) else (none)
theorem spec_filterImage.mono_l : ∀ k, (∀ y0 y1 y2 y3 y4 y5 y6, LeO (spec_filterImage.l0 k y0 y1 y2 y3 y4 y5 y6) (spec_filterImage.l0 (k + 1) y0 y1 y2 y3 y4 y5 y6))
 | 0 => fun _ _ _ _ _ _ _ r h => by simp [spec_filterImage.l0] at h
 | k + 1 => by
  have ih0 := spec_filterImage.mono_l k
  ·intro y0 y1 y2 y3 y4 y5 y6
   unfold spec_filterImage.l0
   repeat' first | (with_reducible first | exact ih0 _ _ _ _ _ _ _ | exact spec_bestFilter.mono _ _ _ _ | exact spec_filterRow.mono _ _ _ _ _ | exact lR | exact lN | refine lI ?_ ?_ | refine lB ?_ fun _ => ?_) | exact ih0 _ _ _ _ _ _ _ | exact spec_bestFilter.mono _ _ _ _ | exact spec_filterRow.mono _ _ _ _ _ | exact lN | refine lI ?_ ?_ | refine lB ?_ fun _ => ?_
theorem spec_filterImage.mono : ∀ a0 a1 a2 a3 k, LeO (spec_filterImage.f k a0 a1 a2 a3) (spec_filterImage.f (k + 1) a0 a1 a2 a3) := by
 intro a0 a1 a2 a3 k
 have ih0 := spec_filterImage.mono_l k
 unfold spec_filterImage.f
 repeat' first | (with_reducible first | exact ih0 _ _ _ _ _ _ _ | exact spec_bestFilter.mono _ _ _ _ | exact spec_filterRow.mono _ _ _ _ _ | exact lR | exact lN | refine lI ?_ ?_ | refine lB ?_ fun _ => ?_) | exact ih0 _ _ _ _ _ _ _ | exact spec_bestFilter.mono _ _ _ _ | exact spec_filterRow.mono _ _ _ _ _ | exact lN | refine lI ?_ ?_ | refine lB ?_ fun _ => ?_
def spec_filterImage.T8 : Bool × List (List Nat × List Nat) := (true, [([], []), ([], []), ([1], [1]), ([0, 2], [0, 2]), ([], []), ([], []), ([], []), ([], []), ([7], [7]), ([4, 5, 6, 8, 3], [4, 5, 6, 8]), ([3, 9, 9], [3, 9]), ([10, 10, 0, 1, 2, 3, 4, 5, 6, 7, 8, 9, 10], [0, 10])])
def spec_filterImage.B8 : List Nat := [0, 0, 2, 7, 0, 0, 0, 0, 128, 511, 1023, 2047]
theorem spec_filterImage.tab8 : rtab .any (opsOf Try.f55 8) = spec_filterImage.T8 := by kernel_rfl
theorem spec_filterImage.bits8 : waitsOk spec_filterImage.T8.2 spec_filterImage.B8 = true := by kernel_rfl
set_option maxHeartbeats 8000000 in
set_option maxRecDepth 100000 in
theorem spec_filterImage.calls (k : Nat) (a0_0 : Int) (a0_1 : Int) (a0_2 : Int) (A0_3 : Option Addr) (c0_3 : Nat) (l0_3 : List Int) (r : List Int) (w : World) (hr0_3 : Kd.C (Kd.int .i64) w A0_3 l0_3.length l0_3) (hc0_3 : l0_3.length ≤ c0_3) (h : spec_filterImage.f k a0_0 a0_1 a0_2 l0_3 = some r) :
  Calls Try.prog 55 #[.agg #[.int .i64 a0_0, .int .i64 a0_1, .int .i64 a0_2, .slice A0_3 l0_3.length c0_3]] w fun e w' => ∃ v0_ : Value, e = .returned (v0_) ∧ Kd.R (Kd.int .i64) 3 w' w.heap.size (fun _ => True) v0_ r ∧ Below w.heap.size w w' := by
 have hu24 := Try.underlying24
 have HR0_3 := aM hr0_3
 have HC0_3 := aM hc0_3
 clear hr0_3 hc0_3
 have HB := aM (Below.refl w.heap.size w)
 unfold spec_filterImage.f at h
 have H := h
 clear h
 obtain ⟨y211, hy211⟩ : ∃ y_ : List Int, y_ = (([] : List Int)) := ⟨_, rfl⟩
 replace H : (if 0 ≤ (wrap64 (a0_0 * a0_2)) then (if (wrap64 (a0_0 * a0_2) : Int).toNat ≤ 35184372088832 then (spec_filterImage.l0 k y211 (List.replicate (wrap64 (a0_0 * a0_2) : Int).toNat 0) 0 a0_0 a0_1 a0_2 l0_3) else (none)) else (none)) = some r := rY hy211 H
 have Ny211 := aM hy211
 clear hy211
 obtain ⟨ji2, hji2⟩ : ∃ j_ : Int, (wrap64 (a0_0 * a0_2)) = j_ := ⟨_, rfl⟩
 replace H : (if 0 ≤ (ji2) then (if (ji2 : Int).toNat ≤ 35184372088832 then (spec_filterImage.l0 k y211 (List.replicate (ji2 : Int).toNat 0) 0 a0_0 a0_1 a0_2 l0_3) else (none)) else (none)) = some r := by first | (rw [hji2] at H; exact H) | (simp only [hji2] at H ⊢; exact H)
 have hji2w : (IntKind.i64.wrap (a0_0 * a0_2)) = ji2 := (i64_w _).trans hji2
 replace H := iS H
 obtain ⟨c3, H⟩ := H
 have c3b0 := eq_true c3
 have c3b1 : decide (0 ≤ (ji2)) = true := decide_eq_true c3
 clear c3
 replace H := iS H
 obtain ⟨c4, H⟩ := H
 have c4b0 := eq_true c4
 have c4b1 : decide ((ji2 : Int).toNat ≤ 35184372088832) = true := decide_eq_true c4
 clear c4
 obtain ⟨y214, hy214⟩ : ∃ y_ : List Int, y_ = (List.replicate (ji2 : Int).toNat 0) := ⟨_, rfl⟩
 replace H : (spec_filterImage.l0 k y211 y214 0 a0_0 a0_1 a0_2 l0_3) = some r := rY hy214 H
 have Ny214 := aM hy214
 clear hy214
 have H' := aM H
 clear H
 go_enter Try.func55, Try.ntmps55
 go_wp2_with (first | ((with_reducible refine gate_dst (N := 1) rfl ?_); refine bxE (N := 1) (cs := #[.int .i64 a0_0, .int .i64 a0_1, .int .i64 a0_2, .slice A0_3 l0_3.length c0_3]) (t := 24) ?_; intro gb210 hg w5 hbox hb; have BK210 := aM (hbox); have GW210 := gW hg HB; have GE210 := gW hg HB; replace HB := bS HB hb; clear hb hbox hg) | ((with_reducible refine gate_dst (N := 8) rfl ?_); refine iL ([] : List Int) [] ?_; intro v212 w6 ho7 hb hg_ hnew_; clear hg_ hnew_; (first | rw [← Ny211.out] at ho7 | (simp only [Int.reduceToNat] at ho7; rw [← Ny211.out] at ho7)); have HO213 := oR ho7 HB; replace BK210 := bB BK210 hb; replace HB := bS HB hb; clear hb ho7; obtain ⟨⟨hcz8_0, hcz8_1, hcz8_2, hcz8_3⟩, hfz8_0, hfz8_1, hfz8_2, hfz8_3⟩ := cf4 BK210) | ((with_reducible refine gate_dst (N := 14) rfl ?_); refine Kd.R_make (Kd.int .i64) _ 3 rfl (N := 14) rfl 22 _ _ rfl ji2 rfl rfl Try.underlying22 (.int .i64 0) 8 info3 rfl (by decide) (by omega) 0 (ok := fun _ => True) (okp := fun _ => True) rfl (fun _ hk => hk) trivial oD (Nat.le_trans (Nat.mul_le_mul_right _ (oD : ji2.toNat ≤ 35184372088832)) (by omega)) (Below.refl _ _) (Nat.le_refl _) ?_; intro v215 w9 ho10 hb hg_ hnew_; clear hg_ hnew_; (first | rw [← Ny214.out] at ho10 | (simp only [Int.reduceToNat] at ho10; rw [← Ny214.out] at ho10)); have HO216 := nR ho10 HO213 HB; replace HO213 := aM (Kd.R_elder' (qR HO213.out) (Kd.R_base ho10) hb); replace BK210 := bB BK210 hb; replace HB := bS HB hb; clear hb ho10))
 go_loopg [3, 4, 5] k (fun kq v3 v4 v5 w' => ∃ (x3_1 : List Int) (x4_1 : List Int) (x5_1 : Int), v5 = .int .i64 x5_1 ∧ Aside0 (spec_filterImage.l0 kq x3_1 x4_1 x5_1 a0_0 a0_1 a0_2 l0_3 = some r) ∧ Aside0 (kq ≤ k) ∧ Aside0 (Kd.R (Kd.int .i64) 3 w' w.heap.size (fun k_ => some k_ ≠ (v4 : Value).ownBlock) v3 x3_1) ∧ Aside0 (Kd.R (Kd.int .i64) 3 w' w.heap.size (fun k_ => some k_ ≠ (v3 : Value).ownBlock) v4 x4_1) ∧ Aside0 (w'.heap[gb210]? = some (.cells #[.int .i64 a0_0, .int .i64 a0_1, .int .i64 a0_2, (.slice A0_3 l0_3.length c0_3)] 24 (0, 0))) ∧ Aside0 (Below w.heap.size w w'))
 case atStart => exact ⟨(y211), (y214), (0), qE, H', ⟨Nat.le_refl _⟩, ⟨by refine qR ?_; exact Kd.R_mono HO213.out (fun _ hk => hk.2)⟩, ⟨by refine qR ?_; exact Kd.R_mono HO216.out (fun _ hk => hk.2)⟩, ⟨by refine qB ?_; exact BK210.out⟩, ⟨by exact qW HB.out⟩⟩
 case round =>
  clear H'
  try clear c3
  try clear c3b0
  try clear c3b1
  try clear c4
  try clear c4b0
  try clear c4b1
  try clear hcz8_0 hcz8_1 hcz8_2 hcz8_3 hfz8_0 hfz8_1 hfz8_2 hfz8_3
  obtain ⟨x3_1, x4_1, x5_1, rfl, HA, HK1, HO_3, HO_4, BK210, HB⟩ := hrel
  cases gk with
  | zero => exact absurd HA.out (by simp [spec_filterImage.l0])
  | succ k1 =>
   have H := HA.out
   clear HA
   simp only [spec_filterImage.l0] at H
   by_cases c11 : x5_1 < a0_1
   rotate_left
   ·rw [if_neg c11] at H
    have c11b0 : decide (x5_1 < a0_1) = false := decide_eq_false c11
    clear c11
    obtain rfl := Option.some.inj H
    obtain ⟨⟨hcz28_0, hcz28_1, hcz28_2, hcz28_3⟩, hfz28_0, hfz28_1, hfz28_2, hfz28_3⟩ := cf4 BK210
    go_wp2
    go_ret
    exact ⟨_, by first | rfl | (simp [errW_none, errW_some] <;> rfl) | (simp only [← hji2]; first | rfl | (simp [errW_none, errW_some] <;> rfl)) | (simp [*, errW_none, errW_some] <;> rfl), by refine qR ?_; exact Kd.R_mono HO_3.out (fun _ hk => trivial), by exact qW HB.out⟩
   rw [if_pos c11] at H
   have c11b0 : decide (x5_1 < a0_1) = true := decide_eq_true c11
   clear c11
   replace H := Option.bind_eq_some_iff.mp H
   obtain ⟨t217, A120, H⟩ := H
   replace H : ((spec_bestFilter.f k1 t217 x4_1 a0_2).bind fun t220 => (if x3_1.length < 17592186044416 then ((some (x3_1 ++ [t220] : List Int)).bind fun y221 => ((spec_filterRow.f k1 t220 t217 x4_1 a0_2).bind fun t224 => (if y221.length + t224.length < 17592186044416 then (spec_filterImage.l0 k1 (y221 ++ t224) t217 (wrap64 (x5_1 + 1)) a0_0 a0_1 a0_2 l0_3) else (none)))) else (none))) = some r := H
   have A12 := aM A120
   clear A120
   replace H := Option.bind_eq_some_iff.mp H
   obtain ⟨t220, A130, H⟩ := H
   replace H : (if x3_1.length < 17592186044416 then ((some (x3_1 ++ [t220] : List Int)).bind fun y221 => ((spec_filterRow.f k1 t220 t217 x4_1 a0_2).bind fun t224 => (if y221.length + t224.length < 17592186044416 then (spec_filterImage.l0 k1 (y221 ++ t224) t217 (wrap64 (x5_1 + 1)) a0_0 a0_1 a0_2 l0_3) else (none)))) else (none)) = some r := H
   have A13 := aM A130
   clear A130
   replace H := iS H
   obtain ⟨c14, H⟩ := H
   have LMc14 := aM c14
   clear c14
   obtain ⟨y221, hy221⟩ : ∃ y_ : List Int, y_ = (x3_1 ++ [t220]) := ⟨_, rfl⟩
   replace H : ((spec_filterRow.f k1 t220 t217 x4_1 a0_2).bind fun t224 => (if y221.length + t224.length < 17592186044416 then (spec_filterImage.l0 k1 (y221 ++ t224) t217 (wrap64 (x5_1 + 1)) a0_0 a0_1 a0_2 l0_3) else (none))) = some r := rY hy221 H
   have Ny221 := aM hy221
   clear hy221
   replace H := Option.bind_eq_some_iff.mp H
   obtain ⟨t224, A150, H⟩ := H
   replace H : (if y221.length + t224.length < 17592186044416 then (spec_filterImage.l0 k1 (y221 ++ t224) t217 (wrap64 (x5_1 + 1)) a0_0 a0_1 a0_2 l0_3) else (none)) = some r := H
   have A15 := aM A150
   clear A150
   replace H := iS H
   obtain ⟨c16, H⟩ := H
   have LMc16 := aM c16
   clear c16
   obtain ⟨y227, hy227⟩ : ∃ y_ : List Int, y_ = (y221 ++ t224) := ⟨_, rfl⟩
   replace H : (spec_filterImage.l0 k1 y227 t217 (wrap64 (x5_1 + 1)) a0_0 a0_1 a0_2 l0_3) = some r := rY hy227 H
   have Ny227 := aM hy227
   clear hy227
   have H' := aM H
   clear H
   obtain ⟨⟨hcz17_0, hcz17_1, hcz17_2, hcz17_3⟩, hfz17_0, hfz17_1, hfz17_2, hfz17_3⟩ := cf4 BK210
   try go_wp2_with (first | ((with_reducible refine gate_callee (f := 75) rfl ?_); refine gL (some 23) Try.func75 #[.agg #[.int .i64 a0_0, .int .i64 a0_1, .int .i64 a0_2, .slice A0_3 l0_3.length c0_3], .int .i64 x5_1] ?_; (with_reducible refine (spec_rowData.calls a0_0 a0_1 a0_2 _ _ l0_3 x5_1 t217 _ ?side1 ?side2 A12.out).mono ?_); (case side1 => exact qC (Kd.C_below HR0_3.out HB.out)); (case side2 => exact HC0_3.out); rintro e w18 ⟨v218, rfl, ho0, hb⟩; refine ⟨_, rfl, ?_⟩; have HO219 := aM (Kd.R_lower (Kd.R_new' (Kd.R_new' ho0 (Kd.R_lt (qR HO_3.out))) (Kd.R_lt (qR HO_4.out))) (below_size (qW HB.out))); replace HO_3 := aM (Kd.R_elder' (qR HO_3.out) (Kd.R_base ho0) hb); replace HO_4 := aM (Kd.R_elder' (qR HO_4.out) (Kd.R_base ho0) hb); replace BK210 := bB BK210 hb; replace HB := bS HB hb; clear hb ho0; obtain ⟨⟨hcz19_0, hcz19_1, hcz19_2, hcz19_3⟩, hfz19_0, hfz19_1, hfz19_2, hfz19_3⟩ := cf4 BK210; obtain ⟨Ao20, co20, rfl⟩ := sL HO219; obtain ⟨Ao21, co21, rfl⟩ := sL HO_4) | ((with_reducible refine gate_callee (f := 76) rfl ?_); refine gL (some 28) Try.func76 #[.slice Ao20 t217.length co20, .slice Ao21 x4_1.length co21, .int .i64 a0_2] ?_; (with_reducible refine (spec_bestFilter.calls k1 _ _ t217 _ _ x4_1 a0_2 t220 _ ?side1 ?side2 ?side3 ?side4 A13.out).mono ?_); (case side1 => exact qC (Kd.R_reads' HO219.out).2.2); (case side2 => exact (Kd.R_reads' HO219.out).2.1); (case side3 => exact qC (Kd.R_reads' HO_4.out).2.2); (case side4 => exact (Kd.R_reads' HO_4.out).2.1); rintro e w22 ⟨rfl, hb⟩; refine ⟨_, rfl, ?_⟩; replace HO_3 := aM (Kd.R_below (qR HO_3.out) hb); replace HO_4 := aM (Kd.R_below (qR HO_4.out) hb); replace HO219 := aM (Kd.R_below (qR HO219.out) hb); replace BK210 := bB BK210 hb; replace HB := bS HB hb; clear hb))
   replace HO_3 := aM (Kd.R_drew HO_3.out)
   replace HO_4 := aM (Kd.R_drew HO_4.out)
   replace HO219 := aM (Kd.R_drew HO219.out)
   replace BK210 := aM (blk_drew BK210.out)
   replace HB := aM (below_drew1 HB.out)
   refine start_ (n := 12) (S := fun w' => w'.cell? ⟨gb210, 0, none⟩ = some (.int .i64 a0_0) ∧ w'.cell? ⟨gb210, 1, none⟩ = some (.int .i64 a0_1) ∧ w'.cell? ⟨gb210, 2, none⟩ = some (.int .i64 a0_2) ∧ w'.cell? ⟨gb210, 3, none⟩ = some (.slice A0_3 l0_3.length c0_3)) (ds := []) (bA 12 0) (by kernel_rfl) rfl rfl ⟨(blk_cell BK210.out 0).trans rfl, (blk_cell BK210.out 1).trans rfl, (blk_cell BK210.out 2).trans rfl, (blk_cell BK210.out 3).trans rfl⟩ (fun hHeld => ?_); refine with_tabW spec_filterImage.tab8 spec_filterImage.bits8 (fun HT_ HW_ => ?_)
   generalize w22.drew = w23 at HO_3 HO_4 HO219 BK210 HB hHeld ⊢
   refine pQ 0 29 HT_ (bA 12 1) ?_
   refine pQ 1 30 HT_ (bA 12 3) ?_
   refine pQ 4 33 HT_ (bA 12 19) ?_
   refine pQ 5 34 HT_ (bA 12 51) ?_
   refine pQ 6 35 HT_ (bA 12 115) ?_
   refine pQ 7 36 HT_ (bA 12 243) ?_
   refine take_ (i := 8) (N := some 37) (v := ?_) (a' := ?_) (bA 12 499) rfl rfl (take_ofW HT_.out HW_.out (by kernel_rfl)) (fun _ _ _ h => h) (Or.inl ⟨by rfl, ?_⟩) hHeld ?_ ?_
   rotate_left
   ·rintro w' ⟨s0, s1, s2, s3⟩
    go_simp
    with_reducible rfl
   rotate_left
   ·refine pZ ?_
    rfl
   refine one_ (i := 2) (N := some 31) (bA 12 503) rfl rfl (one_of HT_.out (by kernel_rfl)) (by decide) (fun K hK => ?_)
   refine value_ (w1 := ?_) (v := ?_) (by rfl) rfl ?_ ?_
   rotate_left 2
   ·go_simp
    constructor
    rotate_left
    ·rfl
    rfl
   refine hK.out _ _ ⟨(blk_cell (blk_alloc BK210.out _) 0).trans rfl, (blk_cell (blk_alloc BK210.out _) 1).trans rfl, (blk_cell (blk_alloc BK210.out _) 2).trans rfl, (blk_cell (blk_alloc BK210.out _) 3).trans rfl⟩ (fun hHeld => ?_)
   clear hK K
   refine norm_ (a' := ?_) ?_ ?_
   rotate_left
   ·show Act.put _ (some 31) _ = _
    refine pZ ?_
    rfl
   refine one_ (i := 3) (N := some 32) (bA 12 511) rfl rfl (one_of HT_.out (by kernel_rfl)) (by decide) (fun K hK => ?_)
   refine Kd.R_append_step (Kd.int .i64) (w0 := w) w.heap.size (by rfl) (.tmp 29) (.tmp 31) 22 3 (.int .i64 0) 8 rfl Try.underlying22 info3 rfl (by decide) (by omega) u3 x3_1 t220 [.int .i64 t220] (fun k_ => some k_ ≠ (.slice Ao21 x4_1.length co21 : Value).ownBlock ∧ some k_ ≠ (.slice Ao20 t217.length co20 : Value).ownBlock) (fun _ => False) rfl rfl ?aP (fun _ hk => hk.elim) ?aF ?aO ?aB ?aS ?aL ?_
   (case aP => exact rfl)
   (case aB => exact (qW HB.out))
   (case aF => exact (fun k_ hk => ⟨Kd.fresh' (Kd.R_lt (qR HO_4.out)) k_ hk, Kd.fresh' (Kd.R_lt (qR HO219.out)) k_ hk⟩))
   (case aO => exact (qR HO_3.out))
   (case aS => exact (below_size (qW HB.out)))
   (case aL => have := LMc14.out; omega)
   intro v222 w24 ho hb hg hat
   rw [← Ny221.out] at ho
   replace HO_4 := aM (Kd.R_after (ok := (fun k_ => some k_ ≠ (.slice Ao20 t217.length co20 : Value).ownBlock)) (by refine qR ?_; exact Kd.R_mono HO_4.out (fun _ hk => ⟨hk.2, hk.1⟩)) hg hat)
   replace BK210 := gB BK210 hg (Kd.R_ne HO_3.out BK210.out (by decide))
   replace HO219 := aM (Kd.R_after (ok := (fun k_ => some k_ ≠ (.slice Ao21 x4_1.length co21 : Value).ownBlock)) (by refine qR ?_; exact Kd.R_mono HO219.out (fun _ hk => ⟨hk.2, hk.1.2⟩)) hg hat)
   replace HB := aM (hb)
   have HO223 := aM (ho)
   clear HO_3
   clear ho hb hg hat
   refine hK.out _ _ ⟨(blk_cell BK210.out 0).trans rfl, (blk_cell BK210.out 1).trans rfl, (blk_cell BK210.out 2).trans rfl, (blk_cell BK210.out 3).trans rfl⟩ (fun hHeld => ?_)
   clear hK K
   refine norm_ (a' := ?_) ?_ ?_
   rotate_left
   ·show Act.put _ (some 32) _ = _
    refine pZ ?_
    rfl
   refine one_ (i := 9) (N := some 38) (bA 12 1023) rfl rfl (one_of HT_.out (by kernel_rfl)) (by decide) (fun K hK => ?_)
   refine goes_ Try.func77 (by kernel_rfl) rfl #[.int .i64 t220, .slice Ao20 t217.length co20, .slice Ao21 x4_1.length co21, .int .i64 a0_2] (by rfl) rfl rfl qM ?_
   with_reducible refine (spec_filterRow.calls k1 t220 _ _ t217 _ _ x4_1 a0_2 t224 _ ?side1 ?side2 ?side3 ?side4 A15.out).mono ?_
   (case side1 => exact qC (Kd.R_reads' HO219.out).2.2)
   (case side2 => exact (Kd.R_reads' HO219.out).2.1)
   (case side3 => exact qC (Kd.R_reads' HO_4.out).2.2)
   (case side4 => exact (Kd.R_reads' HO_4.out).2.1)
   rintro e w25 ⟨v225, rfl, ho0, hb⟩
   refine ⟨_, rfl, ?_⟩
   have HO226 := aM (Kd.R_lower (Kd.R_new' (Kd.R_new' (Kd.R_new' ho0 (Kd.R_lt (qR HO_4.out))) (Kd.R_lt (qR HO219.out))) (Kd.R_lt (qR HO223.out))) (below_size (qW HB.out)))
   replace HO_4 := aM (Kd.R_elder' (qR HO_4.out) (Kd.R_base ho0) hb)
   replace HO219 := aM (Kd.R_elder' (qR HO219.out) (Kd.R_base ho0) hb)
   replace HO223 := aM (Kd.R_elder' (qR HO223.out) (Kd.R_base ho0) hb)
   replace BK210 := bB BK210 hb
   replace HB := bS HB hb
   (try clear hb)
   (try clear hb2)
   (try clear hk)
   (try clear hi)
   (try clear ho0)
   obtain ⟨Ao27, co27, eo27⟩ := Kd.R_slice HO226.out
   (first | subst eo27 | (injection eo27 with f1_ f2_ f3_; have f4_ := f1_.symm; have f5_ := f3_.symm; clear f1_ f2_ f3_; subst f4_; subst f5_))
   refine hK.out _ _ ⟨(blk_cell BK210.out 0).trans rfl, (blk_cell BK210.out 1).trans rfl, (blk_cell BK210.out 2).trans rfl, (blk_cell BK210.out 3).trans rfl⟩ (fun hHeld => ?_)
   clear hK K
   refine norm_ (a' := ?_) ?_ ?_
   rotate_left
   ·show Act.put _ (some 38) _ = _
    refine pZ ?_
    rfl
   refine one_ (i := 10) (N := some 39) (bA 12 2047) rfl rfl (one_of HT_.out (by kernel_rfl)) (by decide) (fun K hK => ?_)
   refine Kd.R_append_rows_step (Kd.int .i64) (w0 := w) w.heap.size (by rfl) (.tmp 32) (.tmp 38) 22 3 (.int .i64 0) 8 rfl Try.underlying22 info3 rfl (by decide) (by omega) v222 y221 t224 _ _ _ (fun k_ => some k_ ≠ (.slice Ao21 x4_1.length co21 : Value).ownBlock ∧ some k_ ≠ (.slice Ao20 t217.length co20 : Value).ownBlock ∧ some k_ ≠ (.slice Ao27 t224.length co27 : Value).ownBlock) (fun _ => False) rfl rfl ?aO ?aR (fun _ _ h => h) (fun _ h => h.elim) ?aF ?aB ?aS ?aL ?_
   (case aR => exact qC (Kd.R_reads' HO226.out).2.2)
   (case aB => exact (qW HB.out))
   (case aF => exact (fun k_ hk => ⟨Kd.fresh' (Kd.R_lt (qR HO_4.out)) k_ hk, Kd.fresh' (Kd.R_lt (qR HO219.out)) k_ hk, Kd.fresh' (Kd.R_lt (qR HO226.out)) k_ hk⟩))
   (case aO => exact (by refine qR ?_; exact Kd.R_mono HO223.out (fun _ hk => ⟨hk.1.1, ⟨hk.1.2, hk.2⟩⟩)))
   (case aS => exact (below_size (qW HB.out)))
   (case aL => have := LMc16.out; omega)
   intro v228 w26 ho hb hg hat
   rw [← Ny227.out] at ho
   replace HO_4 := aM (Kd.R_after (ok := (fun k_ => some k_ ≠ (.slice Ao20 t217.length co20 : Value).ownBlock ∧ some k_ ≠ (.slice Ao27 t224.length co27 : Value).ownBlock)) (by refine qR ?_; exact Kd.R_mono HO_4.out (fun _ hk => ⟨⟨hk.1.1, hk.2⟩, hk.1.2⟩)) hg hat)
   replace BK210 := gB BK210 hg (Kd.R_ne HO223.out BK210.out (by decide))
   replace HO219 := aM (Kd.R_after (ok := (fun k_ => some k_ ≠ (.slice Ao21 x4_1.length co21 : Value).ownBlock ∧ some k_ ≠ (.slice Ao27 t224.length co27 : Value).ownBlock)) (by refine qR ?_; exact Kd.R_mono HO219.out (fun _ hk => ⟨⟨hk.1.1, hk.2⟩, hk.1.2⟩)) hg hat)
   replace HO226 := aM (Kd.R_after (ok := (fun k_ => some k_ ≠ (.slice Ao21 x4_1.length co21 : Value).ownBlock ∧ some k_ ≠ (.slice Ao20 t217.length co20 : Value).ownBlock)) (by refine qR ?_; exact Kd.R_mono HO226.out (fun _ hk => ⟨⟨hk.1.1.2, hk.1.2⟩, hk.2⟩)) hg hat)
   replace HB := aM (hb)
   have HO229 := aM (ho)
   clear HO223
   clear ho hb hg hat
   refine hK.out _ _ ⟨(blk_cell BK210.out 0).trans rfl, (blk_cell BK210.out 1).trans rfl, (blk_cell BK210.out 2).trans rfl, (blk_cell BK210.out 3).trans rfl⟩ (fun hHeld => ?_)
   clear hK K
   refine norm_ (a' := ?_) ?_ ?_
   rotate_left
   ·show Act.put _ (some 39) _ = _
    refine pZ ?_
    rfl
   refine pQ 11 3 HT_ (bA 12 4095) ?_
   refine done_ (done_of HT_.out (by kernel_rfl)) ?_
   try go_wp2
   go_roundg k1
   case measure => have := HK1.out; omega
   case rel => exact ⟨(y227), (t217), (wrap64 (x5_1 + 1)), qE, H', ⟨by have := HK1.out; omega⟩, ⟨by refine qR ?_; exact Kd.R_mono HO229.out (fun _ hk => hk.2.1)⟩, ⟨by refine qR ?_; exact Kd.R_mono HO219.out (fun _ hk => hk.2)⟩, ⟨by refine qB ?_; exact BK210.out⟩, ⟨by exact qW HB.out⟩⟩
def impl_filterImage.l0 : Nat → List Int → Int → List Int → Int → Int → Int → Int → Int → List Int → Option (List Int)
 | 0, _, _, _, _, _, _, _, _, _ => none
 | k + 1, x3, x4, x5, x18, x19, x406000, x406001, x406002, x406003 => if x19 < x18 then (if 0 ≤ (wrap64 (x19 * x4)) then (if (wrap64 (x19 * x4)) ≤ (wrap64 ((wrap64 (x19 + 1)) * x4)) then (if (wrap64 ((wrap64 (x19 + 1)) * x4)) ≤ (x406003.length : Int) then ((some ((x406003.take ((wrap64 ((wrap64 (x19 + 1)) * x4)) : Int).toNat).drop ((wrap64 (x19 * x4)) : Int).toNat : List Int)).bind fun y412 => ((impl_bestFilter.f k y412 x5 x406002).bind fun t417 => (if x3.length < 17592186044416 then ((some (x3 ++ [t417] : List Int)).bind fun y418 => ((impl_filterRow.f k t417 y412 x5 x406002).bind fun t421 => (if y418.length + t421.length < 17592186044416 then (impl_filterImage.l0 k (y418 ++ t421) x4 y412 x18 (wrap64 (x19 + 1)) x406000 x406001 x406002 x406003) else (none)))) else (none)))) else (none)) else (none)) else (none)) else (some x3)
def impl_filterImage.f (k : Nat) (a0_0 : Int) (a0_1 : Int) (a0_2 : Int) (l0_3 : List Int) : Option (List Int) := if 0 ≤ (wrap64 (a0_0 * a0_2)) then (if (wrap64 (a0_0 * a0_2) : Int).toNat ≤ 35184372088832 then (impl_filterImage.l0 k (([] : List Int)) (wrap64 (a0_0 * a0_2)) (List.replicate (wrap64 (a0_0 * a0_2) : Int).toNat 0) a0_1 0 a0_0 a0_1 a0_2 l0_3) else (none)) else (none)
theorem impl_filterImage.mono_l : ∀ k, (∀ y0 y1 y2 y3 y4 y5 y6 y7 y8, LeO (impl_filterImage.l0 k y0 y1 y2 y3 y4 y5 y6 y7 y8) (impl_filterImage.l0 (k + 1) y0 y1 y2 y3 y4 y5 y6 y7 y8))
 | 0 => fun _ _ _ _ _ _ _ _ _ r h => by simp [impl_filterImage.l0] at h
 | k + 1 => by
  have ih0 := impl_filterImage.mono_l k
  ·intro y0 y1 y2 y3 y4 y5 y6 y7 y8
   unfold impl_filterImage.l0
   repeat' first | (with_reducible first | exact ih0 _ _ _ _ _ _ _ _ _ | exact impl_bestFilter.mono _ _ _ _ | exact impl_filterRow.mono _ _ _ _ _ | exact lR | exact lN | refine lI ?_ ?_ | refine lB ?_ fun _ => ?_) | exact ih0 _ _ _ _ _ _ _ _ _ | exact impl_bestFilter.mono _ _ _ _ | exact impl_filterRow.mono _ _ _ _ _ | exact lN | refine lI ?_ ?_ | refine lB ?_ fun _ => ?_
theorem impl_filterImage.mono : ∀ a0 a1 a2 a3 k, LeO (impl_filterImage.f k a0 a1 a2 a3) (impl_filterImage.f (k + 1) a0 a1 a2 a3) := by
 intro a0 a1 a2 a3 k
 have ih0 := impl_filterImage.mono_l k
 unfold impl_filterImage.f
 repeat' first | (with_reducible first | exact ih0 _ _ _ _ _ _ _ _ _ | exact impl_bestFilter.mono _ _ _ _ | exact impl_filterRow.mono _ _ _ _ _ | exact lR | exact lN | refine lI ?_ ?_ | refine lB ?_ fun _ => ?_) | exact ih0 _ _ _ _ _ _ _ _ _ | exact impl_bestFilter.mono _ _ _ _ | exact impl_filterRow.mono _ _ _ _ _ | exact lN | refine lI ?_ ?_ | refine lB ?_ fun _ => ?_
set_option maxHeartbeats 8000000 in
set_option maxRecDepth 100000 in
theorem impl_filterImage.calls (k : Nat) (a0_0 : Int) (a0_1 : Int) (a0_2 : Int) (P0_3_ : Nat → Prop) (A0_3 : Option Addr) (c0_3 : Nat) (l0_3 : List Int) (r : List Int) (w : World) (hs0_3 : Kd.V (Kd.int .i64) 3 w w.heap.size (fun k_ => P0_3_ k_) (.slice A0_3 l0_3.length c0_3) l0_3) (h : impl_filterImage.f k a0_0 a0_1 a0_2 l0_3 = some r) :
  Calls Try.prog 56 #[.agg #[.int .i64 a0_0, .int .i64 a0_1, .int .i64 a0_2, .slice A0_3 l0_3.length c0_3]] w fun e w' => ∃ v0_ : Value, e = .returned (v0_) ∧ Kd.R (Kd.int .i64) 3 w' w.heap.size (fun k_ => (w.heap.size ≤ k_)) v0_ r ∧ Below w.heap.size w w' := by
 have hu24 := Try.underlying24
 have HO0_3 := aM (show Kd.V (Kd.int .i64) 3 w w.heap.size (fun k_ => (P0_3_ k_ ∨ w.heap.size ≤ k_)) (.slice A0_3 l0_3.length c0_3) l0_3 from Kd.V_mono hs0_3 (fun k_ hk => .inl hk))
 have HB := aM (Below.refl w.heap.size w)
 unfold impl_filterImage.f at h
 have H := h
 clear h
 obtain ⟨y406, hy406⟩ : ∃ y_ : List Int, y_ = (([] : List Int)) := ⟨_, rfl⟩
 replace H : (if 0 ≤ (wrap64 (a0_0 * a0_2)) then (if (wrap64 (a0_0 * a0_2) : Int).toNat ≤ 35184372088832 then (impl_filterImage.l0 k y406 (wrap64 (a0_0 * a0_2)) (List.replicate (wrap64 (a0_0 * a0_2) : Int).toNat 0) a0_1 0 a0_0 a0_1 a0_2 l0_3) else (none)) else (none)) = some r := rY hy406 H
 have Ny406 := aM hy406
 clear hy406
 obtain ⟨ji2, hji2⟩ : ∃ j_ : Int, (wrap64 (a0_0 * a0_2)) = j_ := ⟨_, rfl⟩
 replace H : (if 0 ≤ (ji2) then (if (ji2 : Int).toNat ≤ 35184372088832 then (impl_filterImage.l0 k y406 ji2 (List.replicate (ji2 : Int).toNat 0) a0_1 0 a0_0 a0_1 a0_2 l0_3) else (none)) else (none)) = some r := by first | (rw [hji2] at H; exact H) | (simp only [hji2] at H ⊢; exact H)
 have hji2w : (IntKind.i64.wrap (a0_0 * a0_2)) = ji2 := (i64_w _).trans hji2
 replace H := iS H
 obtain ⟨c3, H⟩ := H
 have c3b0 := eq_true c3
 have c3b1 : decide (0 ≤ (ji2)) = true := decide_eq_true c3
 clear c3
 replace H := iS H
 obtain ⟨c4, H⟩ := H
 have c4b0 := eq_true c4
 have c4b1 : decide ((ji2 : Int).toNat ≤ 35184372088832) = true := decide_eq_true c4
 clear c4
 obtain ⟨y409, hy409⟩ : ∃ y_ : List Int, y_ = (List.replicate (ji2 : Int).toNat 0) := ⟨_, rfl⟩
 replace H : (impl_filterImage.l0 k y406 ji2 y409 a0_1 0 a0_0 a0_1 a0_2 l0_3) = some r := rY hy409 H
 have Ny409 := aM hy409
 clear hy409
 have H' := aM H
 clear H
 go_enter Try.func56, Try.ntmps56
 go_wp2_with (first | ((with_reducible refine gate_dst (N := 1) rfl ?_); refine bxE (N := 1) (cs := #[.int .i64 a0_0, .int .i64 a0_1, .int .i64 a0_2, .slice A0_3 l0_3.length c0_3]) (t := 24) ?_; intro gb405 hg w5 hbox hb; replace HO0_3 := aM (Kd.V_below (Kd.V_elderB (by (with_reducible repeat (first | apply Kd.V_alloc | apply Kd.V_drewN | apply Kd.V_drew)); exact HO0_3.out) gb405 (Nat.le_of_eq hg.symm)) hb); have BK405 := aM (hbox); have GW405 := gW hg HB; have GE405 := gW hg HB; replace HB := bS HB hb; clear hb hbox hg) | ((with_reducible refine gate_dst (N := 9) rfl ?_); refine iL ([] : List Int) [] ?_; intro v407 w6 ho7 hb hg_ hnew_; clear hg_ hnew_; (first | rw [← Ny406.out] at ho7 | (simp only [Int.reduceToNat] at ho7; rw [← Ny406.out] at ho7)); replace HO0_3 := aM (Kd.V_elder' (by (with_reducible repeat (first | apply Kd.V_alloc | apply Kd.V_drewN | apply Kd.V_drew)); exact HO0_3.out) (Kd.R_base ho7) hb); have HO408 := aM (Kd.R_lower (Kd.R_newM (M := fun k_ => (w.heap.size ≤ k_)) ho7 (below_size (qW HB.out)) (fun k_ h_ => h_)) (below_size (qW HB.out))); replace BK405 := bB BK405 hb; replace HB := bS HB hb; clear hb ho7; obtain ⟨⟨hcz8_0, hcz8_1, hcz8_2, hcz8_3⟩, hfz8_0, hfz8_1, hfz8_2, hfz8_3⟩ := cf4 BK405) | ((with_reducible refine gate_dst (N := 16) rfl ?_); refine Kd.R_make (Kd.int .i64) _ 3 rfl (N := 16) rfl 22 _ _ rfl ji2 rfl rfl Try.underlying22 (.int .i64 0) 8 info3 rfl (by decide) (by omega) 0 (ok := fun _ => True) (okp := fun _ => True) rfl (fun _ hk => hk) trivial oD (Nat.le_trans (Nat.mul_le_mul_right _ (oD : ji2.toNat ≤ 35184372088832)) (by omega)) (Below.refl _ _) (Nat.le_refl _) ?_; intro v410 w9 ho10 hb hg_ hnew_; clear hg_ hnew_; (first | rw [← Ny409.out] at ho10 | (simp only [Int.reduceToNat] at ho10; rw [← Ny409.out] at ho10)); replace HO0_3 := aM (Kd.V_elder' (by (with_reducible repeat (first | apply Kd.V_alloc | apply Kd.V_drewN | apply Kd.V_drew)); exact HO0_3.out) (Kd.R_base ho10) hb); have HO411 := aM (Kd.R_lower (Kd.R_new' (Kd.R_newM (M := fun k_ => (w.heap.size ≤ k_)) ho10 (below_size (qW HB.out)) (fun k_ h_ => h_)) (Kd.R_lt (qR HO408.out))) (below_size (qW HB.out))); replace HO408 := aM (Kd.R_elder' (qR HO408.out) (Kd.R_base ho10) hb); replace BK405 := bB BK405 hb; replace HB := bS HB hb; clear hb ho10; obtain ⟨⟨hcz11_0, hcz11_1, hcz11_2, hcz11_3⟩, hfz11_0, hfz11_1, hfz11_2, hfz11_3⟩ := cf4 BK405))
 go_loopg [3, 5, 19] k (fun kq v3 v5 v19 w' => ∃ (x3_1 : List Int) (x5_1 : List Int) (x19_1 : Int), v19 = .int .i64 x19_1 ∧ Aside0 (impl_filterImage.l0 kq x3_1 ji2 x5_1 a0_1 x19_1 a0_0 a0_1 a0_2 l0_3 = some r) ∧ Aside0 (kq ≤ k) ∧ Aside0 (Kd.R (Kd.int .i64) 3 w' w.heap.size (fun k_ => (w.heap.size ≤ k_)) v3 x3_1) ∧ Aside0 (Kd.V (Kd.int .i64) 3 w' w.heap.size (fun k_ => (P0_3_ k_ ∨ w.heap.size ≤ k_) ∧ some k_ ≠ (v3 : Value).ownBlock ∧ k_ ≠ gb405) v5 x5_1) ∧ Aside0 (Kd.V (Kd.int .i64) 3 w' w.heap.size (fun k_ => (P0_3_ k_ ∨ w.heap.size ≤ k_) ∧ some k_ ≠ (v3 : Value).ownBlock ∧ k_ ≠ gb405) (.slice A0_3 l0_3.length c0_3) l0_3) ∧ Aside0 (w'.heap[gb405]? = some (.cells #[.int .i64 a0_0, .int .i64 a0_1, .int .i64 a0_2, (.slice A0_3 l0_3.length c0_3)] 24 (0, 0))) ∧ Aside0 (Below w.heap.size w w'))
 case atStart => exact ⟨(y406), (y409), (0), qE, H', ⟨Nat.le_refl _⟩, ⟨by refine qR ?_; exact Kd.R_mono HO408.out (fun _ hk => hk.1.1)⟩, ⟨Kd.R_V (by refine qR ?_; exact Kd.R_mono (Kd.R_types HO411.out BK405.out (by decide)) (fun _ hk => ⟨.inr hk.1.1.1, ⟨hk.1.2, hk.2⟩⟩))⟩, ⟨by (with_reducible repeat (first | apply Kd.V_alloc | apply Kd.V_drewN | apply Kd.V_drew)); exact Kd.V_mono HO0_3.out (fun _ hk => ⟨hk.1.1.1, ⟨hk.1.2, hk.1.1.2⟩⟩)⟩, ⟨by refine qB ?_; exact BK405.out⟩, ⟨by exact qW HB.out⟩⟩
 case round =>
  clear H'
  try clear c3
  try clear c3b0
  try clear c3b1
  try clear c4
  try clear c4b0
  try clear c4b1
  try clear hcz11_0 hcz11_1 hcz11_2 hcz11_3 hfz11_0 hfz11_1 hfz11_2 hfz11_3
  try clear hcz8_0 hcz8_1 hcz8_2 hcz8_3 hfz8_0 hfz8_1 hfz8_2 hfz8_3
  obtain ⟨x3_1, x5_1, x19_1, rfl, HA, HK1, HO_3, HO_5, HO_406003, BK405, HB⟩ := hrel
  cases gk with
  | zero => exact absurd HA.out (by simp [impl_filterImage.l0])
  | succ k1 =>
   have H := HA.out
   clear HA
   simp only [impl_filterImage.l0] at H
   by_cases c12 : x19_1 < a0_1
   rotate_left
   ·rw [if_neg c12] at H
    have c12b0 : decide (x19_1 < a0_1) = false := decide_eq_false c12
    clear c12
    obtain rfl := Option.some.inj H
    go_wp2
    go_ret
    exact ⟨_, by first | rfl | (simp [errW_none, errW_some] <;> rfl) | (simp only [← hji2]; first | rfl | (simp [errW_none, errW_some] <;> rfl)) | (simp [*, errW_none, errW_some] <;> rfl), by refine qR ?_; exact HO_3.out, by exact qW HB.out⟩
   rw [if_pos c12] at H
   have c12b0 : decide (x19_1 < a0_1) = true := decide_eq_true c12
   clear c12
   obtain ⟨ji13, hji13⟩ : ∃ j_ : Int, (wrap64 (x19_1 * ji2)) = j_ := ⟨_, rfl⟩
   replace H : (if 0 ≤ (ji13) then (if (ji13) ≤ (wrap64 ((wrap64 (x19_1 + 1)) * ji2)) then (if (wrap64 ((wrap64 (x19_1 + 1)) * ji2)) ≤ (l0_3.length : Int) then ((some ((l0_3.take ((wrap64 ((wrap64 (x19_1 + 1)) * ji2)) : Int).toNat).drop ((ji13) : Int).toNat : List Int)).bind fun y412 => ((impl_bestFilter.f k1 y412 x5_1 a0_2).bind fun t417 => (if x3_1.length < 17592186044416 then ((some (x3_1 ++ [t417] : List Int)).bind fun y418 => ((impl_filterRow.f k1 t417 y412 x5_1 a0_2).bind fun t421 => (if y418.length + t421.length < 17592186044416 then (impl_filterImage.l0 k1 (y418 ++ t421) ji2 y412 a0_1 (wrap64 (x19_1 + 1)) a0_0 a0_1 a0_2 l0_3) else (none)))) else (none)))) else (none)) else (none)) else (none)) = some r := by first | (rw [hji13] at H; exact H) | (simp only [hji13] at H ⊢; exact H)
   have hji13w : (IntKind.i64.wrap (x19_1 * ji2)) = ji13 := (i64_w _).trans hji13
   replace H := iS H
   obtain ⟨c14, H⟩ := H
   have c14b0 := eq_true c14
   have c14b1 : decide (0 ≤ (ji13)) = true := decide_eq_true c14
   clear c14
   replace H := iS H
   obtain ⟨c15, H⟩ := H
   have c15b0 := eq_true c15
   have c15b1 : decide ((ji13) ≤ (wrap64 ((wrap64 (x19_1 + 1)) * ji2))) = true := decide_eq_true c15
   replace H := iS H
   obtain ⟨c16, H⟩ := H
   have c16b0 := eq_true c16
   have c16b1 : decide ((wrap64 ((wrap64 (x19_1 + 1)) * ji2)) ≤ (l0_3.length : Int)) = true := decide_eq_true c16
   obtain ⟨y412, hy412⟩ : ∃ y_ : List Int, y_ = ((l0_3.take ((wrap64 ((wrap64 (x19_1 + 1)) * ji2)) : Int).toNat).drop ((ji13) : Int).toNat) := ⟨_, rfl⟩
   replace H : ((impl_bestFilter.f k1 y412 x5_1 a0_2).bind fun t417 => (if x3_1.length < 17592186044416 then ((some (x3_1 ++ [t417] : List Int)).bind fun y418 => ((impl_filterRow.f k1 t417 y412 x5_1 a0_2).bind fun t421 => (if y418.length + t421.length < 17592186044416 then (impl_filterImage.l0 k1 (y418 ++ t421) ji2 y412 a0_1 (wrap64 (x19_1 + 1)) a0_0 a0_1 a0_2 l0_3) else (none)))) else (none))) = some r := rY hy412 H
   have Ny412 := aM hy412
   clear hy412
   replace H := Option.bind_eq_some_iff.mp H
   obtain ⟨t417, A170, H⟩ := H
   replace H : (if x3_1.length < 17592186044416 then ((some (x3_1 ++ [t417] : List Int)).bind fun y418 => ((impl_filterRow.f k1 t417 y412 x5_1 a0_2).bind fun t421 => (if y418.length + t421.length < 17592186044416 then (impl_filterImage.l0 k1 (y418 ++ t421) ji2 y412 a0_1 (wrap64 (x19_1 + 1)) a0_0 a0_1 a0_2 l0_3) else (none)))) else (none)) = some r := H
   have A17 := aM A170
   clear A170
   replace H := iS H
   obtain ⟨c18, H⟩ := H
   have LMc18 := aM c18
   clear c18
   obtain ⟨y418, hy418⟩ : ∃ y_ : List Int, y_ = (x3_1 ++ [t417]) := ⟨_, rfl⟩
   replace H : ((impl_filterRow.f k1 t417 y412 x5_1 a0_2).bind fun t421 => (if y418.length + t421.length < 17592186044416 then (impl_filterImage.l0 k1 (y418 ++ t421) ji2 y412 a0_1 (wrap64 (x19_1 + 1)) a0_0 a0_1 a0_2 l0_3) else (none))) = some r := rY hy418 H
   have Ny418 := aM hy418
   clear hy418
   replace H := Option.bind_eq_some_iff.mp H
   obtain ⟨t421, A190, H⟩ := H
   replace H : (if y418.length + t421.length < 17592186044416 then (impl_filterImage.l0 k1 (y418 ++ t421) ji2 y412 a0_1 (wrap64 (x19_1 + 1)) a0_0 a0_1 a0_2 l0_3) else (none)) = some r := H
   have A19 := aM A190
   clear A190
   replace H := iS H
   obtain ⟨c20, H⟩ := H
   have LMc20 := aM c20
   clear c20
   obtain ⟨y424, hy424⟩ : ∃ y_ : List Int, y_ = (y418 ++ t421) := ⟨_, rfl⟩
   replace H : (impl_filterImage.l0 k1 y424 ji2 y412 a0_1 (wrap64 (x19_1 + 1)) a0_0 a0_1 a0_2 l0_3) = some r := rY hy424 H
   have Ny424 := aM hy424
   clear hy424
   have H' := aM H
   clear H
   obtain ⟨⟨hcz21_0, hcz21_1, hcz21_2, hcz21_3⟩, hfz21_0, hfz21_1, hfz21_2, hfz21_3⟩ := cf4 BK405
   have q22 : ((wrap64 ((wrap64 (x19_1 + 1)) * ji2)) : Int) ≤ ((l0_3.length : Int) : Int) := oD
   obtain ⟨i022, hi022, _, hsz22, _⟩ := info_parts info3
   have hroom22 : l0_3.length ≤ c0_3 := (Kd.V_reads' HO_406003.out).2.1
   have hC22 : Kd.F (Kd.int .i64) _ _ A0_3 l0_3.length l0_3 := (Kd.V_at (base := w.heap.size) HO_406003.out).2.2
   have ql22 : ((ji13) : Int) ≤ ((wrap64 ((wrap64 (x19_1 + 1)) * ji2)) : Int) := oD
   have q022 : (0 : Int) ≤ ((ji13) : Int) := oD
   have hcut22 := cut_mid (P := Try.prog) 22 3 .i64 .i64 Try.underlying22 hi022 1 hsz22 A0_3 l0_3.length c0_3 (ji13) (wrap64 ((wrap64 (x19_1 + 1)) * ji2)) q022 ql22 q22 hroom22
   have hr22 := Kd.F_mid (lo := ((ji13) : Int).toNat) (hi := ((wrap64 ((wrap64 (x19_1 + 1)) * ji2)) : Int).toNat) (c := c0_3) hC22 (by omega) (by omega) hroom22
   obtain ⟨A22, hA22⟩ : ∃ A1, A1 = (if c0_3 = ((ji13) : Int).toNat then A0_3 else (A0_3 : Option Addr).map (·.add (((ji13) : Int).toNat * 1))) := ⟨_, rfl⟩
   obtain ⟨c22, hc22⟩ : ∃ c1, c1 = c0_3 - ((ji13) : Int).toNat := ⟨_, rfl⟩
   have hy22 : y412.length = ((wrap64 ((wrap64 (x19_1 + 1)) * ji2)) : Int).toNat - ((ji13) : Int).toNat := (by rw [Ny412.out, List.length_drop, List.length_take] <;> omega)
   rw [show ((l0_3).take ((wrap64 ((wrap64 (x19_1 + 1)) * ji2)) : Int).toNat).drop ((ji13) : Int).toNat = y412 from Ny412.out.symm] at hr22
   replace hr22 : Kd.F (Kd.int .i64) _ _ A22 y412.length y412 := (by rw [hA22]; exact hr22)
   rw [← hy22, ← hA22, ← hc22] at hcut22
   have HO416 := aM (show Kd.V (Kd.int .i64) 3 _ w.heap.size _ (.slice A22 y412.length c22) y412 from Kd.V_mk (by rw [hy22, hc22]; exact Nat.sub_le_sub_right (Nat.le_trans (by omega) hroom22) _) hr22)
   have HC416 := aM (show y412.length ≤ c22 from by rw [hy22, hc22]; exact Nat.sub_le_sub_right (Nat.le_trans (by omega) hroom22) _)
   clear hr22 hC22 hroom22 hi022 hsz22 hc22
   have KY22 := aM hy22
   have KA22 := aM hA22
   clear hy22 hA22
   replace q22 := eq_true q22
   obtain ⟨Ao23, co23, eo23⟩ := Kd.V_slice HO_5.out
   subst eo23
   go_wp2_with (first | ((with_reducible refine gate_callee (f := 78) rfl ?_); refine gL (some 36) Try.func78 #[.slice A22 y412.length c22, .slice Ao23 x5_1.length co23, .int .i64 a0_2] ?_; (with_reducible refine (impl_bestFilter.calls k1 _ _ y412 _ _ x5_1 a0_2 t417 _ ?side1 ?side2 ?side3 ?side4 A17.out).mono ?_); (case side1 => exact qC (Kd.V_reads' HO416.out).2.2); (case side2 => exact (Kd.V_reads' HO416.out).2.1); (case side3 => exact qC (Kd.V_reads' HO_5.out).2.2); (case side4 => exact (Kd.V_reads' HO_5.out).2.1); rintro e w24 ⟨rfl, hb⟩; refine ⟨_, rfl, ?_⟩; replace HO_3 := aM (Kd.R_below (qR HO_3.out) hb); replace HO_5 := aM (Kd.V_below (by (with_reducible repeat (first | apply Kd.V_alloc | apply Kd.V_drewN | apply Kd.V_drew)); exact HO_5.out) hb); replace HO_406003 := aM (Kd.V_below (by (with_reducible repeat (first | apply Kd.V_alloc | apply Kd.V_drewN | apply Kd.V_drew)); exact HO_406003.out) hb); replace HO416 := aM (Kd.V_below (by (with_reducible repeat (first | apply Kd.V_alloc | apply Kd.V_drewN | apply Kd.V_drew)); exact HO416.out) hb); replace BK405 := bB BK405 hb; replace HB := bS HB hb; clear hb) | ((with_reducible refine gate_builtin (b := .append) (xs := #[.tmp 37, .tmp 39]) rfl ?_); at_builtin; refine Kd.R_append (Kd.int .i64) (w0 := w) w.heap.size rfl (.tmp 37) (.tmp 39) 22 3 (.int .i64 0) 8 rfl Try.underlying22 info3 rfl (by decide) (by omega) u3 x3_1 t417 [.int .i64 t417] (fun k_ => (w.heap.size ≤ k_)) (fun _ => False) rfl rfl ?aP (fun _ hk => hk.elim) ?aF ?aO ?aB ?aS ?aL ?_; (case aP => exact rfl); (case aB => exact (qW HB.out)); (case aF => exact (fun k_ hk => (Nat.le_trans (below_size (qW HB.out)) hk))); (case aO => exact (qR HO_3.out)); (case aS => exact (below_size (qW HB.out))); (case aL => have := LMc18.out; omega); intro v419 w25 ho hb hg hat; rw [← Ny418.out] at ho; replace HO_5 := aM (Kd.V_afterv (ok := (fun k_ => (P0_3_ k_ ∨ w.heap.size ≤ k_) ∧ k_ ≠ gb405)) (by (with_reducible repeat (first | apply Kd.V_alloc | apply Kd.V_drewN | apply Kd.V_drew)); exact Kd.V_mono HO_5.out (fun _ hk => ⟨⟨hk.1, hk.2.2⟩, hk.2.1⟩)) hg hat); replace HO_406003 := aM (Kd.V_afterv (ok := (fun k_ => (P0_3_ k_ ∨ w.heap.size ≤ k_) ∧ k_ ≠ gb405)) (by (with_reducible repeat (first | apply Kd.V_alloc | apply Kd.V_drewN | apply Kd.V_drew)); exact Kd.V_mono HO_406003.out (fun _ hk => ⟨⟨hk.1, hk.2.2⟩, hk.2.1⟩)) hg hat); replace BK405 := gB BK405 hg (Kd.R_ne HO_3.out BK405.out (by decide)); replace HO416 := aM (Kd.V_afterv (ok := (fun k_ => (P0_3_ k_ ∨ w.heap.size ≤ k_) ∧ k_ ≠ gb405)) (by (with_reducible repeat (first | apply Kd.V_alloc | apply Kd.V_drewN | apply Kd.V_drew)); exact Kd.V_mono HO416.out (fun _ hk => ⟨⟨hk.1, hk.2.2⟩, hk.2.1⟩)) hg hat); replace HB := aM (hb); have HO420 := aM (ho); clear HO_3; clear ho hb hg hat; obtain ⟨⟨hcz26_0, hcz26_1, hcz26_2, hcz26_3⟩, hfz26_0, hfz26_1, hfz26_2, hfz26_3⟩ := cf4 BK405) | ((with_reducible refine gate_callee (f := 79) rfl ?_); refine gL (some 47) Try.func79 #[.int .i64 t417, .slice A22 y412.length c22, .slice Ao23 x5_1.length co23, .int .i64 a0_2] ?_; (with_reducible refine (impl_filterRow.calls k1 t417 _ _ y412 _ _ x5_1 a0_2 t421 _ ?side1 ?side2 ?side3 ?side4 A19.out).mono ?_); (case side1 => exact qC (Kd.V_reads' HO416.out).2.2); (case side2 => exact (Kd.V_reads' HO416.out).2.1); (case side3 => exact qC (Kd.V_reads' HO_5.out).2.2); (case side4 => exact (Kd.V_reads' HO_5.out).2.1); rintro e w27 ⟨v422, rfl, ho0, hb⟩; refine ⟨_, rfl, ?_⟩; replace HO_5 := aM (Kd.V_elder' (by (with_reducible repeat (first | apply Kd.V_alloc | apply Kd.V_drewN | apply Kd.V_drew)); exact HO_5.out) (Kd.R_base ho0) hb); replace HO_406003 := aM (Kd.V_elder' (by (with_reducible repeat (first | apply Kd.V_alloc | apply Kd.V_drewN | apply Kd.V_drew)); exact HO_406003.out) (Kd.R_base ho0) hb); replace HO416 := aM (Kd.V_elder' (by (with_reducible repeat (first | apply Kd.V_alloc | apply Kd.V_drewN | apply Kd.V_drew)); exact HO416.out) (Kd.R_base ho0) hb); have HO423 := aM (Kd.R_lower (Kd.R_new' (Kd.R_newM (M := fun k_ => (w.heap.size ≤ k_)) ho0 (below_size (qW HB.out)) (fun k_ h_ => h_)) (Kd.R_lt (qR HO420.out))) (below_size (qW HB.out))); replace HO420 := aM (Kd.R_elder' (qR HO420.out) (Kd.R_base ho0) hb); replace BK405 := bB BK405 hb; replace HB := bS HB hb; clear hb ho0; obtain ⟨Ao29, co29, rfl⟩ := sL HO423) | ((with_reducible refine gate_builtin (b := .append) (xs := #[.tmp 41, .tmp 47]) rfl ?_); at_builtin; refine Kd.R_append_rows (Kd.int .i64) (w0 := w) w.heap.size rfl (.tmp 41) (.tmp 47) 22 3 (.int .i64 0) 8 rfl Try.underlying22 info3 rfl (by decide) (by omega) v419 y418 t421 _ _ _ (fun k_ => (w.heap.size ≤ k_) ∧ some k_ ≠ (.slice Ao29 t421.length co29 : Value).ownBlock) (fun _ => False) rfl rfl ?aO ?aR (fun _ _ h => h) (fun _ h => h.elim) ?aF ?aB ?aS ?aL ?_; (case aR => exact qC (Kd.R_reads' HO423.out).2.2); (case aB => exact (qW HB.out)); (case aF => exact (fun k_ hk => ⟨(Nat.le_trans (below_size (qW HB.out)) hk), Kd.fresh' (Kd.R_lt (qR HO423.out)) k_ hk⟩)); (case aO => exact (qR HO420.out)); (case aS => exact (below_size (qW HB.out))); (case aL => have := LMc20.out; omega); intro v425 w28 ho hb hg hat; rw [← Ny424.out] at ho; replace HO_5 := aM (Kd.V_afterv (ok := (fun k_ => (P0_3_ k_ ∨ w.heap.size ≤ k_) ∧ some k_ ≠ (.slice Ao29 t421.length co29 : Value).ownBlock ∧ k_ ≠ gb405)) (by (with_reducible repeat (first | apply Kd.V_alloc | apply Kd.V_drewN | apply Kd.V_drew)); exact Kd.V_mono HO_5.out (fun _ hk => ⟨⟨hk.1.1.1, ⟨hk.2, hk.1.1.2⟩⟩, hk.1.2⟩)) hg hat); replace HO_406003 := aM (Kd.V_afterv (ok := (fun k_ => (P0_3_ k_ ∨ w.heap.size ≤ k_) ∧ some k_ ≠ (.slice Ao29 t421.length co29 : Value).ownBlock ∧ k_ ≠ gb405)) (by (with_reducible repeat (first | apply Kd.V_alloc | apply Kd.V_drewN | apply Kd.V_drew)); exact Kd.V_mono HO_406003.out (fun _ hk => ⟨⟨hk.1.1.1, ⟨hk.2, hk.1.1.2⟩⟩, hk.1.2⟩)) hg hat); replace BK405 := gB BK405 hg (Kd.R_ne HO420.out BK405.out (by decide)); replace HO416 := aM (Kd.V_afterv (ok := (fun k_ => (P0_3_ k_ ∨ w.heap.size ≤ k_) ∧ some k_ ≠ (.slice Ao29 t421.length co29 : Value).ownBlock ∧ k_ ≠ gb405)) (by (with_reducible repeat (first | apply Kd.V_alloc | apply Kd.V_drewN | apply Kd.V_drew)); exact Kd.V_mono HO416.out (fun _ hk => ⟨⟨hk.1.1.1, ⟨hk.2, hk.1.1.2⟩⟩, hk.1.2⟩)) hg hat); replace HO423 := aM (Kd.R_after (ok := (fun k_ => (w.heap.size ≤ k_))) (by refine qR ?_; exact Kd.R_mono HO423.out (fun _ hk => ⟨hk.1.1, hk.2⟩)) hg hat); replace HB := aM (hb); have HO426 := aM (ho); clear HO420; clear ho hb hg hat))
   go_roundg k1
   case measure => have := HK1.out; omega
   case rel => exact ⟨(y424), (y412), (wrap64 (x19_1 + 1)), qE, H', ⟨by have := HK1.out; omega⟩, ⟨by refine qR ?_; exact Kd.R_mono HO426.out (fun _ hk => hk.1)⟩, ⟨by (with_reducible repeat (first | apply Kd.V_alloc | apply Kd.V_drewN | apply Kd.V_drew)); exact Kd.V_mono HO416.out (fun _ hk => ⟨hk.1.1, ⟨hk.2, hk.1.2.2⟩⟩)⟩, ⟨by (with_reducible repeat (first | apply Kd.V_alloc | apply Kd.V_drewN | apply Kd.V_drew)); exact Kd.V_mono HO_406003.out (fun _ hk => ⟨hk.1.1, ⟨hk.2, hk.1.2.2⟩⟩)⟩, ⟨by refine qB ?_; exact BK405.out⟩, ⟨by exact qW HB.out⟩⟩
def spec_FilterImage.f (k : Nat) (a0_0 : Int) (a0_1 : Int) (a0_2 : Int) (l0_3 : List Int) : Option (List Int) := (spec_validImage.f k a0_0 a0_1 a0_2 l0_3).bind fun t831 => (if t831 = true then ((spec_filterImage.f k a0_0 a0_1 a0_2 l0_3).bind fun t832 => (some t832)) else (some ([] : List Int)))
theorem spec_FilterImage.mono : ∀ a0 a1 a2 a3 k, LeO (spec_FilterImage.f k a0 a1 a2 a3) (spec_FilterImage.f (k + 1) a0 a1 a2 a3) := by
 intro a0 a1 a2 a3 k
 unfold spec_FilterImage.f
 repeat' first | (with_reducible first | exact spec_filterImage.mono _ _ _ _ _ | exact spec_validImage.mono _ _ _ _ _ | exact lR | exact lN | refine lI ?_ ?_ | refine lB ?_ fun _ => ?_) | exact spec_filterImage.mono _ _ _ _ _ | exact spec_validImage.mono _ _ _ _ _ | exact lN | refine lI ?_ ?_ | refine lB ?_ fun _ => ?_
set_option maxHeartbeats 8000000 in
set_option maxRecDepth 100000 in
theorem spec_FilterImage.calls (k : Nat) (a0_0 : Int) (a0_1 : Int) (a0_2 : Int) (A0_3 : Option Addr) (c0_3 : Nat) (l0_3 : List Int) (r : List Int) (w : World) (hr0_3 : Kd.C (Kd.int .i64) w A0_3 l0_3.length l0_3) (hc0_3 : l0_3.length ≤ c0_3) (h : spec_FilterImage.f k a0_0 a0_1 a0_2 l0_3 = some r) :
  Calls Try.prog 25 #[.agg #[.int .i64 a0_0, .int .i64 a0_1, .int .i64 a0_2, .slice A0_3 l0_3.length c0_3]] w fun e w' => ∃ v0_ : Value, e = .returned (v0_) ∧ Kd.R (Kd.int .i64) 3 w' w.heap.size (fun _ => True) v0_ r ∧ Below w.heap.size w w' := by
 have hu24 := Try.underlying24
 have HR0_3 := aM hr0_3
 have HC0_3 := aM hc0_3
 clear hr0_3 hc0_3
 have HB := aM (Below.refl w.heap.size w)
 unfold spec_FilterImage.f at h
 have H := h
 clear h
 replace H := Option.bind_eq_some_iff.mp H
 obtain ⟨t831, A20, H⟩ := H
 replace H : (if t831 = true then ((spec_filterImage.f k a0_0 a0_1 a0_2 l0_3).bind fun t832 => (some t832)) else (some ([] : List Int))) = some r := H
 have A2 := aM A20
 clear A20
 by_cases c3 : t831 = true
 rotate_left
 ·replace c3 := Bool.eq_false_iff.mpr c3
  subst c3
  have H1 : (some ([] : List Int)) = some r := by rw [if_neg (show ¬ (false = true) by decide)] at H; exact H
  clear H
  have H := H1
  clear H1
  obtain rfl := Option.some.inj H
  go_enter Try.func25, Try.ntmps25
  go_wp2_with (first | ((with_reducible refine gate_dst (N := 1) rfl ?_); refine bxE (N := 1) (cs := #[.int .i64 a0_0, .int .i64 a0_1, .int .i64 a0_2, .slice A0_3 l0_3.length c0_3]) (t := 24) ?_; intro gb830 hg w10 hbox hb; have BK830 := aM (hbox); have GW830 := gW hg HB; have GE830 := gW hg HB; replace HB := bS HB hb; clear hb hbox hg; obtain ⟨⟨hcz11_0, hcz11_1, hcz11_2, hcz11_3⟩, hfz11_0, hfz11_1, hfz11_2, hfz11_3⟩ := cf4 BK830) | ((with_reducible refine gate_callee (f := 54) rfl ?_); refine gL (some 4) Try.func54 #[.agg #[.int .i64 a0_0, .int .i64 a0_1, .int .i64 a0_2, .slice A0_3 l0_3.length c0_3]] ?_; (with_reducible refine (spec_validImage.calls k a0_0 a0_1 a0_2 _ _ l0_3 false _ ?side1 ?side2 A2.out).mono ?_); (case side1 => exact qC (Kd.C_below HR0_3.out HB.out)); (case side2 => exact HC0_3.out); rintro e w12 ⟨rfl, hb⟩; refine ⟨_, rfl, ?_⟩; replace BK830 := bB BK830 hb; replace HB := bS HB hb; clear hb))
  go_ret
  exact ⟨_, qX, qN, by exact qW HB.out⟩
 subst c3
 have H1 : ((spec_filterImage.f k a0_0 a0_1 a0_2 l0_3).bind fun t832 => (some t832)) = some r := by rw [if_pos rfl] at H; exact H
 clear H
 have H := H1
 clear H1
 replace H := Option.bind_eq_some_iff.mp H
 obtain ⟨t832, A40, H⟩ := H
 replace H : (some t832) = some r := H
 have A4 := aM A40
 clear A40
 obtain rfl := Option.some.inj H
 go_enter Try.func25, Try.ntmps25
 go_wp2_with (first | ((with_reducible refine gate_dst (N := 1) rfl ?_); refine bxE (N := 1) (cs := #[.int .i64 a0_0, .int .i64 a0_1, .int .i64 a0_2, .slice A0_3 l0_3.length c0_3]) (t := 24) ?_; intro gb830 hg w5 hbox hb; have BK830 := aM (hbox); have GW830 := gW hg HB; have GE830 := gW hg HB; replace HB := bS HB hb; clear hb hbox hg; obtain ⟨⟨hcz6_0, hcz6_1, hcz6_2, hcz6_3⟩, hfz6_0, hfz6_1, hfz6_2, hfz6_3⟩ := cf4 BK830) | ((with_reducible refine gate_callee (f := 54) rfl ?_); refine gL (some 4) Try.func54 #[.agg #[.int .i64 a0_0, .int .i64 a0_1, .int .i64 a0_2, .slice A0_3 l0_3.length c0_3]] ?_; (with_reducible refine (spec_validImage.calls k a0_0 a0_1 a0_2 _ _ l0_3 true _ ?side1 ?side2 A2.out).mono ?_); (case side1 => exact qC (Kd.C_below HR0_3.out HB.out)); (case side2 => exact HC0_3.out); rintro e w7 ⟨rfl, hb⟩; refine ⟨_, rfl, ?_⟩; replace BK830 := bB BK830 hb; replace HB := bS HB hb; clear hb; obtain ⟨⟨hcz8_0, hcz8_1, hcz8_2, hcz8_3⟩, hfz8_0, hfz8_1, hfz8_2, hfz8_3⟩ := cf4 BK830) | ((with_reducible refine gate_callee (f := 55) rfl ?_); refine gL (some 7) Try.func55 #[.agg #[.int .i64 a0_0, .int .i64 a0_1, .int .i64 a0_2, .slice A0_3 l0_3.length c0_3]] ?_; (with_reducible refine (spec_filterImage.calls k a0_0 a0_1 a0_2 _ _ l0_3 t832 _ ?side1 ?side2 A4.out).mono ?_); (case side1 => exact qC (Kd.C_below HR0_3.out HB.out)); (case side2 => exact HC0_3.out); rintro e w9 ⟨v833, rfl, ho0, hb⟩; refine ⟨_, rfl, ?_⟩; have HO834 := oR ho0 HB; replace BK830 := bB BK830 hb; replace HB := bS HB hb; clear hb ho0))
 go_ret
 exact ⟨_, qX, by refine qR ?_; exact HO834.out, by exact qW HB.out⟩
def impl_FilterImage.f (k : Nat) (a0_0 : Int) (a0_1 : Int) (a0_2 : Int) (l0_3 : List Int) : Option (List Int) := (impl_isImage.f a0_0 a0_1 a0_2 l0_3).bind fun t842 => (if t842 = true then ((impl_filterImage.f k a0_0 a0_1 a0_2 l0_3).bind fun t843 => (some t843)) else (some ([] : List Int)))
theorem impl_FilterImage.mono : ∀ a0 a1 a2 a3 k, LeO (impl_FilterImage.f k a0 a1 a2 a3) (impl_FilterImage.f (k + 1) a0 a1 a2 a3) := by
 intro a0 a1 a2 a3 k
 unfold impl_FilterImage.f
 repeat' first | (with_reducible first | exact impl_filterImage.mono _ _ _ _ _ | exact lR | exact lN | refine lI ?_ ?_ | refine lB ?_ fun _ => ?_) | exact impl_filterImage.mono _ _ _ _ _ | exact lN | refine lI ?_ ?_ | refine lB ?_ fun _ => ?_
set_option maxHeartbeats 8000000 in
set_option maxRecDepth 100000 in
theorem impl_FilterImage.calls (k : Nat) (a0_0 : Int) (a0_1 : Int) (a0_2 : Int) (A0_3 : Option Addr) (c0_3 : Nat) (l0_3 : List Int) (r : List Int) (w : World) (hr0_3 : Kd.C (Kd.int .i64) w A0_3 l0_3.length l0_3) (hc0_3 : l0_3.length ≤ c0_3) (h : impl_FilterImage.f k a0_0 a0_1 a0_2 l0_3 = some r) :
  Calls Try.prog 27 #[.agg #[.int .i64 a0_0, .int .i64 a0_1, .int .i64 a0_2, .slice A0_3 l0_3.length c0_3]] w fun e w' => ∃ v0_ : Value, e = .returned (v0_) ∧ Kd.R (Kd.int .i64) 3 w' w.heap.size (fun _ => True) v0_ r ∧ Below w.heap.size w w' := by
 have hu24 := Try.underlying24
 have HR0_3 := aM hr0_3
 have HC0_3 := aM hc0_3
 clear hr0_3 hc0_3
 have HB := aM (Below.refl w.heap.size w)
 unfold impl_FilterImage.f at h
 have H := h
 clear h
 replace H := Option.bind_eq_some_iff.mp H
 obtain ⟨t842, A20, H⟩ := H
 replace H : (if t842 = true then ((impl_filterImage.f k a0_0 a0_1 a0_2 l0_3).bind fun t843 => (some t843)) else (some ([] : List Int))) = some r := H
 have A2 := aM A20
 clear A20
 by_cases c3 : t842 = true
 rotate_left
 ·replace c3 := Bool.eq_false_iff.mpr c3
  subst c3
  have H1 : (some ([] : List Int)) = some r := by rw [if_neg (show ¬ (false = true) by decide)] at H; exact H
  clear H
  have H := H1
  clear H1
  obtain rfl := Option.some.inj H
  go_enter Try.func27, Try.ntmps27
  go_wp2_with (first | ((with_reducible refine gate_dst (N := 1) rfl ?_); refine bxE (N := 1) (cs := #[.int .i64 a0_0, .int .i64 a0_1, .int .i64 a0_2, .slice A0_3 l0_3.length c0_3]) (t := 24) ?_; intro gb841 hg w10 hbox hb; have BK841 := aM (hbox); have GW841 := gW hg HB; have GE841 := gW hg HB; replace HB := bS HB hb; clear hb hbox hg; obtain ⟨⟨hcz11_0, hcz11_1, hcz11_2, hcz11_3⟩, hfz11_0, hfz11_1, hfz11_2, hfz11_3⟩ := cf4 BK841) | ((with_reducible refine gate_callee (f := 52) rfl ?_); refine gL (some 4) Try.func52 #[.agg #[.int .i64 a0_0, .int .i64 a0_1, .int .i64 a0_2, .slice A0_3 l0_3.length c0_3]] ?_; (with_reducible refine (impl_isImage.calls a0_0 a0_1 a0_2 _ _ l0_3 false _ ?side1 ?side2 A2.out).mono ?_); (case side1 => exact qC (Kd.C_below HR0_3.out HB.out)); (case side2 => exact HC0_3.out); rintro e w12 ⟨rfl, hb⟩; refine ⟨_, rfl, ?_⟩; replace BK841 := bB BK841 hb; replace HB := bS HB hb; clear hb))
  go_ret
  exact ⟨_, qX, qN, by exact qW HB.out⟩
 subst c3
 have H1 : ((impl_filterImage.f k a0_0 a0_1 a0_2 l0_3).bind fun t843 => (some t843)) = some r := by rw [if_pos rfl] at H; exact H
 clear H
 have H := H1
 clear H1
 replace H := Option.bind_eq_some_iff.mp H
 obtain ⟨t843, A40, H⟩ := H
 replace H : (some t843) = some r := H
 have A4 := aM A40
 clear A40
 obtain rfl := Option.some.inj H
 go_enter Try.func27, Try.ntmps27
 go_wp2_with (first | ((with_reducible refine gate_dst (N := 1) rfl ?_); refine bxE (N := 1) (cs := #[.int .i64 a0_0, .int .i64 a0_1, .int .i64 a0_2, .slice A0_3 l0_3.length c0_3]) (t := 24) ?_; intro gb841 hg w5 hbox hb; have BK841 := aM (hbox); have GW841 := gW hg HB; have GE841 := gW hg HB; replace HB := bS HB hb; clear hb hbox hg; obtain ⟨⟨hcz6_0, hcz6_1, hcz6_2, hcz6_3⟩, hfz6_0, hfz6_1, hfz6_2, hfz6_3⟩ := cf4 BK841) | ((with_reducible refine gate_callee (f := 52) rfl ?_); refine gL (some 4) Try.func52 #[.agg #[.int .i64 a0_0, .int .i64 a0_1, .int .i64 a0_2, .slice A0_3 l0_3.length c0_3]] ?_; (with_reducible refine (impl_isImage.calls a0_0 a0_1 a0_2 _ _ l0_3 true _ ?side1 ?side2 A2.out).mono ?_); (case side1 => exact qC (Kd.C_below HR0_3.out HB.out)); (case side2 => exact HC0_3.out); rintro e w7 ⟨rfl, hb⟩; refine ⟨_, rfl, ?_⟩; replace BK841 := bB BK841 hb; replace HB := bS HB hb; clear hb; obtain ⟨⟨hcz8_0, hcz8_1, hcz8_2, hcz8_3⟩, hfz8_0, hfz8_1, hfz8_2, hfz8_3⟩ := cf4 BK841) | ((with_reducible refine gate_callee (f := 56) rfl ?_); refine gL (some 7) Try.func56 #[.agg #[.int .i64 a0_0, .int .i64 a0_1, .int .i64 a0_2, .slice A0_3 l0_3.length c0_3]] ?_; (with_reducible refine (impl_filterImage.calls k a0_0 a0_1 a0_2 (fun k_ => k_ < w.heap.size) _ _ l0_3 t843 _ ?side1 A4.out).mono ?_); (case side1 => exact Kd.V_mk HC0_3.out (Kd.F_below (Kd.C_F (Kd.heap_int .i64) HR0_3.out) (qW HB.out))); rintro e w9 ⟨v844, rfl, ho0, hb⟩; refine ⟨_, rfl, ?_⟩; have HO845 := aM (Kd.R_lower (Kd.R_mono (ok' := fun k_ => True) ho0 (fun _ hk_ => trivial)) (below_size (qW HB.out))); replace BK841 := bB BK841 hb; replace HB := bS HB hb; clear hb ho0))
 go_ret
 exact ⟨_, qX, by refine qR ?_; exact HO845.out, by exact qW HB.out⟩
mutual
def spec_unfilterImage.l0 : Nat → Int → Int → List Int → Int → List Int → Int → Int → Int → Int → List Int → Option (Int × Int × Int × List Int × Bool)
 | 0, _, _, _, _, _, _, _, _, _, _ => none
 | k + 1, x1, x2, x3, x11, x12, x13, x167000, x167001, x167002, x167003 => if x13 < x1 then (if 0 ≤ (wrap64 (x13 * (wrap64 (x11 + 1)))) then (if (wrap64 (x13 * (wrap64 (x11 + 1)))) < (x3.length : Int) then ((spec_inRange.f (rd x3 (wrap64 (x13 * (wrap64 (x11 + 1))))) 0 4).bind fun t171 => (if t171 = true then (if 0 ≤ (wrap64 ((wrap64 (x13 * (wrap64 (x11 + 1)))) + 1)) then (if (wrap64 ((wrap64 (x13 * (wrap64 (x11 + 1)))) + 1)) ≤ (wrap64 ((wrap64 ((wrap64 (x13 * (wrap64 (x11 + 1)))) + 1)) + x11)) then (if (wrap64 ((wrap64 ((wrap64 (x13 * (wrap64 (x11 + 1)))) + 1)) + x11)) ≤ (x3.length : Int) then ((spec_unfilterRow.f k (rd x3 (wrap64 (x13 * (wrap64 (x11 + 1))))) ((x3.take ((wrap64 ((wrap64 ((wrap64 (x13 * (wrap64 (x11 + 1)))) + 1)) + x11)) : Int).toNat).drop ((wrap64 ((wrap64 (x13 * (wrap64 (x11 + 1)))) + 1)) : Int).toNat) x12 x2).bind fun t174 => (spec_unfilterImage.l1 k x1 x2 x3 x11 x13 t174 0 x167000 x167001 x167002 x167003)) else (none)) else (none)) else (none)) else (some (0, 0, 0, ([] : List Int), false)))) else (none)) else (none)) else (some (x167000, x167001, x167002, x167003, true))
def spec_unfilterImage.l1 : Nat → Int → Int → List Int → Int → Int → List Int → Int → Int → Int → Int → List Int → Option (Int × Int × Int × List Int × Bool)
 | 0, _, _, _, _, _, _, _, _, _, _, _ => none
 | k + 1, x1, x2, x3, x11, x13, x15, x16, x167000, x167001, x167002, x167003 => if x16 < x11 then (if 0 ≤ x16 then (if x16 < (x15.length : Int) then (if 0 ≤ (wrap64 ((wrap64 (x13 * x11)) + x16)) then (if (wrap64 ((wrap64 (x13 * x11)) + x16)) < (x167003.length : Int) then (spec_unfilterImage.l1 k x1 x2 x3 x11 x13 x15 (wrap64 (x16 + 1)) x167000 x167001 x167002 (x167003.set ((wrap64 ((wrap64 (x13 * x11)) + x16)) : Int).toNat (rd x15 x16))) else (none)) else (none)) else (none)) else (none)) else (spec_unfilterImage.l0 k x1 x2 x3 x11 x15 (wrap64 (x13 + 1)) x167000 x167001 x167002 x167003)
end
def spec_unfilterImage.f (k : Nat) (a0 : Int) (a1 : Int) (a2 : Int) (l3 : List Int) : Option (Int × Int × Int × List Int × Bool) := (spec_newImage.f a0 a1 a2).bind fun bt160 => (if 0 ≤ (wrap64 (a0 * a2)) then (if (wrap64 (a0 * a2) : Int).toNat ≤ 35184372088832 then (spec_unfilterImage.l0 k a1 a2 l3 (wrap64 (a0 * a2)) (List.replicate (wrap64 (a0 * a2) : Int).toNat 0) 0 bt160.1 bt160.2.1 bt160.2.2.1 bt160.2.2.2) else (none)) else (none))
theorem spec_unfilterImage.mono_l : ∀ k, (∀ y0 y1 y2 y3 y4 y5 y6 y7 y8 y9, LeO (spec_unfilterImage.l0 k y0 y1 y2 y3 y4 y5 y6 y7 y8 y9) (spec_unfilterImage.l0 (k + 1) y0 y1 y2 y3 y4 y5 y6 y7 y8 y9)) ∧ (∀ y0 y1 y2 y3 y4 y5 y6 y7 y8 y9 y10, LeO (spec_unfilterImage.l1 k y0 y1 y2 y3 y4 y5 y6 y7 y8 y9 y10) (spec_unfilterImage.l1 (k + 1) y0 y1 y2 y3 y4 y5 y6 y7 y8 y9 y10))
 | 0 => ⟨fun _ _ _ _ _ _ _ _ _ _ r h => by simp [spec_unfilterImage.l0] at h, fun _ _ _ _ _ _ _ _ _ _ _ r h => by simp [spec_unfilterImage.l1] at h⟩
 | k + 1 => by
  obtain ⟨ih0, ih1⟩ := spec_unfilterImage.mono_l k
  refine ⟨?_, ?_⟩
  all_goals intros
  all_goals first | unfold spec_unfilterImage.l0 | unfold spec_unfilterImage.l1
  all_goals repeat' first | (with_reducible first | exact ih0 _ _ _ _ _ _ _ _ _ _ | exact ih1 _ _ _ _ _ _ _ _ _ _ _ | exact spec_unfilterRow.mono _ _ _ _ _ | exact lR | exact lN | refine lI ?_ ?_ | refine lB ?_ fun _ => ?_) | exact ih0 _ _ _ _ _ _ _ _ _ _ | exact ih1 _ _ _ _ _ _ _ _ _ _ _ | exact spec_unfilterRow.mono _ _ _ _ _ | exact lN | refine lI ?_ ?_ | refine lB ?_ fun _ => ?_
theorem spec_unfilterImage.mono : ∀ a0 a1 a2 a3 k, LeO (spec_unfilterImage.f k a0 a1 a2 a3) (spec_unfilterImage.f (k + 1) a0 a1 a2 a3) := by
 intro a0 a1 a2 a3 k
 obtain ⟨ih0, ih1⟩ := spec_unfilterImage.mono_l k
 unfold spec_unfilterImage.f
 repeat' first | (with_reducible first | exact ih0 _ _ _ _ _ _ _ _ _ _ | exact ih1 _ _ _ _ _ _ _ _ _ _ _ | exact spec_unfilterRow.mono _ _ _ _ _ | exact lR | exact lN | refine lI ?_ ?_ | refine lB ?_ fun _ => ?_) | exact ih0 _ _ _ _ _ _ _ _ _ _ | exact ih1 _ _ _ _ _ _ _ _ _ _ _ | exact spec_unfilterRow.mono _ _ _ _ _ | exact lN | refine lI ?_ ?_ | refine lB ?_ fun _ => ?_
def spec_unfilterImage.T10 : Bool × List (List Nat × List Nat) := (true, [([], []), ([], []), ([0, 1], [0, 1]), ([2], [2]), ([], []), ([], []), ([5], [5]), ([], []), ([7], [7]), ([], []), ([8, 9], [8, 9]), ([4, 6, 10], [4, 6, 10]), ([], []), ([], []), ([3, 11, 12, 13], [3, 11, 12, 13]), ([14, 14, 0, 1, 2, 3, 4, 5, 6, 7, 8, 9, 10, 11, 12, 13, 14], [14])])
def spec_unfilterImage.B10 : List Nat := [0, 0, 3, 7, 0, 0, 32, 0, 128, 0, 896, 2032, 0, 0, 16383, 32767]
theorem spec_unfilterImage.tab10 : rtab .any (opsOf Try.f40 10) = spec_unfilterImage.T10 := by kernel_rfl
theorem spec_unfilterImage.bits10 : waitsOk spec_unfilterImage.T10.2 spec_unfilterImage.B10 = true := by kernel_rfl
def spec_unfilterImage.T14 : Bool × List (List Nat × List Nat) := (true, [([], []), ([0], [0]), ([], []), ([], []), ([2, 3], [2, 3]), ([], []), ([4, 5], [4, 5]), ([], []), ([], []), ([7, 8], [7, 8]), ([9], [9]), ([1, 6, 0, 1, 2, 3, 4, 5, 6, 7, 8, 9, 10], [1, 6]), ([11, 10, 0, 1, 2, 3, 4, 5, 6, 7, 8, 9, 10], [10, 11])])
def spec_unfilterImage.B14 : List Nat := [0, 1, 0, 0, 12, 0, 60, 0, 0, 384, 896, 2047, 4095]
theorem spec_unfilterImage.tab14 : rtab .any (opsOf Try.f40 14) = spec_unfilterImage.T14 := by kernel_rfl
theorem spec_unfilterImage.bits14 : waitsOk spec_unfilterImage.T14.2 spec_unfilterImage.B14 = true := by kernel_rfl
set_option maxHeartbeats 8000000 in
set_option maxRecDepth 100000 in
theorem spec_unfilterImage.calls (k : Nat) (a0 : Int) (a1 : Int) (a2 : Int) (A3 : Option Addr) (c3 : Nat) (l3 : List Int) (r1 : Int) (r2 : Int) (r3 : Int) (r4 : List Int) (r5 : Bool) (w : World) (hr3 : Kd.C (Kd.int .i64) w A3 l3.length l3) (hc3 : l3.length ≤ c3) (h : spec_unfilterImage.f k a0 a1 a2 l3 = some (r1, r2, r3, r4, r5)) :
  Calls Try.prog 40 #[.int .i64 a0, .int .i64 a1, .int .i64 a2, .slice A3 l3.length c3] w fun e w' => ∃ v3_ : Value, e = .returned (.tuple #[.agg #[.int .i64 r1, .int .i64 r2, .int .i64 r3, v3_], .bool r5]) ∧ Kd.R (Kd.int .i64) 3 w' w.heap.size (fun _ => True) v3_ r4 ∧ Below w.heap.size w w' := by
 have hu24 := Try.underlying24
 have HR3 := aM hr3
 have HC3 := aM hc3
 clear hr3 hc3
 have HB := aM (Below.refl w.heap.size w)
 unfold spec_unfilterImage.f at h
 have H := h
 clear h
 replace H := Option.bind_eq_some_iff.mp H
 obtain ⟨⟨t160, t161, t162, t163⟩, A50, H⟩ := H
 replace H : (if 0 ≤ (wrap64 (a0 * a2)) then (if (wrap64 (a0 * a2) : Int).toNat ≤ 35184372088832 then (spec_unfilterImage.l0 k a1 a2 l3 (wrap64 (a0 * a2)) (List.replicate (wrap64 (a0 * a2) : Int).toNat 0) 0 t160 t161 t162 t163) else (none)) else (none)) = some (r1, r2, r3, r4, r5) := H
 have A5 := aM A50
 clear A50
 obtain ⟨ji6, hji6⟩ : ∃ j_ : Int, (wrap64 (a0 * a2)) = j_ := ⟨_, rfl⟩
 replace H : (if 0 ≤ (ji6) then (if (ji6 : Int).toNat ≤ 35184372088832 then (spec_unfilterImage.l0 k a1 a2 l3 ji6 (List.replicate (ji6 : Int).toNat 0) 0 t160 t161 t162 t163) else (none)) else (none)) = some (r1, r2, r3, r4, r5) := by first | (rw [hji6] at H; exact H) | (simp only [hji6] at H ⊢; exact H)
 (try rw [hji6] at A5)
 have hji6w : (IntKind.i64.wrap (a0 * a2)) = ji6 := (i64_w _).trans hji6
 replace H := iS H
 obtain ⟨c7, H⟩ := H
 have c7b0 := eq_true c7
 have c7b1 : decide (0 ≤ (ji6)) = true := decide_eq_true c7
 clear c7
 replace H := iS H
 obtain ⟨c8, H⟩ := H
 have c8b0 := eq_true c8
 have c8b1 : decide ((ji6 : Int).toNat ≤ 35184372088832) = true := decide_eq_true c8
 clear c8
 obtain ⟨y167, hy167⟩ : ∃ y_ : List Int, y_ = (List.replicate (ji6 : Int).toNat 0) := ⟨_, rfl⟩
 replace H : (spec_unfilterImage.l0 k a1 a2 l3 ji6 y167 0 t160 t161 t162 t163) = some (r1, r2, r3, r4, r5) := rY hy167 H
 have Ny167 := aM hy167
 clear hy167
 have H' := aM H
 clear H
 go_enter Try.func40, Try.ntmps40
 go_wp2_with (first | ((with_reducible refine gate_dst (N := 8) rfl ?_); refine bxE (N := 8) (cs := #[.int .i64 0, .int .i64 0, .int .i64 0, .slice none 0 0]) (t := 24) ?_; intro gb159 hg w9 hbox hb; have BK159 := aM (hbox); have GW159 := gW hg HB; have GE159 := gW hg HB; replace HB := bS HB hb; clear hb hbox hg) | ((with_reducible refine gate_callee (f := 61) rfl ?_); refine gL (some 20) Try.func61 #[.int .i64 a0, .int .i64 a1, .int .i64 a2] ?_; (with_reducible refine (spec_newImage.calls a0 a1 a2 t160 t161 t162 t163 _ A5.out).mono ?_); rintro e w10 ⟨v164, rfl, ho0, hb⟩; refine ⟨_, rfl, ?_⟩; have HO165 := oR ho0 HB; replace BK159 := bB BK159 hb; replace HB := bS HB hb; clear hb ho0) | ((with_reducible refine gate_dst (N := 10) rfl ?_); refine bxE (N := 10) (cs := #[.int .i64 0, .int .i64 0, .int .i64 0, .slice none 0 0]) (t := 24) ?_; intro gb166 hg w11 hbox hb; replace HO165 := aM (Kd.R_below (qR HO165.out) hb); have BK166 := aM (hbox); have GW166 := gW hg HB; have GE166 := gW hg HB; replace HB := bS HB hb; have NB159_166 := nL hg BK159; have NB166_159 := nG hg BK159; replace BK159 := bB BK159 hb; clear hb hbox hg; have hnb12 := NB166_159.out; have hnc12 := NB159_166.out; obtain ⟨⟨hcz13_0, hcz13_1, hcz13_2, hcz13_3⟩, hfz13_0, hfz13_1, hfz13_2, hfz13_3⟩ := cf4 BK166; obtain ⟨Ao14, co14, rfl⟩ := sL HO165) | ((with_reducible refine gate_dst (N := 25) rfl ?_); refine Kd.R_make (Kd.int .i64) _ 3 rfl (N := 25) rfl 22 _ _ rfl ji6 rfl rfl Try.underlying22 (.int .i64 0) 8 info3 rfl (by decide) (by omega) 0 (ok := fun _ => True) (okp := fun _ => True) rfl (fun _ hk => hk) trivial oD (Nat.le_trans (Nat.mul_le_mul_right _ (oD : ji6.toNat ≤ 35184372088832)) (by omega)) (Below.refl _ _) (Nat.le_refl _) ?_; intro v168 w15 ho16 hb hg_ hnew_; clear hg_ hnew_; (first | rw [← Ny167.out] at ho16 | (simp only [Int.reduceToNat] at ho16; rw [← Ny167.out] at ho16)); have HO169 := aM (Kd.R_lower (Kd.R_new' ho16 (Kd.R_lt (by refine qR ?_; exact (fr4 HO165 BK166)))) (below_size (qW HB.out))); replace HO165 := aM (Kd.R_elder' (by refine qR ?_; exact (fr4 HO165 BK166)) (Kd.R_base ho16) hb); replace BK159 := aM (blk_below (g := gb159) (o := .cells #[.int .i64 0, .int .i64 0, .int .i64 0, .slice none 0 0] 24 (0, 0)) (by refine qB ?_; refine blk_far ?_ NB159_166.out _; refine qB ?_; refine blk_far ?_ NB159_166.out _; refine qB ?_; refine blk_far ?_ NB159_166.out _; refine qB ?_; refine blk_far ?_ NB159_166.out _; refine qB ?_; exact BK159.out) hb); replace BK166 := aM (blk_below (g := gb166) (o := .cells #[.int .i64 t160, .int .i64 t161, .int .i64 t162, .slice Ao14 t163.length co14] 24 (0, 0)) (by exact bP BK166.out) hb); replace HB := bS HB hb; clear hb ho16))
 go_loopg [12, 13] k (fun kq v12 v13 w' => ∃ (x12_1 : List Int) (x13_1 : Int) (x160000_1 : Int) (x160001_1 : Int) (x160002_1 : Int) (x167003_1 : List Int) (u167003 : Value), v13 = .int .i64 x13_1 ∧ Aside0 (spec_unfilterImage.l0 kq a1 a2 l3 ji6 x12_1 x13_1 t160 t161 t162 x167003_1 = some (r1, r2, r3, r4, r5)) ∧ Aside0 (kq ≤ k) ∧ Aside0 (Kd.R (Kd.int .i64) 3 w' w.heap.size (fun k_ => some k_ ≠ (u167003 : Value).ownBlock) v12 x12_1) ∧ Aside0 (Kd.R (Kd.int .i64) 3 w' w.heap.size (fun k_ => some k_ ≠ (v12 : Value).ownBlock) u167003 x167003_1) ∧ Aside0 (w'.heap[gb159]? = some (.cells #[.int .i64 x160000_1, .int .i64 x160001_1, .int .i64 x160002_1, (.slice none 0 0)] 24 (0, 0))) ∧ Aside0 (w'.heap[gb166]? = some (.cells #[.int .i64 t160, .int .i64 t161, .int .i64 t162, u167003] 24 (0, 0))) ∧ Aside0 (Below w.heap.size w w'))
 case atStart => exact ⟨(y167), (0), (0), (0), (0), (t163), (.slice Ao14 t163.length co14), qE, H', ⟨Nat.le_refl _⟩, ⟨by refine qR ?_; exact Kd.R_mono HO169.out (fun _ hk => hk.2)⟩, ⟨by refine qR ?_; exact Kd.R_mono HO165.out (fun _ hk => hk.2)⟩, ⟨by refine qB ?_; exact BK159.out⟩, ⟨by refine qB ?_; exact BK166.out⟩, ⟨by exact qW HB.out⟩⟩
 case round =>
  clear H'
  try clear c3
  try clear c7
  try clear c7b0
  try clear c7b1
  try clear c8
  try clear c8b0
  try clear c8b1
  try clear hcz13_0 hcz13_1 hcz13_2 hcz13_3 hfz13_0 hfz13_1 hfz13_2 hfz13_3
  obtain ⟨x12_1, x13_1, x160000_1, x160001_1, x160002_1, x167003_1, u167003, rfl, HA, HK1, HO_12, HO_167003, BK159, BK166, HB⟩ := hrel
  cases gk with
  | zero => exact absurd HA.out (by simp [spec_unfilterImage.l0])
  | succ k1 =>
   have H := HA.out
   clear HA
   simp only [spec_unfilterImage.l0] at H
   by_cases c17 : x13_1 < a1
   rotate_left
   ·rw [if_neg c17] at H
    have c17b0 : decide (x13_1 < a1) = false := decide_eq_false c17
    clear c17
    simp only [Option.some.injEq, Prod.mk.injEq] at H
    obtain ⟨rfl, rfl, rfl, rfl, rfl⟩ := H
    have hnb44 := NB166_159.out
    have hnc44 := NB159_166.out
    obtain ⟨⟨hcz45_0, hcz45_1, hcz45_2, hcz45_3⟩, hfz45_0, hfz45_1, hfz45_2, hfz45_3⟩ := cf4 BK166
    obtain ⟨⟨hcz46_0, hcz46_1, hcz46_2, hcz46_3⟩, hfz46_0, hfz46_1, hfz46_2, hfz46_3⟩ := cf4 BK159
    obtain ⟨Ao47, co47, rfl⟩ := sL HO_167003
    go_wp2
    refine bodyPost_ret (results_ct rfl _ _ gb159 24 #[.int .i64 t160, .int .i64 t161, .int .i64 t162, .slice Ao47 x167003_1.length co47] (0, 0) _ rfl (by exact bP BK159.out) Try.underlying24 rfl (by kernel_rfl)) rfl ?_
    exact ⟨_, by first | rfl | (simp [errW_none, errW_some] <;> rfl) | (simp only [← hji6]; first | rfl | (simp [errW_none, errW_some] <;> rfl)) | (simp [*, errW_none, errW_some] <;> rfl), by refine qR ?_; exact Kd.R_mono (rT HO_167003 BK159) (fun _ hk => trivial), by exact qW HB.out⟩
   rw [if_pos c17] at H
   have c17b0 : decide (x13_1 < a1) = true := decide_eq_true c17
   clear c17
   obtain ⟨ji18, hji18⟩ : ∃ j_ : Int, (wrap64 (x13_1 * (wrap64 (ji6 + 1)))) = j_ := ⟨_, rfl⟩
   replace H : (if 0 ≤ (ji18) then (if (ji18) < (l3.length : Int) then ((spec_inRange.f (rd l3 (ji18)) 0 4).bind fun t171 => (if t171 = true then (if 0 ≤ (wrap64 ((ji18) + 1)) then (if (wrap64 ((ji18) + 1)) ≤ (wrap64 ((wrap64 ((ji18) + 1)) + ji6)) then (if (wrap64 ((wrap64 ((ji18) + 1)) + ji6)) ≤ (l3.length : Int) then ((spec_unfilterRow.f k1 (rd l3 (ji18)) ((l3.take ((wrap64 ((wrap64 ((ji18) + 1)) + ji6)) : Int).toNat).drop ((wrap64 ((ji18) + 1)) : Int).toNat) x12_1 a2).bind fun t174 => (spec_unfilterImage.l1 k1 a1 a2 l3 ji6 x13_1 t174 0 t160 t161 t162 x167003_1)) else (none)) else (none)) else (none)) else (some (0, 0, 0, ([] : List Int), false)))) else (none)) else (none)) = some (r1, r2, r3, r4, r5) := by first | (rw [hji18] at H; exact H) | (simp only [hji18] at H ⊢; exact H)
   have hji18w : (IntKind.i64.wrap (x13_1 * (wrap64 (ji6 + 1)))) = ji18 := (i64_w _).trans hji18
   replace H := iD H
   obtain ⟨c19b0, H⟩ := H
   replace H := iD H
   obtain ⟨c20b0, H⟩ := H
   replace H := Option.bind_eq_some_iff.mp H
   obtain ⟨t171, A210, H⟩ := H
   replace H : (if t171 = true then (if 0 ≤ (wrap64 ((ji18) + 1)) then (if (wrap64 ((ji18) + 1)) ≤ (wrap64 ((wrap64 ((ji18) + 1)) + ji6)) then (if (wrap64 ((wrap64 ((ji18) + 1)) + ji6)) ≤ (l3.length : Int) then ((spec_unfilterRow.f k1 (rd l3 (ji18)) ((l3.take ((wrap64 ((wrap64 ((ji18) + 1)) + ji6)) : Int).toNat).drop ((wrap64 ((ji18) + 1)) : Int).toNat) x12_1 a2).bind fun t174 => (spec_unfilterImage.l1 k1 a1 a2 l3 ji6 x13_1 t174 0 t160 t161 t162 x167003_1)) else (none)) else (none)) else (none)) else (some (0, 0, 0, ([] : List Int), false))) = some (r1, r2, r3, r4, r5) := H
   have A21 := aM A210
   clear A210
   by_cases c22 : t171 = true
   rotate_left
   ·replace c22 := Bool.eq_false_iff.mpr c22
    subst c22
    have H1 : (some (0, 0, 0, ([] : List Int), false)) = some (r1, r2, r3, r4, r5) := by rw [if_neg (show ¬ (false = true) by decide)] at H; exact H
    clear H
    have H := H1
    clear H1
    simp only [Option.some.injEq, Prod.mk.injEq] at H
    obtain ⟨rfl, rfl, rfl, rfl, rfl⟩ := H
    obtain ⟨ad170, e170, hx170_0⟩ := Kd.at_int HR3.out (ji18) oD oD
    cases e170
    replace hx170_0 := bD HB hx170_0
    have p170 := eq_true (oD : 0 ≤ ((ji18) : Int))
    have q170 := eq_true (oD : (ji18) < (l3.length : Int))
    go_wp2_with (first | ((with_reducible refine gate_callee (f := 59) rfl ?_); refine goesL_ (some 39) rfl rfl Try.func59 (by kernel_rfl) rfl #[.int .i64 (rd l3 (ji18)), .int .i64 0, .int .i64 4] rfl (by (try simp only [List.map_toArray, List.map_cons, List.map_nil]); first | done | (simp only [hji18]; rfl) | rfl | (simp only [List.length_drop, List.length_take]; rfl)) ?_; (with_reducible refine (spec_inRange.calls (rd l3 (ji18)) 0 4 false _ A21.out).mono ?_); rintro e w' ⟨rfl, ⟨nd, rfl⟩⟩; refine ⟨_, rfl, ?_⟩; (try (rw [drewN_self wr]; generalize hq_ : World.drewN wr _ = wr; replace HO_12 : Aside0 (Kd.R (Kd.int .i64) 3 wr w.heap.size (fun k_ => some k_ ≠ (u167003 : Value).ownBlock) u12 x12_1) := ⟨by rw [← hq_]; exact (qR HO_12.out)⟩; replace HO_167003 : Aside0 (Kd.R (Kd.int .i64) 3 wr w.heap.size (fun k_ => some k_ ≠ (u12 : Value).ownBlock) u167003 x167003_1) := ⟨by rw [← hq_]; exact (qR HO_167003.out)⟩; replace BK159 : Aside0 (wr.heap[gb159]? = some (.cells #[.int .i64 x160000_1, .int .i64 x160001_1, .int .i64 x160002_1, .slice none 0 0] 24 (0, 0))) := ⟨by rw [← hq_]; exact (qB BK159.out)⟩; replace BK166 : Aside0 (wr.heap[gb166]? = some (.cells #[.int .i64 t160, .int .i64 t161, .int .i64 t162, u167003] 24 (0, 0))) := ⟨by rw [← hq_]; exact (qB BK166.out)⟩; replace HB : Aside0 (Below w.heap.size w wr) := ⟨by rw [← hq_]; exact (qW HB.out)⟩; clear hq_)); have hnb42 := NB159_166.out; have hnc42 := NB166_159.out; obtain ⟨⟨hcz43_0, hcz43_1, hcz43_2, hcz43_3⟩, hfz43_0, hfz43_1, hfz43_2, hfz43_3⟩ := cf4 BK159))
    refine bodyPost_ret (results_ct rfl _ _ gb159 24 #[.int .i64 0, .int .i64 0, .int .i64 0, .slice none 0 0] (0, 0) _ rfl (by exact bP BK159.out) Try.underlying24 rfl (by kernel_rfl)) rfl ?_
    exact ⟨_, by first | rfl | (simp [errW_none, errW_some] <;> rfl) | (simp only [← hji6, ← hji18]; first | rfl | (simp [errW_none, errW_some] <;> rfl)) | (simp [*, errW_none, errW_some] <;> rfl), qN, by exact qW HB.out⟩
   subst c22
   have H1 : (if 0 ≤ (wrap64 ((ji18) + 1)) then (if (wrap64 ((ji18) + 1)) ≤ (wrap64 ((wrap64 ((ji18) + 1)) + ji6)) then (if (wrap64 ((wrap64 ((ji18) + 1)) + ji6)) ≤ (l3.length : Int) then ((spec_unfilterRow.f k1 (rd l3 (ji18)) ((l3.take ((wrap64 ((wrap64 ((ji18) + 1)) + ji6)) : Int).toNat).drop ((wrap64 ((ji18) + 1)) : Int).toNat) x12_1 a2).bind fun t174 => (spec_unfilterImage.l1 k1 a1 a2 l3 ji6 x13_1 t174 0 t160 t161 t162 x167003_1)) else (none)) else (none)) else (none)) = some (r1, r2, r3, r4, r5) := by rw [if_pos rfl] at H; exact H
   clear H
   have H := H1
   clear H1
   obtain ⟨ji23, hji23⟩ : ∃ j_ : Int, (wrap64 ((ji18) + 1)) = j_ := ⟨_, rfl⟩
   replace H : (if 0 ≤ (ji23) then (if (ji23) ≤ (wrap64 ((ji23) + ji6)) then (if (wrap64 ((ji23) + ji6)) ≤ (l3.length : Int) then ((spec_unfilterRow.f k1 (rd l3 (ji18)) ((l3.take ((wrap64 ((ji23) + ji6)) : Int).toNat).drop ((ji23) : Int).toNat) x12_1 a2).bind fun t174 => (spec_unfilterImage.l1 k1 a1 a2 l3 ji6 x13_1 t174 0 t160 t161 t162 x167003_1)) else (none)) else (none)) else (none)) = some (r1, r2, r3, r4, r5) := by first | (rw [hji23] at H; exact H) | (simp only [hji23] at H ⊢; exact H)
   (try rw [hji23] at A21)
   have hji23w : (IntKind.i64.wrap ((ji18) + 1)) = ji23 := (i64_w _).trans hji23
   replace H := iS H
   obtain ⟨c24, H⟩ := H
   have c24b0 := eq_true c24
   have c24b1 : decide (0 ≤ (ji23)) = true := decide_eq_true c24
   clear c24
   replace H := iS H
   obtain ⟨c25, H⟩ := H
   have c25b0 := eq_true c25
   have c25b1 : decide ((ji23) ≤ (wrap64 ((ji23) + ji6))) = true := decide_eq_true c25
   replace H := iS H
   obtain ⟨c26, H⟩ := H
   have c26b0 := eq_true c26
   have c26b1 : decide ((wrap64 ((ji23) + ji6)) ≤ (l3.length : Int)) = true := decide_eq_true c26
   replace H := Option.bind_eq_some_iff.mp H
   obtain ⟨t174, A270, H⟩ := H
   replace H : (spec_unfilterImage.l1 k1 a1 a2 l3 ji6 x13_1 t174 0 t160 t161 t162 x167003_1) = some (r1, r2, r3, r4, r5) := H
   have A27 := aM A270
   clear A270
   have H' := aM H
   clear H
   obtain ⟨ad170, e170, hx170_0⟩ := Kd.at_int HR3.out (ji18) oD oD
   cases e170
   replace hx170_0 := bD HB hx170_0
   have p170 := eq_true (oD : 0 ≤ ((ji18) : Int))
   have q170 := eq_true (oD : (ji18) < (l3.length : Int))
   try go_wp2_with (first | ((with_reducible refine gate_callee (f := 59) rfl ?_); refine goesL_ (some 39) rfl rfl Try.func59 (by kernel_rfl) rfl #[.int .i64 (rd l3 (ji18)), .int .i64 0, .int .i64 4] rfl (by (try simp only [List.map_toArray, List.map_cons, List.map_nil]); first | done | (simp only [hji18]; rfl) | rfl | (simp only [List.length_drop, List.length_take]; rfl)) ?_; (with_reducible refine (spec_inRange.calls (rd l3 (ji18)) 0 4 true _ A21.out).mono ?_); rintro e w' ⟨rfl, ⟨nd, rfl⟩⟩; refine ⟨_, rfl, ?_⟩))
   (try (rw [drewN_self wr]; generalize hq_ : World.drewN wr _ = wr; replace HO_12 : Aside0 (Kd.R (Kd.int .i64) 3 wr w.heap.size (fun k_ => some k_ ≠ (u167003 : Value).ownBlock) u12 x12_1) := ⟨by rw [← hq_]; exact (qR HO_12.out)⟩; replace HO_167003 : Aside0 (Kd.R (Kd.int .i64) 3 wr w.heap.size (fun k_ => some k_ ≠ (u12 : Value).ownBlock) u167003 x167003_1) := ⟨by rw [← hq_]; exact (qR HO_167003.out)⟩; replace BK159 : Aside0 (wr.heap[gb159]? = some (.cells #[.int .i64 x160000_1, .int .i64 x160001_1, .int .i64 x160002_1, .slice none 0 0] 24 (0, 0))) := ⟨by rw [← hq_]; exact (qB BK159.out)⟩; replace BK166 : Aside0 (wr.heap[gb166]? = some (.cells #[.int .i64 t160, .int .i64 t161, .int .i64 t162, u167003] 24 (0, 0))) := ⟨by rw [← hq_]; exact (qB BK166.out)⟩; replace HB : Aside0 (Below w.heap.size w wr) := ⟨by rw [← hq_]; exact (qW HB.out)⟩; clear hq_))
   replace HO_12 := aM (Kd.R_drew HO_12.out)
   replace HO_167003 := aM (Kd.R_drew HO_167003.out)
   replace BK159 := aM (blk_drew BK159.out)
   replace BK166 := aM (blk_drew BK166.out)
   replace HB := aM (below_drew1 HB.out)
   obtain ⟨ad172, e172, hx172_0⟩ := Kd.at_int HR3.out (ji18) oD oD
   have hw172_0 := hx172_0
   obtain rfl : ad170 = ad172 := (by injection e172)
   replace hx172_0 := bD HB hx172_0
   have p172 := eq_true (oD : 0 ≤ ((ji18) : Int))
   have q172 := eq_true (oD : (ji18) < (l3.length : Int))
   obtain ⟨i029, hi029, _, hsz29, _⟩ := info_parts info3
   obtain ⟨A29, hcut29, hA29, hC29⟩ := print_mid_of (P := Try.prog) (Value.int .i64) 0 22 3 .i64 .i64 Try.underlying22 hi029 hsz29 (some ad170) c3 l3 (ji23) (wrap64 ((ji23) + ji6)) oD (by first | omega | exact oD) oD HC3.out
   have HR173 := aM (Kd.C_of_reads (h1 := fun _ => rfl) (hA29 _ (Kd.reads_of_C HR3.out)))
   have HC173 := aM hC29
   clear hA29 hC29 hi029 hsz29
   obtain ⟨Ao30, co30, eo30⟩ := Kd.R_slice HO_12.out
   (first | subst eo30 | (injection eo30 with f1_ f2_ f3_; have f4_ := f1_.symm; have f5_ := f3_.symm; clear f1_ f2_ f3_; subst f4_; subst f5_))
   refine start_ (n := 16) (S := fun w' => w'.cell? (ad170.add ((ji18)).toNat) = some (.int .i64 (rd l3 (ji18)))) (ds := []) (bA 16 0) (by kernel_rfl) rfl rfl ((bC HB hw172_0)) (fun hHeld => ?_); refine with_tabW spec_unfilterImage.tab10 spec_unfilterImage.bits10 (fun HT_ HW_ => ?_)
   generalize wr.drew = w28 at HO_12 HO_167003 BK159 BK166 HB HR173 hx172_0 hHeld ⊢
   refine pQ 0 42 HT_ (bA 16 1) ?_
   refine pQ 1 43 HT_ (bA 16 3) ?_
   refine pQ 2 44 HT_ (bA 16 7) ?_
   refine pQ 4 46 HT_ (bA 16 23) ?_
   refine pQ 5 47 HT_ (bA 16 55) ?_
   refine pQ 6 48 HT_ (bA 16 119) ?_
   refine pQ 7 49 HT_ (bA 16 247) ?_
   refine pQ 8 50 HT_ (bA 16 503) ?_
   refine pQ 9 51 HT_ (bA 16 1015) ?_
   refine pQ 10 52 HT_ (bA 16 2039) ?_
   refine pQ 11 53 HT_ (bA 16 4087) ?_
   refine pQ 12 54 HT_ (bA 16 8183) ?_
   refine pQ 13 55 HT_ (bA 16 16375) ?_
   refine take_ (i := 3) (N := some 45) (v := ?_) (a' := ?_) (bA 16 16383) rfl rfl (take_ofW HT_.out HW_.out (by kernel_rfl)) (fun _ _ _ h => h) (Or.inl ⟨by rfl, ?_⟩) hHeld ?_ ?_
   rotate_left
   ·intro w' s0
    go_simp
    with_reducible rfl
   rotate_left
   ·refine pZ ?_
    rfl
   refine one_ (i := 14) (N := some 56) (bA 16 32767) rfl rfl (one_of HT_.out (by kernel_rfl)) (by decide) (fun K hK => ?_)
   refine goes_ Try.func62 (by kernel_rfl) rfl #[.int .i64 (rd l3 (ji18)), .slice A29 ((l3.take ((wrap64 ((ji23) + ji6)) : Int).toNat).drop ((ji23) : Int).toNat).length (c3 - (ji23).toNat), .slice Ao30 x12_1.length co30, .int .i64 a2] (by rfl) rfl rfl (by (try simp only [List.map_toArray, List.map_cons, List.map_nil]); first | done | (rw [show ((l3.take ((wrap64 ((ji23) + ji6)) : Int).toNat).drop ((ji23) : Int).toNat).length = ((wrap64 ((ji23) + ji6)).toNat - (ji23).toNat) from (by rw [List.length_drop, List.length_take]; have h_ : ((wrap64 ((ji23) + ji6)) : Int) ≤ (l3.length : Int) := oD; omega)] <;> rfl) | (simp only [hji18, hji23, hji6]; rfl) | rfl | (simp only [List.length_drop, List.length_take]; rfl)) ?_
   with_reducible refine (spec_unfilterRow.calls k1 (rd l3 (ji18)) _ _ ((l3.take ((wrap64 ((ji23) + ji6)) : Int).toNat).drop ((ji23) : Int).toNat) _ _ x12_1 a2 t174 _ ?side1 ?side2 ?side3 ?side4 A27.out).mono ?_
   (case side1 => exact qC (Kd.C_below HR173.out HB.out))
   (case side2 => exact HC173.out)
   (case side3 => exact qC (Kd.R_reads' HO_12.out).2.2)
   (case side4 => exact (Kd.R_reads' HO_12.out).2.1)
   rintro e w31 ⟨v175, rfl, ho0, hb⟩
   refine ⟨_, rfl, ?_⟩
   have HO176 := aM (Kd.R_lower (Kd.R_new' (Kd.R_new' ho0 (Kd.R_lt (qR HO_12.out))) (Kd.R_lt (qR HO_167003.out))) (below_size (qW HB.out)))
   replace HO_12 := aM (Kd.R_elder' (qR HO_12.out) (Kd.R_base ho0) hb)
   replace HO_167003 := aM (Kd.R_elder' (qR HO_167003.out) (Kd.R_base ho0) hb)
   replace BK159 := bB BK159 hb
   replace BK166 := bB BK166 hb
   replace HB := bS HB hb
   (try clear hb)
   (try clear hb2)
   (try clear hk)
   (try clear hi)
   (try clear ho0)
   refine hK.out _ _ ((bC HB hw172_0)) (fun hHeld => ?_)
   clear hK K
   refine norm_ (a' := ?_) ?_ ?_
   rotate_left
   ·show Act.put _ (some 56) _ = _
    refine pZ ?_
    rfl
   refine pQ 15 15 HT_ (bA 16 65535) ?_
   refine done_ (done_of HT_.out (by kernel_rfl)) ?_
   try go_wp2
   go_loopg [16] k1 (fun kq v16 w' => ∃ (x15_2 : List Int) (x16_2 : Int) (x167003_2 : List Int) (u167003 : Value), v16 = .int .i64 x16_2 ∧ Aside0 (spec_unfilterImage.l1 kq a1 a2 l3 ji6 x13_1 x15_2 x16_2 t160 t161 t162 x167003_2 = some (r1, r2, r3, r4, r5)) ∧ Aside0 (kq ≤ k1) ∧ Aside0 (Kd.R (Kd.int .i64) 3 w' w.heap.size (fun k_ => some k_ ≠ (u167003 : Value).ownBlock) v175 x15_2) ∧ Aside0 (Kd.R (Kd.int .i64) 3 w' w.heap.size (fun k_ => some k_ ≠ (v175 : Value).ownBlock) u167003 x167003_2) ∧ Aside0 (w'.heap[gb159]? = some (.cells #[.int .i64 x160000_1, .int .i64 x160001_1, .int .i64 x160002_1, (.slice none 0 0)] 24 (0, 0))) ∧ Aside0 (w'.heap[gb166]? = some (.cells #[.int .i64 t160, .int .i64 t161, .int .i64 t162, u167003] 24 (0, 0))) ∧ Aside0 (Below w.heap.size w w'))
   case atStart => exact ⟨(t174), (0), (x167003_1), (u167003), qE, H', ⟨Nat.le_refl _⟩, ⟨by refine qR ?_; exact Kd.R_mono HO176.out (fun _ hk => hk.2)⟩, ⟨by refine qR ?_; exact Kd.R_mono HO_167003.out (fun _ hk => hk.2)⟩, ⟨by refine qB ?_; exact BK159.out⟩, ⟨by refine qB ?_; exact BK166.out⟩, ⟨by exact qW HB.out⟩⟩
   case round =>
    clear H'
    try clear c3
    try clear c7
    try clear c7b0
    try clear c7b1
    try clear c8
    try clear c8b0
    try clear c8b1
    try clear c17
    try clear c17b0
    try clear c19b0
    try clear c20b0
    try clear c22
    try clear c24
    try clear c24b0
    try clear c24b1
    try clear c25
    try clear c25b0
    try clear c25b1
    try clear c26
    try clear c26b0
    try clear c26b1
    try clear hcz13_0 hcz13_1 hcz13_2 hcz13_3 hfz13_0 hfz13_1 hfz13_2 hfz13_3
    try clear hx170_0
    try clear hx172_0
    try clear p170
    try clear p172
    try clear q170
    try clear q172
    obtain ⟨x15_2, x16_2, x167003_2, u167003, rfl, HA, HK2, HO_15, HO_167003, BK159, BK166, HB⟩ := hrel
    cases gk with
    | zero => exact absurd HA.out (by simp [spec_unfilterImage.l1])
    | succ k2 =>
     have H := HA.out
     clear HA
     simp only [spec_unfilterImage.l1] at H
     by_cases c32 : x16_2 < ji6
     rotate_left
     ·rw [if_neg c32] at H
      have c32b0 : decide (x16_2 < ji6) = false := decide_eq_false c32
      clear c32
      have H' := aM H
      clear H
      go_wp2
      go_roundg k2
      case measure => have := HK1.out; have := HK2.out; omega
      case rel => exact ⟨(x15_2), (wrap64 (x13_1 + 1)), (x160000_1), (x160001_1), (x160002_1), (x167003_2), (u167003), qE, H', ⟨by have := HK1.out; have := HK2.out; omega⟩, ⟨by refine qR ?_; exact HO_15.out⟩, ⟨by refine qR ?_; exact HO_167003.out⟩, ⟨by refine qB ?_; exact BK159.out⟩, ⟨by refine qB ?_; exact BK166.out⟩, ⟨by exact qW HB.out⟩⟩
     rw [if_pos c32] at H
     have c32b0 : decide (x16_2 < ji6) = true := decide_eq_true c32
     clear c32
     replace H := iD H
     obtain ⟨c33b0, H⟩ := H
     replace H := iD H
     obtain ⟨c34b0, H⟩ := H
     obtain ⟨ji35, hji35⟩ : ∃ j_ : Int, (wrap64 ((wrap64 (x13_1 * ji6)) + x16_2)) = j_ := ⟨_, rfl⟩
     replace H : (if 0 ≤ (ji35) then (if (ji35) < (x167003_2.length : Int) then (spec_unfilterImage.l1 k2 a1 a2 l3 ji6 x13_1 x15_2 (wrap64 (x16_2 + 1)) t160 t161 t162 (x167003_2.set ((ji35) : Int).toNat (rd x15_2 x16_2))) else (none)) else (none)) = some (r1, r2, r3, r4, r5) := by first | (rw [hji35] at H; exact H) | (simp only [hji35] at H ⊢; exact H)
     have hji35w : (IntKind.i64.wrap ((wrap64 (x13_1 * ji6)) + x16_2)) = ji35 := (i64_w _).trans hji35
     replace H := iD H
     obtain ⟨c36b0, H⟩ := H
     replace H := iD H
     obtain ⟨c37b0, H⟩ := H
     obtain ⟨y178, hy178⟩ : ∃ y_ : List Int, y_ = (x167003_2.set ((ji35) : Int).toNat (rd x15_2 x16_2)) := ⟨_, rfl⟩
     replace H : (spec_unfilterImage.l1 k2 a1 a2 l3 ji6 x13_1 x15_2 (wrap64 (x16_2 + 1)) t160 t161 t162 y178) = some (r1, r2, r3, r4, r5) := rY hy178 H
     have Ny178 := aM hy178
     clear hy178
     have H' := aM H
     clear H
     try go_wp2
     replace HO_15 := aM (Kd.R_drew HO_15.out)
     replace HO_167003 := aM (Kd.R_drew HO_167003.out)
     replace BK159 := aM (blk_drew BK159.out)
     replace BK166 := aM (blk_drew BK166.out)
     replace HB := aM (below_drew1 HB.out)
     obtain ⟨Ao40, co40, eo40⟩ := Kd.R_slice HO_15.out
     (first | subst eo40 | (injection eo40 with f1_ f2_ f3_; have f4_ := f1_.symm; have f5_ := f3_.symm; clear f1_ f2_ f3_; subst f4_; subst f5_))
     obtain ⟨ad177, e177, hx177_0⟩ := Kd.at_int (Kd.R_reads' HO_15.out).2.2 x16_2 oD oD
     cases e177
     have p177 := eq_true (oD : 0 ≤ (x16_2 : Int))
     have q177 := eq_true (oD : x16_2 < (x15_2.length : Int))
     have p38 : 0 ≤ ((ji35) : Int) := oD
     have q38 : ((ji35) : Int) < ((x167003_2.length : Int) : Int) := oD
     obtain ⟨go38, co38, eo38, gb38, gl38, cl38, HG38⟩ := Kd.R_form HO_167003.out (by omega)
     (first | cases eo38 | (injection eo38 with ea_ en_ ec_; (first | subst ea_ | (injection ea_ with ea_; subst ea_)); subst ec_; clear en_))
     have GB38 := aM gb38
     have GG38 := aM HG38
     clear gb38 gl38 HG38
     obtain ⟨hx38_0, hf38_0⟩ := Kd.R_celln 0 HO_167003.out ((ji35) : Int) p38 q38
     replace p38 := eq_true p38
     replace q38 := eq_true q38
     have HP41 := Kd.R_putn HO_167003.out ((ji35) : Int) (rd x15_2 x16_2)
     rw [← Ny178.out] at HP41
     have HQ41 := aM HP41
     clear HP41
     refine start_ (n := 13) (S := fun w' => w'.cell? ⟨gb166, 0, none⟩ = some (.int .i64 t160) ∧ w'.cell? ⟨gb166, 1, none⟩ = some (.int .i64 t161) ∧ w'.cell? ⟨gb166, 2, none⟩ = some (.int .i64 t162) ∧ w'.cell? ⟨gb166, 3, none⟩ = some (.slice (some ⟨go38, 0, none⟩) x167003_2.length co38) ∧ w'.cell? (ad177.add (x16_2).toNat) = some (.int .i64 (rd x15_2 x16_2))) (ds := [12]) (bA 13 0) (by kernel_rfl) rfl rfl ⟨(blk_cell BK166.out 0).trans rfl, (blk_cell BK166.out 1).trans rfl, (blk_cell BK166.out 2).trans rfl, (blk_cell BK166.out 3).trans rfl, hx177_0⟩ (fun hHeld => ?_); refine with_tabW spec_unfilterImage.tab14 spec_unfilterImage.bits14 (fun HT_ HW_ => ?_)
     generalize wr.drew = w39 at HO_15 HO_167003 BK159 BK166 HB GG38 HQ41 hf38_0 hx177_0 hx38_0 hHeld ⊢
     refine pQ 0 62 HT_ (bA 13 1) ?_
     refine pQ 2 64 HT_ (bA 13 5) ?_
     refine pQ 3 65 HT_ (bA 13 13) ?_
     refine pQ 4 66 HT_ (bA 13 29) ?_
     refine pQ 5 67 HT_ (bA 13 61) ?_
     refine pQ 6 68 HT_ (bA 13 125) ?_
     refine pQ 7 69 HT_ (bA 13 253) ?_
     refine pQ 8 70 HT_ (bA 13 509) ?_
     refine pQ 9 71 HT_ (bA 13 1021) ?_
     refine take_ (i := 1) (N := some 63) (v := ?_) (a' := ?_) (bA 13 1023) rfl rfl (take_ofW HT_.out HW_.out (by kernel_rfl)) (fun _ _ _ h => h) (Or.inl ⟨by rfl, ?_⟩) hHeld ?_ ?_
     rotate_left
     ·rintro w' ⟨s0, s1, s2, s3, s4⟩
      go_simp
      with_reducible rfl
     rotate_left
     ·refine pZ ?_
      rfl
     refine take_ (i := 10) (N := some 72) (v := ?_) (a' := ?_) (bA 13 2047) rfl rfl (take_ofW HT_.out HW_.out (by kernel_rfl)) (fun _ _ _ h => h) (Or.inl ⟨by rfl, ?_⟩) hHeld ?_ ?_
     rotate_left
     ·rintro w' ⟨s0, s1, s2, s3, s4⟩
      go_simp
      with_reducible rfl
     rotate_left
     ·refine pZ ?_
      rfl
     refine pQ 11 73 HT_ (bA 13 4095) ?_
     refine last_ (i := 12) (N := none) (bA 13 8191) rfl rfl (one_of HT_.out (by kernel_rfl)) (by decide) (fun K hK => ?_)
     refine skip_ (w1 := ?_) (by rfl) rfl ?_ ?_
     rotate_left
     ·go_simp
      rfl
     refine hK.out _ _ ?_
     clear hK K
     refine done_ (done_of HT_.out (by kernel_rfl)) ?_
     try go_wp2
     go_roundg k2
     case measure => have := HK1.out; have := HK2.out; omega
     case rel => exact ⟨(x15_2), (wrap64 (x16_2 + 1)), (y178), (.slice (some ⟨go38, 0, none⟩) x167003_2.length co38), qE, H', ⟨by have := HK1.out; have := HK2.out; omega⟩, ⟨by refine qR ?_; exact Kd.R_mono (Kd.R_far (p := ⟨go38, ((ji35) : Int).toNat, none⟩) (Kd.R_mono HO_15.out (fun k_ hk => (⟨hk, fun e_ => hk (by rw [e_]; rfl)⟩ : _ ∧ k_ ≠ go38))) (fun _ hk => hk.2) (.int .i64 (rd x15_2 x16_2))) (fun _ hk => hk.1)⟩, ⟨by refine qR ?_; exact HQ41.out⟩, ⟨by refine qB ?_; refine blk_far ?_ (by have h_ := Kd.R_ne HO_167003.out BK159.out (by decide); intro e_; exact h_ (by rw [e_]; rfl)) _; refine qB ?_; exact BK159.out⟩, ⟨by refine qB ?_; refine blk_far ?_ (by have h_ := Kd.R_ne HO_167003.out BK166.out (by decide); intro e_; exact h_ (by rw [e_]; rfl)) _; refine qB ?_; exact BK166.out⟩, ⟨by exact qW HB.out⟩⟩
mutual
def impl_unfilterImage.j0 : Nat → Int → Int → Int → List Int → Bool → Option (Int × Int × Int × List Int × Bool)
 | 0, _, _, _, _, _ => none
 | k + 1, x0, x1, x2, x3, x35 => if x35 = true then (some (0, 0, 0, ([] : List Int), false)) else (if 0 ≤ (wrap64 (x0 * x2)) then (if (wrap64 (x0 * x2) : Int).toNat ≤ 35184372088832 then (impl_unfilterImage.l0 k x2 x3 (wrap64 (x0 * x2)) (List.replicate (wrap64 (x0 * x2) : Int).toNat 0) x1 0 x0 x1 x2 ([] : List Int)) else (none)) else (none))
def impl_unfilterImage.l0 : Nat → Int → List Int → Int → List Int → Int → Int → Int → Int → Int → List Int → Option (Int × Int × Int × List Int × Bool)
 | 0, _, _, _, _, _, _, _, _, _, _ => none
 | k + 1, x2, x3, x11, x12, x46, x47, x380000, x380001, x380002, x380003 => if x47 < x46 then (if 0 ≤ (wrap64 (x47 * (wrap64 (1 + x11)))) then (if (wrap64 (x47 * (wrap64 (1 + x11)))) ≤ (wrap64 ((wrap64 (x47 + 1)) * (wrap64 (1 + x11)))) then (if (wrap64 ((wrap64 (x47 + 1)) * (wrap64 (1 + x11)))) ≤ (x3.length : Int) then (if 0 < (((x3.take ((wrap64 ((wrap64 (x47 + 1)) * (wrap64 (1 + x11)))) : Int).toNat).drop ((wrap64 (x47 * (wrap64 (1 + x11)))) : Int).toNat).length : Int) then (if (rd ((x3.take ((wrap64 ((wrap64 (x47 + 1)) * (wrap64 (1 + x11)))) : Int).toNat).drop ((wrap64 (x47 * (wrap64 (1 + x11)))) : Int).toNat) 0) > 4 then (some (0, 0, 0, ([] : List Int), false)) else (if 1 ≤ (((x3.take ((wrap64 ((wrap64 (x47 + 1)) * (wrap64 (1 + x11)))) : Int).toNat).drop ((wrap64 (x47 * (wrap64 (1 + x11)))) : Int).toNat).length : Int) then ((impl_unfilterRow.f k (rd ((x3.take ((wrap64 ((wrap64 (x47 + 1)) * (wrap64 (1 + x11)))) : Int).toNat).drop ((wrap64 (x47 * (wrap64 (1 + x11)))) : Int).toNat) 0) (((x3.take ((wrap64 ((wrap64 (x47 + 1)) * (wrap64 (1 + x11)))) : Int).toNat).drop ((wrap64 (x47 * (wrap64 (1 + x11)))) : Int).toNat).drop 1) x12 x2).bind fun t387 => (if x380003.length + t387.length < 17592186044416 then (impl_unfilterImage.l0 k x2 x3 x11 t387 x46 (wrap64 (x47 + 1)) x380000 x380001 x380002 (x380003 ++ t387)) else (none))) else (none))) else (none)) else (none)) else (none)) else (none)) else (some (x380000, x380001, x380002, x380003, true))
end
def impl_unfilterImage.f (k : Nat) (a0 : Int) (a1 : Int) (a2 : Int) (l3 : List Int) : Option (Int × Int × Int × List Int × Bool) := (impl_isShape.f a0 a1 a2).bind fun t377 => (if t377 = true then ((impl_areBytes.f l3).bind fun t378 => (if t378 = true then (impl_unfilterImage.j0 k a0 a1 a2 l3 ((l3.length : Int) != (wrap64 (a1 * (wrap64 (1 + (wrap64 (a0 * a2)))))))) else (impl_unfilterImage.j0 k a0 a1 a2 l3 true))) else (impl_unfilterImage.j0 k a0 a1 a2 l3 true))
theorem impl_unfilterImage.mono_l : ∀ k, (∀ y0 y1 y2 y3 y4, LeO (impl_unfilterImage.j0 k y0 y1 y2 y3 y4) (impl_unfilterImage.j0 (k + 1) y0 y1 y2 y3 y4)) ∧ (∀ y0 y1 y2 y3 y4 y5 y6 y7 y8 y9, LeO (impl_unfilterImage.l0 k y0 y1 y2 y3 y4 y5 y6 y7 y8 y9) (impl_unfilterImage.l0 (k + 1) y0 y1 y2 y3 y4 y5 y6 y7 y8 y9))
 | 0 => ⟨fun _ _ _ _ _ r h => by simp [impl_unfilterImage.j0] at h, fun _ _ _ _ _ _ _ _ _ _ r h => by simp [impl_unfilterImage.l0] at h⟩
 | k + 1 => by
  obtain ⟨ih0, ih1⟩ := impl_unfilterImage.mono_l k
  refine ⟨?_, ?_⟩
  all_goals intros
  all_goals first | unfold impl_unfilterImage.j0 | unfold impl_unfilterImage.l0
  all_goals repeat' first | (with_reducible first | exact ih0 _ _ _ _ _ | exact ih1 _ _ _ _ _ _ _ _ _ _ | exact impl_unfilterRow.mono _ _ _ _ _ | exact lR | exact lN | refine lI ?_ ?_ | refine lB ?_ fun _ => ?_) | exact ih0 _ _ _ _ _ | exact ih1 _ _ _ _ _ _ _ _ _ _ | exact impl_unfilterRow.mono _ _ _ _ _ | exact lN | refine lI ?_ ?_ | refine lB ?_ fun _ => ?_
theorem impl_unfilterImage.mono : ∀ a0 a1 a2 a3 k, LeO (impl_unfilterImage.f k a0 a1 a2 a3) (impl_unfilterImage.f (k + 1) a0 a1 a2 a3) := by
 intro a0 a1 a2 a3 k
 obtain ⟨ih0, ih1⟩ := impl_unfilterImage.mono_l k
 unfold impl_unfilterImage.f
 repeat' first | (with_reducible first | exact ih0 _ _ _ _ _ | exact ih1 _ _ _ _ _ _ _ _ _ _ | exact impl_unfilterRow.mono _ _ _ _ _ | exact lR | exact lN | refine lI ?_ ?_ | refine lB ?_ fun _ => ?_) | exact ih0 _ _ _ _ _ | exact ih1 _ _ _ _ _ _ _ _ _ _ | exact impl_unfilterRow.mono _ _ _ _ _ | exact lN | refine lI ?_ ?_ | refine lB ?_ fun _ => ?_
def impl_unfilterImage.T12 : Bool × List (List Nat × List Nat) := (true, [([], []), ([0], [0]), ([1], [1]), ([], []), ([3], [3]), ([], []), ([], []), ([2, 4, 5, 6], [2, 4, 5, 6]), ([7, 7, 0, 1, 2, 3, 4, 5, 6, 7], [5, 7])])
def impl_unfilterImage.B12 : List Nat := [0, 1, 3, 0, 8, 0, 0, 127, 255]
theorem impl_unfilterImage.tab12 : rtab .any (opsOf Try.f45 12) = impl_unfilterImage.T12 := by kernel_rfl
theorem impl_unfilterImage.bits12 : waitsOk impl_unfilterImage.T12.2 impl_unfilterImage.B12 = true := by kernel_rfl
set_option maxHeartbeats 8000000 in
set_option maxRecDepth 100000 in
theorem impl_unfilterImage.calls (k : Nat) (a0 : Int) (a1 : Int) (a2 : Int) (A3 : Option Addr) (c3 : Nat) (l3 : List Int) (r1 : Int) (r2 : Int) (r3 : Int) (r4 : List Int) (r5 : Bool) (w : World) (hr3 : Kd.C (Kd.int .i64) w A3 l3.length l3) (hc3 : l3.length ≤ c3) (h : impl_unfilterImage.f k a0 a1 a2 l3 = some (r1, r2, r3, r4, r5)) :
  Calls Try.prog 45 #[.int .i64 a0, .int .i64 a1, .int .i64 a2, .slice A3 l3.length c3] w fun e w' => ∃ v3_ : Value, e = .returned (.tuple #[.agg #[.int .i64 r1, .int .i64 r2, .int .i64 r3, v3_], .bool r5]) ∧ Kd.R (Kd.int .i64) 3 w' w.heap.size (fun _ => True) v3_ r4 ∧ Below w.heap.size w w' := by
 have hu24 := Try.underlying24
 have HR3 := aM hr3
 have HC3 := aM hc3
 clear hr3 hc3
 have HB := aM (Below.refl w.heap.size w)
 unfold impl_unfilterImage.f at h
 have H := h
 clear h
 have HC5 := aM H
 clear H
 go_enter Try.func45, Try.ntmps45
 go_upto_region 1 with (first | ((with_reducible refine gate_dst (N := 8) rfl ?_); (try (refine gate_guard (by rfl) ?_; dsimp only)); refine bxE (N := 8) (cs := #[.int .i64 0, .int .i64 0, .int .i64 0, .slice none 0 0]) (t := 24) ?_; intro gb376 hg w6 hbox hb; have BK376 := aM (hbox); have GW376 := gW hg HB; have GE376 := gW hg HB; replace HB := bS HB hb; clear hb hbox hg))
 (try simp only [Act.put, List.setIfInBounds_toArray, List.set_cons_zero, List.set_cons_succ])
 go_cut [35] (fun v35 wc => ∃ (kq : Nat) (x35_4 : Bool), v35 = .bool x35_4 ∧ Aside0 (impl_unfilterImage.j0 kq a0 a1 a2 l3 x35_4 = some (r1, r2, r3, r4, r5)) ∧ Aside0 (kq ≤ k) ∧ Aside0 (wc.heap[gb376]? = some (.cells #[.int .i64 0, .int .i64 0, .int .i64 0, (.slice none 0 0)] 24 (0, 0))) ∧ Aside0 (Below w.heap.size w wc))
 case first =>
  have H := HC5.out
  clear HC5
  replace H := Option.bind_eq_some_iff.mp H
  obtain ⟨t377, A70, H⟩ := H
  replace H : (if t377 = true then ((impl_areBytes.f l3).bind fun t378 => (if t378 = true then (impl_unfilterImage.j0 k a0 a1 a2 l3 ((l3.length : Int) != (wrap64 (a1 * (wrap64 (1 + (wrap64 (a0 * a2)))))))) else (impl_unfilterImage.j0 k a0 a1 a2 l3 true))) else (impl_unfilterImage.j0 k a0 a1 a2 l3 true)) = some (r1, r2, r3, r4, r5) := H
  have A7 := aM A70
  clear A70
  by_cases c8 : t377 = true
  rotate_left
  ·replace c8 := Bool.eq_false_iff.mpr c8
   subst c8
   have H1 : (impl_unfilterImage.j0 k a0 a1 a2 l3 true) = some (r1, r2, r3, r4, r5) := by rw [if_neg (show ¬ (false = true) by decide)] at H; exact H
   clear H
   have H := H1
   clear H1
   have H' := aM H
   clear H
   go_wp2_with (first | ((with_reducible refine gate_callee (f := 67) rfl ?_); refine gL (some 18) Try.func67 #[.int .i64 a0, .int .i64 a1, .int .i64 a2] ?_; (with_reducible refine (impl_isShape.calls a0 a1 a2 false _ A7.out).mono ?_); rintro e w' ⟨rfl, ⟨nd, rfl⟩⟩; refine ⟨_, rfl, ?_⟩))
   go_meet
   case rel => exact ⟨_, (true), qE, H', ⟨by first | omega | exact Nat.le_refl _⟩, ⟨by refine qB ?_; exact BK376.out⟩, ⟨by exact qW HB.out⟩⟩
  subst c8
  have H1 : ((impl_areBytes.f l3).bind fun t378 => (if t378 = true then (impl_unfilterImage.j0 k a0 a1 a2 l3 ((l3.length : Int) != (wrap64 (a1 * (wrap64 (1 + (wrap64 (a0 * a2)))))))) else (impl_unfilterImage.j0 k a0 a1 a2 l3 true))) = some (r1, r2, r3, r4, r5) := by rw [if_pos rfl] at H; exact H
  clear H
  have H := H1
  clear H1
  replace H := Option.bind_eq_some_iff.mp H
  obtain ⟨t378, A90, H⟩ := H
  replace H : (if t378 = true then (impl_unfilterImage.j0 k a0 a1 a2 l3 ((l3.length : Int) != (wrap64 (a1 * (wrap64 (1 + (wrap64 (a0 * a2)))))))) else (impl_unfilterImage.j0 k a0 a1 a2 l3 true)) = some (r1, r2, r3, r4, r5) := H
  have A9 := aM A90
  clear A90
  by_cases c10 : t378 = true
  rotate_left
  ·replace c10 := Bool.eq_false_iff.mpr c10
   subst c10
   have H1 : (impl_unfilterImage.j0 k a0 a1 a2 l3 true) = some (r1, r2, r3, r4, r5) := by rw [if_neg (show ¬ (false = true) by decide)] at H; exact H
   clear H
   have H := H1
   clear H1
   have H' := aM H
   clear H
   go_wp2_with (first | ((with_reducible refine gate_callee (f := 67) rfl ?_); refine gL (some 18) Try.func67 #[.int .i64 a0, .int .i64 a1, .int .i64 a2] ?_; (with_reducible refine (impl_isShape.calls a0 a1 a2 true _ A7.out).mono ?_); rintro e w' ⟨rfl, ⟨nd, rfl⟩⟩; refine ⟨_, rfl, ?_⟩) | (go_at_call 66; (with_reducible refine (impl_areBytes.calls _ _ l3 false _ ?side1 ?side2 A9.out).mono ?_); (case side1 => exact qC (Kd.C_below HR3.out (qW HB.out))); (case side2 => exact HC3.out); rintro e w' ⟨rfl, ⟨nd, rfl⟩⟩))
   go_meet
   case rel => exact ⟨_, (true), qE, H', ⟨by first | omega | exact Nat.le_refl _⟩, ⟨by refine qB ?_; exact BK376.out⟩, ⟨by exact qW HB.out⟩⟩
  subst c10
  have H1 : (impl_unfilterImage.j0 k a0 a1 a2 l3 ((l3.length : Int) != (wrap64 (a1 * (wrap64 (1 + (wrap64 (a0 * a2)))))))) = some (r1, r2, r3, r4, r5) := by rw [if_pos rfl] at H; exact H
  clear H
  have H := H1
  clear H1
  have H' := aM H
  clear H
  go_wp2_with (first | ((with_reducible refine gate_callee (f := 67) rfl ?_); refine gL (some 18) Try.func67 #[.int .i64 a0, .int .i64 a1, .int .i64 a2] ?_; (with_reducible refine (impl_isShape.calls a0 a1 a2 true _ A7.out).mono ?_); rintro e w' ⟨rfl, ⟨nd, rfl⟩⟩; refine ⟨_, rfl, ?_⟩) | (go_at_call 66; (with_reducible refine (impl_areBytes.calls _ _ l3 true _ ?side1 ?side2 A9.out).mono ?_); (case side1 => exact qC (Kd.C_below HR3.out (qW HB.out))); (case side2 => exact HC3.out); rintro e w' ⟨rfl, ⟨nd, rfl⟩⟩))
  go_meet
  case rel => exact ⟨_, (((l3.length : Int) != (wrap64 (a1 * (wrap64 (1 + (wrap64 (a0 * a2)))))))), qE, H', ⟨by first | omega | exact Nat.le_refl _⟩, ⟨by refine qB ?_; exact BK376.out⟩, ⟨by exact qW HB.out⟩⟩
 case rest =>
  clear HC5
  try clear c3
  try clear c8
  try clear c10
  obtain ⟨kq, x35_4, rfl, HA, HJ4, BK376, HB⟩ := hcut
  cases kq with
  | zero => exact absurd HA.out (by simp [impl_unfilterImage.j0])
  | succ kj4 =>
   have H := HA.out
   clear HA
   simp only [impl_unfilterImage.j0] at H
   by_cases c11 : x35_4 = true
   ·subst c11
    have H1 : (some (0, 0, 0, ([] : List Int), false)) = some (r1, r2, r3, r4, r5) := by rw [if_pos rfl] at H; exact H
    clear H
    have H := H1
    clear H1
    simp only [Option.some.injEq, Prod.mk.injEq] at H
    obtain ⟨rfl, rfl, rfl, rfl, rfl⟩ := H
    obtain ⟨⟨hcz12_0, hcz12_1, hcz12_2, hcz12_3⟩, hfz12_0, hfz12_1, hfz12_2, hfz12_3⟩ := cf4 BK376
    go_wp2
    refine bodyPost_ret (results_ct rfl _ _ gb376 24 #[.int .i64 0, .int .i64 0, .int .i64 0, .slice none 0 0] (0, 0) _ rfl (by exact bP BK376.out) Try.underlying24 rfl (by kernel_rfl)) rfl ?_
    exact ⟨_, qX, qN, by exact qW HB.out⟩
   replace c11 := Bool.eq_false_iff.mpr c11
   subst c11
   have H1 : (if 0 ≤ (wrap64 (a0 * a2)) then (if (wrap64 (a0 * a2) : Int).toNat ≤ 35184372088832 then (impl_unfilterImage.l0 kj4 a2 l3 (wrap64 (a0 * a2)) (List.replicate (wrap64 (a0 * a2) : Int).toNat 0) a1 0 a0 a1 a2 ([] : List Int)) else (none)) else (none)) = some (r1, r2, r3, r4, r5) := by rw [if_neg (show ¬ (false = true) by decide)] at H; exact H
   clear H
   have H := H1
   clear H1
   obtain ⟨ji13, hji13⟩ : ∃ j_ : Int, (wrap64 (a0 * a2)) = j_ := ⟨_, rfl⟩
   replace H : (if 0 ≤ (ji13) then (if (ji13 : Int).toNat ≤ 35184372088832 then (impl_unfilterImage.l0 kj4 a2 l3 ji13 (List.replicate (ji13 : Int).toNat 0) a1 0 a0 a1 a2 ([] : List Int)) else (none)) else (none)) = some (r1, r2, r3, r4, r5) := by first | (rw [hji13] at H; exact H) | (simp only [hji13] at H ⊢; exact H)
   have hji13w : (IntKind.i64.wrap (a0 * a2)) = ji13 := (i64_w _).trans hji13
   replace H := iS H
   obtain ⟨c14, H⟩ := H
   have c14b0 := eq_true c14
   have c14b1 : decide (0 ≤ (ji13)) = true := decide_eq_true c14
   clear c14
   replace H := iS H
   obtain ⟨c15, H⟩ := H
   have c15b0 := eq_true c15
   have c15b1 : decide ((ji13 : Int).toNat ≤ 35184372088832) = true := decide_eq_true c15
   clear c15
   obtain ⟨y380, hy380⟩ : ∃ y_ : List Int, y_ = (List.replicate (ji13 : Int).toNat 0) := ⟨_, rfl⟩
   replace H : (impl_unfilterImage.l0 kj4 a2 l3 ji13 y380 a1 0 a0 a1 a2 ([] : List Int)) = some (r1, r2, r3, r4, r5) := rY hy380 H
   have Ny380 := aM hy380
   clear hy380
   have H' := aM H
   clear H
   go_wp2_with (first | ((with_reducible refine gate_dst (N := 10) rfl ?_); (try (refine gate_guard (by rfl) ?_; dsimp only)); refine bxE (N := 10) (cs := #[.int .i64 0, .int .i64 0, .int .i64 0, .slice none 0 0]) (t := 24) ?_; intro gb379 hg w16 hbox hb; have BK379 := aM (hbox); have GW379 := gW hg HB; have GE379 := gW hg HB; replace HB := bS HB hb; have NB376_379 := nL hg BK376; have NB379_376 := nG hg BK376; replace BK376 := bB BK376 hb; clear hb hbox hg; have hnb17 := NB379_376.out; have hnc17 := NB376_379.out; obtain ⟨⟨hcz18_0, hcz18_1, hcz18_2, hcz18_3⟩, hfz18_0, hfz18_1, hfz18_2, hfz18_3⟩ := cf4 BK379) | ((with_reducible refine gate_dst (N := 45) rfl ?_); (try (refine gate_guard (by rfl) ?_; dsimp only)); refine Kd.R_make (Kd.int .i64) _ 3 rfl (N := 45) rfl 22 _ _ rfl ji13 rfl rfl Try.underlying22 (.int .i64 0) 8 info3 rfl (by decide) (by omega) 0 (ok := fun _ => True) (okp := fun _ => True) rfl (fun _ hk => hk) trivial oD (Nat.le_trans (Nat.mul_le_mul_right _ (oD : ji13.toNat ≤ 35184372088832)) (by omega)) (Below.refl _ _) (Nat.le_refl _) ?_; intro v381 w19 ho20 hb hg_ hnew_; clear hg_ hnew_; (first | rw [← Ny380.out] at ho20 | (simp only [Int.reduceToNat] at ho20; rw [← Ny380.out] at ho20)); have HO382 := oR ho20 HB; replace BK376 := aM (blk_below (g := gb376) (o := .cells #[.int .i64 0, .int .i64 0, .int .i64 0, .slice none 0 0] 24 (0, 0)) (by refine qB ?_; refine blk_far ?_ NB376_379.out _; refine qB ?_; refine blk_far ?_ NB376_379.out _; refine qB ?_; refine blk_far ?_ NB376_379.out _; refine qB ?_; refine blk_far ?_ NB376_379.out _; refine qB ?_; exact BK376.out) hb); replace BK379 := aM (blk_below (g := gb379) (o := .cells #[.int .i64 a0, .int .i64 a1, .int .i64 a2, .slice none 0 0] 24 (0, 0)) (by exact bP BK379.out) hb); replace HB := bS HB hb; clear hb ho20))
   go_loopg [12, 47] kj4 (fun kq v12 v47 w' => ∃ (x12_2 : List Int) (x47_2 : Int) (x377000_2 : Int) (x377001_2 : Int) (x377002_2 : Int) (x380003_2 : List Int) (u380003 : Value), v47 = .int .i64 x47_2 ∧ Aside0 (impl_unfilterImage.l0 kq a2 l3 ji13 x12_2 a1 x47_2 a0 a1 a2 x380003_2 = some (r1, r2, r3, r4, r5)) ∧ Aside0 (kq ≤ kj4) ∧ Aside0 (Kd.R (Kd.int .i64) 3 w' w.heap.size (fun k_ => some k_ ≠ (u380003 : Value).ownBlock) v12 x12_2) ∧ Aside0 (Kd.R (Kd.int .i64) 3 w' w.heap.size (fun k_ => some k_ ≠ (v12 : Value).ownBlock) u380003 x380003_2) ∧ Aside0 (w'.heap[gb376]? = some (.cells #[.int .i64 x377000_2, .int .i64 x377001_2, .int .i64 x377002_2, (.slice none 0 0)] 24 (0, 0))) ∧ Aside0 (w'.heap[gb379]? = some (.cells #[.int .i64 a0, .int .i64 a1, .int .i64 a2, u380003] 24 (0, 0))) ∧ Aside0 (Below w.heap.size w w'))
   case atStart => exact ⟨(y380), (0), (0), (0), (0), (([] : List Int)), (.slice none 0 0), qE, H', ⟨Nat.le_refl _⟩, ⟨by refine qR ?_; exact Kd.R_mono HO382.out (fun _ hk => (by simp [Value.ownBlock]))⟩, ⟨qN⟩, ⟨by refine qB ?_; exact BK376.out⟩, ⟨by refine qB ?_; exact BK379.out⟩, ⟨by exact qW HB.out⟩⟩
   case round =>
    clear H'
    try clear c3
    try clear c8
    try clear c10
    try clear c11
    try clear c14
    try clear c14b0
    try clear c14b1
    try clear c15
    try clear c15b0
    try clear c15b1
    try clear hcz12_0 hcz12_1 hcz12_2 hcz12_3 hfz12_0 hfz12_1 hfz12_2 hfz12_3
    try clear hcz18_0 hcz18_1 hcz18_2 hcz18_3 hfz18_0 hfz18_1 hfz18_2 hfz18_3
    obtain ⟨x12_2, x47_2, x377000_2, x377001_2, x377002_2, x380003_2, u380003, rfl, HA, HK2, HO_12, HO_380003, BK376, BK379, HB⟩ := hrel
    cases gk with
    | zero => exact absurd HA.out (by simp [impl_unfilterImage.l0])
    | succ k2 =>
     have H := HA.out
     clear HA
     simp only [impl_unfilterImage.l0] at H
     by_cases c21 : x47_2 < a1
     rotate_left
     ·rw [if_neg c21] at H
      have c21b0 : decide (x47_2 < a1) = false := decide_eq_false c21
      clear c21
      simp only [Option.some.injEq, Prod.mk.injEq] at H
      obtain ⟨rfl, rfl, rfl, rfl, rfl⟩ := H
      have hnb45 := NB379_376.out
      have hnc45 := NB376_379.out
      obtain ⟨⟨hcz46_0, hcz46_1, hcz46_2, hcz46_3⟩, hfz46_0, hfz46_1, hfz46_2, hfz46_3⟩ := cf4 BK379
      obtain ⟨⟨hcz47_0, hcz47_1, hcz47_2, hcz47_3⟩, hfz47_0, hfz47_1, hfz47_2, hfz47_3⟩ := cf4 BK376
      obtain ⟨Ao48, co48, rfl⟩ := sL HO_380003
      go_wp2
      refine bodyPost_ret (results_ct rfl _ _ gb376 24 #[.int .i64 a0, .int .i64 a1, .int .i64 a2, .slice Ao48 x380003_2.length co48] (0, 0) _ rfl (by exact bP BK376.out) Try.underlying24 rfl (by kernel_rfl)) rfl ?_
      exact ⟨_, by first | rfl | (simp [errW_none, errW_some] <;> rfl) | (simp only [← hji13]; first | rfl | (simp [errW_none, errW_some] <;> rfl)) | (simp [*, errW_none, errW_some] <;> rfl), by refine qR ?_; exact Kd.R_mono (rT HO_380003 BK376) (fun _ hk => trivial), by exact qW HB.out⟩
     rw [if_pos c21] at H
     have c21b0 : decide (x47_2 < a1) = true := decide_eq_true c21
     clear c21
     obtain ⟨ji22, hji22⟩ : ∃ j_ : Int, (wrap64 (x47_2 * (wrap64 (1 + ji13)))) = j_ := ⟨_, rfl⟩
     replace H : (if 0 ≤ (ji22) then (if (ji22) ≤ (wrap64 ((wrap64 (x47_2 + 1)) * (wrap64 (1 + ji13)))) then (if (wrap64 ((wrap64 (x47_2 + 1)) * (wrap64 (1 + ji13)))) ≤ (l3.length : Int) then (if 0 < (((l3.take ((wrap64 ((wrap64 (x47_2 + 1)) * (wrap64 (1 + ji13)))) : Int).toNat).drop ((ji22) : Int).toNat).length : Int) then (if (rd ((l3.take ((wrap64 ((wrap64 (x47_2 + 1)) * (wrap64 (1 + ji13)))) : Int).toNat).drop ((ji22) : Int).toNat) 0) > 4 then (some (0, 0, 0, ([] : List Int), false)) else (if 1 ≤ (((l3.take ((wrap64 ((wrap64 (x47_2 + 1)) * (wrap64 (1 + ji13)))) : Int).toNat).drop ((ji22) : Int).toNat).length : Int) then ((impl_unfilterRow.f k2 (rd ((l3.take ((wrap64 ((wrap64 (x47_2 + 1)) * (wrap64 (1 + ji13)))) : Int).toNat).drop ((ji22) : Int).toNat) 0) (((l3.take ((wrap64 ((wrap64 (x47_2 + 1)) * (wrap64 (1 + ji13)))) : Int).toNat).drop ((ji22) : Int).toNat).drop 1) x12_2 a2).bind fun t387 => (if x380003_2.length + t387.length < 17592186044416 then (impl_unfilterImage.l0 k2 a2 l3 ji13 t387 a1 (wrap64 (x47_2 + 1)) a0 a1 a2 (x380003_2 ++ t387)) else (none))) else (none))) else (none)) else (none)) else (none)) else (none)) = some (r1, r2, r3, r4, r5) := by first | (rw [hji22] at H; exact H) | (simp only [hji22] at H ⊢; exact H)
     have hji22w : (IntKind.i64.wrap (x47_2 * (wrap64 (1 + ji13)))) = ji22 := (i64_w _).trans hji22
     replace H := iS H
     obtain ⟨c23, H⟩ := H
     have c23b0 := eq_true c23
     have c23b1 : decide (0 ≤ (ji22)) = true := decide_eq_true c23
     clear c23
     replace H := iS H
     obtain ⟨c24, H⟩ := H
     have c24b0 := eq_true c24
     have c24b1 : decide ((ji22) ≤ (wrap64 ((wrap64 (x47_2 + 1)) * (wrap64 (1 + ji13))))) = true := decide_eq_true c24
     replace H := iS H
     obtain ⟨c25, H⟩ := H
     have c25b0 := eq_true c25
     have c25b1 : decide ((wrap64 ((wrap64 (x47_2 + 1)) * (wrap64 (1 + ji13)))) ≤ (l3.length : Int)) = true := decide_eq_true c25
     replace H := iS H
     obtain ⟨c26, H⟩ := H
     have c26b0 : decide (0 < (((l3.take ((wrap64 ((wrap64 (x47_2 + 1)) * (wrap64 (1 + ji13)))) : Int).toNat).drop ((ji22) : Int).toNat).length : Int)) = true := decide_eq_true c26
     have c26b1 : decide (0 < ((l3.take ((wrap64 ((wrap64 (x47_2 + 1)) * (wrap64 (1 + ji13)))) : Int).toNat).drop ((ji22) : Int).toNat).length) = true := decide_eq_true (by omega)
     clear c26
     by_cases c27 : (rd ((l3.take ((wrap64 ((wrap64 (x47_2 + 1)) * (wrap64 (1 + ji13)))) : Int).toNat).drop ((ji22) : Int).toNat) 0) > 4
     ·rw [if_pos c27] at H
      have c27b0 : decide (4 < (rd ((l3.take ((wrap64 ((wrap64 (x47_2 + 1)) * (wrap64 (1 + ji13)))) : Int).toNat).drop ((ji22) : Int).toNat) 0)) = true := decide_eq_true c27
      clear c27
      simp only [Option.some.injEq, Prod.mk.injEq] at H
      obtain ⟨rfl, rfl, rfl, rfl, rfl⟩ := H
      obtain ⟨i028, hi028, _, hsz28, _⟩ := info_parts info3
      obtain ⟨A28, hcut28, hA28, hC28⟩ := print_mid_of (P := Try.prog) (Value.int .i64) 0 22 3 .i64 .i64 Try.underlying22 hi028 hsz28 A3 c3 l3 (ji22) (wrap64 ((wrap64 (x47_2 + 1)) * (wrap64 (1 + ji13)))) oD (by first | omega | exact oD) oD HC3.out
      have HR383 := aM (Kd.C_of_reads (h1 := fun _ => rfl) (hA28 _ (Kd.reads_of_C HR3.out)))
      have HC383 := aM hC28
      clear hA28 hC28 hi028 hsz28
      have p384 : 0 ≤ (0 : Int) := (by omega)
      have q384 : 0 < (((l3.take ((wrap64 ((wrap64 (x47_2 + 1)) * (wrap64 (1 + ji13)))) : Int).toNat).drop ((ji22) : Int).toNat).length : Int) := oD
      obtain ⟨ad384, e384, hx384_0⟩ := Kd.at_int HR383.out 0 p384 q384
      cases e384
      have qi384 : (0 < ((l3.take ((wrap64 ((wrap64 (x47_2 + 1)) * (wrap64 (1 + ji13)))) : Int).toNat).drop ((ji22) : Int).toNat).length) = True := eq_true (by omega)
      have qj384 : (0 < ((wrap64 ((wrap64 (x47_2 + 1)) * (wrap64 (1 + ji13)))) : Int).toNat - ((ji22) : Int).toNat) = True := eq_true (by have h_ := of_eq_true qi384; rw [List.length_drop, List.length_take] at h_; omega)
      (try rw [show ((0 : Int)).toNat = 0 from rfl] at hx384_0)
      (try rw [Addr.add_zero'] at hx384_0)
      replace hx384_0 := bD HB hx384_0
      replace p384 := eq_true p384
      replace q384 := eq_true q384
      have hnb29 := NB376_379.out
      have hnc29 := NB379_376.out
      obtain ⟨⟨hcz30_0, hcz30_1, hcz30_2, hcz30_3⟩, hfz30_0, hfz30_1, hfz30_2, hfz30_3⟩ := cf4 BK376
      go_wp2
      refine bodyPost_ret (results_ct rfl _ _ gb376 24 #[.int .i64 0, .int .i64 0, .int .i64 0, .slice none 0 0] (0, 0) _ rfl (by exact bP BK376.out) Try.underlying24 rfl (by kernel_rfl)) rfl ?_
      exact ⟨_, by first | rfl | (simp [errW_none, errW_some] <;> rfl) | (simp only [← hji13, ← hji22]; first | rfl | (simp [errW_none, errW_some] <;> rfl)) | (simp [*, errW_none, errW_some] <;> rfl), qN, by exact qW HB.out⟩
     rw [if_neg c27] at H
     have c27b0 : decide (4 < (rd ((l3.take ((wrap64 ((wrap64 (x47_2 + 1)) * (wrap64 (1 + ji13)))) : Int).toNat).drop ((ji22) : Int).toNat) 0)) = false := decide_eq_false c27
     clear c27
     replace H := iS H
     obtain ⟨c31, H⟩ := H
     have c31b0 := eq_true c31
     have c31b1 : decide (1 ≤ (((l3.take ((wrap64 ((wrap64 (x47_2 + 1)) * (wrap64 (1 + ji13)))) : Int).toNat).drop ((ji22) : Int).toNat).length : Int)) = true := decide_eq_true c31
     replace H := Option.bind_eq_some_iff.mp H
     obtain ⟨t387, A320, H⟩ := H
     replace H : (if x380003_2.length + t387.length < 17592186044416 then (impl_unfilterImage.l0 k2 a2 l3 ji13 t387 a1 (wrap64 (x47_2 + 1)) a0 a1 a2 (x380003_2 ++ t387)) else (none)) = some (r1, r2, r3, r4, r5) := H
     have A32 := aM A320
     clear A320
     replace H := iS H
     obtain ⟨c33, H⟩ := H
     have LMc33 := aM c33
     clear c33
     obtain ⟨y390, hy390⟩ : ∃ y_ : List Int, y_ = (x380003_2 ++ t387) := ⟨_, rfl⟩
     replace H : (impl_unfilterImage.l0 k2 a2 l3 ji13 t387 a1 (wrap64 (x47_2 + 1)) a0 a1 a2 y390) = some (r1, r2, r3, r4, r5) := rY hy390 H
     have Ny390 := aM hy390
     clear hy390
     have H' := aM H
     clear H
     obtain ⟨i034, hi034, _, hsz34, _⟩ := info_parts info3
     obtain ⟨A34, hcut34, hA34, hC34⟩ := print_mid_of (P := Try.prog) (Value.int .i64) 0 22 3 .i64 .i64 Try.underlying22 hi034 hsz34 A3 c3 l3 (ji22) (wrap64 ((wrap64 (x47_2 + 1)) * (wrap64 (1 + ji13)))) oD (by first | omega | exact oD) oD HC3.out
     have HR383 := aM (Kd.C_of_reads (h1 := fun _ => rfl) (hA34 _ (Kd.reads_of_C HR3.out)))
     have HC383 := aM hC34
     clear hA34 hC34 hi034 hsz34
     have p384 : 0 ≤ (0 : Int) := (by omega)
     have q384 : 0 < (((l3.take ((wrap64 ((wrap64 (x47_2 + 1)) * (wrap64 (1 + ji13)))) : Int).toNat).drop ((ji22) : Int).toNat).length : Int) := oD
     obtain ⟨ad384, e384, hx384_0⟩ := Kd.at_int HR383.out 0 p384 q384
     cases e384
     have qi384 : (0 < ((l3.take ((wrap64 ((wrap64 (x47_2 + 1)) * (wrap64 (1 + ji13)))) : Int).toNat).drop ((ji22) : Int).toNat).length) = True := eq_true (by omega)
     have qj384 : (0 < ((wrap64 ((wrap64 (x47_2 + 1)) * (wrap64 (1 + ji13)))) : Int).toNat - ((ji22) : Int).toNat) = True := eq_true (by have h_ := of_eq_true qi384; rw [List.length_drop, List.length_take] at h_; omega)
     (try rw [show ((0 : Int)).toNat = 0 from rfl] at hx384_0)
     (try rw [Addr.add_zero'] at hx384_0)
     replace hx384_0 := bD HB hx384_0
     replace p384 := eq_true p384
     replace q384 := eq_true q384
     try go_wp2
     replace HO_12 := aM (Kd.R_drew HO_12.out)
     replace HO_380003 := aM (Kd.R_drew HO_380003.out)
     replace BK376 := aM (blk_drew BK376.out)
     replace BK379 := aM (blk_drew BK379.out)
     replace HB := aM (below_drew1 HB.out)
     have p385 : 0 ≤ (0 : Int) := (by omega)
     have q385 : 0 < (((l3.take ((wrap64 ((wrap64 (x47_2 + 1)) * (wrap64 (1 + ji13)))) : Int).toNat).drop ((ji22) : Int).toNat).length : Int) := oD
     obtain ⟨ad385, e385, hx385_0⟩ := Kd.at_int HR383.out 0 p385 q385
     have hw385_0 := hx385_0
     (try rw [show ((0 : Int)).toNat = 0 from rfl] at hw385_0)
     (try rw [show 0 * 1 = 0 from rfl] at hw385_0)
     (try rw [Addr.add_zero'] at hw385_0)
     obtain rfl : ad384 = ad385 := (by injection e385)
     have qi385 : (0 < ((l3.take ((wrap64 ((wrap64 (x47_2 + 1)) * (wrap64 (1 + ji13)))) : Int).toNat).drop ((ji22) : Int).toNat).length) = True := eq_true (by omega)
     have qj385 : (0 < ((wrap64 ((wrap64 (x47_2 + 1)) * (wrap64 (1 + ji13)))) : Int).toNat - ((ji22) : Int).toNat) = True := eq_true (by have h_ := of_eq_true qi385; rw [List.length_drop, List.length_take] at h_; omega)
     (try rw [show ((0 : Int)).toNat = 0 from rfl] at hx385_0)
     (try rw [Addr.add_zero'] at hx385_0)
     replace hx385_0 := bD HB hx385_0
     replace p385 := eq_true p385
     replace q385 := eq_true q385
     obtain ⟨i036, hi036, _, hsz36, _⟩ := info_parts info3
     obtain ⟨A36, hcut36, hA36, hC36⟩ := print_drop_of (P := Try.prog) (Value.int .i64) 0 22 3 .i64 Try.underlying22 hi036 hsz36 (some ad384) (c3 - (ji22).toNat) ((l3.take ((wrap64 ((wrap64 (x47_2 + 1)) * (wrap64 (1 + ji13)))) : Int).toNat).drop ((ji22) : Int).toNat) 1 (by omega) oD HC383.out
     have hx36 : ((wrap64 ((wrap64 (x47_2 + 1)) * (wrap64 (1 + ji13)))) : Int).toNat ≤ l3.length := (by have h_ : ((wrap64 ((wrap64 (x47_2 + 1)) * (wrap64 (1 + ji13)))) : Int) ≤ (l3.length : Int) := oD; omega)
     have hcutb36 := hcut36
     simp only [List.length_drop, List.length_take, Nat.min_eq_left hx36, show (1 : Int).toNat = 1 from rfl] at hcutb36
     have HR386 := aM (Kd.C_of_reads (h1 := fun _ => rfl) (hA36 _ (Kd.reads_of_C HR383.out)))
     have HC386 := aM hC36
     clear hA36 hC36 hi036 hsz36
     obtain ⟨Ao37, co37, eo37⟩ := Kd.R_slice HO_12.out
     (first | subst eo37 | (injection eo37 with f1_ f2_ f3_; have f4_ := f1_.symm; have f5_ := f3_.symm; clear f1_ f2_ f3_; subst f4_; subst f5_))
     refine start_ (n := 9) (S := fun w' => w'.cell? ad384 = some (.int .i64 (rd ((l3.take ((wrap64 ((wrap64 (x47_2 + 1)) * (wrap64 (1 + ji13)))) : Int).toNat).drop ((ji22) : Int).toNat) 0))) (ds := []) (bA 9 0) (by kernel_rfl) rfl rfl ((bC HB hw385_0)) (fun hHeld => ?_); refine with_tabW impl_unfilterImage.tab12 impl_unfilterImage.bits12 (fun HT_ HW_ => ?_)
     generalize wr.drew = w35 at HO_12 HO_380003 BK376 BK379 HB HR386 hx385_0 hHeld ⊢
     refine pQ 0 66 HT_ (bA 9 1) ?_
     refine pQ 1 67 HT_ (bA 9 3) ?_
     refine pQ 3 69 HT_ (bA 9 11) ?_
     refine pQ 4 70 HT_ (bA 9 27) ?_
     refine pQ 5 71 HT_ (bA 9 59) ?_
     refine pQ 6 72 HT_ (bA 9 123) ?_
     refine take_ (i := 2) (N := some 68) (v := ?_) (a' := ?_) (bA 9 127) rfl rfl (take_ofW HT_.out HW_.out (by kernel_rfl)) (fun _ _ _ h => h) (Or.inl ⟨by rfl, ?_⟩) hHeld ?_ ?_
     rotate_left
     ·intro w' s0
      go_simp
      with_reducible rfl
     rotate_left
     ·refine pZ ?_
      rfl
     refine one_ (i := 7) (N := some 73) (bA 9 255) rfl rfl (one_of HT_.out (by kernel_rfl)) (by decide) (fun K hK => ?_)
     refine goes_ Try.func68 (by kernel_rfl) rfl #[.int .i64 (rd ((l3.take ((wrap64 ((wrap64 (x47_2 + 1)) * (wrap64 (1 + ji13)))) : Int).toNat).drop ((ji22) : Int).toNat) 0), .slice A36 (((l3.take ((wrap64 ((wrap64 (x47_2 + 1)) * (wrap64 (1 + ji13)))) : Int).toNat).drop ((ji22) : Int).toNat).drop 1).length ((c3 - (ji22).toNat) - 1), .slice Ao37 x12_2.length co37, .int .i64 a2] (by rfl) rfl rfl (by (try simp only [List.map_toArray, List.map_cons, List.map_nil]); first | done | (rw [show (((l3.take ((wrap64 ((wrap64 (x47_2 + 1)) * (wrap64 (1 + ji13)))) : Int).toNat).drop ((ji22) : Int).toNat).drop 1).length = (((l3.take ((wrap64 ((wrap64 (x47_2 + 1)) * (wrap64 (1 + ji13)))) : Int).toNat).drop ((ji22) : Int).toNat).length - 1) from List.length_drop] <;> rfl) | (simp only [hji13, hji22]; rfl) | rfl | (simp only [List.length_drop, List.length_take]; rfl) | (simp only [List.length_drop, List.length_take, Nat.min_eq_left hx36]; rfl)) ?_
     with_reducible refine (impl_unfilterRow.calls k2 (rd ((l3.take ((wrap64 ((wrap64 (x47_2 + 1)) * (wrap64 (1 + ji13)))) : Int).toNat).drop ((ji22) : Int).toNat) 0) _ _ (((l3.take ((wrap64 ((wrap64 (x47_2 + 1)) * (wrap64 (1 + ji13)))) : Int).toNat).drop ((ji22) : Int).toNat).drop 1) _ _ x12_2 a2 t387 _ ?side1 ?side2 ?side3 ?side4 A32.out).mono ?_
     (case side1 => exact qC (Kd.C_below HR386.out HB.out))
     (case side2 => exact HC386.out)
     (case side3 => exact qC (Kd.R_reads' HO_12.out).2.2)
     (case side4 => exact (Kd.R_reads' HO_12.out).2.1)
     rintro e w38 ⟨v388, rfl, ho0, hb⟩
     refine ⟨_, rfl, ?_⟩
     have HO389 := aM (Kd.R_lower (Kd.R_new' (Kd.R_new' ho0 (Kd.R_lt (qR HO_12.out))) (Kd.R_lt (qR HO_380003.out))) (below_size (qW HB.out)))
     replace HO_12 := aM (Kd.R_elder' (qR HO_12.out) (Kd.R_base ho0) hb)
     replace HO_380003 := aM (Kd.R_elder' (qR HO_380003.out) (Kd.R_base ho0) hb)
     replace BK376 := bB BK376 hb
     replace BK379 := bB BK379 hb
     replace HB := bS HB hb
     (try clear hb)
     (try clear hb2)
     (try clear hk)
     (try clear hi)
     (try clear ho0)
     refine hK.out _ _ ((bC HB hw385_0)) (fun hHeld => ?_)
     clear hK K
     refine norm_ (a' := ?_) ?_ ?_
     rotate_left
     ·show Act.put _ (some 73) _ = _
      refine pZ ?_
      rfl
     refine pQ 8 12 HT_ (bA 9 511) ?_
     refine done_ (done_of HT_.out (by kernel_rfl)) ?_
     have hnb39 := NB379_376.out
     have hnc39 := NB376_379.out
     obtain ⟨⟨hcz40_0, hcz40_1, hcz40_2, hcz40_3⟩, hfz40_0, hfz40_1, hfz40_2, hfz40_3⟩ := cf4 BK379
     obtain ⟨Ao42, co42, rfl⟩ := sL HO389
     try go_wp2_with (first | ((with_reducible refine gate_builtin (b := .append) (xs := #[.tmp 75, .tmp 76]) rfl ?_); (try (refine gate_guard (by rfl) ?_; dsimp only)); at_builtin; refine Kd.R_append_rows (Kd.int .i64) (w0 := w) w.heap.size rfl (.tmp 75) (.tmp 76) 22 3 (.int .i64 0) 8 rfl Try.underlying22 info3 rfl (by decide) (by omega) u380003 x380003_2 t387 _ _ _ (fun k_ => some k_ ≠ (.slice Ao37 x12_2.length co37 : Value).ownBlock ∧ some k_ ≠ (.slice Ao42 t387.length co42 : Value).ownBlock) (fun _ => False) rfl rfl ?aO ?aR (fun _ _ h => h) (fun _ h => h.elim) ?aF ?aB ?aS ?aL ?_; (case aR => exact qC (Kd.R_reads' HO389.out).2.2); (case aB => exact (qW HB.out)); (case aF => exact (fun k_ hk => ⟨Kd.fresh' (Kd.R_lt (qR HO_12.out)) k_ hk, Kd.fresh' (Kd.R_lt (qR HO389.out)) k_ hk⟩)); (case aO => exact (qR HO_380003.out)); (case aS => exact (below_size (qW HB.out))); (case aL => have := LMc33.out; omega); intro v391 w41 ho hb hg hat; rw [← Ny390.out] at ho; replace HO_12 := aM (Kd.R_after (ok := (fun k_ => some k_ ≠ (.slice Ao42 t387.length co42 : Value).ownBlock)) (by refine qR ?_; exact Kd.R_mono HO_12.out (fun _ hk => ⟨hk.2, hk.1⟩)) hg hat); replace BK376 := gB BK376 hg (Kd.R_ne HO_380003.out BK376.out (by decide)); replace BK379 := gB BK379 hg (Kd.R_ne HO_380003.out BK379.out (by decide)); replace HO389 := aM (Kd.R_after (ok := (fun k_ => some k_ ≠ (.slice Ao37 x12_2.length co37 : Value).ownBlock)) (by refine qR ?_; exact Kd.R_mono HO389.out (fun _ hk => ⟨hk.1.2, hk.2⟩)) hg hat); replace HB := aM (hb); have HO392 := aM (ho); clear HO_380003; clear ho hb hg hat; obtain ⟨Ao43, co43, rfl⟩ := sL HO392; obtain ⟨⟨hcz44_0, hcz44_1, hcz44_2, hcz44_3⟩, hfz44_0, hfz44_1, hfz44_2, hfz44_3⟩ := cf4 BK379))
     go_roundg k2
     case measure => have := HJ4.out; have := HK2.out; omega
     case rel => exact ⟨(t387), (wrap64 (x47_2 + 1)), (x377000_2), (x377001_2), (x377002_2), (y390), (.slice Ao43 y390.length co43), qE, H', ⟨by have := HJ4.out; have := HK2.out; omega⟩, ⟨by refine qR ?_; exact Kd.R_mono (rT HO389 BK379) (fun _ hk => hk.1.2)⟩, ⟨by refine qR ?_; exact Kd.R_mono (rT HO392 BK379) (fun _ hk => hk.1.2)⟩, ⟨by refine qB ?_; refine blk_far ?_ NB376_379.out _; refine qB ?_; exact BK376.out⟩, ⟨by exact bP BK379.out⟩, ⟨by exact qW HB.out⟩⟩
def impl_UnfilterImage.f (k : Nat) (a0 : Int) (a1 : Int) (a2 : Int) (l3 : List Int) : Option (Int × Int × Int × List Int × Bool) := (impl_unfilterImage.f k a0 a1 a2 l3).bind fun bt904 => (some (bt904.1, bt904.2.1, bt904.2.2.1, bt904.2.2.2.1, bt904.2.2.2.2))
theorem impl_UnfilterImage.mono : ∀ a0 a1 a2 a3 k, LeO (impl_UnfilterImage.f k a0 a1 a2 a3) (impl_UnfilterImage.f (k + 1) a0 a1 a2 a3) := by
 intro a0 a1 a2 a3 k
 unfold impl_UnfilterImage.f
 repeat' first | (with_reducible first | exact impl_unfilterImage.mono _ _ _ _ _ | exact lR | exact lN | refine lI ?_ ?_ | refine lB ?_ fun _ => ?_) | exact impl_unfilterImage.mono _ _ _ _ _ | exact lN | refine lI ?_ ?_ | refine lB ?_ fun _ => ?_
set_option maxHeartbeats 8000000 in
set_option maxRecDepth 100000 in
theorem impl_UnfilterImage.calls (k : Nat) (a0 : Int) (a1 : Int) (a2 : Int) (A3 : Option Addr) (c3 : Nat) (l3 : List Int) (r1 : Int) (r2 : Int) (r3 : Int) (r4 : List Int) (r5 : Bool) (w : World) (hr3 : Kd.C (Kd.int .i64) w A3 l3.length l3) (hc3 : l3.length ≤ c3) (h : impl_UnfilterImage.f k a0 a1 a2 l3 = some (r1, r2, r3, r4, r5)) :
  Calls Try.prog 30 #[.int .i64 a0, .int .i64 a1, .int .i64 a2, .slice A3 l3.length c3] w fun e w' => ∃ v3_ : Value, e = .returned (.tuple #[.agg #[.int .i64 r1, .int .i64 r2, .int .i64 r3, v3_], .bool r5]) ∧ Kd.R (Kd.int .i64) 3 w' w.heap.size (fun _ => True) v3_ r4 ∧ Below w.heap.size w w' := by
 have hu24 := Try.underlying24
 have HR3 := aM hr3
 have HC3 := aM hc3
 clear hr3 hc3
 have HB := aM (Below.refl w.heap.size w)
 unfold impl_UnfilterImage.f at h
 have H := h
 clear h
 replace H := Option.bind_eq_some_iff.mp H
 obtain ⟨⟨t904, t905, t906, t907, t910⟩, A50, H⟩ := H
 replace H : (some (t904, t905, t906, t907, t910)) = some (r1, r2, r3, r4, r5) := H
 have A5 := aM A50
 clear A50
 simp only [Option.some.injEq, Prod.mk.injEq] at H
 obtain ⟨rfl, rfl, rfl, rfl, rfl⟩ := H
 go_enter Try.func30, Try.ntmps30
 go_wp2_with (first | ((with_reducible refine gate_dst (N := 8) rfl ?_); refine bxE (N := 8) (cs := #[.int .i64 0, .int .i64 0, .int .i64 0, .slice none 0 0]) (t := 24) ?_; intro gb903 hg w6 hbox hb; have BK903 := aM (hbox); have GW903 := gW hg HB; have GE903 := gW hg HB; replace HB := bS HB hb; clear hb hbox hg) | ((with_reducible refine gate_callee (f := 45) rfl ?_); refine gL (some 14) Try.func45 #[.int .i64 a0, .int .i64 a1, .int .i64 a2, .slice A3 l3.length c3] ?_; (with_reducible refine (impl_unfilterImage.calls k a0 a1 a2 _ _ l3 t904 t905 t906 t907 t910 _ ?side1 ?side2 A5.out).mono ?_); (case side1 => exact qC (Kd.C_below HR3.out HB.out)); (case side2 => exact HC3.out); rintro e w7 ⟨v908, rfl, ho0, hb⟩; refine ⟨_, rfl, ?_⟩; have HO909 := oR ho0 HB; replace BK903 := bB BK903 hb; replace HB := bS HB hb; clear hb ho0; obtain ⟨⟨hcz8_0, hcz8_1, hcz8_2, hcz8_3⟩, hfz8_0, hfz8_1, hfz8_2, hfz8_3⟩ := cf4 BK903; obtain ⟨Ao9, co9, rfl⟩ := sL HO909))
 refine bodyPost_ret (results_ct rfl _ _ gb903 24 #[.int .i64 t904, .int .i64 t905, .int .i64 t906, .slice Ao9 t907.length co9] (0, 0) _ rfl (by exact bP BK903.out) Try.underlying24 rfl (by kernel_rfl)) rfl ?_
 exact ⟨_, qX, by refine qR ?_; exact Kd.R_mono (rT HO909 BK903) (fun _ hk => trivial), by exact qW HB.out⟩
def spec_UnfilterImage.f (k : Nat) (a0 : Int) (a1 : Int) (a2 : Int) (l3 : List Int) : Option (Int × Int × Int × List Int × Bool) := (spec_validShape.f a0 a1 a2).bind fun t939 => (if t939 = true then (if (l3.length : Int) = (wrap64 (a1 * (wrap64 ((wrap64 (a0 * a2)) + 1)))) then ((spec_allIn.f k l3 0 255).bind fun t940 => (if t940 = true then ((spec_unfilterImage.f k a0 a1 a2 l3).bind fun bt941 => (some (bt941.1, bt941.2.1, bt941.2.2.1, bt941.2.2.2.1, bt941.2.2.2.2))) else (some (0, 0, 0, ([] : List Int), false)))) else (some (0, 0, 0, ([] : List Int), false))) else (some (0, 0, 0, ([] : List Int), false)))
theorem spec_UnfilterImage.mono : ∀ a0 a1 a2 a3 k, LeO (spec_UnfilterImage.f k a0 a1 a2 a3) (spec_UnfilterImage.f (k + 1) a0 a1 a2 a3) := by
 intro a0 a1 a2 a3 k
 unfold spec_UnfilterImage.f
 repeat' first | (with_reducible first | exact spec_allIn.mono _ _ _ _ | exact spec_unfilterImage.mono _ _ _ _ _ | exact lR | exact lN | refine lI ?_ ?_ | refine lB ?_ fun _ => ?_) | exact spec_allIn.mono _ _ _ _ | exact spec_unfilterImage.mono _ _ _ _ _ | exact lN | refine lI ?_ ?_ | refine lB ?_ fun _ => ?_
set_option maxHeartbeats 8000000 in
set_option maxRecDepth 100000 in
theorem spec_UnfilterImage.calls (k : Nat) (a0 : Int) (a1 : Int) (a2 : Int) (A3 : Option Addr) (c3 : Nat) (l3 : List Int) (r1 : Int) (r2 : Int) (r3 : Int) (r4 : List Int) (r5 : Bool) (w : World) (hr3 : Kd.C (Kd.int .i64) w A3 l3.length l3) (hc3 : l3.length ≤ c3) (h : spec_UnfilterImage.f k a0 a1 a2 l3 = some (r1, r2, r3, r4, r5)) :
  Calls Try.prog 31 #[.int .i64 a0, .int .i64 a1, .int .i64 a2, .slice A3 l3.length c3] w fun e w' => ∃ v3_ : Value, e = .returned (.tuple #[.agg #[.int .i64 r1, .int .i64 r2, .int .i64 r3, v3_], .bool r5]) ∧ Kd.R (Kd.int .i64) 3 w' w.heap.size (fun _ => True) v3_ r4 ∧ Below w.heap.size w w' := by
 have hu24 := Try.underlying24
 have HR3 := aM hr3
 have HC3 := aM hc3
 clear hr3 hc3
 have HB := aM (Below.refl w.heap.size w)
 unfold spec_UnfilterImage.f at h
 have H := h
 clear h
 replace H := Option.bind_eq_some_iff.mp H
 obtain ⟨t939, A50, H⟩ := H
 replace H : (if t939 = true then (if (l3.length : Int) = (wrap64 (a1 * (wrap64 ((wrap64 (a0 * a2)) + 1)))) then ((spec_allIn.f k l3 0 255).bind fun t940 => (if t940 = true then ((spec_unfilterImage.f k a0 a1 a2 l3).bind fun bt941 => (some (bt941.1, bt941.2.1, bt941.2.2.1, bt941.2.2.2.1, bt941.2.2.2.2))) else (some (0, 0, 0, ([] : List Int), false)))) else (some (0, 0, 0, ([] : List Int), false))) else (some (0, 0, 0, ([] : List Int), false))) = some (r1, r2, r3, r4, r5) := H
 have A5 := aM A50
 clear A50
 by_cases c6 : t939 = true
 rotate_left
 ·replace c6 := Bool.eq_false_iff.mpr c6
  subst c6
  have H1 : (some (0, 0, 0, ([] : List Int), false)) = some (r1, r2, r3, r4, r5) := by rw [if_neg (show ¬ (false = true) by decide)] at H; exact H
  clear H
  have H := H1
  clear H1
  simp only [Option.some.injEq, Prod.mk.injEq] at H
  obtain ⟨rfl, rfl, rfl, rfl, rfl⟩ := H
  go_enter Try.func31, Try.ntmps31
  go_wp2_with (first | ((with_reducible refine gate_dst (N := 8) rfl ?_); (try (refine gate_guard (by rfl) ?_; dsimp only)); refine bxE (N := 8) (cs := #[.int .i64 0, .int .i64 0, .int .i64 0, .slice none 0 0]) (t := 24) ?_; intro gb938 hg w19 hbox hb; have BK938 := aM (hbox); have GW938 := gW hg HB; have GE938 := gW hg HB; replace HB := bS HB hb; clear hb hbox hg) | ((with_reducible refine gate_callee (f := 37) rfl ?_); refine gL (some 13) Try.func37 #[.int .i64 a0, .int .i64 a1, .int .i64 a2] ?_; (with_reducible refine (spec_validShape.calls a0 a1 a2 false _ A5.out).mono ?_); rintro e w' ⟨rfl, ⟨nd, rfl⟩⟩; refine ⟨_, rfl, ?_⟩; (try (rw [drewN_self w19]; generalize hq_ : World.drewN w19 _ = w19; replace BK938 : Aside0 (w19.heap[gb938]? = some (.cells #[.int .i64 0, .int .i64 0, .int .i64 0, .slice none 0 0] 24 (0, 0))) := ⟨by rw [← hq_]; exact (qB BK938.out)⟩; replace HB : Aside0 (Below w.heap.size w w19) := ⟨by rw [← hq_]; exact (qW HB.out)⟩; clear hq_)); obtain ⟨⟨hcz20_0, hcz20_1, hcz20_2, hcz20_3⟩, hfz20_0, hfz20_1, hfz20_2, hfz20_3⟩ := cf4 BK938))
  refine bodyPost_ret (results_ct rfl _ _ gb938 24 #[.int .i64 0, .int .i64 0, .int .i64 0, .slice none 0 0] (0, 0) _ rfl (by exact bP BK938.out) Try.underlying24 rfl (by kernel_rfl)) rfl ?_
  exact ⟨_, qX, qN, by exact qW HB.out⟩
 subst c6
 have H1 : (if (l3.length : Int) = (wrap64 (a1 * (wrap64 ((wrap64 (a0 * a2)) + 1)))) then ((spec_allIn.f k l3 0 255).bind fun t940 => (if t940 = true then ((spec_unfilterImage.f k a0 a1 a2 l3).bind fun bt941 => (some (bt941.1, bt941.2.1, bt941.2.2.1, bt941.2.2.2.1, bt941.2.2.2.2))) else (some (0, 0, 0, ([] : List Int), false)))) else (some (0, 0, 0, ([] : List Int), false))) = some (r1, r2, r3, r4, r5) := by rw [if_pos rfl] at H; exact H
 clear H
 have H := H1
 clear H1
 by_cases c7 : (l3.length : Int) = (wrap64 (a1 * (wrap64 ((wrap64 (a0 * a2)) + 1))))
 rotate_left
 ·rw [if_neg c7] at H
  have c7b0 : ((l3.length : Int) == (wrap64 (a1 * (wrap64 ((wrap64 (a0 * a2)) + 1))))) = false := beq_eq_false_iff_ne.mpr c7
  have c7b1 : ((l3.length : Int) != (wrap64 (a1 * (wrap64 ((wrap64 (a0 * a2)) + 1))))) = true := bne_iff_ne.mpr c7
  simp only [Option.some.injEq, Prod.mk.injEq] at H
  obtain ⟨rfl, rfl, rfl, rfl, rfl⟩ := H
  go_enter Try.func31, Try.ntmps31
  go_wp2_with (first | ((with_reducible refine gate_dst (N := 8) rfl ?_); (try (refine gate_guard (by rfl) ?_; dsimp only)); refine bxE (N := 8) (cs := #[.int .i64 0, .int .i64 0, .int .i64 0, .slice none 0 0]) (t := 24) ?_; intro gb938 hg w17 hbox hb; have BK938 := aM (hbox); have GW938 := gW hg HB; have GE938 := gW hg HB; replace HB := bS HB hb; clear hb hbox hg) | ((with_reducible refine gate_callee (f := 37) rfl ?_); refine gL (some 13) Try.func37 #[.int .i64 a0, .int .i64 a1, .int .i64 a2] ?_; (with_reducible refine (spec_validShape.calls a0 a1 a2 true _ A5.out).mono ?_); rintro e w' ⟨rfl, ⟨nd, rfl⟩⟩; refine ⟨_, rfl, ?_⟩; (try (rw [drewN_self w17]; generalize hq_ : World.drewN w17 _ = w17; replace BK938 : Aside0 (w17.heap[gb938]? = some (.cells #[.int .i64 0, .int .i64 0, .int .i64 0, .slice none 0 0] 24 (0, 0))) := ⟨by rw [← hq_]; exact (qB BK938.out)⟩; replace HB : Aside0 (Below w.heap.size w w17) := ⟨by rw [← hq_]; exact (qW HB.out)⟩; clear hq_)); obtain ⟨⟨hcz18_0, hcz18_1, hcz18_2, hcz18_3⟩, hfz18_0, hfz18_1, hfz18_2, hfz18_3⟩ := cf4 BK938))
  refine bodyPost_ret (results_ct rfl _ _ gb938 24 #[.int .i64 0, .int .i64 0, .int .i64 0, .slice none 0 0] (0, 0) _ rfl (by exact bP BK938.out) Try.underlying24 rfl (by kernel_rfl)) rfl ?_
  exact ⟨_, qX, qN, by exact qW HB.out⟩
 rw [if_pos c7] at H
 have c7b0 : ((l3.length : Int) == (wrap64 (a1 * (wrap64 ((wrap64 (a0 * a2)) + 1))))) = true := beq_iff_eq.mpr c7
 have c7b1 : ((l3.length : Int) != (wrap64 (a1 * (wrap64 ((wrap64 (a0 * a2)) + 1))))) = false := bne_eq_false_iff_eq.mpr c7
 clear c7
 replace H := Option.bind_eq_some_iff.mp H
 obtain ⟨t940, A80, H⟩ := H
 replace H : (if t940 = true then ((spec_unfilterImage.f k a0 a1 a2 l3).bind fun bt941 => (some (bt941.1, bt941.2.1, bt941.2.2.1, bt941.2.2.2.1, bt941.2.2.2.2))) else (some (0, 0, 0, ([] : List Int), false))) = some (r1, r2, r3, r4, r5) := H
 have A8 := aM A80
 clear A80
 by_cases c9 : t940 = true
 rotate_left
 ·replace c9 := Bool.eq_false_iff.mpr c9
  subst c9
  have H1 : (some (0, 0, 0, ([] : List Int), false)) = some (r1, r2, r3, r4, r5) := by rw [if_neg (show ¬ (false = true) by decide)] at H; exact H
  clear H
  have H := H1
  clear H1
  simp only [Option.some.injEq, Prod.mk.injEq] at H
  obtain ⟨rfl, rfl, rfl, rfl, rfl⟩ := H
  go_enter Try.func31, Try.ntmps31
  go_wp2_with (first | ((with_reducible refine gate_dst (N := 8) rfl ?_); (try (refine gate_guard (by rfl) ?_; dsimp only)); refine bxE (N := 8) (cs := #[.int .i64 0, .int .i64 0, .int .i64 0, .slice none 0 0]) (t := 24) ?_; intro gb938 hg w15 hbox hb; have BK938 := aM (hbox); have GW938 := gW hg HB; have GE938 := gW hg HB; replace HB := bS HB hb; clear hb hbox hg) | ((with_reducible refine gate_callee (f := 37) rfl ?_); refine gL (some 13) Try.func37 #[.int .i64 a0, .int .i64 a1, .int .i64 a2] ?_; (with_reducible refine (spec_validShape.calls a0 a1 a2 true _ A5.out).mono ?_); rintro e w' ⟨rfl, ⟨nd, rfl⟩⟩; refine ⟨_, rfl, ?_⟩; (try (rw [drewN_self w15]; generalize hq_ : World.drewN w15 _ = w15; replace BK938 : Aside0 (w15.heap[gb938]? = some (.cells #[.int .i64 0, .int .i64 0, .int .i64 0, .slice none 0 0] 24 (0, 0))) := ⟨by rw [← hq_]; exact (qB BK938.out)⟩; replace HB : Aside0 (Below w.heap.size w w15) := ⟨by rw [← hq_]; exact (qW HB.out)⟩; clear hq_))) | (go_at_call 57; (with_reducible refine (spec_allIn.calls k _ _ l3 0 255 false _ ?side1 ?side2 A8.out).mono ?_); (case side1 => exact qC (Kd.C_below HR3.out HB.out)); (case side2 => exact HC3.out); rintro e w' ⟨rfl, ⟨nd, rfl⟩⟩; (try (rw [drewN_self w15]; generalize hq_ : World.drewN w15 _ = w15; replace BK938 : Aside0 (w15.heap[gb938]? = some (.cells #[.int .i64 0, .int .i64 0, .int .i64 0, .slice none 0 0] 24 (0, 0))) := ⟨by rw [← hq_]; exact (qB BK938.out)⟩; replace HB : Aside0 (Below w.heap.size w w15) := ⟨by rw [← hq_]; exact (qW HB.out)⟩; clear hq_)); obtain ⟨⟨hcz16_0, hcz16_1, hcz16_2, hcz16_3⟩, hfz16_0, hfz16_1, hfz16_2, hfz16_3⟩ := cf4 BK938))
  refine bodyPost_ret (results_ct rfl _ _ gb938 24 #[.int .i64 0, .int .i64 0, .int .i64 0, .slice none 0 0] (0, 0) _ rfl (by exact bP BK938.out) Try.underlying24 rfl (by kernel_rfl)) rfl ?_
  exact ⟨_, qX, qN, by exact qW HB.out⟩
 subst c9
 have H1 : ((spec_unfilterImage.f k a0 a1 a2 l3).bind fun bt941 => (some (bt941.1, bt941.2.1, bt941.2.2.1, bt941.2.2.2.1, bt941.2.2.2.2))) = some (r1, r2, r3, r4, r5) := by rw [if_pos rfl] at H; exact H
 clear H
 have H := H1
 clear H1
 replace H := Option.bind_eq_some_iff.mp H
 obtain ⟨⟨t941, t942, t943, t944, t947⟩, A100, H⟩ := H
 replace H : (some (t941, t942, t943, t944, t947)) = some (r1, r2, r3, r4, r5) := H
 have A10 := aM A100
 clear A100
 simp only [Option.some.injEq, Prod.mk.injEq] at H
 obtain ⟨rfl, rfl, rfl, rfl, rfl⟩ := H
 go_enter Try.func31, Try.ntmps31
 go_wp2_with (first | ((with_reducible refine gate_dst (N := 8) rfl ?_); (try (refine gate_guard (by rfl) ?_; dsimp only)); refine bxE (N := 8) (cs := #[.int .i64 0, .int .i64 0, .int .i64 0, .slice none 0 0]) (t := 24) ?_; intro gb938 hg w11 hbox hb; have BK938 := aM (hbox); have GW938 := gW hg HB; have GE938 := gW hg HB; replace HB := bS HB hb; clear hb hbox hg) | ((with_reducible refine gate_callee (f := 37) rfl ?_); refine gL (some 13) Try.func37 #[.int .i64 a0, .int .i64 a1, .int .i64 a2] ?_; (with_reducible refine (spec_validShape.calls a0 a1 a2 true _ A5.out).mono ?_); rintro e w' ⟨rfl, ⟨nd, rfl⟩⟩; refine ⟨_, rfl, ?_⟩; (try (rw [drewN_self w11]; generalize hq_ : World.drewN w11 _ = w11; replace BK938 : Aside0 (w11.heap[gb938]? = some (.cells #[.int .i64 0, .int .i64 0, .int .i64 0, .slice none 0 0] 24 (0, 0))) := ⟨by rw [← hq_]; exact (qB BK938.out)⟩; replace HB : Aside0 (Below w.heap.size w w11) := ⟨by rw [← hq_]; exact (qW HB.out)⟩; clear hq_))) | (go_at_call 57; (with_reducible refine (spec_allIn.calls k _ _ l3 0 255 true _ ?side1 ?side2 A8.out).mono ?_); (case side1 => exact qC (Kd.C_below HR3.out HB.out)); (case side2 => exact HC3.out); rintro e w' ⟨rfl, ⟨nd, rfl⟩⟩; (try (rw [drewN_self w11]; generalize hq_ : World.drewN w11 _ = w11; replace BK938 : Aside0 (w11.heap[gb938]? = some (.cells #[.int .i64 0, .int .i64 0, .int .i64 0, .slice none 0 0] 24 (0, 0))) := ⟨by rw [← hq_]; exact (qB BK938.out)⟩; replace HB : Aside0 (Below w.heap.size w w11) := ⟨by rw [← hq_]; exact (qW HB.out)⟩; clear hq_))) | ((with_reducible refine gate_callee (f := 40) rfl ?_); refine gL (some 36) Try.func40 #[.int .i64 a0, .int .i64 a1, .int .i64 a2, .slice A3 l3.length c3] ?_; (with_reducible refine (spec_unfilterImage.calls k a0 a1 a2 _ _ l3 t941 t942 t943 t944 t947 _ ?side1 ?side2 A10.out).mono ?_); (case side1 => exact qC (Kd.C_below HR3.out HB.out)); (case side2 => exact HC3.out); rintro e w12 ⟨v945, rfl, ho0, hb⟩; refine ⟨_, rfl, ?_⟩; have HO946 := oR ho0 HB; replace BK938 := bB BK938 hb; replace HB := bS HB hb; clear hb ho0; obtain ⟨⟨hcz13_0, hcz13_1, hcz13_2, hcz13_3⟩, hfz13_0, hfz13_1, hfz13_2, hfz13_3⟩ := cf4 BK938; obtain ⟨Ao14, co14, rfl⟩ := sL HO946))
 refine bodyPost_ret (results_ct rfl _ _ gb938 24 #[.int .i64 t941, .int .i64 t942, .int .i64 t943, .slice Ao14 t944.length co14] (0, 0) _ rfl (by exact bP BK938.out) Try.underlying24 rfl (by kernel_rfl)) rfl ?_
 exact ⟨_, qX, by refine qR ?_; exact Kd.R_mono (rT HO946 BK938) (fun _ hk => trivial), by exact qW HB.out⟩
def spec_writeImage.f (k : Nat) (a0_0 : Int) (a0_1 : Int) (a0_2 : Int) (l0_3 : List Int) : Option (List Int) := (spec_filterImage.f k a0_0 a0_1 a0_2 l0_3).bind fun t285 => ((spec_bestTokens.f k t285).bind fun t288 => ((spec_packTokens.f k t288).bind fun t291 => ((some (([112, 120, a0_0, a0_1, a0_2] : List Int) : List Int)).bind fun y294 => (if y294.length + t291.length < 17592186044416 then ((some (y294 ++ t291 : List Int)).bind fun y297 => ((spec_adler.f k y297).bind fun t300 => ((some (([wrap64 (Int.tdiv t300 256), Int.tmod t300 256] : List Int) : List Int)).bind fun y301 => (if y297.length + y301.length < 17592186044416 then (some (y297 ++ y301)) else (none))))) else (none)))))
theorem spec_writeImage.mono : ∀ a0 a1 a2 a3 k, LeO (spec_writeImage.f k a0 a1 a2 a3) (spec_writeImage.f (k + 1) a0 a1 a2 a3) := by
 intro a0 a1 a2 a3 k
 unfold spec_writeImage.f
 repeat' first | (with_reducible first | exact spec_adler.mono _ _ | exact spec_bestTokens.mono _ _ | exact spec_filterImage.mono _ _ _ _ _ | exact spec_packTokens.mono _ _ | exact lR | exact lN | refine lI ?_ ?_ | refine lB ?_ fun _ => ?_) | exact spec_adler.mono _ _ | exact spec_bestTokens.mono _ _ | exact spec_filterImage.mono _ _ _ _ _ | exact spec_packTokens.mono _ _ | exact lN | refine lI ?_ ?_ | refine lB ?_ fun _ => ?_
set_option maxHeartbeats 8000000 in
set_option maxRecDepth 100000 in
theorem spec_writeImage.calls (k : Nat) (a0_0 : Int) (a0_1 : Int) (a0_2 : Int) (A0_3 : Option Addr) (c0_3 : Nat) (l0_3 : List Int) (r : List Int) (w : World) (hr0_3 : Kd.C (Kd.int .i64) w A0_3 l0_3.length l0_3) (hc0_3 : l0_3.length ≤ c0_3) (h : spec_writeImage.f k a0_0 a0_1 a0_2 l0_3 = some r) :
  Calls Try.prog 42 #[.agg #[.int .i64 a0_0, .int .i64 a0_1, .int .i64 a0_2, .slice A0_3 l0_3.length c0_3]] w fun e w' => ∃ v0_ : Value, e = .returned (v0_) ∧ Kd.R (Kd.int .i64) 3 w' w.heap.size (fun _ => True) v0_ r ∧ Below w.heap.size w w' := by
 have hu24 := Try.underlying24
 have HR0_3 := aM hr0_3
 have HC0_3 := aM hc0_3
 clear hr0_3 hc0_3
 have HB := aM (Below.refl w.heap.size w)
 unfold spec_writeImage.f at h
 have H := h
 clear h
 replace H := Option.bind_eq_some_iff.mp H
 obtain ⟨t285, A20, H⟩ := H
 replace H : ((spec_bestTokens.f k t285).bind fun t288 => ((spec_packTokens.f k t288).bind fun t291 => ((some (([112, 120, a0_0, a0_1, a0_2] : List Int) : List Int)).bind fun y294 => (if y294.length + t291.length < 17592186044416 then ((some (y294 ++ t291 : List Int)).bind fun y297 => ((spec_adler.f k y297).bind fun t300 => ((some (([wrap64 (Int.tdiv t300 256), Int.tmod t300 256] : List Int) : List Int)).bind fun y301 => (if y297.length + y301.length < 17592186044416 then (some (y297 ++ y301)) else (none))))) else (none))))) = some r := H
 have A2 := aM A20
 clear A20
 replace H := Option.bind_eq_some_iff.mp H
 obtain ⟨t288, A30, H⟩ := H
 replace H : ((spec_packTokens.f k t288).bind fun t291 => ((some (([112, 120, a0_0, a0_1, a0_2] : List Int) : List Int)).bind fun y294 => (if y294.length + t291.length < 17592186044416 then ((some (y294 ++ t291 : List Int)).bind fun y297 => ((spec_adler.f k y297).bind fun t300 => ((some (([wrap64 (Int.tdiv t300 256), Int.tmod t300 256] : List Int) : List Int)).bind fun y301 => (if y297.length + y301.length < 17592186044416 then (some (y297 ++ y301)) else (none))))) else (none)))) = some r := H
 have A3 := aM A30
 clear A30
 replace H := Option.bind_eq_some_iff.mp H
 obtain ⟨t291, A40, H⟩ := H
 replace H : ((some (([112, 120, a0_0, a0_1, a0_2] : List Int) : List Int)).bind fun y294 => (if y294.length + t291.length < 17592186044416 then ((some (y294 ++ t291 : List Int)).bind fun y297 => ((spec_adler.f k y297).bind fun t300 => ((some (([wrap64 (Int.tdiv t300 256), Int.tmod t300 256] : List Int) : List Int)).bind fun y301 => (if y297.length + y301.length < 17592186044416 then (some (y297 ++ y301)) else (none))))) else (none))) = some r := H
 have A4 := aM A40
 clear A40
 obtain ⟨y294, hy294⟩ : ∃ y_ : List Int, y_ = (([112, 120, a0_0, a0_1, a0_2] : List Int)) := ⟨_, rfl⟩
 replace H : (if y294.length + t291.length < 17592186044416 then ((some (y294 ++ t291 : List Int)).bind fun y297 => ((spec_adler.f k y297).bind fun t300 => ((some (([wrap64 (Int.tdiv t300 256), Int.tmod t300 256] : List Int) : List Int)).bind fun y301 => (if y297.length + y301.length < 17592186044416 then (some (y297 ++ y301)) else (none))))) else (none)) = some r := rY hy294 H
 have Ny294 := aM hy294
 clear hy294
 replace H := iS H
 obtain ⟨c5, H⟩ := H
 have LMc5 := aM c5
 clear c5
 obtain ⟨y297, hy297⟩ : ∃ y_ : List Int, y_ = (y294 ++ t291) := ⟨_, rfl⟩
 replace H : ((spec_adler.f k y297).bind fun t300 => ((some (([wrap64 (Int.tdiv t300 256), Int.tmod t300 256] : List Int) : List Int)).bind fun y301 => (if y297.length + y301.length < 17592186044416 then (some (y297 ++ y301)) else (none)))) = some r := rY hy297 H
 have Ny297 := aM hy297
 clear hy297
 replace H := Option.bind_eq_some_iff.mp H
 obtain ⟨t300, A60, H⟩ := H
 replace H : ((some (([wrap64 (Int.tdiv t300 256), Int.tmod t300 256] : List Int) : List Int)).bind fun y301 => (if y297.length + y301.length < 17592186044416 then (some (y297 ++ y301)) else (none))) = some r := H
 have A6 := aM A60
 clear A60
 obtain ⟨y301, hy301⟩ : ∃ y_ : List Int, y_ = (([wrap64 (Int.tdiv t300 256), Int.tmod t300 256] : List Int)) := ⟨_, rfl⟩
 replace H : (if y297.length + y301.length < 17592186044416 then (some (y297 ++ y301)) else (none)) = some r := rY hy301 H
 have Ny301 := aM hy301
 clear hy301
 replace H := iS H
 obtain ⟨c7, H⟩ := H
 have LMc7 := aM c7
 clear c7
 obtain ⟨y304, hy304⟩ : ∃ y_ : List Int, y_ = (y297 ++ y301) := ⟨_, rfl⟩
 replace H : (some y304) = some r := rY hy304 H
 have Ny304 := aM hy304
 clear hy304
 obtain rfl := Option.some.inj H
 go_enter Try.func42, Try.ntmps42
 go_wp2_with (first | ((with_reducible refine gate_dst (N := 1) rfl ?_); refine bxE (N := 1) (cs := #[.int .i64 a0_0, .int .i64 a0_1, .int .i64 a0_2, .slice A0_3 l0_3.length c0_3]) (t := 24) ?_; intro gb284 hg w8 hbox hb; have BK284 := aM (hbox); have GW284 := gW hg HB; have GE284 := gW hg HB; replace HB := bS HB hb; clear hb hbox hg; obtain ⟨⟨hcz9_0, hcz9_1, hcz9_2, hcz9_3⟩, hfz9_0, hfz9_1, hfz9_2, hfz9_3⟩ := cf4 BK284) | ((with_reducible refine gate_callee (f := 55) rfl ?_); refine gL (some 7) Try.func55 #[.agg #[.int .i64 a0_0, .int .i64 a0_1, .int .i64 a0_2, .slice A0_3 l0_3.length c0_3]] ?_; (with_reducible refine (spec_filterImage.calls k a0_0 a0_1 a0_2 _ _ l0_3 t285 _ ?side1 ?side2 A2.out).mono ?_); (case side1 => exact qC (Kd.C_below HR0_3.out HB.out)); (case side2 => exact HC0_3.out); rintro e w10 ⟨v286, rfl, ho0, hb⟩; refine ⟨_, rfl, ?_⟩; have HO287 := oR ho0 HB; replace BK284 := bB BK284 hb; replace HB := bS HB hb; clear hb ho0; obtain ⟨Ao11, co11, rfl⟩ := sL HO287) | ((with_reducible refine gate_callee (f := 64) rfl ?_); refine gL (some 8) Try.func64 #[.slice Ao11 t285.length co11] ?_; (with_reducible refine (spec_bestTokens.calls k _ _ t285 t288 _ ?side1 ?side2 A3.out).mono ?_); (case side1 => exact qC (Kd.R_reads' HO287.out).2.2); (case side2 => exact (Kd.R_reads' HO287.out).2.1); rintro e w12 ⟨v289, rfl, ho0, hb⟩; refine ⟨_, rfl, ?_⟩; replace HO287 := aM (Kd.R_below (qR HO287.out) hb); have HO290 := oR ho0 HB; replace BK284 := bB BK284 hb; replace HB := bS HB hb; clear hb ho0; obtain ⟨Ao13, co13, rfl⟩ := sL HO290) | ((with_reducible refine gate_callee (f := 63) rfl ?_); refine gL (some 9) Try.func63 #[.slice Ao13 t288.length co13] ?_; (with_reducible refine (spec_packTokens.calls k _ _ t288 t291 _ ?side1 ?side2 A4.out).mono ?_); (case side1 => exact qC (Kd.R_reads' HO290.out).2.2); (case side2 => exact (Kd.R_reads' HO290.out).2.1); rintro e w14 ⟨v292, rfl, ho0, hb⟩; refine ⟨_, rfl, ?_⟩; replace HO290 := aM (Kd.R_below (qR HO290.out) hb); have HO293 := nR ho0 HO287 HB; replace HO287 := aM (Kd.R_elder' (qR HO287.out) (Kd.R_base ho0) hb); replace BK284 := bB BK284 hb; replace HB := bS HB hb; clear hb ho0; obtain ⟨⟨hcz15_0, hcz15_1, hcz15_2, hcz15_3⟩, hfz15_0, hfz15_1, hfz15_2, hfz15_3⟩ := cf4 BK284) | ((with_reducible refine gate_dst (N := 16) rfl ?_); refine iL ([112, 120, a0_0, a0_1, a0_2] : List Int) [.int .i64 112, .int .i64 120, .int .i64 a0_0, .int .i64 a0_1, .int .i64 a0_2] ?_; intro v295 w16 ho17 hb hg_ hnew_; clear hg_ hnew_; (first | rw [← Ny294.out] at ho17 | (simp only [Int.reduceToNat] at ho17; rw [← Ny294.out] at ho17)); replace HO290 := aM (Kd.R_below (qR HO290.out) hb); have HO296 := aM (Kd.R_lower (Kd.R_new' (Kd.R_new' ho17 (Kd.R_lt (qR HO287.out))) (Kd.R_lt (qR HO293.out))) (below_size (qW HB.out))); replace HO287 := aM (Kd.R_elder' (qR HO287.out) (Kd.R_base ho17) hb); replace HO293 := aM (Kd.R_elder' (qR HO293.out) (Kd.R_base ho17) hb); replace BK284 := bB BK284 hb; replace HB := bS HB hb; clear hb ho17; obtain ⟨Ao19, co19, rfl⟩ := sL HO293) | ((with_reducible refine gate_builtin (b := .append) (xs := #[.tmp 16, .tmp 17]) rfl ?_); at_builtin; refine Kd.R_append_rows (Kd.int .i64) (w0 := w) w.heap.size rfl (.tmp 16) (.tmp 17) 22 3 (.int .i64 0) 8 rfl Try.underlying22 info3 rfl (by decide) (by omega) v295 y294 t291 _ _ _ (fun k_ => some k_ ≠ (.slice Ao11 t285.length co11 : Value).ownBlock ∧ some k_ ≠ (.slice Ao19 t291.length co19 : Value).ownBlock) (fun _ => False) rfl rfl ?aO ?aR (fun _ _ h => h) (fun _ h => h.elim) ?aF ?aB ?aS ?aL ?_; (case aR => exact qC (Kd.R_reads' HO293.out).2.2); (case aB => exact (qW HB.out)); (case aF => exact (fun k_ hk => ⟨Kd.fresh' (Kd.R_lt (qR HO287.out)) k_ hk, Kd.fresh' (Kd.R_lt (qR HO293.out)) k_ hk⟩)); (case aO => exact (by refine qR ?_; exact Kd.R_mono HO296.out (fun _ hk => ⟨hk.1.2, hk.2⟩))); (case aS => exact (below_size (qW HB.out))); (case aL => have := LMc5.out; omega); intro v298 w18 ho hb hg hat; rw [← Ny297.out] at ho; replace BK284 := gB BK284 hg (Kd.R_ne HO296.out BK284.out (by decide)); replace HO287 := aM (Kd.R_after (ok := (fun k_ => some k_ ≠ (.slice Ao19 t291.length co19 : Value).ownBlock)) (by refine qR ?_; exact Kd.R_mono HO287.out (fun _ hk => ⟨hk.1.2, hk.2⟩)) hg hat); replace HO290 := aM (Kd.R_over' (qR HO290.out) (Kd.R_typed (qR HO296.out)) (by decide) hg); replace HO293 := aM (Kd.R_after (ok := (fun k_ => some k_ ≠ (.slice Ao11 t285.length co11 : Value).ownBlock)) (by refine qR ?_; exact Kd.R_mono HO293.out (fun _ hk => ⟨hk.1.2, hk.2⟩)) hg hat); replace HB := aM (hb); have HO299 := aM (ho); clear HO296; clear ho hb hg hat; obtain ⟨Ao20, co20, rfl⟩ := sL HO299) | ((with_reducible refine gate_callee (f := 65) rfl ?_); refine gL (some 20) Try.func65 #[.slice Ao20 y297.length co20] ?_; (with_reducible refine (spec_adler.calls k _ _ y297 t300 _ ?side1 ?side2 A6.out).mono ?_); (case side1 => exact qC (Kd.R_reads' HO299.out).2.2); (case side2 => exact (Kd.R_reads' HO299.out).2.1); rintro e w' ⟨rfl, ⟨nd, rfl⟩⟩; refine ⟨_, rfl, ?_⟩) | ((with_reducible refine gate_dst (N := 26) rfl ?_); refine iL ([wrap64 (Int.tdiv t300 256), Int.tmod t300 256] : List Int) [.int .i64 (wrap64 (Int.tdiv t300 256)), .int .i64 (Int.tmod t300 256)] ?_; intro v302 w21 ho22 hb hg_ hnew_; clear hg_ hnew_; (first | rw [← Ny301.out] at ho22 | (simp only [Int.reduceToNat] at ho22; rw [← Ny301.out] at ho22)); replace HO290 := aM (Kd.R_below (qR HO290.out) hb); have HO303 := aM (Kd.R_lower (Kd.R_new' (Kd.R_new' (Kd.R_new' ho22 (Kd.R_lt (qR HO287.out))) (Kd.R_lt (qR HO293.out))) (Kd.R_lt (qR HO299.out))) (below_size (qW HB.out))); replace HO287 := aM (Kd.R_elder' (qR HO287.out) (Kd.R_base ho22) hb); replace HO293 := aM (Kd.R_elder' (qR HO293.out) (Kd.R_base ho22) hb); replace HO299 := aM (Kd.R_elder' (qR HO299.out) (Kd.R_base ho22) hb); replace BK284 := bB BK284 hb; replace HB := bS HB hb; clear hb ho22; obtain ⟨Ao24, co24, rfl⟩ := sL HO303) | ((with_reducible refine gate_builtin (b := .append) (xs := #[.tmp 21, .tmp 26]) rfl ?_); at_builtin; refine Kd.R_append_rows (Kd.int .i64) (w0 := w) w.heap.size rfl (.tmp 21) (.tmp 26) 22 3 (.int .i64 0) 8 rfl Try.underlying22 info3 rfl (by decide) (by omega) (.slice Ao20 y297.length co20) y297 y301 _ _ _ (fun k_ => some k_ ≠ (.slice Ao11 t285.length co11 : Value).ownBlock ∧ some k_ ≠ (.slice Ao19 t291.length co19 : Value).ownBlock ∧ some k_ ≠ (.slice Ao24 y301.length co24 : Value).ownBlock) (fun _ => False) rfl rfl ?aO ?aR (fun _ _ h => h) (fun _ h => h.elim) ?aF ?aB ?aS ?aL ?_; (case aR => exact qC (Kd.R_reads' HO303.out).2.2); (case aB => exact (qW HB.out)); (case aF => exact (fun k_ hk => ⟨Kd.fresh' (Kd.R_lt (qR HO287.out)) k_ hk, Kd.fresh' (Kd.R_lt (qR HO293.out)) k_ hk, Kd.fresh' (Kd.R_lt (qR HO303.out)) k_ hk⟩)); (case aO => exact (by refine qR ?_; exact Kd.R_mono HO299.out (fun _ hk => ⟨hk.1.1, ⟨hk.1.2, hk.2⟩⟩))); (case aS => exact (below_size (qW HB.out))); (case aL => have := LMc7.out; omega); intro v305 w23 ho hb hg hat; rw [← Ny304.out] at ho; replace BK284 := gB BK284 hg (Kd.R_ne HO299.out BK284.out (by decide)); replace HO287 := aM (Kd.R_after (ok := (fun k_ => some k_ ≠ (.slice Ao19 t291.length co19 : Value).ownBlock ∧ some k_ ≠ (.slice Ao24 y301.length co24 : Value).ownBlock)) (by refine qR ?_; exact Kd.R_mono HO287.out (fun _ hk => ⟨⟨hk.1.1, hk.2⟩, hk.1.2⟩)) hg hat); replace HO290 := aM (Kd.R_over' (qR HO290.out) (Kd.R_typed (qR HO299.out)) (by decide) hg); replace HO293 := aM (Kd.R_after (ok := (fun k_ => some k_ ≠ (.slice Ao11 t285.length co11 : Value).ownBlock ∧ some k_ ≠ (.slice Ao24 y301.length co24 : Value).ownBlock)) (by refine qR ?_; exact Kd.R_mono HO293.out (fun _ hk => ⟨⟨hk.1.1, hk.2⟩, hk.1.2⟩)) hg hat); replace HO303 := aM (Kd.R_after (ok := (fun k_ => some k_ ≠ (.slice Ao11 t285.length co11 : Value).ownBlock ∧ some k_ ≠ (.slice Ao19 t291.length co19 : Value).ownBlock)) (by refine qR ?_; exact Kd.R_mono HO303.out (fun _ hk => ⟨⟨hk.1.1.2, hk.1.2⟩, hk.2⟩)) hg hat); replace HB := aM (hb); have HO306 := aM (ho); clear HO299; clear ho hb hg hat))
 go_ret
 exact ⟨_, qX, by refine qR ?_; exact Kd.R_mono HO306.out (fun _ hk => trivial), by exact qW HB.out⟩
def impl_writeImage.l0 : Nat → List Int → List (S54) → Int → Int → Option (List Int × Bool)
 | 0, _, _, _, _ => none
 | k + 1, x4, x17, x18, x19 => if x19 < x18 then (if 0 ≤ x19 then (if x19 < (x17.length : Int) then (if ((rd_T54 x17 x19).f1) = 0 then ((some (([0, (rd_T54 x17 x19).f0] : List Int) : List Int)).bind fun y464 => (if x4.length + y464.length < 17592186044416 then (impl_writeImage.l0 k (x4 ++ y464) x17 x18 (wrap64 (x19 + 1))) else (none))) else ((some (([(rd_T54 x17 x19).f1, (rd_T54 x17 x19).f2] : List Int) : List Int)).bind fun y470 => (if x4.length + y470.length < 17592186044416 then (impl_writeImage.l0 k (x4 ++ y470) x17 x18 (wrap64 (x19 + 1))) else (none)))) else (none)) else (none)) else ((impl_checkOf.f k x4).bind fun t476 => ((some (([wrap64 (Int.tdiv t476 256), Int.tmod t476 256] : List Int) : List Int)).bind fun y477 => (if x4.length + y477.length < 17592186044416 then ((some (x4 ++ y477 : List Int)).bind fun y480 => (if (y480.length : Int) > 1200 then (some (([] : List Int), false)) else (some (y480, true)))) else (none))))
def impl_writeImage.f (k : Nat) (a0_0 : Int) (a0_1 : Int) (a0_2 : Int) (l0_3 : List Int) : Option (List Int × Bool) := (impl_filterImage.f k a0_0 a0_1 a0_2 l0_3).bind fun t456 => ((impl_bestTokens.f k t456).bind fun t459 => (impl_writeImage.l0 k (([112, 120, a0_0, a0_1, a0_2] : List Int)) t459 (t459.length : Int) 0))
theorem impl_writeImage.mono_l : ∀ k, (∀ y0 y1 y2 y3, LeO (impl_writeImage.l0 k y0 y1 y2 y3) (impl_writeImage.l0 (k + 1) y0 y1 y2 y3))
 | 0 => fun _ _ _ _ r h => by simp [impl_writeImage.l0] at h
 | k + 1 => by
  have ih0 := impl_writeImage.mono_l k
  ·intro y0 y1 y2 y3
   unfold impl_writeImage.l0
   repeat' first | (with_reducible first | exact ih0 _ _ _ _ | exact impl_bestTokens.mono _ _ | exact impl_checkOf.mono _ _ | exact impl_filterImage.mono _ _ _ _ _ | exact lR | exact lN | refine lI ?_ ?_ | refine lB ?_ fun _ => ?_) | exact ih0 _ _ _ _ | exact impl_bestTokens.mono _ _ | exact impl_checkOf.mono _ _ | exact impl_filterImage.mono _ _ _ _ _ | exact lN | refine lI ?_ ?_ | refine lB ?_ fun _ => ?_
theorem impl_writeImage.mono : ∀ a0 a1 a2 a3 k, LeO (impl_writeImage.f k a0 a1 a2 a3) (impl_writeImage.f (k + 1) a0 a1 a2 a3) := by
 intro a0 a1 a2 a3 k
 have ih0 := impl_writeImage.mono_l k
 unfold impl_writeImage.f
 repeat' first | (with_reducible first | exact ih0 _ _ _ _ | exact impl_bestTokens.mono _ _ | exact impl_checkOf.mono _ _ | exact impl_filterImage.mono _ _ _ _ _ | exact lR | exact lN | refine lI ?_ ?_ | refine lB ?_ fun _ => ?_) | exact ih0 _ _ _ _ | exact impl_bestTokens.mono _ _ | exact impl_checkOf.mono _ _ | exact impl_filterImage.mono _ _ _ _ _ | exact lN | refine lI ?_ ?_ | refine lB ?_ fun _ => ?_
set_option maxHeartbeats 8000000 in
set_option maxRecDepth 100000 in
theorem impl_writeImage.calls (k : Nat) (a0_0 : Int) (a0_1 : Int) (a0_2 : Int) (A0_3 : Option Addr) (c0_3 : Nat) (l0_3 : List Int) (r1 : List Int) (r2 : Bool) (w : World) (hr0_3 : Kd.C (Kd.int .i64) w A0_3 l0_3.length l0_3) (hc0_3 : l0_3.length ≤ c0_3) (h : impl_writeImage.f k a0_0 a0_1 a0_2 l0_3 = some (r1, r2)) :
  Calls Try.prog 46 #[.agg #[.int .i64 a0_0, .int .i64 a0_1, .int .i64 a0_2, .slice A0_3 l0_3.length c0_3]] w fun e w' => ∃ v0_ : Value, e = .returned (.tuple #[v0_, .bool r2]) ∧ Kd.R (Kd.int .i64) 3 w' w.heap.size (fun _ => True) v0_ r1 ∧ Below w.heap.size w w' := by
 have hu24 := Try.underlying24
 have hu54 := Try.underlying54
 have HR0_3 := aM hr0_3
 have HC0_3 := aM hc0_3
 clear hr0_3 hc0_3
 have HB := aM (Below.refl w.heap.size w)
 unfold impl_writeImage.f at h
 have H := h
 clear h
 obtain ⟨y453, hy453⟩ : ∃ y_ : List Int, y_ = (([112, 120, a0_0, a0_1, a0_2] : List Int)) := ⟨_, rfl⟩
 replace H : ((impl_filterImage.f k a0_0 a0_1 a0_2 l0_3).bind fun t456 => ((impl_bestTokens.f k t456).bind fun t459 => (impl_writeImage.l0 k y453 t459 (t459.length : Int) 0))) = some (r1, r2) := rY hy453 H
 have Ny453 := aM hy453
 clear hy453
 replace H := Option.bind_eq_some_iff.mp H
 obtain ⟨t456, A20, H⟩ := H
 replace H : ((impl_bestTokens.f k t456).bind fun t459 => (impl_writeImage.l0 k y453 t459 (t459.length : Int) 0)) = some (r1, r2) := H
 have A2 := aM A20
 clear A20
 replace H := Option.bind_eq_some_iff.mp H
 obtain ⟨t459, A30, H⟩ := H
 replace H : (impl_writeImage.l0 k y453 t459 (t459.length : Int) 0) = some (r1, r2) := H
 have A3 := aM A30
 clear A30
 have H' := aM H
 clear H
 go_enter Try.func46, Try.ntmps46
 go_wp2_with (first | ((with_reducible refine gate_dst (N := 1) rfl ?_); refine bxE (N := 1) (cs := #[.int .i64 a0_0, .int .i64 a0_1, .int .i64 a0_2, .slice A0_3 l0_3.length c0_3]) (t := 24) ?_; intro gb452 hg w4 hbox hb; have BK452 := aM (hbox); have GW452 := gW hg HB; have GE452 := gW hg HB; replace HB := bS HB hb; clear hb hbox hg; obtain ⟨⟨hcz5_0, hcz5_1, hcz5_2, hcz5_3⟩, hfz5_0, hfz5_1, hfz5_2, hfz5_3⟩ := cf4 BK452) | ((with_reducible refine gate_dst (N := 14) rfl ?_); refine iL ([112, 120, a0_0, a0_1, a0_2] : List Int) [.int .i64 112, .int .i64 120, .int .i64 a0_0, .int .i64 a0_1, .int .i64 a0_2] ?_; intro v454 w6 ho7 hb hg_ hnew_; clear hg_ hnew_; (first | rw [← Ny453.out] at ho7 | (simp only [Int.reduceToNat] at ho7; rw [← Ny453.out] at ho7)); have HO455 := oR ho7 HB; replace BK452 := bB BK452 hb; replace HB := bS HB hb; clear hb ho7; obtain ⟨⟨hcz8_0, hcz8_1, hcz8_2, hcz8_3⟩, hfz8_0, hfz8_1, hfz8_2, hfz8_3⟩ := cf4 BK452) | ((with_reducible refine gate_callee (f := 56) rfl ?_); refine gL (some 16) Try.func56 #[.agg #[.int .i64 a0_0, .int .i64 a0_1, .int .i64 a0_2, .slice A0_3 l0_3.length c0_3]] ?_; (with_reducible refine (impl_filterImage.calls k a0_0 a0_1 a0_2 (fun k_ => k_ < w.heap.size) _ _ l0_3 t456 _ ?side1 A2.out).mono ?_); (case side1 => exact Kd.V_mk HC0_3.out (Kd.F_below (Kd.C_F (Kd.heap_int .i64) HR0_3.out) (qW HB.out))); rintro e w9 ⟨v457, rfl, ho0, hb⟩; refine ⟨_, rfl, ?_⟩; have HO458 := aM (Kd.R_lower (Kd.R_new' (Kd.R_mono (ok' := fun k_ => True) ho0 (fun _ hk_ => trivial)) (Kd.R_lt (qR HO455.out))) (below_size (qW HB.out))); replace HO455 := aM (Kd.R_elder' (qR HO455.out) (Kd.R_base ho0) hb); replace BK452 := bB BK452 hb; replace HB := bS HB hb; clear hb ho0; obtain ⟨Ao10, co10, rfl⟩ := sL HO458) | ((with_reducible refine gate_callee (f := 69) rfl ?_); refine gL (some 17) Try.func69 #[.slice Ao10 t456.length co10] ?_; (with_reducible refine (impl_bestTokens.calls k _ _ t456 t459 _ ?side1 ?side2 A3.out).mono ?_); (case side1 => exact qC (Kd.R_reads' HO458.out).2.2); (case side2 => exact (Kd.R_reads' HO458.out).2.1); rintro e w11 ⟨v460, rfl, ho0, hb⟩; refine ⟨_, rfl, ?_⟩; replace HO455 := aM (Kd.R_below (qR HO455.out) hb); replace HO458 := aM (Kd.R_below (qR HO458.out) hb); have HO461 := oR ho0 HB; replace BK452 := bB BK452 hb; replace HB := bS HB hb; clear hb ho0; obtain ⟨Ao12, co12, rfl⟩ := sL HO461))
 go_loopg [4, 19] k (fun kq v4 v19 w' => ∃ (x4_1 : List Int) (x19_1 : Int), v19 = .int .i64 x19_1 ∧ Aside0 (impl_writeImage.l0 kq x4_1 t459 (t459.length : Int) x19_1 = some (r1, r2)) ∧ Aside0 (kq ≤ k) ∧ Aside0 (Kd.R (Kd.int .i64) 3 w' w.heap.size (fun _ => True) v4 x4_1) ∧ Aside0 (Kd.R k54 54 w' w.heap.size (fun _ => True) (.slice Ao12 t459.length co12) t459) ∧ Aside0 (w'.heap[gb452]? = some (.cells #[.int .i64 a0_0, .int .i64 a0_1, .int .i64 a0_2, (.slice A0_3 l0_3.length c0_3)] 24 (0, 0))) ∧ Aside0 (Below w.heap.size w w'))
 case atStart => exact ⟨(y453), (0), qE, H', ⟨Nat.le_refl _⟩, ⟨by refine qR ?_; exact Kd.R_mono HO455.out (fun _ hk => trivial)⟩, ⟨by refine qR ?_; exact HO461.out⟩, ⟨by refine qB ?_; exact BK452.out⟩, ⟨by exact qW HB.out⟩⟩
 case round =>
  clear H'
  try clear hcz5_0 hcz5_1 hcz5_2 hcz5_3 hfz5_0 hfz5_1 hfz5_2 hfz5_3
  try clear hcz8_0 hcz8_1 hcz8_2 hcz8_3 hfz8_0 hfz8_1 hfz8_2 hfz8_3
  obtain ⟨x4_1, x19_1, rfl, HA, HK1, HO_4, HO_17, BK452, HB⟩ := hrel
  cases gk with
  | zero => exact absurd HA.out (by simp [impl_writeImage.l0])
  | succ k1 =>
   have H := HA.out
   clear HA
   simp only [impl_writeImage.l0] at H
   by_cases c13 : x19_1 < (t459.length : Int)
   rotate_left
   ·rw [if_neg c13] at H
    have c13b0 : decide (x19_1 < (t459.length : Int)) = false := decide_eq_false c13
    clear c13
    replace H := Option.bind_eq_some_iff.mp H
    obtain ⟨t476, A330, H⟩ := H
    replace H : ((some (([wrap64 (Int.tdiv t476 256), Int.tmod t476 256] : List Int) : List Int)).bind fun y477 => (if x4_1.length + y477.length < 17592186044416 then ((some (x4_1 ++ y477 : List Int)).bind fun y480 => (if (y480.length : Int) > 1200 then (some (([] : List Int), false)) else (some (y480, true)))) else (none))) = some (r1, r2) := H
    have A33 := aM A330
    clear A330
    obtain ⟨y477, hy477⟩ : ∃ y_ : List Int, y_ = (([wrap64 (Int.tdiv t476 256), Int.tmod t476 256] : List Int)) := ⟨_, rfl⟩
    replace H : (if x4_1.length + y477.length < 17592186044416 then ((some (x4_1 ++ y477 : List Int)).bind fun y480 => (if (y480.length : Int) > 1200 then (some (([] : List Int), false)) else (some (y480, true)))) else (none)) = some (r1, r2) := rY hy477 H
    have Ny477 := aM hy477
    clear hy477
    replace H := iS H
    obtain ⟨c34, H⟩ := H
    have LMc34 := aM c34
    clear c34
    obtain ⟨y480, hy480⟩ : ∃ y_ : List Int, y_ = (x4_1 ++ y477) := ⟨_, rfl⟩
    replace H : (if (y480.length : Int) > 1200 then (some (([] : List Int), false)) else (some (y480, true))) = some (r1, r2) := rY hy480 H
    have Ny480 := aM hy480
    clear hy480
    by_cases c35 : (y480.length : Int) > 1200
    rotate_left
    ·rw [if_neg c35] at H
     have c35b0 : decide (1200 < (y480.length : Int)) = false := decide_eq_false c35
     have c35b1 : decide (1200 < y480.length) = false := decide_eq_false (by omega)
     clear c35
     simp only [Option.some.injEq, Prod.mk.injEq] at H
     obtain ⟨rfl, rfl⟩ := H
     obtain ⟨Ao42, co42, rfl⟩ := sL HO_4
     go_wp2_with (first | ((with_reducible refine gate_callee (f := 70) rfl ?_); refine gL (some 40) Try.func70 #[.slice Ao42 x4_1.length co42] ?_; (with_reducible refine (impl_checkOf.calls k1 _ _ x4_1 t476 _ ?side1 ?side2 A33.out).mono ?_); (case side1 => exact qC (Kd.R_reads' HO_4.out).2.2); (case side2 => exact (Kd.R_reads' HO_4.out).2.1); rintro e w' ⟨rfl, ⟨nd, rfl⟩⟩; refine ⟨_, rfl, ?_⟩) | ((with_reducible refine gate_dst (N := 46) rfl ?_); refine iL ([wrap64 (Int.tdiv t476 256), Int.tmod t476 256] : List Int) [.int .i64 (wrap64 (Int.tdiv t476 256)), .int .i64 (Int.tmod t476 256)] ?_; intro v478 w43 ho44 hb hg_ hnew_; clear hg_ hnew_; (first | rw [← Ny477.out] at ho44 | (simp only [Int.reduceToNat] at ho44; rw [← Ny477.out] at ho44)); replace HO_17 := aM (Kd.R_below (qR HO_17.out) hb); have HO479 := nR ho44 HO_4 HB; replace HO_4 := aM (Kd.R_elder' (qR HO_4.out) (Kd.R_base ho44) hb); replace BK452 := bB BK452 hb; replace HB := bS HB hb; clear hb ho44; obtain ⟨Ao46, co46, rfl⟩ := sL HO479) | ((with_reducible refine gate_builtin (b := .append) (xs := #[.tmp 41, .tmp 46]) rfl ?_); at_builtin; refine Kd.R_append_rows (Kd.int .i64) (w0 := w) w.heap.size rfl (.tmp 41) (.tmp 46) 22 3 (.int .i64 0) 8 rfl Try.underlying22 info3 rfl (by decide) (by omega) (.slice Ao42 x4_1.length co42) x4_1 y477 _ _ _ (fun k_ => some k_ ≠ (.slice Ao46 y477.length co46 : Value).ownBlock) (fun _ => False) rfl rfl ?aO ?aR (fun _ _ h => h) (fun _ h => h.elim) ?aF ?aB ?aS ?aL ?_; (case aR => exact qC (Kd.R_reads' HO479.out).2.2); (case aB => exact (qW HB.out)); (case aF => exact (fun k_ hk => Kd.fresh' (Kd.R_lt (qR HO479.out)) k_ hk)); (case aO => exact (by refine qR ?_; exact Kd.R_mono HO_4.out (fun _ hk => hk.2))); (case aS => exact (below_size (qW HB.out))); (case aL => have := LMc34.out; omega); intro v481 w45 ho hb hg hat; rw [← Ny480.out] at ho; replace HO_17 := aM (Kd.R_over' (qR HO_17.out) (Kd.R_typed (qR HO_4.out)) (by decide) hg); replace BK452 := gB BK452 hg (Kd.R_ne HO_4.out BK452.out (by decide)); replace HO479 := aM (Kd.R_after (ok := (fun _ => True)) (qR HO479.out) hg hat); replace HB := aM (hb); have HO482 := aM (ho); clear HO_4; clear ho hb hg hat; obtain ⟨Ao47, co47, rfl⟩ := sL HO482))
     go_ret2
     exact ⟨_, qX, by refine qR ?_; exact Kd.R_mono HO482.out (fun _ hk => trivial), by exact qW HB.out⟩
    rw [if_pos c35] at H
    have c35b0 : decide (1200 < (y480.length : Int)) = true := decide_eq_true c35
    have c35b1 : decide (1200 < y480.length) = true := decide_eq_true (by omega)
    clear c35
    simp only [Option.some.injEq, Prod.mk.injEq] at H
    obtain ⟨rfl, rfl⟩ := H
    obtain ⟨Ao36, co36, rfl⟩ := sL HO_4
    go_wp2_with (first | ((with_reducible refine gate_callee (f := 70) rfl ?_); refine gL (some 40) Try.func70 #[.slice Ao36 x4_1.length co36] ?_; (with_reducible refine (impl_checkOf.calls k1 _ _ x4_1 t476 _ ?side1 ?side2 A33.out).mono ?_); (case side1 => exact qC (Kd.R_reads' HO_4.out).2.2); (case side2 => exact (Kd.R_reads' HO_4.out).2.1); rintro e w' ⟨rfl, ⟨nd, rfl⟩⟩; refine ⟨_, rfl, ?_⟩) | ((with_reducible refine gate_dst (N := 46) rfl ?_); refine iL ([wrap64 (Int.tdiv t476 256), Int.tmod t476 256] : List Int) [.int .i64 (wrap64 (Int.tdiv t476 256)), .int .i64 (Int.tmod t476 256)] ?_; intro v478 w37 ho38 hb hg_ hnew_; clear hg_ hnew_; (first | rw [← Ny477.out] at ho38 | (simp only [Int.reduceToNat] at ho38; rw [← Ny477.out] at ho38)); replace HO_17 := aM (Kd.R_below (qR HO_17.out) hb); have HO479 := nR ho38 HO_4 HB; replace HO_4 := aM (Kd.R_elder' (qR HO_4.out) (Kd.R_base ho38) hb); replace BK452 := bB BK452 hb; replace HB := bS HB hb; clear hb ho38; obtain ⟨Ao40, co40, rfl⟩ := sL HO479) | ((with_reducible refine gate_builtin (b := .append) (xs := #[.tmp 41, .tmp 46]) rfl ?_); at_builtin; refine Kd.R_append_rows (Kd.int .i64) (w0 := w) w.heap.size rfl (.tmp 41) (.tmp 46) 22 3 (.int .i64 0) 8 rfl Try.underlying22 info3 rfl (by decide) (by omega) (.slice Ao36 x4_1.length co36) x4_1 y477 _ _ _ (fun k_ => some k_ ≠ (.slice Ao40 y477.length co40 : Value).ownBlock) (fun _ => False) rfl rfl ?aO ?aR (fun _ _ h => h) (fun _ h => h.elim) ?aF ?aB ?aS ?aL ?_; (case aR => exact qC (Kd.R_reads' HO479.out).2.2); (case aB => exact (qW HB.out)); (case aF => exact (fun k_ hk => Kd.fresh' (Kd.R_lt (qR HO479.out)) k_ hk)); (case aO => exact (by refine qR ?_; exact Kd.R_mono HO_4.out (fun _ hk => hk.2))); (case aS => exact (below_size (qW HB.out))); (case aL => have := LMc34.out; omega); intro v481 w39 ho hb hg hat; rw [← Ny480.out] at ho; replace HO_17 := aM (Kd.R_over' (qR HO_17.out) (Kd.R_typed (qR HO_4.out)) (by decide) hg); replace BK452 := gB BK452 hg (Kd.R_ne HO_4.out BK452.out (by decide)); replace HO479 := aM (Kd.R_after (ok := (fun _ => True)) (qR HO479.out) hg hat); replace HB := aM (hb); have HO482 := aM (ho); clear HO_4; clear ho hb hg hat; obtain ⟨Ao41, co41, rfl⟩ := sL HO482))
    go_ret2
    exact ⟨_, qX, qN, by exact qW HB.out⟩
   rw [if_pos c13] at H
   have c13b0 : decide (x19_1 < (t459.length : Int)) = true := decide_eq_true c13
   clear c13
   replace H := iD H
   obtain ⟨c14b0, H⟩ := H
   replace H := iD H
   obtain ⟨c15b0, H⟩ := H
   by_cases c16 : ((rd_T54 t459 x19_1).f1) = 0
   ·rw [if_pos c16] at H
    have c16b0 : (((rd_T54 t459 x19_1).f1) == 0) = true := beq_iff_eq.mpr c16
    have c16b1 : (((rd_T54 t459 x19_1).f1) != 0) = false := bne_eq_false_iff_eq.mpr c16
    clear c16
    obtain ⟨y464, hy464⟩ : ∃ y_ : List Int, y_ = (([0, (rd_T54 t459 x19_1).f0] : List Int)) := ⟨_, rfl⟩
    replace H : (if x4_1.length + y464.length < 17592186044416 then (impl_writeImage.l0 k1 (x4_1 ++ y464) t459 (t459.length : Int) (wrap64 (x19_1 + 1))) else (none)) = some (r1, r2) := rY hy464 H
    have Ny464 := aM hy464
    clear hy464
    replace H := iS H
    obtain ⟨c17, H⟩ := H
    have LMc17 := aM c17
    clear c17
    obtain ⟨y467, hy467⟩ : ∃ y_ : List Int, y_ = (x4_1 ++ y464) := ⟨_, rfl⟩
    replace H : (impl_writeImage.l0 k1 y467 t459 (t459.length : Int) (wrap64 (x19_1 + 1))) = some (r1, r2) := rY hy467 H
    have Ny467 := aM hy467
    clear hy467
    have H' := aM H
    clear H
    obtain ⟨ad462, e462, hx462_0, hx462_1, hx462_2⟩ := at_T54 (Kd.R_reads' HO_17.out).2.2 x19_1 oD oD
    cases e462
    have p462 := eq_true (oD : 0 ≤ (x19_1 : Int))
    have q462 := eq_true (oD : x19_1 < (t459.length : Int))
    go_wp2_with (first | ((with_reducible refine gate_dst (N := 6) rfl ?_); refine bxE (N := 6) (cs := #[.int .i64 0, .int .i64 0, .int .i64 0]) (t := 54) ?_; intro gb463 hg w18 hbox hb; replace HO_4 := aM (Kd.R_below (qR HO_4.out) hb); replace HO_17 := aM (Kd.R_below (Kd.R_elderB (qR HO_17.out) gb463 (Nat.le_of_eq hg.symm)) hb); have BK463 := aM (hbox); have GW463 := gW hg HB; have GE463 := gW hg HB; replace HB := bS HB hb; have NB452_463 := nL hg BK452; have NB463_452 := nG hg BK452; replace BK452 := bB BK452 hb; clear hb hbox hg; have hnb19 := NB463_452.out; have hnc19 := NB452_463.out; obtain ⟨⟨hcz20_0, hcz20_1, hcz20_2⟩, hfz20_0, hfz20_1, hfz20_2⟩ := cf3 BK463) | ((with_reducible refine gate_dst (N := 29) rfl ?_); refine iL ([0, (rd_T54 t459 x19_1).f0] : List Int) [.int .i64 0, .int .i64 ((rd_T54 t459 x19_1).f0)] ?_; intro v465 w21 ho22 hb hg_ hnew_; clear hg_ hnew_; (first | rw [← Ny464.out] at ho22 | (simp only [Int.reduceToNat] at ho22; rw [← Ny464.out] at ho22)); replace HO_17 := aM (Kd.R_below (by refine qR ?_; exact (Kd.R_mono (Kd.R_far (p := ⟨gb463, 2, none⟩) (Kd.R_far (p := ⟨gb463, 1, none⟩) (Kd.R_far (p := ⟨gb463, 0, none⟩) (Kd.R_mono HO_17.out (fun k_ hk => (⟨hk, hk.2⟩ : _ ∧ k_ ≠ gb463))) (fun _ hk => hk.2) (.int .i64 ((rd_T54 t459 x19_1).f0))) (fun _ hk => hk.2) (.int .i64 ((rd_T54 t459 x19_1).f1))) (fun _ hk => hk.2) (.int .i64 ((rd_T54 t459 x19_1).f2))) (fun _ h_ => h_.1))) hb); have HO466 := aM (Kd.R_lower (Kd.R_new' ho22 (Kd.R_lt (by refine qR ?_; exact (Kd.R_mono (rT HO_4 BK463) (fun _ h_ => h_.1))))) (below_size (qW HB.out))); replace HO_4 := aM (Kd.R_elder' (by refine qR ?_; exact (Kd.R_mono (rT HO_4 BK463) (fun _ h_ => h_.1))) (Kd.R_base ho22) hb); replace BK452 := aM (blk_below (g := gb452) (o := .cells #[.int .i64 a0_0, .int .i64 a0_1, .int .i64 a0_2, .slice A0_3 l0_3.length c0_3] 24 (0, 0)) (by refine qB ?_; refine blk_far ?_ NB452_463.out _; refine qB ?_; refine blk_far ?_ NB452_463.out _; refine qB ?_; refine blk_far ?_ NB452_463.out _; refine qB ?_; exact BK452.out) hb); replace BK463 := aM (blk_below (g := gb463) (o := .cells #[.int .i64 ((rd_T54 t459 x19_1).f0), .int .i64 ((rd_T54 t459 x19_1).f1), .int .i64 ((rd_T54 t459 x19_1).f2)] 54 (0, 0)) (by exact bP BK463.out) hb); replace HB := bS HB hb; clear hb ho22; obtain ⟨Ao24, co24, rfl⟩ := sL HO466) | ((with_reducible refine gate_builtin (b := .append) (xs := #[.tmp 26, .tmp 29]) rfl ?_); at_builtin; refine Kd.R_append_rows (Kd.int .i64) (w0 := w) w.heap.size rfl (.tmp 26) (.tmp 29) 22 3 (.int .i64 0) 8 rfl Try.underlying22 info3 rfl (by decide) (by omega) u4 x4_1 y464 _ _ _ (fun k_ => some k_ ≠ (.slice Ao24 y464.length co24 : Value).ownBlock) (fun _ => False) rfl rfl ?aO ?aR (fun _ _ h => h) (fun _ h => h.elim) ?aF ?aB ?aS ?aL ?_; (case aR => exact qC (Kd.R_reads' HO466.out).2.2); (case aB => exact (qW HB.out)); (case aF => exact (fun k_ hk => Kd.fresh' (Kd.R_lt (qR HO466.out)) k_ hk)); (case aO => exact (by refine qR ?_; exact Kd.R_mono HO_4.out (fun _ hk => hk.2))); (case aS => exact (below_size (qW HB.out))); (case aL => have := LMc17.out; omega); intro v468 w23 ho hb hg hat; rw [← Ny467.out] at ho; replace HO_17 := aM (Kd.R_over' (qR HO_17.out) (Kd.R_typed (qR HO_4.out)) (by decide) hg); replace BK452 := gB BK452 hg (Kd.R_ne HO_4.out BK452.out (by decide)); replace BK463 := gB BK463 hg (Kd.R_ne HO_4.out BK463.out (by decide)); replace HO466 := aM (Kd.R_after (ok := (fun _ => True)) (qR HO466.out) hg hat); replace HB := aM (hb); have HO469 := aM (ho); clear HO_4; clear ho hb hg hat))
    go_roundg k1
    case measure => have := HK1.out; omega
    case rel => exact ⟨(y467), (wrap64 (x19_1 + 1)), qE, H', ⟨by have := HK1.out; omega⟩, ⟨by refine qR ?_; exact Kd.R_mono HO469.out (fun _ hk => trivial)⟩, ⟨by refine qR ?_; exact Kd.R_mono HO_17.out (fun _ hk => trivial)⟩, ⟨by refine qB ?_; exact BK452.out⟩, ⟨by exact qW HB.out⟩⟩
   rw [if_neg c16] at H
   have c16b0 : (((rd_T54 t459 x19_1).f1) == 0) = false := beq_eq_false_iff_ne.mpr c16
   have c16b1 : (((rd_T54 t459 x19_1).f1) != 0) = true := bne_iff_ne.mpr c16
   obtain ⟨y470, hy470⟩ : ∃ y_ : List Int, y_ = (([(rd_T54 t459 x19_1).f1, (rd_T54 t459 x19_1).f2] : List Int)) := ⟨_, rfl⟩
   replace H : (if x4_1.length + y470.length < 17592186044416 then (impl_writeImage.l0 k1 (x4_1 ++ y470) t459 (t459.length : Int) (wrap64 (x19_1 + 1))) else (none)) = some (r1, r2) := rY hy470 H
   have Ny470 := aM hy470
   clear hy470
   replace H := iS H
   obtain ⟨c25, H⟩ := H
   have LMc25 := aM c25
   clear c25
   obtain ⟨y473, hy473⟩ : ∃ y_ : List Int, y_ = (x4_1 ++ y470) := ⟨_, rfl⟩
   replace H : (impl_writeImage.l0 k1 y473 t459 (t459.length : Int) (wrap64 (x19_1 + 1))) = some (r1, r2) := rY hy473 H
   have Ny473 := aM hy473
   clear hy473
   have H' := aM H
   clear H
   obtain ⟨ad462, e462, hx462_0, hx462_1, hx462_2⟩ := at_T54 (Kd.R_reads' HO_17.out).2.2 x19_1 oD oD
   cases e462
   have p462 := eq_true (oD : 0 ≤ (x19_1 : Int))
   have q462 := eq_true (oD : x19_1 < (t459.length : Int))
   go_wp2_with (first | ((with_reducible refine gate_dst (N := 6) rfl ?_); refine bxE (N := 6) (cs := #[.int .i64 0, .int .i64 0, .int .i64 0]) (t := 54) ?_; intro gb463 hg w26 hbox hb; replace HO_4 := aM (Kd.R_below (qR HO_4.out) hb); replace HO_17 := aM (Kd.R_below (Kd.R_elderB (qR HO_17.out) gb463 (Nat.le_of_eq hg.symm)) hb); have BK463 := aM (hbox); have GW463 := gW hg HB; have GE463 := gW hg HB; replace HB := bS HB hb; have NB452_463 := nL hg BK452; have NB463_452 := nG hg BK452; replace BK452 := bB BK452 hb; clear hb hbox hg; have hnb27 := NB463_452.out; have hnc27 := NB452_463.out; obtain ⟨⟨hcz28_0, hcz28_1, hcz28_2⟩, hfz28_0, hfz28_1, hfz28_2⟩ := cf3 BK463) | ((with_reducible refine gate_dst (N := 36) rfl ?_); refine iL ([(rd_T54 t459 x19_1).f1, (rd_T54 t459 x19_1).f2] : List Int) [.int .i64 ((rd_T54 t459 x19_1).f1), .int .i64 ((rd_T54 t459 x19_1).f2)] ?_; intro v471 w29 ho30 hb hg_ hnew_; clear hg_ hnew_; (first | rw [← Ny470.out] at ho30 | (simp only [Int.reduceToNat] at ho30; rw [← Ny470.out] at ho30)); replace HO_17 := aM (Kd.R_below (by refine qR ?_; exact (Kd.R_mono (Kd.R_far (p := ⟨gb463, 2, none⟩) (Kd.R_far (p := ⟨gb463, 1, none⟩) (Kd.R_far (p := ⟨gb463, 0, none⟩) (Kd.R_mono HO_17.out (fun k_ hk => (⟨hk, hk.2⟩ : _ ∧ k_ ≠ gb463))) (fun _ hk => hk.2) (.int .i64 ((rd_T54 t459 x19_1).f0))) (fun _ hk => hk.2) (.int .i64 ((rd_T54 t459 x19_1).f1))) (fun _ hk => hk.2) (.int .i64 ((rd_T54 t459 x19_1).f2))) (fun _ h_ => h_.1))) hb); have HO472 := aM (Kd.R_lower (Kd.R_new' ho30 (Kd.R_lt (by refine qR ?_; exact (Kd.R_mono (rT HO_4 BK463) (fun _ h_ => h_.1))))) (below_size (qW HB.out))); replace HO_4 := aM (Kd.R_elder' (by refine qR ?_; exact (Kd.R_mono (rT HO_4 BK463) (fun _ h_ => h_.1))) (Kd.R_base ho30) hb); replace BK452 := aM (blk_below (g := gb452) (o := .cells #[.int .i64 a0_0, .int .i64 a0_1, .int .i64 a0_2, .slice A0_3 l0_3.length c0_3] 24 (0, 0)) (by refine qB ?_; refine blk_far ?_ NB452_463.out _; refine qB ?_; refine blk_far ?_ NB452_463.out _; refine qB ?_; refine blk_far ?_ NB452_463.out _; refine qB ?_; exact BK452.out) hb); replace BK463 := aM (blk_below (g := gb463) (o := .cells #[.int .i64 ((rd_T54 t459 x19_1).f0), .int .i64 ((rd_T54 t459 x19_1).f1), .int .i64 ((rd_T54 t459 x19_1).f2)] 54 (0, 0)) (by exact bP BK463.out) hb); replace HB := bS HB hb; clear hb ho30; obtain ⟨Ao32, co32, rfl⟩ := sL HO472) | ((with_reducible refine gate_builtin (b := .append) (xs := #[.tmp 31, .tmp 36]) rfl ?_); at_builtin; refine Kd.R_append_rows (Kd.int .i64) (w0 := w) w.heap.size rfl (.tmp 31) (.tmp 36) 22 3 (.int .i64 0) 8 rfl Try.underlying22 info3 rfl (by decide) (by omega) u4 x4_1 y470 _ _ _ (fun k_ => some k_ ≠ (.slice Ao32 y470.length co32 : Value).ownBlock) (fun _ => False) rfl rfl ?aO ?aR (fun _ _ h => h) (fun _ h => h.elim) ?aF ?aB ?aS ?aL ?_; (case aR => exact qC (Kd.R_reads' HO472.out).2.2); (case aB => exact (qW HB.out)); (case aF => exact (fun k_ hk => Kd.fresh' (Kd.R_lt (qR HO472.out)) k_ hk)); (case aO => exact (by refine qR ?_; exact Kd.R_mono HO_4.out (fun _ hk => hk.2))); (case aS => exact (below_size (qW HB.out))); (case aL => have := LMc25.out; omega); intro v474 w31 ho hb hg hat; rw [← Ny473.out] at ho; replace HO_17 := aM (Kd.R_over' (qR HO_17.out) (Kd.R_typed (qR HO_4.out)) (by decide) hg); replace BK452 := gB BK452 hg (Kd.R_ne HO_4.out BK452.out (by decide)); replace BK463 := gB BK463 hg (Kd.R_ne HO_4.out BK463.out (by decide)); replace HO472 := aM (Kd.R_after (ok := (fun _ => True)) (qR HO472.out) hg hat); replace HB := aM (hb); have HO475 := aM (ho); clear HO_4; clear ho hb hg hat))
   go_roundg k1
   case measure => have := HK1.out; omega
   case rel => exact ⟨(y473), (wrap64 (x19_1 + 1)), qE, H', ⟨by have := HK1.out; omega⟩, ⟨by refine qR ?_; exact Kd.R_mono HO475.out (fun _ hk => trivial)⟩, ⟨by refine qR ?_; exact Kd.R_mono HO_17.out (fun _ hk => trivial)⟩, ⟨by refine qB ?_; exact BK452.out⟩, ⟨by exact qW HB.out⟩⟩
end Go.Proofs.Ytchahbdmdcllaaa.P
