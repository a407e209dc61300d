/- Contracts and row, written by a program of this place out of the translation: the call answers true and its argument reads as before, for every input; no condition. -/
import Derived.Test.YtbldmekplkjfiaaK0
import Derived.Test.YtbldmekplkjfiaaK1
namespace Go.Proofs.Ytbldmekplkjfiaa.P
open Go.RowKit Go.Proofs.YtbldmekplkjfiaaW.PrintWords Go.Proofs.YtbldmekplkjfiaaW.PrintLast Go.Proofs.YtbldmekplkjfiaaW.PrintMore
attribute [local go_sem] max2_int min2_int max_two min_two max_three min_three max_four min_four   -- for this text's walks alone
set_option linter.unusedVariables false
set_option linter.unusedSimpArgs false
def badColor (planes : Int) (c : List Int) : Bool := ((c.length : Int) != planes) || (c.any fun n => decide (n < 0) || decide (255 < n))
set_option maxHeartbeats 8000000 in
set_option maxRecDepth 100000 in
theorem isPaletteTest (w : World) (B : Nat) (planes : Int) (hB : B < w.heap.size) (hc : w.cell? ⟨B, 0, none⟩ = some (.int .i64 planes)) :
  PredL 90 #[.pointer (some ⟨B, 0, none⟩)] (badColor planes) w := fun W A c x hb hr hl => by
 have hc' : W.cell? ⟨B, 0, none⟩ = some (.int .i64 planes) := (hb.cell (p := ⟨B, 0, none⟩) hB).trans hc
 have HR := aM hr
 have HL := aM hl
 clear hb hc hB hr hl
 by_cases h1 : (x.length : Int) = planes
 ·have e : badColor planes x = (x.any fun n => decide (n < 0) || decide (255 < n)) := by unfold badColor; simp [h1]
  rw [e]
  have c1 : ((x.length : Int) != planes) = false := bne_eq_false_iff_eq.2 h1
  clear e h1
  have hC := impl_areBytes.calls A c x (!(x.any fun n => decide (n < 0) || decide (255 < n))) W HR.out HL.out rfl
  generalize (x.any fun n => decide (n < 0) || decide (255 < n)) = b at hC ⊢
  go_enter Try.func90, Try.ntmps90
  go_wp2_with (go_at_call 61; refine hC.mono ?_; rintro e w' ⟨rfl, ⟨q, rfl⟩⟩)
  go_ret
  exact ⟨by simp, ⟨⟨q, rfl⟩⟩⟩
 ·have c1 : ((x.length : Int) != planes) = true := bne_iff_ne.2 h1
  have e : badColor planes x = true := by unfold badColor; rw [c1]; rfl
  rw [e]
  clear e h1
  go_enter Try.func90, Try.ntmps90
  go_wp2
  go_ret
  exact ⟨rfl, Drawn0.refl _⟩
def impl_isPalette.f (l0 : List (List Int)) (a1 : Int) : Option (Bool) := some (if (l0.length : Int) < 1 then false else if 16 < (l0.length : Int) then false else if a1 < 1 then false else if 4 < a1 then false else !(l0.any (badColor a1)))
set_option maxHeartbeats 8000000 in
set_option maxRecDepth 100000 in
theorem impl_isPalette.calls (A0 : Option Addr) (c0 : Nat) (l0 : List (List Int)) (a1 : Int) (r : Bool) (w : World) (hr0 : Kd.C (Kd.slice 3 (Kd.int .i64)) w A0 l0.length l0) (hc0 : l0.length ≤ c0) (h : impl_isPalette.f l0 a1 = some r) :
  Calls Try.prog 71 #[.slice A0 l0.length c0, .int .i64 a1] w fun e w' => e = .returned (.bool r) ∧ Below w.heap.size w w' := by
 have hr := Option.some.inj h
 clear h
 have HR0 := aM hr0
 have HC0 := aM hc0
 clear hr0 hc0
 by_cases h1 : (l0.length : Int) < 1
 ·rw [if_pos h1] at hr
  subst hr
  have c1 : decide ((l0.length : Int) < 1) = true := decide_eq_true h1
  have c1' : decide (l0.length < 1) = true := decide_eq_true (by omega)
  clear h1
  go_enter Try.func71, Try.ntmps71
  go_wp2
  go_ret
  exact ⟨rfl, by repeat (first | exact Below.refl _ _ | apply below_alloc | apply pw_below_drewN)⟩
 rw [if_neg h1] at hr
 have c1 : decide ((l0.length : Int) < 1) = false := decide_eq_false h1
 have c1' : decide (l0.length < 1) = false := decide_eq_false (by omega)
 clear h1
 by_cases h2 : 16 < (l0.length : Int)
 ·rw [if_pos h2] at hr
  subst hr
  have c2 : decide (16 < (l0.length : Int)) = true := decide_eq_true h2
  have c2' : decide (16 < l0.length) = true := decide_eq_true (by omega)
  clear h2
  go_enter Try.func71, Try.ntmps71
  go_wp2
  go_ret
  exact ⟨rfl, by repeat (first | exact Below.refl _ _ | apply below_alloc | apply pw_below_drewN)⟩
 rw [if_neg h2] at hr
 have c2 : decide (16 < (l0.length : Int)) = false := decide_eq_false h2
 have c2' : decide (16 < l0.length) = false := decide_eq_false (by omega)
 clear h2
 by_cases h3 : a1 < 1
 ·rw [if_pos h3] at hr
  subst hr
  have c3 : decide (a1 < 1) = true := decide_eq_true h3
  clear h3
  go_enter Try.func71, Try.ntmps71
  go_wp2
  go_ret
  exact ⟨rfl, by repeat (first | exact Below.refl _ _ | apply below_alloc | apply pw_below_drewN)⟩
 rw [if_neg h3] at hr
 have c3 : decide (a1 < 1) = false := decide_eq_false h3
 clear h3
 by_cases h4 : 4 < a1
 ·rw [if_pos h4] at hr
  subst hr
  have c4 : decide (4 < a1) = true := decide_eq_true h4
  clear h4
  go_enter Try.func71, Try.ntmps71
  go_wp2
  go_ret
  exact ⟨rfl, by repeat (first | exact Below.refl _ _ | apply below_alloc | apply pw_below_drewN)⟩
 rw [if_neg h4] at hr
 have c4 : decide (4 < a1) = false := decide_eq_false h4
 clear h4
 subst hr
 have hC := containsFuncList.calls 90 #[.pointer (some ⟨w.heap.size, 0, none⟩)] (enters_of Try.func90 (by kernel_rfl) rfl) (badColor a1) A0 c0 l0 (w.alloc (.cells #[.int .i64 a1] 3))
  (isPaletteTest _ w.heap.size a1 (by simp) (by simp)) (Kd.C_alloc HR0.out _) HC0.out
 generalize l0.any (badColor a1) = b at hC ⊢
 go_enter Try.func71, Try.ntmps71
 go_wp2_with (go_at_call 80; refine hC.mono ?_; rintro e w' ⟨rfl, ⟨q, rfl⟩⟩)
 go_ret
 exact ⟨rfl, by repeat (first | exact Below.refl _ _ | apply below_alloc | apply pw_below_drewN)⟩
mutual
def impl_nearestColor.l0 : Nat → List Int → Int → Int → List (List Int) → Int → Int → Option (Int)
 | 0, _, _, _, _, _, _ => none
 | k + 1, x1, x5, x6, x12, x13, x14 => if x14 < x13 then (if 0 ≤ x14 then (if x14 < (x12.length : Int) then (impl_nearestColor.l1 k x1 x5 x6 x14 0 x12 x13 x14 (rd_L2 x12 x14) ((rd_L2 x12 x14).length : Int) 0) else (none)) else (none)) else (some x5)
def impl_nearestColor.l1 : Nat → List Int → Int → Int → Int → Int → List (List Int) → Int → Int → List Int → Int → Int → Option (Int)
 | 0, _, _, _, _, _, _, _, _, _, _, _ => none
 | k + 1, x1, x5, x6, x7, x9, x12, x13, x14, x19, x20, x21 => if x21 < x20 then (if 0 ≤ x21 then (if x21 < (x19.length : Int) then (if x21 < (x1.length : Int) then (impl_nearestColor.l1 k x1 x5 x6 x7 (wrap64 (x9 + (wrap64 ((wrap64 ((rd x19 x21) - (rd x1 x21))) * (wrap64 ((rd x19 x21) - (rd x1 x21))))))) x12 x13 x14 x19 x20 (wrap64 (x21 + 1))) else (none)) else (none)) else (none)) else (if x6 < 0 then (impl_nearestColor.l0 k x1 x7 x9 x12 x13 (wrap64 (x14 + 1))) else (if x9 < x6 then (impl_nearestColor.l0 k x1 x7 x9 x12 x13 (wrap64 (x14 + 1))) else (impl_nearestColor.l0 k x1 x5 x6 x12 x13 (wrap64 (x14 + 1)))))
end
def impl_nearestColor.f (k : Nat) (l0 : List (List Int)) (l1 : List Int) : Option (Int) := impl_nearestColor.l0 k l1 0 (-1) l0 (l0.length : Int) 0
theorem impl_nearestColor.mono_l : ∀ k, (∀ y0 y1 y2 y3 y4 y5, LeO (impl_nearestColor.l0 k y0 y1 y2 y3 y4 y5) (impl_nearestColor.l0 (k + 1) y0 y1 y2 y3 y4 y5)) ∧ (∀ y0 y1 y2 y3 y4 y5 y6 y7 y8 y9 y10, LeO (impl_nearestColor.l1 k y0 y1 y2 y3 y4 y5 y6 y7 y8 y9 y10) (impl_nearestColor.l1 (k + 1) y0 y1 y2 y3 y4 y5 y6 y7 y8 y9 y10))
 | 0 => ⟨fun _ _ _ _ _ _ r h => by simp [impl_nearestColor.l0] at h, fun _ _ _ _ _ _ _ _ _ _ _ r h => by simp [impl_nearestColor.l1] at h⟩
 | k + 1 => by
  obtain ⟨ih0, ih1⟩ := impl_nearestColor.mono_l k
  refine ⟨?_, ?_⟩
  all_goals intros
  all_goals first | unfold impl_nearestColor.l0 | unfold impl_nearestColor.l1
  all_goals repeat' first | (with_reducible first | exact ih0 _ _ _ _ _ _ | exact ih1 _ _ _ _ _ _ _ _ _ _ _ | exact lR | exact lN | refine lI ?_ ?_ | refine lB ?_ fun _ => ?_) | exact ih0 _ _ _ _ _ _ | exact ih1 _ _ _ _ _ _ _ _ _ _ _ | exact lN | refine lI ?_ ?_ | refine lB ?_ fun _ => ?_
theorem impl_nearestColor.mono : ∀ a0 a1 k, LeO (impl_nearestColor.f k a0 a1) (impl_nearestColor.f (k + 1) a0 a1) := by
 intro a0 a1 k
 obtain ⟨ih0, ih1⟩ := impl_nearestColor.mono_l k
 unfold impl_nearestColor.f
 repeat' first | (with_reducible first | exact ih0 _ _ _ _ _ _ | exact ih1 _ _ _ _ _ _ _ _ _ _ _ | exact lR | exact lN | refine lI ?_ ?_ | refine lB ?_ fun _ => ?_) | exact ih0 _ _ _ _ _ _ | exact ih1 _ _ _ _ _ _ _ _ _ _ _ | exact lN | refine lI ?_ ?_ | refine lB ?_ fun _ => ?_
set_option maxHeartbeats 8000000 in
set_option maxRecDepth 100000 in
theorem impl_nearestColor.calls (k : Nat) (A0 : Option Addr) (c0 : Nat) (l0 : List (List Int)) (A1 : Option Addr) (c1 : Nat) (l1 : List Int) (r : Int) (w : World) (hr0 : Kd.C (Kd.slice 3 (Kd.int .i64)) w A0 l0.length l0) (hc0 : l0.length ≤ c0) (hr1 : Kd.C (Kd.int .i64) w A1 l1.length l1) (hc1 : l1.length ≤ c1) (h : impl_nearestColor.f k l0 l1 = some r) :
  Calls Try.prog 72 #[.slice A0 l0.length c0, .slice A1 l1.length c1] w fun e w' => e = .returned (.int .i64 r) ∧ Drawn0 w w' := by
 have HR0 := aM hr0
 have HC0 := aM hc0
 clear hr0 hc0
 have HR1 := aM hr1
 have HC1 := aM hc1
 clear hr1 hc1
 unfold impl_nearestColor.f at h
 have H := h
 clear h
 have H' := aM H
 clear H
 go_enter Try.func72, Try.ntmps72
 go_wp2
 repeat (go_quiet (fail); try go_wp2)
 go_loopg [5, 6, 14] k (fun kq v5 v6 v14 w' => ∃ (x5_1 : Int) (x6_1 : Int) (x14_1 : Int), v5 = .int .i64 x5_1 ∧ v6 = .int .i64 x6_1 ∧ v14 = .int .i64 x14_1 ∧ Aside0 (impl_nearestColor.l0 kq l1 x5_1 x6_1 l0 (l0.length : Int) x14_1 = some r) ∧ Aside0 (kq ≤ k) ∧ Drawn0 w w')
 case atStart => exact ⟨(0), ((-1)), (0), qE, qE, qE, H', ⟨Nat.le_refl _⟩, qD⟩
 case round =>
  clear H'
  try clear c1
  obtain ⟨x5_1, x6_1, x14_1, rfl, rfl, rfl, HA, HK1, ⟨m1, rfl⟩⟩ := hrel
  cases gk with
  | zero => exact absurd HA.out (by simp [impl_nearestColor.l0])
  | succ k1 =>
   have H := HA.out
   clear HA
   simp only [impl_nearestColor.l0] at H
   by_cases c3 : x14_1 < (l0.length : Int)
   rotate_left
   ·rw [if_neg c3] at H
    have c3b0 : decide (x14_1 < (l0.length : Int)) = false := decide_eq_false c3
    clear c3
    obtain rfl := Option.some.inj H
    go_wp2
    repeat (go_quiet (fail); try go_wp2)
    go_ret
    exact ⟨qE, qD⟩
   rw [if_pos c3] at H
   have c3b0 : decide (x14_1 < (l0.length : Int)) = true := decide_eq_true c3
   clear c3
   replace H := iD H
   obtain ⟨c4b0, H⟩ := H
   replace H := iD H
   obtain ⟨c5b0, H⟩ := H
   have H' := aM H
   clear H
   have p523 : 0 ≤ (x14_1 : Int) := oD
   have q523 : x14_1 < (l0.length : Int) := oD
   obtain ⟨ad523, A523_0, c523_0, e523, hx523_0, hl523_0, hi523_0⟩ := at_L2 HR0.out x14_1 p523 q523
   cases e523
   have HR523_0 := aM hi523_0
   have HC523_0 := aM hl523_0
   clear hi523_0 hl523_0
   replace p523 := eq_true p523
   replace q523 := eq_true q523
   go_wp2
   repeat (go_quiet (fail); try go_wp2)
   go_loopg [9, 21] k1 (fun kq v9 v21 w' => ∃ (x9_2 : Int) (x21_2 : Int), v9 = .int .i64 x9_2 ∧ v21 = .int .i64 x21_2 ∧ Aside0 (impl_nearestColor.l1 kq l1 x5_1 x6_1 x14_1 x9_2 l0 (l0.length : Int) x14_1 (rd_L2 l0 x14_1) ((rd_L2 l0 x14_1).length : Int) x21_2 = some r) ∧ Aside0 (kq ≤ k1) ∧ Drawn0 w w')
   case atStart => exact ⟨(0), (0), qE, qE, H', ⟨Nat.le_refl _⟩, qD⟩
   case round =>
    clear H'
    try clear c1
    try clear c3
    try clear c3b0
    try clear c4b0
    try clear c5b0
    try clear hx523_0
    try clear p523
    try clear q523
    obtain ⟨x9_2, x21_2, rfl, rfl, HA, HK2, ⟨m2, rfl⟩⟩ := hrel
    cases gk with
    | zero => exact absurd HA.out (by simp [impl_nearestColor.l1])
    | succ k2 =>
     have H := HA.out
     clear HA
     simp only [impl_nearestColor.l1] at H
     by_cases c6 : x21_2 < ((rd_L2 l0 x14_1).length : Int)
     rotate_left
     ·rw [if_neg c6] at H
      have c6b0 : decide (x21_2 < ((rd_L2 l0 x14_1).length : Int)) = false := decide_eq_false c6
      clear c6
      by_cases c10 : x6_1 < 0
      ·rw [if_pos c10] at H
       have c10b0 : decide (x6_1 < 0) = true := decide_eq_true c10
       clear c10
       have H' := aM H
       clear H
       go_wp2
       repeat (go_quiet (fail); try go_wp2)
       go_roundg k2
       case measure => have := HK1.out; have := HK2.out; omega
       case rel => exact ⟨(x14_1), (x9_2), (wrap64 (x14_1 + 1)), qE, qE, qE, H', ⟨by have := HK1.out; have := HK2.out; omega⟩, qD⟩
      rw [if_neg c10] at H
      have c10b0 : decide (x6_1 < 0) = false := decide_eq_false c10
      clear c10
      by_cases c11 : x9_2 < x6_1
      ·rw [if_pos c11] at H
       have c11b0 : decide (x9_2 < x6_1) = true := decide_eq_true c11
       clear c11
       have H' := aM H
       clear H
       go_wp2
       repeat (go_quiet (fail); try go_wp2)
       go_roundg k2
       case measure => have := HK1.out; have := HK2.out; omega
       case rel => exact ⟨(x14_1), (x9_2), (wrap64 (x14_1 + 1)), qE, qE, qE, H', ⟨by have := HK1.out; have := HK2.out; omega⟩, qD⟩
      rw [if_neg c11] at H
      have c11b0 : decide (x9_2 < x6_1) = false := decide_eq_false c11
      clear c11
      have H' := aM H
      clear H
      go_wp2
      repeat (go_quiet (fail); try go_wp2)
      go_roundg k2
      case measure => have := HK1.out; have := HK2.out; omega
      case rel => exact ⟨(x5_1), (x6_1), (wrap64 (x14_1 + 1)), qE, qE, qE, H', ⟨by have := HK1.out; have := HK2.out; omega⟩, qD⟩
     rw [if_pos c6] at H
     have c6b0 : decide (x21_2 < ((rd_L2 l0 x14_1).length : Int)) = true := decide_eq_true c6
     clear c6
     replace H := iD H
     obtain ⟨c7b0, H⟩ := H
     replace H := iD H
     obtain ⟨c8b0, H⟩ := H
     replace H := iD H
     obtain ⟨c9b0, H⟩ := H
     have H' := aM H
     clear H
     obtain ⟨ad524, e524, hx524_0⟩ := Kd.at_int HR523_0.out x21_2 oD oD
     cases e524
     have p524 := eq_true (oD : 0 ≤ (x21_2 : Int))
     have q524 := eq_true (oD : x21_2 < ((rd_L2 l0 x14_1).length : Int))
     obtain ⟨ad525, e525, hx525_0⟩ := Kd.at_int HR1.out x21_2 oD oD
     cases e525
     have p525 := eq_true (oD : 0 ≤ (x21_2 : Int))
     have q525 := eq_true (oD : x21_2 < (l1.length : Int))
     obtain ⟨ad526, e526, hx526_0⟩ := Kd.at_int HR1.out x21_2 oD oD
     obtain rfl : ad525 = ad526 := (by injection e526)
     have p526 := eq_true (oD : 0 ≤ (x21_2 : Int))
     have q526 := eq_true (oD : x21_2 < (l1.length : Int))
     go_wp2
     repeat (go_quiet (fail); try go_wp2)
     go_roundg k2
     case measure => have := HK1.out; have := HK2.out; omega
     case rel => exact ⟨(wrap64 (x9_2 + (wrap64 ((wrap64 ((rd (rd_L2 l0 x14_1) x21_2) - (rd l1 x21_2))) * (wrap64 ((rd (rd_L2 l0 x14_1) x21_2) - (rd l1 x21_2))))))), (wrap64 (x21_2 + 1)), qE, qE, H', ⟨by have := HK1.out; have := HK2.out; omega⟩, qD⟩
def impl_NearestColor.f (k : Nat) (l0 : List (List Int)) (l1 : List Int) : Option (Int) := (impl_isPalette.f l0 (l1.length : Int)).bind fun t527 => (if t527 = true then ((impl_areBytes.f l1).bind fun t528 => (if t528 = true then ((impl_nearestColor.f k l0 l1).bind fun t529 => (some t529)) else (some (-1)))) else (some (-1)))
theorem impl_NearestColor.mono : ∀ a0 a1 k, LeO (impl_NearestColor.f k a0 a1) (impl_NearestColor.f (k + 1) a0 a1) := by
 intro a0 a1 k
 unfold impl_NearestColor.f
 repeat' first | (with_reducible first | exact impl_nearestColor.mono _ _ _ | exact lR | exact lN | refine lI ?_ ?_ | refine lB ?_ fun _ => ?_) | exact impl_nearestColor.mono _ _ _ | exact lN | refine lI ?_ ?_ | refine lB ?_ fun _ => ?_
set_option maxHeartbeats 8000000 in
set_option maxRecDepth 100000 in
theorem impl_NearestColor.calls (k : Nat) (A0 : Option Addr) (c0 : Nat) (l0 : List (List Int)) (A1 : Option Addr) (c1 : Nat) (l1 : List Int) (r : Int) (w : World) (hr0 : Kd.C (Kd.slice 3 (Kd.int .i64)) w A0 l0.length l0) (hc0 : l0.length ≤ c0) (hr1 : Kd.C (Kd.int .i64) w A1 l1.length l1) (hc1 : l1.length ≤ c1) (h : impl_NearestColor.f k l0 l1 = some r) :
  Calls Try.prog 35 #[.slice A0 l0.length c0, .slice A1 l1.length c1] w fun e w' => e = .returned (.int .i64 r) ∧ Below w.heap.size w w' := by
 have HR0 := aM hr0
 have HC0 := aM hc0
 clear hr0 hc0
 have HR1 := aM hr1
 have HC1 := aM hc1
 clear hr1 hc1
 have HB := aM (Below.refl w.heap.size w)
 unfold impl_NearestColor.f at h
 have H := h
 clear h
 replace H := Option.bind_eq_some_iff.mp H
 obtain ⟨t527, A30, H⟩ := H
 replace H : (if t527 = true then ((impl_areBytes.f l1).bind fun t528 => (if t528 = true then ((impl_nearestColor.f k l0 l1).bind fun t529 => (some t529)) else (some (-1)))) else (some (-1))) = some r := H
 have A3 := aM A30
 clear A30
 by_cases c4 : t527 = true
 rotate_left
 ·replace c4 := Bool.eq_false_iff.mpr c4
  subst c4
  have H1 : (some (-1)) = some r := by rw [if_neg (show ¬ (false = true) by decide)] at H; exact H
  clear H
  have H := H1
  clear H1
  obtain rfl := Option.some.inj H
  go_enter Try.func35, Try.ntmps35
  go_wp2_with (first | ((with_reducible refine gate_callee (f := 71) rfl ?_); refine gL (some 8) Try.func71 #[.slice A0 l0.length c0, .int .i64 (l1.length : Int)] ?_; (with_reducible refine (impl_isPalette.calls _ _ l0 (l1.length : Int) false _ ?side1 ?side2 A3.out).mono ?_); (case side1 => exact qC HR0.out); (case side2 => exact HC0.out); rintro e w10 ⟨rfl, hb⟩; refine ⟨_, rfl, ?_⟩; replace HB := bS HB hb; clear hb))
  go_ret
  exact ⟨qX, by exact qW HB.out⟩
 subst c4
 have H1 : ((impl_areBytes.f l1).bind fun t528 => (if t528 = true then ((impl_nearestColor.f k l0 l1).bind fun t529 => (some t529)) else (some (-1)))) = some r := by rw [if_pos rfl] at H; exact H
 clear H
 have H := H1
 clear H1
 replace H := Option.bind_eq_some_iff.mp H
 obtain ⟨t528, A50, H⟩ := H
 replace H : (if t528 = true then ((impl_nearestColor.f k l0 l1).bind fun t529 => (some t529)) else (some (-1))) = some r := H
 have A5 := aM A50
 clear A50
 by_cases c6 : t528 = true
 rotate_left
 ·replace c6 := Bool.eq_false_iff.mpr c6
  subst c6
  have H1 : (some (-1)) = some r := by rw [if_neg (show ¬ (false = true) by decide)] at H; exact H
  clear H
  have H := H1
  clear H1
  obtain rfl := Option.some.inj H
  go_enter Try.func35, Try.ntmps35
  go_wp2_with (first | ((with_reducible refine gate_callee (f := 71) rfl ?_); refine gL (some 8) Try.func71 #[.slice A0 l0.length c0, .int .i64 (l1.length : Int)] ?_; (with_reducible refine (impl_isPalette.calls _ _ l0 (l1.length : Int) true _ ?side1 ?side2 A3.out).mono ?_); (case side1 => exact qC HR0.out); (case side2 => exact HC0.out); rintro e w9 ⟨rfl, hb⟩; refine ⟨_, rfl, ?_⟩; replace HB := bS HB hb; clear hb) | (go_at_call 61; (with_reducible refine (impl_areBytes.calls _ _ l1 false _ ?side1 ?side2 A5.out).mono ?_); (case side1 => exact qC (Kd.C_below HR1.out HB.out)); (case side2 => exact HC1.out); rintro e w' ⟨rfl, ⟨nd, rfl⟩⟩))
  go_ret
  exact ⟨qX, by exact qW HB.out⟩
 subst c6
 have H1 : ((impl_nearestColor.f k l0 l1).bind fun t529 => (some t529)) = some r := by rw [if_pos rfl] at H; exact H
 clear H
 have H := H1
 clear H1
 replace H := Option.bind_eq_some_iff.mp H
 obtain ⟨t529, A70, H⟩ := H
 replace H : (some t529) = some r := H
 have A7 := aM A70
 clear A70
 obtain rfl := Option.some.inj H
 go_enter Try.func35, Try.ntmps35
 go_wp2_with (first | ((with_reducible refine gate_callee (f := 71) rfl ?_); refine gL (some 8) Try.func71 #[.slice A0 l0.length c0, .int .i64 (l1.length : Int)] ?_; (with_reducible refine (impl_isPalette.calls _ _ l0 (l1.length : Int) true _ ?side1 ?side2 A3.out).mono ?_); (case side1 => exact qC HR0.out); (case side2 => exact HC0.out); rintro e w8 ⟨rfl, hb⟩; refine ⟨_, rfl, ?_⟩; replace HB := bS HB hb; clear hb) | (go_at_call 61; (with_reducible refine (impl_areBytes.calls _ _ l1 true _ ?side1 ?side2 A5.out).mono ?_); (case side1 => exact qC (Kd.C_below HR1.out HB.out)); (case side2 => exact HC1.out); rintro e w' ⟨rfl, ⟨nd, rfl⟩⟩) | ((with_reducible refine gate_callee (f := 72) rfl ?_); refine gL (some 17) Try.func72 #[.slice A0 l0.length c0, .slice A1 l1.length c1] ?_; (with_reducible refine (impl_nearestColor.calls k _ _ l0 _ _ l1 t529 _ ?side1 ?side2 ?side3 ?side4 A7.out).mono ?_); (case side1 => exact qC (Kd.C_below HR0.out (qW HB.out))); (case side2 => exact HC0.out); (case side3 => exact qC (Kd.C_below HR1.out (qW HB.out))); (case side4 => exact HC1.out); rintro e w' ⟨rfl, ⟨nd, rfl⟩⟩; refine ⟨_, rfl, ?_⟩))
 go_ret
 exact ⟨qX, by exact qW HB.out⟩
def laws_FnExactNearestColor.f (k : Nat) (l0 : List (List Int)) (l1 : List Int) : Option (Bool) := if (l1.length : Int) > 1048576 then (some true) else ((laws_szIntSS.f k l0 1048576).bind fun t533 => (if t533 < 0 then (some true) else ((laws_toIntSS.f k l0).bind fun t534 => ((laws_toIntS.f k l1).bind fun t537 => ((spec_NearestColor.f k t534 t537).bind fun t540 => ((laws_toIntSS.f k l0).bind fun t541 => ((laws_toIntS.f k l1).bind fun t544 => ((impl_NearestColor.f k t541 t544).bind fun t547 => (if t547 = t540 then ((laws_toIntSS.f k l0).bind fun t548 => ((laws_eqIntSS.f k t541 t548).bind fun t551 => (if t551 = true then ((laws_toIntS.f k l1).bind fun t552 => ((laws_eqIntS.f k t544 t552).bind fun t555 => (if t555 = true then (some true) else (some false)))) else (some false)))) else (some false))))))))))
theorem laws_FnExactNearestColor.mono : ∀ a0 a1 k, LeO (laws_FnExactNearestColor.f k a0 a1) (laws_FnExactNearestColor.f (k + 1) a0 a1) := by
 intro a0 a1 k
 unfold laws_FnExactNearestColor.f
 repeat' first | (with_reducible first | exact impl_NearestColor.mono _ _ _ | exact laws_eqIntS.mono _ _ _ | exact laws_eqIntSS.mono _ _ _ | exact laws_szIntSS.mono _ _ _ | exact laws_toIntS.mono _ _ | exact laws_toIntSS.mono _ _ | exact spec_NearestColor.mono _ _ _ | exact lR | exact lN | refine lI ?_ ?_ | refine lB ?_ fun _ => ?_) | exact impl_NearestColor.mono _ _ _ | exact laws_eqIntS.mono _ _ _ | exact laws_eqIntSS.mono _ _ _ | exact laws_szIntSS.mono _ _ _ | exact laws_toIntS.mono _ _ | exact laws_toIntSS.mono _ _ | exact spec_NearestColor.mono _ _ _ | exact lN | refine lI ?_ ?_ | refine lB ?_ fun _ => ?_
set_option maxHeartbeats 8000000 in
set_option maxRecDepth 100000 in
theorem laws_FnExactNearestColor.calls (k : Nat) (A0 : Option Addr) (c0 : Nat) (l0 : List (List Int)) (A1 : Option Addr) (c1 : Nat) (l1 : List Int) (r : Bool) (w : World) (hr0 : Kd.C (Kd.slice 3 (Kd.int .i64)) w A0 l0.length l0) (hc0 : l0.length ≤ c0) (hr1 : Kd.C (Kd.int .i64) w A1 l1.length l1) (hc1 : l1.length ≤ c1) (h : laws_FnExactNearestColor.f k l0 l1 = some r) (hrt : r = true) :
  Calls Try.prog 12 #[.slice A0 l0.length c0, .slice A1 l1.length c1] w fun e w' => e = .returned (.bool r) ∧ Below w.heap.size w w' := by
 have HR0 := aM hr0
 have HC0 := aM hc0
 clear hr0 hc0
 have HR1 := aM hr1
 have HC1 := aM hc1
 clear hr1 hc1
 have HB := aM (Below.refl w.heap.size w)
 unfold laws_FnExactNearestColor.f at h
 have H := h
 clear h
 by_cases c3 : (l1.length : Int) > 1048576
 ·rw [if_pos c3] at H
  have c3b0 : decide (1048576 < (l1.length : Int)) = true := decide_eq_true c3
  have c3b1 : decide (1048576 < l1.length) = true := decide_eq_true (by omega)
  clear c3
  obtain rfl := Option.some.inj H
  go_enter Try.func12, Try.ntmps12
  go_wp2
  go_ret
  exact ⟨qX, by exact qW HB.out⟩
 rw [if_neg c3] at H
 have c3b0 : decide (1048576 < (l1.length : Int)) = false := decide_eq_false c3
 have c3b1 : decide (1048576 < l1.length) = false := decide_eq_false (by omega)
 clear c3
 replace H := Option.bind_eq_some_iff.mp H
 obtain ⟨t533, A40, H⟩ := H
 replace H : (if t533 < 0 then (some true) else ((laws_toIntSS.f k l0).bind fun t534 => ((laws_toIntS.f k l1).bind fun t537 => ((spec_NearestColor.f k t534 t537).bind fun t540 => ((laws_toIntSS.f k l0).bind fun t541 => ((laws_toIntS.f k l1).bind fun t544 => ((impl_NearestColor.f k t541 t544).bind fun t547 => (if t547 = t540 then ((laws_toIntSS.f k l0).bind fun t548 => ((laws_eqIntSS.f k t541 t548).bind fun t551 => (if t551 = true then ((laws_toIntS.f k l1).bind fun t552 => ((laws_eqIntS.f k t544 t552).bind fun t555 => (if t555 = true then (some true) else (some false)))) else (some false)))) else (some false))))))))) = some r := H
 have A4 := aM A40
 clear A40
 by_cases c5 : t533 < 0
 ·rw [if_pos c5] at H
  have c5b0 : decide (t533 < 0) = true := decide_eq_true c5
  clear c5
  obtain rfl := Option.some.inj H
  go_enter Try.func12, Try.ntmps12
  go_wp2_with (first | ((with_reducible refine gate_callee (f := 32) rfl ?_); refine gL (some 15) Try.func32 #[.slice A0 l0.length c0, .int .i64 1048576] ?_; (with_reducible refine (laws_szIntSS.calls k _ _ l0 1048576 t533 _ ?side1 ?side2 A4.out).mono ?_); (case side1 => exact qC HR0.out); (case side2 => exact HC0.out); rintro e w' ⟨rfl, ⟨nd, rfl⟩⟩; refine ⟨_, rfl, ?_⟩))
  go_ret
  exact ⟨qX, by exact qW HB.out⟩
 rw [if_neg c5] at H
 have c5b0 : decide (t533 < 0) = false := decide_eq_false c5
 clear c5
 replace H := Option.bind_eq_some_iff.mp H
 obtain ⟨t534, A60, H⟩ := H
 replace H : ((laws_toIntS.f k l1).bind fun t537 => ((spec_NearestColor.f k t534 t537).bind fun t540 => ((laws_toIntSS.f k l0).bind fun t541 => ((laws_toIntS.f k l1).bind fun t544 => ((impl_NearestColor.f k t541 t544).bind fun t547 => (if t547 = t540 then ((laws_toIntSS.f k l0).bind fun t548 => ((laws_eqIntSS.f k t541 t548).bind fun t551 => (if t551 = true then ((laws_toIntS.f k l1).bind fun t552 => ((laws_eqIntS.f k t544 t552).bind fun t555 => (if t555 = true then (some true) else (some false)))) else (some false)))) else (some false))))))) = some r := H
 have A6 := aM A60
 clear A60
 replace H := Option.bind_eq_some_iff.mp H
 obtain ⟨t537, A70, H⟩ := H
 replace H : ((spec_NearestColor.f k t534 t537).bind fun t540 => ((laws_toIntSS.f k l0).bind fun t541 => ((laws_toIntS.f k l1).bind fun t544 => ((impl_NearestColor.f k t541 t544).bind fun t547 => (if t547 = t540 then ((laws_toIntSS.f k l0).bind fun t548 => ((laws_eqIntSS.f k t541 t548).bind fun t551 => (if t551 = true then ((laws_toIntS.f k l1).bind fun t552 => ((laws_eqIntS.f k t544 t552).bind fun t555 => (if t555 = true then (some true) else (some false)))) else (some false)))) else (some false)))))) = some r := H
 have A7 := aM A70
 clear A70
 replace H := Option.bind_eq_some_iff.mp H
 obtain ⟨t540, A80, H⟩ := H
 replace H : ((laws_toIntSS.f k l0).bind fun t541 => ((laws_toIntS.f k l1).bind fun t544 => ((impl_NearestColor.f k t541 t544).bind fun t547 => (if t547 = t540 then ((laws_toIntSS.f k l0).bind fun t548 => ((laws_eqIntSS.f k t541 t548).bind fun t551 => (if t551 = true then ((laws_toIntS.f k l1).bind fun t552 => ((laws_eqIntS.f k t544 t552).bind fun t555 => (if t555 = true then (some true) else (some false)))) else (some false)))) else (some false))))) = some r := H
 have A8 := aM A80
 clear A80
 replace H := Option.bind_eq_some_iff.mp H
 obtain ⟨t541, A90, H⟩ := H
 replace H : ((laws_toIntS.f k l1).bind fun t544 => ((impl_NearestColor.f k t541 t544).bind fun t547 => (if t547 = t540 then ((laws_toIntSS.f k l0).bind fun t548 => ((laws_eqIntSS.f k t541 t548).bind fun t551 => (if t551 = true then ((laws_toIntS.f k l1).bind fun t552 => ((laws_eqIntS.f k t544 t552).bind fun t555 => (if t555 = true then (some true) else (some false)))) else (some false)))) else (some false)))) = some r := H
 have A9 := aM A90
 clear A90
 replace H := Option.bind_eq_some_iff.mp H
 obtain ⟨t544, A100, H⟩ := H
 replace H : ((impl_NearestColor.f k t541 t544).bind fun t547 => (if t547 = t540 then ((laws_toIntSS.f k l0).bind fun t548 => ((laws_eqIntSS.f k t541 t548).bind fun t551 => (if t551 = true then ((laws_toIntS.f k l1).bind fun t552 => ((laws_eqIntS.f k t544 t552).bind fun t555 => (if t555 = true then (some true) else (some false)))) else (some false)))) else (some false))) = some r := H
 have A10 := aM A100
 clear A100
 replace H := Option.bind_eq_some_iff.mp H
 obtain ⟨t547, A110, H⟩ := H
 replace H : (if t547 = t540 then ((laws_toIntSS.f k l0).bind fun t548 => ((laws_eqIntSS.f k t541 t548).bind fun t551 => (if t551 = true then ((laws_toIntS.f k l1).bind fun t552 => ((laws_eqIntS.f k t544 t552).bind fun t555 => (if t555 = true then (some true) else (some false)))) else (some false)))) else (some false)) = some r := H
 have A11 := aM A110
 clear A110
 by_cases c12 : t547 = t540
 rotate_left
 ·rw [if_neg c12] at H
  have c12b0 : (t547 == t540) = false := beq_eq_false_iff_ne.mpr c12
  have c12b1 : (t547 != t540) = true := bne_iff_ne.mpr c12
  obtain rfl := Option.some.inj H
  exact absurd hrt (by decide)
 rw [if_pos c12] at H
 have c12b0 : (t547 == t540) = true := beq_iff_eq.mpr c12
 have c12b1 : (t547 != t540) = false := bne_eq_false_iff_eq.mpr c12
 clear c12
 replace H := Option.bind_eq_some_iff.mp H
 obtain ⟨t548, A130, H⟩ := H
 replace H : ((laws_eqIntSS.f k t541 t548).bind fun t551 => (if t551 = true then ((laws_toIntS.f k l1).bind fun t552 => ((laws_eqIntS.f k t544 t552).bind fun t555 => (if t555 = true then (some true) else (some false)))) else (some false))) = some r := H
 have A13 := aM A130
 clear A130
 replace H := Option.bind_eq_some_iff.mp H
 obtain ⟨t551, A140, H⟩ := H
 replace H : (if t551 = true then ((laws_toIntS.f k l1).bind fun t552 => ((laws_eqIntS.f k t544 t552).bind fun t555 => (if t555 = true then (some true) else (some false)))) else (some false)) = some r := H
 have A14 := aM A140
 clear A140
 by_cases c15 : t551 = true
 rotate_left
 ·replace c15 := Bool.eq_false_iff.mpr c15
  subst c15
  have H1 : (some false) = some r := by rw [if_neg (show ¬ (false = true) by decide)] at H; exact H
  clear H
  have H := H1
  clear H1
  obtain rfl := Option.some.inj H
  exact absurd hrt (by decide)
 subst c15
 have H1 : ((laws_toIntS.f k l1).bind fun t552 => ((laws_eqIntS.f k t544 t552).bind fun t555 => (if t555 = true then (some true) else (some false)))) = some r := by rw [if_pos rfl] at H; exact H
 clear H
 have H := H1
 clear H1
 replace H := Option.bind_eq_some_iff.mp H
 obtain ⟨t552, A160, H⟩ := H
 replace H : ((laws_eqIntS.f k t544 t552).bind fun t555 => (if t555 = true then (some true) else (some false))) = some r := H
 have A16 := aM A160
 clear A160
 replace H := Option.bind_eq_some_iff.mp H
 obtain ⟨t555, A170, H⟩ := H
 replace H : (if t555 = true then (some true) else (some false)) = some r := H
 have A17 := aM A170
 clear A170
 by_cases c18 : t555 = true
 rotate_left
 ·replace c18 := Bool.eq_false_iff.mpr c18
  subst c18
  have H1 : (some false) = some r := by rw [if_neg (show ¬ (false = true) by decide)] at H; exact H
  clear H
  have H := H1
  clear H1
  obtain rfl := Option.some.inj H
  exact absurd hrt (by decide)
 subst c18
 have H1 : (some true) = some r := by rw [if_pos rfl] at H; exact H
 clear H
 have H := H1
 clear H1
 obtain rfl := Option.some.inj H
 go_enter Try.func12, Try.ntmps12
 go_wp2_with (first | ((with_reducible refine gate_callee (f := 32) rfl ?_); refine gL (some 15) Try.func32 #[.slice A0 l0.length c0, .int .i64 1048576] ?_; (with_reducible refine (laws_szIntSS.calls k _ _ l0 1048576 t533 _ ?side1 ?side2 A4.out).mono ?_); (case side1 => exact qC HR0.out); (case side2 => exact HC0.out); rintro e w' ⟨rfl, ⟨nd, rfl⟩⟩; refine ⟨_, rfl, ?_⟩) | ((with_reducible refine gate_callee (f := 34) rfl ?_); refine gL (some 19) Try.func34 #[.slice A0 l0.length c0] ?_; (with_reducible refine (laws_toIntSS.calls k _ _ l0 t534 _ ?side1 ?side2 A6.out).mono ?_); (case side1 => exact qC HR0.out); (case side2 => exact HC0.out); rintro e w19 ⟨v535, rfl, ho0, hb⟩; refine ⟨_, rfl, ?_⟩; have HO536 := aM (Kd.S_lower ho0 (below_size (qW HB.out))); replace HB := bS HB hb; clear hb ho0) | ((with_reducible refine gate_callee (f := 19) rfl ?_); refine gL (some 21) Try.func19 #[.slice A1 l1.length c1] ?_; (with_reducible refine (laws_toIntS.calls k _ _ l1 t537 _ ?side1 ?side2 A7.out).mono ?_); (case side1 => exact qC (Kd.C_below HR1.out HB.out)); (case side2 => exact HC1.out); rintro e w20 ⟨v538, rfl, ho0, hb⟩; refine ⟨_, rfl, ?_⟩; replace HO536 := aM (Kd.S_elder' (by (with_reducible repeat (first | apply Kd.S_alloc | apply Kd.S_drewN | apply Kd.S_drew)); exact HO536.out) (Kd.R_base ho0) hb); have HO539 := oR ho0 HB; replace HB := bS HB hb; clear hb ho0; obtain ⟨Ao21, co21, eo21⟩ := Kd.S_slice HO536.out; subst eo21; obtain ⟨Ao22, co22, rfl⟩ := sL HO539) | ((with_reducible refine gate_callee (f := 33) rfl ?_); refine gL (some 22) Try.func33 #[.slice Ao21 t534.length co21, .slice Ao22 t537.length co22] ?_; (with_reducible refine (spec_NearestColor.calls k _ _ t534 _ _ t537 t540 _ ?side1 ?side2 ?side3 ?side4 A8.out).mono ?_); (case side1 => exact qC (Kd.S_reads' HO536.out).2.2); (case side2 => exact (Kd.S_reads' HO536.out).2.1); (case side3 => exact qC (Kd.R_reads' HO539.out).2.2); (case side4 => exact (Kd.R_reads' HO539.out).2.1); rintro e w' ⟨rfl, ⟨nd, rfl⟩⟩; refine ⟨_, rfl, ?_⟩) | ((with_reducible refine gate_callee (f := 34) rfl ?_); refine gL (some 24) Try.func34 #[.slice A0 l0.length c0] ?_; (with_reducible refine (laws_toIntSS.calls k _ _ l0 t541 _ ?side1 ?side2 A9.out).mono ?_); (case side1 => exact qC (Kd.C_below HR0.out (qW HB.out))); (case side2 => exact HC0.out); rintro e w23 ⟨v542, rfl, ho0, hb⟩; refine ⟨_, rfl, ?_⟩; have HO543 := aM (Kd.S_lower (Kd.S_new' (Kd.S_new' ho0 (Kd.S_lt (by (with_reducible repeat (first | apply Kd.S_alloc | apply Kd.S_drewN | apply Kd.S_drew)); exact HO536.out))) (Kd.R_lt (qR HO539.out))) (below_size (qW HB.out))); replace HO536 := aM (Kd.S_elder' (by (with_reducible repeat (first | apply Kd.S_alloc | apply Kd.S_drewN | apply Kd.S_drew)); exact HO536.out) (Kd.S_base ho0) hb); replace HO539 := aM (Kd.R_below (qR HO539.out) hb); replace HB := bS HB hb; clear hb ho0) | ((with_reducible refine gate_callee (f := 19) rfl ?_); refine gL (some 26) Try.func19 #[.slice A1 l1.length c1] ?_; (with_reducible refine (laws_toIntS.calls k _ _ l1 t544 _ ?side1 ?side2 A10.out).mono ?_); (case side1 => exact qC (Kd.C_below HR1.out HB.out)); (case side2 => exact HC1.out); rintro e w24 ⟨v545, rfl, ho0, hb⟩; refine ⟨_, rfl, ?_⟩; replace HO536 := aM (Kd.S_elder' (by (with_reducible repeat (first | apply Kd.S_alloc | apply Kd.S_drewN | apply Kd.S_drew)); exact HO536.out) (Kd.R_base ho0) hb); replace HO543 := aM (Kd.S_elder' (by (with_reducible repeat (first | apply Kd.S_alloc | apply Kd.S_drewN | apply Kd.S_drew)); exact HO543.out) (Kd.R_base ho0) hb); have HO546 := nR ho0 HO539 HB; replace HO539 := aM (Kd.R_elder' (qR HO539.out) (Kd.R_base ho0) hb); replace HB := bS HB hb; clear hb ho0; obtain ⟨Ao25, co25, eo25⟩ := Kd.S_slice HO543.out; subst eo25; obtain ⟨Ao26, co26, rfl⟩ := sL HO546) | ((with_reducible refine gate_callee (f := 35) rfl ?_); refine gL (some 29) Try.func35 #[.slice Ao25 t541.length co25, .slice Ao26 t544.length co26] ?_; (with_reducible refine (impl_NearestColor.calls k _ _ t541 _ _ t544 t547 _ ?side1 ?side2 ?side3 ?side4 A11.out).mono ?_); (case side1 => exact qC (Kd.S_reads' HO543.out).2.2); (case side2 => exact (Kd.S_reads' HO543.out).2.1); (case side3 => exact qC (Kd.R_reads' HO546.out).2.2); (case side4 => exact (Kd.R_reads' HO546.out).2.1); rintro e w27 ⟨rfl, hb⟩; refine ⟨_, rfl, ?_⟩; replace HO536 := aM (Kd.S_below (by (with_reducible repeat (first | apply Kd.S_alloc | apply Kd.S_drewN | apply Kd.S_drew)); exact HO536.out) hb); replace HO539 := aM (Kd.R_below (qR HO539.out) hb); replace HO543 := aM (Kd.S_below (by (with_reducible repeat (first | apply Kd.S_alloc | apply Kd.S_drewN | apply Kd.S_drew)); exact HO543.out) hb); replace HO546 := aM (Kd.R_below (qR HO546.out) hb); replace HB := bS HB hb; clear hb) | ((with_reducible refine gate_callee (f := 34) rfl ?_); refine gL (some 35) Try.func34 #[.slice A0 l0.length c0] ?_; (with_reducible refine (laws_toIntSS.calls k _ _ l0 t548 _ ?side1 ?side2 A13.out).mono ?_); (case side1 => exact qC (Kd.C_below HR0.out HB.out)); (case side2 => exact HC0.out); rintro e w28 ⟨v549, rfl, ho0, hb⟩; refine ⟨_, rfl, ?_⟩; have HO550 := aM (Kd.S_lower (Kd.S_new' (Kd.S_new' (Kd.S_new' (Kd.S_new' ho0 (Kd.S_lt (by (with_reducible repeat (first | apply Kd.S_alloc | apply Kd.S_drewN | apply Kd.S_drew)); exact HO536.out))) (Kd.R_lt (qR HO539.out))) (Kd.S_lt (by (with_reducible repeat (first | apply Kd.S_alloc | apply Kd.S_drewN | apply Kd.S_drew)); exact HO543.out))) (Kd.R_lt (qR HO546.out))) (below_size (qW HB.out))); replace HO536 := aM (Kd.S_elder' (by (with_reducible repeat (first | apply Kd.S_alloc | apply Kd.S_drewN | apply Kd.S_drew)); exact HO536.out) (Kd.S_base ho0) hb); replace HO539 := aM (Kd.R_below (qR HO539.out) hb); replace HO543 := aM (Kd.S_elder' (by (with_reducible repeat (first | apply Kd.S_alloc | apply Kd.S_drewN | apply Kd.S_drew)); exact HO543.out) (Kd.S_base ho0) hb); replace HO546 := aM (Kd.R_below (qR HO546.out) hb); replace HB := bS HB hb; clear hb ho0; obtain ⟨Ao29, co29, eo29⟩ := Kd.S_slice HO550.out; subst eo29) | ((with_reducible refine gate_callee (f := 36) rfl ?_); refine gL (some 36) Try.func36 #[.slice Ao25 t541.length co25, .slice Ao29 t548.length co29] ?_; (with_reducible refine (laws_eqIntSS.calls k _ _ t541 _ _ t548 true _ ?side1 ?side2 ?side3 ?side4 A14.out).mono ?_); (case side1 => exact qC (Kd.S_reads' HO543.out).2.2); (case side2 => exact (Kd.S_reads' HO543.out).2.1); (case side3 => exact qC (Kd.S_reads' HO550.out).2.2); (case side4 => exact (Kd.S_reads' HO550.out).2.1); rintro e w' ⟨rfl, ⟨nd, rfl⟩⟩; refine ⟨_, rfl, ?_⟩) | ((with_reducible refine gate_callee (f := 19) rfl ?_); refine gL (some 40) Try.func19 #[.slice A1 l1.length c1] ?_; (with_reducible refine (laws_toIntS.calls k _ _ l1 t552 _ ?side1 ?side2 A16.out).mono ?_); (case side1 => exact qC (Kd.C_below HR1.out (qW HB.out))); (case side2 => exact HC1.out); rintro e w30 ⟨v553, rfl, ho0, hb⟩; refine ⟨_, rfl, ?_⟩; replace HO536 := aM (Kd.S_elder' (by (with_reducible repeat (first | apply Kd.S_alloc | apply Kd.S_drewN | apply Kd.S_drew)); exact HO536.out) (Kd.R_base ho0) hb); replace HO543 := aM (Kd.S_elder' (by (with_reducible repeat (first | apply Kd.S_alloc | apply Kd.S_drewN | apply Kd.S_drew)); exact HO543.out) (Kd.R_base ho0) hb); replace HO550 := aM (Kd.S_elder' (by (with_reducible repeat (first | apply Kd.S_alloc | apply Kd.S_drewN | apply Kd.S_drew)); exact HO550.out) (Kd.R_base ho0) hb); have HO554 := aM (Kd.R_lower (Kd.R_new' (Kd.R_new' ho0 (Kd.R_lt (qR HO539.out))) (Kd.R_lt (qR HO546.out))) (below_size (qW HB.out))); replace HO539 := aM (Kd.R_elder' (qR HO539.out) (Kd.R_base ho0) hb); replace HO546 := aM (Kd.R_elder' (qR HO546.out) (Kd.R_base ho0) hb); replace HB := bS HB hb; clear hb ho0; obtain ⟨Ao31, co31, rfl⟩ := sL HO554) | ((with_reducible refine gate_callee (f := 21) rfl ?_); refine gL (some 41) Try.func21 #[.slice Ao26 t544.length co26, .slice Ao31 t552.length co31] ?_; (with_reducible refine (laws_eqIntS.calls k _ _ t544 _ _ t552 true _ ?side1 ?side2 ?side3 ?side4 A17.out).mono ?_); (case side1 => exact qC (Kd.R_reads' HO546.out).2.2); (case side2 => exact (Kd.R_reads' HO546.out).2.1); (case side3 => exact qC (Kd.R_reads' HO554.out).2.2); (case side4 => exact (Kd.R_reads' HO554.out).2.1); rintro e w' ⟨rfl, ⟨nd, rfl⟩⟩; refine ⟨_, rfl, ?_⟩))
 go_ret
 exact ⟨qX, by exact qW HB.out⟩
def laws_FnExactNearestColor.Pure : Prop := ∀ (l0 : List (List Int)) (l1 : List Int), l0.length ≤ maxLen → (∀ y ∈ l0, y.length ≤ maxLen) → l1.length ≤ maxLen → (∀ x ∈ l1, (Lit.int .i64 x).wf = true) → ∃ k, laws_FnExactNearestColor.f k l0 l1 = some true
theorem laws_FnExactNearestColor.walk (P : laws_FnExactNearestColor.Pure) (A0 : Option Addr) (cap0 : Nat) (l0 : List (List Int)) (A1 : Option Addr) (len1 cap1 : Nat) (z1 : List Int) (w : World) (hr0 : Kd.C (Kd.slice 3 (Kd.int .i64)) w A0 l0.length l0) (hc0 : l0.length ≤ cap0) (hm0 : l0.length ≤ maxLen) (hw0 : ∀ y ∈ l0, y.length ≤ maxLen) (w1 : (A1 = none ∧ len1 = 0 ∧ cap1 = 0 ∧ z1 = []) ∨ ∃ x, A1 = some x ∧ len1 ≤ cap1 ∧ cap1 ≤ maxLen ∧ z1.length = cap1 ∧ (∀ i, i < z1.length → w.cell? (x.add i) = some (.int .i64 (z1.getD i 0))) ∧ ∀ n ∈ z1, (Lit.int .i64 n).wf = true) :
  Calls Try.prog 12 #[.slice A0 l0.length cap0, .slice A1 len1 cap1] w fun e w' => e = .returned (.bool true) ∧ Below w.heap.size w w' := by
 obtain ⟨l1, rfl, hr1, hm1, hw1, hc1⟩ := ReadsInt.ofRowC w1
 obtain ⟨k, h⟩ := P l0 l1 hm0 hw0 hm1 hw1
 refine (laws_FnExactNearestColor.calls k _ _ l0 _ _ l1 true w hr0 hc0 (Kd.C_of_reads (d := (0 : Int)) (h1 := fun _ => rfl) hr1) hc1 h rfl).mono ?_
 rintro e w' ⟨rfl, hd⟩
 exact ⟨rfl, hd⟩
end Go.Proofs.Ytbldmekplkjfiaa.P
