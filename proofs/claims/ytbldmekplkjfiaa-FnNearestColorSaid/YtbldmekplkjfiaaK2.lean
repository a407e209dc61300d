/- Contracts and row, written by a program of this place out of the translation: the call answers true and its argument reads as before, for every input; no condition. -/
import Derived.Test.YtbldmekplkjfiaaK0
import Derived.Test.YtbldmekplkjfiaaK1
namespace Go.Proofs.Ytbldmekplkjfiaa.P
open Go.RowKit Go.Proofs.YtbldmekplkjfiaaW.PrintWords Go.Proofs.YtbldmekplkjfiaaW.PrintLast Go.Proofs.YtbldmekplkjfiaaW.PrintMore
attribute [local go_sem] max2_int min2_int max_two min_two max_three min_three max_four min_four   -- for this text's walks alone
set_option linter.unusedVariables false
set_option linter.unusedSimpArgs false
def badColor (planes : Int) (c : List Int) : Bool := ((c.length : Int) != planes) || (c.any fun n => decide (n < 0) || decide (255 < n))
set_option maxHeartbeats 8000000 in
set_option maxRecDepth 100000 in
theorem isPaletteTest (w : World) (B : Nat) (planes : Int) (hB : B < w.heap.size) (hc : w.cell? ⟨B, 0, none⟩ = some (.int .i64 planes)) :
  PredL 90 #[.pointer (some ⟨B, 0, none⟩)] (badColor planes) w := fun W A c x hb hr hl => by
 have hc' : W.cell? ⟨B, 0, none⟩ = some (.int .i64 planes) := (hb.cell (p := ⟨B, 0, none⟩) hB).trans hc
 have HR := aM hr
 have HL := aM hl
 clear hb hc hB hr hl
 by_cases h1 : (x.length : Int) = planes
 ·have e : badColor planes x = (x.any fun n => decide (n < 0) || decide (255 < n)) := by unfold badColor; simp [h1]
  rw [e]
  have c1 : ((x.length : Int) != planes) = false := bne_eq_false_iff_eq.2 h1
  clear e h1
  have hC := impl_areBytes.calls A c x (!(x.any fun n => decide (n < 0) || decide (255 < n))) W HR.out HL.out rfl
  generalize (x.any fun n => decide (n < 0) || decide (255 < n)) = b at hC ⊢
  go_enter Try.func90, Try.ntmps90
  go_wp2_with (go_at_call 61; refine hC.mono ?_; rintro e w' ⟨rfl, ⟨q, rfl⟩⟩)
  go_ret
  exact ⟨by simp, ⟨⟨q, rfl⟩⟩⟩
 ·have c1 : ((x.length : Int) != planes) = true := bne_iff_ne.2 h1
  have e : badColor planes x = true := by unfold badColor; rw [c1]; rfl
  rw [e]
  clear e h1
  go_enter Try.func90, Try.ntmps90
  go_wp2
  go_ret
  exact ⟨rfl, Drawn0.refl _⟩
def impl_isPalette.f (l0 : List (List Int)) (a1 : Int) : Option (Bool) := some (if (l0.length : Int) < 1 then false else if 16 < (l0.length : Int) then false else if a1 < 1 then false else if 4 < a1 then false else !(l0.any (badColor a1)))
set_option maxHeartbeats 8000000 in
set_option maxRecDepth 100000 in
theorem impl_isPalette.calls (A0 : Option Addr) (c0 : Nat) (l0 : List (List Int)) (a1 : Int) (r : Bool) (w : World) (hr0 : Kd.C (Kd.slice 3 (Kd.int .i64)) w A0 l0.length l0) (hc0 : l0.length ≤ c0) (h : impl_isPalette.f l0 a1 = some r) :
  Calls Try.prog 71 #[.slice A0 l0.length c0, .int .i64 a1] w fun e w' => e = .returned (.bool r) ∧ Below w.heap.size w w' := by
 have hr := Option.some.inj h
 clear h
 have HR0 := aM hr0
 have HC0 := aM hc0
 clear hr0 hc0
 by_cases h1 : (l0.length : Int) < 1
 ·rw [if_pos h1] at hr
  subst hr
  have c1 : decide ((l0.length : Int) < 1) = true := decide_eq_true h1
  have c1' : decide (l0.length < 1) = true := decide_eq_true (by omega)
  clear h1
  go_enter Try.func71, Try.ntmps71
  go_wp2
  go_ret
  exact ⟨rfl, by repeat (first | exact Below.refl _ _ | apply below_alloc | apply pw_below_drewN)⟩
 rw [if_neg h1] at hr
 have c1 : decide ((l0.length : Int) < 1) = false := decide_eq_false h1
 have c1' : decide (l0.length < 1) = false := decide_eq_false (by omega)
 clear h1
 by_cases h2 : 16 < (l0.length : Int)
 ·rw [if_pos h2] at hr
  subst hr
  have c2 : decide (16 < (l0.length : Int)) = true := decide_eq_true h2
  have c2' : decide (16 < l0.length) = true := decide_eq_true (by omega)
  clear h2
  go_enter Try.func71, Try.ntmps71
  go_wp2
  go_ret
  exact ⟨rfl, by repeat (first | exact Below.refl _ _ | apply below_alloc | apply pw_below_drewN)⟩
 rw [if_neg h2] at hr
 have c2 : decide (16 < (l0.length : Int)) = false := decide_eq_false h2
 have c2' : decide (16 < l0.length) = false := decide_eq_false (by omega)
 clear h2
 by_cases h3 : a1 < 1
 ·rw [if_pos h3] at hr
  subst hr
  have c3 : decide (a1 < 1) = true := decide_eq_true h3
  clear h3
  go_enter Try.func71, Try.ntmps71
  go_wp2
  go_ret
  exact ⟨rfl, by repeat (first | exact Below.refl _ _ | apply below_alloc | apply pw_below_drewN)⟩
 rw [if_neg h3] at hr
 have c3 : decide (a1 < 1) = false := decide_eq_false h3
 clear h3
 by_cases h4 : 4 < a1
 ·rw [if_pos h4] at hr
  subst hr
  have c4 : decide (4 < a1) = true := decide_eq_true h4
  clear h4
  go_enter Try.func71, Try.ntmps71
  go_wp2
  go_ret
  exact ⟨rfl, by repeat (first | exact Below.refl _ _ | apply below_alloc | apply pw_below_drewN)⟩
 rw [if_neg h4] at hr
 have c4 : decide (4 < a1) = false := decide_eq_false h4
 clear h4
 subst hr
 have hC := containsFuncList.calls 90 #[.pointer (some ⟨w.heap.size, 0, none⟩)] (enters_of Try.func90 (by kernel_rfl) rfl) (badColor a1) A0 c0 l0 (w.alloc (.cells #[.int .i64 a1] 3))
  (isPaletteTest _ w.heap.size a1 (by simp) (by simp)) (Kd.C_alloc HR0.out _) HC0.out
 generalize l0.any (badColor a1) = b at hC ⊢
 go_enter Try.func71, Try.ntmps71
 go_wp2_with (go_at_call 80; refine hC.mono ?_; rintro e w' ⟨rfl, ⟨q, rfl⟩⟩)
 go_ret
 exact ⟨rfl, by repeat (first | exact Below.refl _ _ | apply below_alloc | apply pw_below_drewN)⟩
mutual
def impl_nearestColor.l0 : Nat → List Int → Int → Int → List (List Int) → Int → Int → Option (Int)
 | 0, _, _, _, _, _, _ => none
 | k + 1, x1, x5, x6, x12, x13, x14 => if x14 < x13 then (if 0 ≤ x14 then (if x14 < (x12.length : Int) then (impl_nearestColor.l1 k x1 x5 x6 x14 0 x12 x13 x14 (rd_L2 x12 x14) ((rd_L2 x12 x14).length : Int) 0) else (none)) else (none)) else (some x5)
def impl_nearestColor.l1 : Nat → List Int → Int → Int → Int → Int → List (List Int) → Int → Int → List Int → Int → Int → Option (Int)
 | 0, _, _, _, _, _, _, _, _, _, _, _ => none
 | k + 1, x1, x5, x6, x7, x9, x12, x13, x14, x19, x20, x21 => if x21 < x20 then (if 0 ≤ x21 then (if x21 < (x19.length : Int) then (if x21 < (x1.length : Int) then (impl_nearestColor.l1 k x1 x5 x6 x7 (wrap64 (x9 + (wrap64 ((wrap64 ((rd x19 x21) - (rd x1 x21))) * (wrap64 ((rd x19 x21) - (rd x1 x21))))))) x12 x13 x14 x19 x20 (wrap64 (x21 + 1))) else (none)) else (none)) else (none)) else (if x6 < 0 then (impl_nearestColor.l0 k x1 x7 x9 x12 x13 (wrap64 (x14 + 1))) else (if x9 < x6 then (impl_nearestColor.l0 k x1 x7 x9 x12 x13 (wrap64 (x14 + 1))) else (impl_nearestColor.l0 k x1 x5 x6 x12 x13 (wrap64 (x14 + 1)))))
end
def impl_nearestColor.f (k : Nat) (l0 : List (List Int)) (l1 : List Int) : Option (Int) := impl_nearestColor.l0 k l1 0 (-1) l0 (l0.length : Int) 0
theorem impl_nearestColor.mono_l : ∀ k, (∀ y0 y1 y2 y3 y4 y5, LeO (impl_nearestColor.l0 k y0 y1 y2 y3 y4 y5) (impl_nearestColor.l0 (k + 1) y0 y1 y2 y3 y4 y5)) ∧ (∀ y0 y1 y2 y3 y4 y5 y6 y7 y8 y9 y10, LeO (impl_nearestColor.l1 k y0 y1 y2 y3 y4 y5 y6 y7 y8 y9 y10) (impl_nearestColor.l1 (k + 1) y0 y1 y2 y3 y4 y5 y6 y7 y8 y9 y10))
 | 0 => ⟨fun _ _ _ _ _ _ r h => by simp [impl_nearestColor.l0] at h, fun _ _ _ _ _ _ _ _ _ _ _ r h => by simp [impl_nearestColor.l1] at h⟩
 | k + 1 => by
  obtain ⟨ih0, ih1⟩ := impl_nearestColor.mono_l k
  refine ⟨?_, ?_⟩
  all_goals intros
  all_goals first | unfold impl_nearestColor.l0 | unfold impl_nearestColor.l1
  all_goals repeat' first | (with_reducible first | exact ih0 _ _ _ _ _ _ | exact ih1 _ _ _ _ _ _ _ _ _ _ _ | exact lR | exact lN | refine lI ?_ ?_ | refine lB ?_ fun _ => ?_) | exact ih0 _ _ _ _ _ _ | exact ih1 _ _ _ _ _ _ _ _ _ _ _ | exact lN | refine lI ?_ ?_ | refine lB ?_ fun _ => ?_
theorem impl_nearestColor.mono : ∀ a0 a1 k, LeO (impl_nearestColor.f k a0 a1) (impl_nearestColor.f (k + 1) a0 a1) := by
 intro a0 a1 k
 obtain ⟨ih0, ih1⟩ := impl_nearestColor.mono_l k
 unfold impl_nearestColor.f
 repeat' first | (with_reducible first | exact ih0 _ _ _ _ _ _ | exact ih1 _ _ _ _ _ _ _ _ _ _ _ | exact lR | exact lN | refine lI ?_ ?_ | refine lB ?_ fun _ => ?_) | exact ih0 _ _ _ _ _ _ | exact ih1 _ _ _ _ _ _ _ _ _ _ _ | exact lN | refine lI ?_ ?_ | refine lB ?_ fun _ => ?_
set_option maxHeartbeats 8000000 in
set_option maxRecDepth 100000 in
theorem impl_nearestColor.calls (k : Nat) (A0 : Option Addr) (c0 : Nat) (l0 : List (List Int)) (A1 : Option Addr) (c1 : Nat) (l1 : List Int) (r : Int) (w : World) (hr0 : Kd.C (Kd.slice 3 (Kd.int .i64)) w A0 l0.length l0) (hc0 : l0.length ≤ c0) (hr1 : Kd.C (Kd.int .i64) w A1 l1.length l1) (hc1 : l1.length ≤ c1) (h : impl_nearestColor.f k l0 l1 = some r) :
  Calls Try.prog 72 #[.slice A0 l0.length c0, .slice A1 l1.length c1] w fun e w' => e = .returned (.int .i64 r) ∧ Drawn0 w w' := by
 have HR0 := aM hr0
 have HC0 := aM hc0
 clear hr0 hc0
 have HR1 := aM hr1
 have HC1 := aM hc1
 clear hr1 hc1
 unfold impl_nearestColor.f at h
 have H := h
 clear h
 have H' := aM H
 clear H
 go_enter Try.func72, Try.ntmps72
 go_wp2
 repeat (go_quiet (fail); try go_wp2)
 go_loopg [5, 6, 14] k (fun kq v5 v6 v14 w' => ∃ (x5_1 : Int) (x6_1 : Int) (x14_1 : Int), v5 = .int .i64 x5_1 ∧ v6 = .int .i64 x6_1 ∧ v14 = .int .i64 x14_1 ∧ Aside0 (impl_nearestColor.l0 kq l1 x5_1 x6_1 l0 (l0.length : Int) x14_1 = some r) ∧ Aside0 (kq ≤ k) ∧ Drawn0 w w')
 case atStart => exact ⟨(0), ((-1)), (0), qE, qE, qE, H', ⟨Nat.le_refl _⟩, qD⟩
 case round =>
  clear H'
  try clear c1
  obtain ⟨x5_1, x6_1, x14_1, rfl, rfl, rfl, HA, HK1, ⟨m1, rfl⟩⟩ := hrel
  cases gk with
  | zero => exact absurd HA.out (by simp [impl_nearestColor.l0])
  | succ k1 =>
   have H := HA.out
   clear HA
   simp only [impl_nearestColor.l0] at H
   by_cases c3 : x14_1 < (l0.length : Int)
   rotate_left
   ·rw [if_neg c3] at H
    have c3b0 : decide (x14_1 < (l0.length : Int)) = false := decide_eq_false c3
    clear c3
    obtain rfl := Option.some.inj H
    go_wp2
    repeat (go_quiet (fail); try go_wp2)
    go_ret
    exact ⟨qE, qD⟩
   rw [if_pos c3] at H
   have c3b0 : decide (x14_1 < (l0.length : Int)) = true := decide_eq_true c3
   clear c3
   replace H := iD H
   obtain ⟨c4b0, H⟩ := H
   replace H := iD H
   obtain ⟨c5b0, H⟩ := H
   have H' := aM H
   clear H
   have p523 : 0 ≤ (x14_1 : Int) := oD
   have q523 : x14_1 < (l0.length : Int) := oD
   obtain ⟨ad523, A523_0, c523_0, e523, hx523_0, hl523_0, hi523_0⟩ := at_L2 HR0.out x14_1 p523 q523
   cases e523
   have HR523_0 := aM hi523_0
   have HC523_0 := aM hl523_0
   clear hi523_0 hl523_0
   replace p523 := eq_true p523
   replace q523 := eq_true q523
   go_wp2
   repeat (go_quiet (fail); try go_wp2)
   go_loopg [9, 21] k1 (fun kq v9 v21 w' => ∃ (x9_2 : Int) (x21_2 : Int), v9 = .int .i64 x9_2 ∧ v21 = .int .i64 x21_2 ∧ Aside0 (impl_nearestColor.l1 kq l1 x5_1 x6_1 x14_1 x9_2 l0 (l0.length : Int) x14_1 (rd_L2 l0 x14_1) ((rd_L2 l0 x14_1).length : Int) x21_2 = some r) ∧ Aside0 (kq ≤ k1) ∧ Drawn0 w w')
   case atStart => exact ⟨(0), (0), qE, qE, H', ⟨Nat.le_refl _⟩, qD⟩
   case round =>
    clear H'
    try clear c1
    try clear c3
    try clear c3b0
    try clear c4b0
    try clear c5b0
    try clear hx523_0
    try clear p523
    try clear q523
    obtain ⟨x9_2, x21_2, rfl, rfl, HA, HK2, ⟨m2, rfl⟩⟩ := hrel
    cases gk with
    | zero => exact absurd HA.out (by simp [impl_nearestColor.l1])
    | succ k2 =>
     have H := HA.out
     clear HA
     simp only [impl_nearestColor.l1] at H
     by_cases c6 : x21_2 < ((rd_L2 l0 x14_1).length : Int)
     rotate_left
     ·rw [if_neg c6] at H
      have c6b0 : decide (x21_2 < ((rd_L2 l0 x14_1).length : Int)) = false := decide_eq_false c6
      clear c6
      by_cases c10 : x6_1 < 0
      ·rw [if_pos c10] at H
       have c10b0 : decide (x6_1 < 0) = true := decide_eq_true c10
       clear c10
       have H' := aM H
       clear H
       go_wp2
       repeat (go_quiet (fail); try go_wp2)
       go_roundg k2
       case measure => have := HK1.out; have := HK2.out; omega
       case rel => exact ⟨(x14_1), (x9_2), (wrap64 (x14_1 + 1)), qE, qE, qE, H', ⟨by have := HK1.out; have := HK2.out; omega⟩, qD⟩
      rw [if_neg c10] at H
      have c10b0 : decide (x6_1 < 0) = false := decide_eq_false c10
      clear c10
      by_cases c11 : x9_2 < x6_1
      ·rw [if_pos c11] at H
       have c11b0 : decide (x9_2 < x6_1) = true := decide_eq_true c11
       clear c11
       have H' := aM H
       clear H
       go_wp2
       repeat (go_quiet (fail); try go_wp2)
       go_roundg k2
       case measure => have := HK1.out; have := HK2.out; omega
       case rel => exact ⟨(x14_1), (x9_2), (wrap64 (x14_1 + 1)), qE, qE, qE, H', ⟨by have := HK1.out; have := HK2.out; omega⟩, qD⟩
      rw [if_neg c11] at H
      have c11b0 : decide (x9_2 < x6_1) = false := decide_eq_false c11
      clear c11
      have H' := aM H
      clear H
      go_wp2
      repeat (go_quiet (fail); try go_wp2)
      go_roundg k2
      case measure => have := HK1.out; have := HK2.out; omega
      case rel => exact ⟨(x5_1), (x6_1), (wrap64 (x14_1 + 1)), qE, qE, qE, H', ⟨by have := HK1.out; have := HK2.out; omega⟩, qD⟩
     rw [if_pos c6] at H
     have c6b0 : decide (x21_2 < ((rd_L2 l0 x14_1).length : Int)) = true := decide_eq_true c6
     clear c6
     replace H := iD H
     obtain ⟨c7b0, H⟩ := H
     replace H := iD H
     obtain ⟨c8b0, H⟩ := H
     replace H := iD H
     obtain ⟨c9b0, H⟩ := H
     have H' := aM H
     clear H
     obtain ⟨ad524, e524, hx524_0⟩ := Kd.at_int HR523_0.out x21_2 oD oD
     cases e524
     have p524 := eq_true (oD : 0 ≤ (x21_2 : Int))
     have q524 := eq_true (oD : x21_2 < ((rd_L2 l0 x14_1).length : Int))
     obtain ⟨ad525, e525, hx525_0⟩ := Kd.at_int HR1.out x21_2 oD oD
     cases e525
     have p525 := eq_true (oD : 0 ≤ (x21_2 : Int))
     have q525 := eq_true (oD : x21_2 < (l1.length : Int))
     obtain ⟨ad526, e526, hx526_0⟩ := Kd.at_int HR1.out x21_2 oD oD
     obtain rfl : ad525 = ad526 := (by injection e526)
     have p526 := eq_true (oD : 0 ≤ (x21_2 : Int))
     have q526 := eq_true (oD : x21_2 < (l1.length : Int))
     go_wp2
     repeat (go_quiet (fail); try go_wp2)
     go_roundg k2
     case measure => have := HK1.out; have := HK2.out; omega
     case rel => exact ⟨(wrap64 (x9_2 + (wrap64 ((wrap64 ((rd (rd_L2 l0 x14_1) x21_2) - (rd l1 x21_2))) * (wrap64 ((rd (rd_L2 l0 x14_1) x21_2) - (rd l1 x21_2))))))), (wrap64 (x21_2 + 1)), qE, qE, H', ⟨by have := HK1.out; have := HK2.out; omega⟩, qD⟩
def impl_NearestColor.f (k : Nat) (l0 : List (List Int)) (l1 : List Int) : Option (Int) := (impl_isPalette.f l0 (l1.length : Int)).bind fun t527 => (if t527 = true then ((impl_areBytes.f l1).bind fun t528 => (if t528 = true then ((impl_nearestColor.f k l0 l1).bind fun t529 => (some t529)) else (some (-1)))) else (some (-1)))
theorem impl_NearestColor.mono : ∀ a0 a1 k, LeO (impl_NearestColor.f k a0 a1) (impl_NearestColor.f (k + 1) a0 a1) := by
 intro a0 a1 k
 unfold impl_NearestColor.f
 repeat' first | (with_reducible first | exact impl_nearestColor.mono _ _ _ | exact lR | exact lN | refine lI ?_ ?_ | refine lB ?_ fun _ => ?_) | exact impl_nearestColor.mono _ _ _ | exact lN | refine lI ?_ ?_ | refine lB ?_ fun _ => ?_
set_option maxHeartbeats 8000000 in
set_option maxRecDepth 100000 in
theorem impl_NearestColor.calls (k : Nat) (A0 : Option Addr) (c0 : Nat) (l0 : List (List Int)) (A1 : Option Addr) (c1 : Nat) (l1 : List Int) (r : Int) (w : World) (hr0 : Kd.C (Kd.slice 3 (Kd.int .i64)) w A0 l0.length l0) (hc0 : l0.length ≤ c0) (hr1 : Kd.C (Kd.int .i64) w A1 l1.length l1) (hc1 : l1.length ≤ c1) (h : impl_NearestColor.f k l0 l1 = some r) :
  Calls Try.prog 35 #[.slice A0 l0.length c0, .slice A1 l1.length c1] w fun e w' => e = .returned (.int .i64 r) ∧ Below w.heap.size w w' := by
 have HR0 := aM hr0
 have HC0 := aM hc0
 clear hr0 hc0
 have HR1 := aM hr1
 have HC1 := aM hc1
 clear hr1 hc1
 have HB := aM (Below.refl w.heap.size w)
 unfold impl_NearestColor.f at h
 have H := h
 clear h
 replace H := Option.bind_eq_some_iff.mp H
 obtain ⟨t527, A30, H⟩ := H
 replace H : (if t527 = true then ((impl_areBytes.f l1).bind fun t528 => (if t528 = true then ((impl_nearestColor.f k l0 l1).bind fun t529 => (some t529)) else (some (-1)))) else (some (-1))) = some r := H
 have A3 := aM A30
 clear A30
 by_cases c4 : t527 = true
 rotate_left
 ·replace c4 := Bool.eq_false_iff.mpr c4
  subst c4
  have H1 : (some (-1)) = some r := by rw [if_neg (show ¬ (false = true) by decide)] at H; exact H
  clear H
  have H := H1
  clear H1
  obtain rfl := Option.some.inj H
  go_enter Try.func35, Try.ntmps35
  go_wp2_with (first | ((with_reducible refine gate_callee (f := 71) rfl ?_); refine gL (some 8) Try.func71 #[.slice A0 l0.length c0, .int .i64 (l1.length : Int)] ?_; (with_reducible refine (impl_isPalette.calls _ _ l0 (l1.length : Int) false _ ?side1 ?side2 A3.out).mono ?_); (case side1 => exact qC HR0.out); (case side2 => exact HC0.out); rintro e w10 ⟨rfl, hb⟩; refine ⟨_, rfl, ?_⟩; replace HB := bS HB hb; clear hb))
  go_ret
  exact ⟨qX, by exact qW HB.out⟩
 subst c4
 have H1 : ((impl_areBytes.f l1).bind fun t528 => (if t528 = true then ((impl_nearestColor.f k l0 l1).bind fun t529 => (some t529)) else (some (-1)))) = some r := by rw [if_pos rfl] at H; exact H
 clear H
 have H := H1
 clear H1
 replace H := Option.bind_eq_some_iff.mp H
 obtain ⟨t528, A50, H⟩ := H
 replace H : (if t528 = true then ((impl_nearestColor.f k l0 l1).bind fun t529 => (some t529)) else (some (-1))) = some r := H
 have A5 := aM A50
 clear A50
 by_cases c6 : t528 = true
 rotate_left
 ·replace c6 := Bool.eq_false_iff.mpr c6
  subst c6
  have H1 : (some (-1)) = some r := by rw [if_neg (show ¬ (false = true) by decide)] at H; exact H
  clear H
  have H := H1
  clear H1
  obtain rfl := Option.some.inj H
  go_enter Try.func35, Try.ntmps35
  go_wp2_with (first | ((with_reducible refine gate_callee (f := 71) rfl ?_); refine gL (some 8) Try.func71 #[.slice A0 l0.length c0, .int .i64 (l1.length : Int)] ?_; (with_reducible refine (impl_isPalette.calls _ _ l0 (l1.length : Int) true _ ?side1 ?side2 A3.out).mono ?_); (case side1 => exact qC HR0.out); (case side2 => exact HC0.out); rintro e w9 ⟨rfl, hb⟩; refine ⟨_, rfl, ?_⟩; replace HB := bS HB hb; clear hb) | (go_at_call 61; (with_reducible refine (impl_areBytes.calls _ _ l1 false _ ?side1 ?side2 A5.out).mono ?_); (case side1 => exact qC (Kd.C_below HR1.out HB.out)); (case side2 => exact HC1.out); rintro e w' ⟨rfl, ⟨nd, rfl⟩⟩))
  go_ret
  exact ⟨qX, by exact qW HB.out⟩
 subst c6
 have H1 : ((impl_nearestColor.f k l0 l1).bind fun t529 => (some t529)) = some r := by rw [if_pos rfl] at H; exact H
 clear H
 have H := H1
 clear H1
 replace H := Option.bind_eq_some_iff.mp H
 obtain ⟨t529, A70, H⟩ := H
 replace H : (some t529) = some r := H
 have A7 := aM A70
 clear A70
 obtain rfl := Option.some.inj H
 go_enter Try.func35, Try.ntmps35
 go_wp2_with (first | ((with_reducible refine gate_callee (f := 71) rfl ?_); refine gL (some 8) Try.func71 #[.slice A0 l0.length c0, .int .i64 (l1.length : Int)] ?_; (with_reducible refine (impl_isPalette.calls _ _ l0 (l1.length : Int) true _ ?side1 ?side2 A3.out).mono ?_); (case side1 => exact qC HR0.out); (case side2 => exact HC0.out); rintro e w8 ⟨rfl, hb⟩; refine ⟨_, rfl, ?_⟩; replace HB := bS HB hb; clear hb) | (go_at_call 61; (with_reducible refine (impl_areBytes.calls _ _ l1 true _ ?side1 ?side2 A5.out).mono ?_); (case side1 => exact qC (Kd.C_below HR1.out HB.out)); (case side2 => exact HC1.out); rintro e w' ⟨rfl, ⟨nd, rfl⟩⟩) | ((with_reducible refine gate_callee (f := 72) rfl ?_); refine gL (some 17) Try.func72 #[.slice A0 l0.length c0, .slice A1 l1.length c1] ?_; (with_reducible refine (impl_nearestColor.calls k _ _ l0 _ _ l1 t529 _ ?side1 ?side2 ?side3 ?side4 A7.out).mono ?_); (case side1 => exact qC (Kd.C_below HR0.out (qW HB.out))); (case side2 => exact HC0.out); (case side3 => exact qC (Kd.C_below HR1.out (qW HB.out))); (case side4 => exact HC1.out); rintro e w' ⟨rfl, ⟨nd, rfl⟩⟩; refine ⟨_, rfl, ?_⟩))
 go_ret
 exact ⟨qX, by exact qW HB.out⟩
def IsS71 (w0 W : World) (g : Nat) (f0 : List Int) (f1 : Int) : Prop := ∃ A0 c0, W.heap[g]? = some (.cells #[.slice A0 f0.length c0, .int .i64 f1] 71 (0, 0)) ∧ w0.heap.size ≤ g ∧ Kd.C (Kd.int .u8) w0 A0 f0.length f0
theorem IsS71.grown {w0 W : World} {g : Nat} {f0 : List Int} {f1 : Int} {W1 : World} {row : Option Nat} (h : IsS71 w0 W g f0 f1) (hw : W.grownBy W1 row) (hne : some g ≠ row) : IsS71 w0 W1 g f0 f1 := by
 obtain ⟨A0, c0, hb, hg, hr0⟩ := h
 exact ⟨A0, c0, blk_grown hb hw hne, hg, hr0⟩
theorem IsS71.own_neN {w0 W : World} {g : Nat} {f0 : List Int} {f1 : Int} {α : Type} {d : Kd α} {e : Nat} {base : Nat} {ok : Nat → Prop} {v : Value} {xs : List α} (h : IsS71 w0 W g f0 f1) (ho : Kd.N d e W base ok v xs) (ht : e ≠ 71) : some g ≠ v.ownBlock := by
 obtain ⟨A0, c0, hb, hg, hr0⟩ := h
 exact Kd.N_ne ho hb ht
theorem IsS71.fresh {w0 W : World} {g : Nat} {f0 : List Int} {f1 : Int} (h : IsS71 w0 W g f0 f1) : ∀ k, W.heap.size ≤ k → k ≠ g := by
 obtain ⟨A0, c0, hb, hg, hr0⟩ := h
 exact Kd.freshB hb
theorem IsS71.kept {w0 W : World} {g : Nat} {f0 : List Int} {f1 : Int} {W1 : World} {S : Nat → Prop} (h : IsS71 w0 W g f0 f1) (hk : Kept W W1 S) (hne : ¬ S g) : IsS71 w0 W1 g f0 f1 := by
 obtain ⟨A0, c0, hb, hg, hr0⟩ := h
 exact ⟨A0, c0, blk_kept hb hk hne, hg, hr0⟩
theorem IsS71.below {w0 W : World} {g : Nat} {f0 : List Int} {f1 : Int} {W1 : World} (h : IsS71 w0 W g f0 f1) (hw : Below W.heap.size W W1) : IsS71 w0 W1 g f0 f1 := h.grown (grown_of_below hw none) (by simp)
theorem IsS71.alloc {w0 W : World} {g : Nat} {f0 : List Int} {f1 : Int} (h : IsS71 w0 W g f0 f1) (o : Obj) : IsS71 w0 (W.alloc o) g f0 f1 := h.below (below_alloc (Below.refl _ _) o)
theorem IsS71.drewN {w0 W : World} {g : Nat} {f0 : List Int} {f1 : Int} (h : IsS71 w0 W g f0 f1) (m : Nat) : IsS71 w0 (W.drewN m) g f0 f1 := h
theorem IsS71.drew {w0 W : World} {g : Nat} {f0 : List Int} {f1 : Int} (h : IsS71 w0 W g f0 f1) : IsS71 w0 W.drew g f0 f1 := h
theorem IsS71.at_ {w0 W : World} {g : Nat} {f0 : List Int} {f1 : Int} {w' : World} {m : Nat} (hq : W.drewN m = w') (h : IsS71 w0 W g f0 f1) : IsS71 w0 w' g f0 f1 := by subst hq; exact IsS71.drewN h m
theorem IsS71.apart {w0 W : World} {g : Nat} {f0 : List Int} {f1 : Int} {α : Type} {d : Kd α} {e : Nat} {base : Nat} {ok : Nat → Prop} {v : Value} {xs : List α} (h : IsS71 w0 W g f0 f1) (ho : d.R e W base ok v xs) (ht : ∀ q, q ∈ e :: d.E → q ≠ 71) : d.R e W base (fun k => ok k ∧ k ≠ g) v xs := by
 obtain ⟨A0, c0, hb, hg, hr0⟩ := h
 exact Kd.R_types ho hb ht
theorem IsS71.own_ne {w0 W : World} {g : Nat} {f0 : List Int} {f1 : Int} {α : Type} {d : Kd α} {e : Nat} {base : Nat} {ok : Nat → Prop} {v : Value} {xs : List α} (h : IsS71 w0 W g f0 f1) (ho : d.R e W base ok v xs) (ht : e ≠ 71) : some g ≠ v.ownBlock := by
 obtain ⟨A0, c0, hb, hg, hr0⟩ := h
 exact Kd.R_ne ho hb ht
theorem IsS71.apartQ {w0 W : World} {g : Nat} {f0 : List Int} {f1 : Int} {α : Type} {d : Kd α} {e : Nat} {base : Nat} {ok : Nat → Prop} {v : Value} {xs : List α} (h : IsS71 w0 W g f0 f1) (ho : d.Q e W base ok v xs) (ht : ∀ q, q ∈ e :: d.E → q ≠ 71) : d.Q e W base (fun k => ok k ∧ k ≠ g) v xs := by
 obtain ⟨A0, c0, hb, hg, hr0⟩ := h
 exact Kd.Q_types ho hb ht
theorem IsS71.own_neQ {w0 W : World} {g : Nat} {f0 : List Int} {f1 : Int} {α : Type} {d : Kd α} {e : Nat} {base : Nat} {ok : Nat → Prop} {v : Value} {xs : List α} (h : IsS71 w0 W g f0 f1) (ho : d.Q e W base ok v xs) (ht : e ≠ 71) : some g ≠ v.ownBlock := by
 obtain ⟨A0, c0, hb, hg, hr0⟩ := h
 exact Kd.Q_ne ho hb ht
theorem IsS71.apartS {w0 W : World} {g : Nat} {f0 : List Int} {f1 : Int} {α : Type} {d : Kd α} {e : Nat} {base : Nat} {ok : Nat → Prop} {v : Value} {xs : List α} (h : IsS71 w0 W g f0 f1) (ho : d.S e W base ok v xs) (ht : ∀ q, q ∈ e :: d.E → q ≠ 71) : d.S e W base (fun k => ok k ∧ k ≠ g) v xs := by
 obtain ⟨A0, c0, hb, hg, hr0⟩ := h
 exact Kd.S_types ho hb ht
theorem IsS71.own_neS {w0 W : World} {g : Nat} {f0 : List Int} {f1 : Int} {α : Type} {d : Kd α} {e : Nat} {base : Nat} {ok : Nat → Prop} {v : Value} {xs : List α} (h : IsS71 w0 W g f0 f1) (ho : d.S e W base ok v xs) (ht : e ≠ 71) : some g ≠ v.ownBlock := by
 obtain ⟨A0, c0, hb, hg, hr0⟩ := h
 exact Kd.S_ne ho hb ht
theorem IsS71.lt {w0 W : World} {g : Nat} {f0 : List Int} {f1 : Int} (h : IsS71 w0 W g f0 f1) : g < W.heap.size := by
 obtain ⟨A0, c0, hb, hg, hr0⟩ := h
 exact blk_lt hb
theorem IsS71.ge {w0 W : World} {g : Nat} {f0 : List Int} {f1 : Int} (h : IsS71 w0 W g f0 f1) : w0.heap.size ≤ g := by
 obtain ⟨A0, c0, hb, hg, hr0⟩ := h
 exact hg
theorem IsS71.ne_blk {w0 W : World} {g : Nat} {f0 : List Int} {f1 : Int} {a : Nat} {cs : Array Value} {t : TypeId} {fr : Nat × Nat} (h : IsS71 w0 W g f0 f1) (hb2 : W.heap[a]? = some (.cells cs t fr)) (ht : t ≠ 71) : g ≠ a := by
 obtain ⟨A0, c0, hb, hg, hr0⟩ := h
 rintro rfl
 rw [hb] at hb2
 injection hb2 with hb2
 injection hb2 with _ ht2
 exact ht ht2.symm
theorem IsS71.far {w0 W : World} {g : Nat} {f0 : List Int} {f1 : Int} {p : Addr} (h : IsS71 w0 W g f0 f1) (hne : g ≠ p.block) (u : Value) : IsS71 w0 (W.setCell p u) g f0 f1 := by
 obtain ⟨A0, c0, hb, hg, hr0⟩ := h
 exact ⟨A0, c0, blk_far hb hne u, hg, hr0⟩
theorem cellS71_0 {W : World} {g : Nat} {A0 : Option Addr} {c0 : Nat} {f0 : List Int} {f1 : Int} (h : W.heap[g]? = some (.cells #[.slice A0 f0.length c0, .int .i64 f1] 71 (0, 0))) : W.cell? ⟨g, 0, none⟩ = some (.slice A0 f0.length c0) := (blk_cell h 0).trans rfl
theorem cellS71_1 {W : World} {g : Nat} {A0 : Option Addr} {c0 : Nat} {f0 : List Int} {f1 : Int} (h : W.heap[g]? = some (.cells #[.slice A0 f0.length c0, .int .i64 f1] 71 (0, 0))) : W.cell? ⟨g, 1, none⟩ = some (.int .i64 f1) := (blk_cell h 1).trans rfl
theorem IsS71.set_1 {w0 W : World} {g : Nat} {f0 : List Int} {f1 : Int} (h : IsS71 w0 W g f0 f1) (x : Int) : IsS71 w0 (W.setCell ⟨g, 1, none⟩ (.int .i64 x)) g f0 x := by
 obtain ⟨A0, c0, hb, hg, hr0⟩ := h
 exact ⟨A0, c0, by simpa using blk_set hb 1 (.int .i64 x), hg, hr0⟩
theorem IsS71.new (w0 W : World) (A0 : Option Addr) (c0 : Nat) (f0 : List Int) (f1 : Int) (hB : Below w0.heap.size w0 W) (hr0 : Kd.C (Kd.int .u8) w0 A0 f0.length f0) : IsS71 w0 (W.alloc (.cells #[.slice A0 f0.length c0, .int .i64 f1] 71)) W.heap.size f0 f1 := ⟨A0, c0, by simpa using heap_alloc_new W _, hB.size, hr0⟩
theorem farA71 {w0 W : World} {g : Nat} {f0 : List Int} {f1 : Int} {g2 j : Nat} {u : Value} (h : IsS71 w0 W g f0 f1) (hn : Aside0 (g ≠ g2)) : IsS71 w0 (W.setCell ⟨g2, j, none⟩ u) g f0 f1 := IsS71.far h hn.out u
theorem iS71 {w0 W W2 : World} {g : Nat} {f0 : List Int} {f1 : Int} {f0' : List Int} {f1' : Int} (a : IsS71 w0 W g f0 f1) (f : IsS71 w0 W g f0 f1 → IsS71 w0 W2 g f0' f1' := by intro h_; repeat (first | (with_reducible first | exact h_ | apply IsS71.alloc | apply IsS71.drewN | apply IsS71.drew | apply IsS71.set_1 | (refine farA71 ?_ ?_; rotate_left; assumption)) | exact h_)) : IsS71 w0 W2 g f0' f1' := f a
theorem wS71 {n : Nat} {w w' W : World} (a : Below n w w') (f : Below n w w' → Below n w W := by intro h_; repeat (first | (with_reducible first | exact h_ | apply below_alloc | apply pw_below_drewN | apply below_drew1 | (refine below_set ?_ ?_; rotate_left; exact IsS71.ge (Aside0.out (by assumption))) | (refine below_setA ?_ ?_; rotate_left; assumption)) | exact h_)) : Below n w W := f a
def spec_newReader.f (l0 : List Int) : Option (List Int × Int) := if (l0.length : Int) > 2000 then (if 2000 ≤ (l0.length : Int) then (some (l0.take 2000, 0)) else (none)) else (some (l0, 0))
set_option maxHeartbeats 8000000 in
set_option maxRecDepth 100000 in
theorem spec_newReader.calls (A0 : Option Addr) (c0 : Nat) (l0 : List Int) (r1 : List Int) (r2 : Int) (w0 w : World) (hB : Below w0.heap.size w0 w) (hr0 : Kd.C (Kd.int .u8) w0 A0 l0.length l0) (hc0 : l0.length ≤ c0) (h : spec_newReader.f l0 = some (r1, r2)) :
  Calls Try.prog 50 #[.slice A0 l0.length c0] w fun e w' => ∃ g_ : Nat, e = .returned (.pointer (some ⟨g_, 0, none⟩)) ∧ IsS71 w0 w' g_ r1 r2 ∧ Below w0.heap.size w0 w' ∧ Below w.heap.size w w' := by
 have hu71 := Try.underlying71
 have HR0 := aM hr0
 have HC0 := aM hc0
 clear hr0 hc0
 have HBW := aM (Below.refl w.heap.size w)
 have HW0 := aM hB.size
 have HB := aM hB
 clear hB
 unfold spec_newReader.f at h
 have H := h
 clear h
 by_cases c2 : (l0.length : Int) > 2000
 rotate_left
 ·rw [if_neg c2] at H
  have c2b0 : decide (2000 < (l0.length : Int)) = false := decide_eq_false c2
  have c2b1 : decide (2000 < l0.length) = false := decide_eq_false (by omega)
  clear c2
  simp only [Option.some.injEq, Prod.mk.injEq] at H
  obtain ⟨rfl, rfl⟩ := H
  go_enter Try.func50, Try.ntmps50
  go_wp2_with (first | ((with_reducible refine gate_dst (N := 10) rfl ?_); refine bxE (N := 10) (cs := #[.slice A0 l0.length c0, .int .i64 0]) (t := 71) ?_; intro gb119 hg w6 hbox hb; replace HB := bS HB hb; have BK119 := aM (hbox); have GW119 := aM ((by rw [hg]; exact (below_size (qW HBW.out)) : w.heap.size ≤ gb119)); have GE119 := aM ((Nat.le_trans HW0.out (by rw [hg]; exact (below_size (qW HBW.out)) : w.heap.size ≤ gb119) : w0.heap.size ≤ gb119)); replace HBW := aM (below_step HBW.out hb); clear hb hbox hg))
  go_ret
  exact ⟨_, rfl, (show IsS71 w0 _ gb119 l0 0 from ⟨_, _, by refine qB ?_; exact BK119.out, GE119.out, HR0.out⟩), by exact qW HB.out, by exact qW HBW.out⟩
 rw [if_pos c2] at H
 have c2b0 : decide (2000 < (l0.length : Int)) = true := decide_eq_true c2
 have c2b1 : decide (2000 < l0.length) = true := decide_eq_true (by omega)
 clear c2
 replace H := iS H
 obtain ⟨c3, H⟩ := H
 have c3b0 := eq_true c3
 have c3b1 : decide (2000 ≤ (l0.length : Int)) = true := decide_eq_true c3
 clear c3
 simp only [Option.some.injEq, Prod.mk.injEq] at H
 obtain ⟨rfl, rfl⟩ := H
 obtain ⟨i04, hi04, _, hsz4, _⟩ := info_parts info5
 obtain ⟨hcut4, hA4, hC4⟩ := print_take_of (P := Try.prog) (Value.int .u8) 0 24 5 .i64 Try.underlying24 hi04 hsz4 A0 c0 l0 2000 (by omega) oD HC0.out
 have HR117 := aM (Kd.C_of_reads (h1 := fun _ => rfl) (hA4 _ (Kd.reads_of_C HR0.out)))
 have HC117 := aM hC4
 clear hA4 hC4 hi04 hsz4
 go_enter Try.func50, Try.ntmps50
 go_wp2_with (first | ((with_reducible refine gate_dst (N := 10) rfl ?_); refine bxE (N := 10) (cs := #[.slice A0 (l0.take 2000).length c0, .int .i64 0]) (t := 71) ?_; intro gb118 hg w5 hbox hb; replace HB := bS HB hb; have BK118 := aM (hbox); have GW118 := aM ((by rw [hg]; exact (below_size (qW HBW.out)) : w.heap.size ≤ gb118)); have GE118 := aM ((Nat.le_trans HW0.out (by rw [hg]; exact (below_size (qW HBW.out)) : w.heap.size ≤ gb118) : w0.heap.size ≤ gb118)); replace HBW := aM (below_step HBW.out hb); clear hb hbox hg))
 go_ret
 exact ⟨_, rfl, (show IsS71 w0 _ gb118 (l0.take 2000) 0 from ⟨_, _, by refine qB ?_; exact BK118.out, GE118.out, HR117.out⟩), by exact qW HB.out, by exact qW HBW.out⟩
def spec_reader_pick.j0 : Nat → Int → Bool → List Int → Int → Option (Int × Int)
 | 0, _, _, _, _ => none
 | k + 1, x1, x24, x1000, x1001 => if x24 = true then (some (0, x1001)) else (if (wrap64 (x1001 - 1)) < (x1000.length : Int) then (if 0 ≤ (wrap64 (x1001 - 1)) then (if x1 = 0 then (none) else (some (Int.tmod (wrap64 (rd x1000 (wrap64 (x1001 - 1)))) x1, x1001))) else (none)) else (if (x1000.length : Int) = 0 then (none) else (if 0 ≤ (Int.tmod (wrap64 (x1001 - 1)) (x1000.length : Int)) then (if (Int.tmod (wrap64 (x1001 - 1)) (x1000.length : Int)) < (x1000.length : Int) then (if 0 ≤ (Int.tmod (wrap64 ((wrap64 ((wrap64 (x1001 - 1)) * 7)) + 3)) (x1000.length : Int)) then (if (Int.tmod (wrap64 ((wrap64 ((wrap64 (x1001 - 1)) * 7)) + 3)) (x1000.length : Int)) < (x1000.length : Int) then (if x1 = 0 then (none) else (some (Int.tmod (Go.bits .xor .i64 (wrap64 ((wrap64 ((wrap64 ((wrap64 ((wrap64 (rd x1000 (Int.tmod (wrap64 (x1001 - 1)) (x1000.length : Int)))) * 131)) + (wrap64 ((wrap64 (rd x1000 (Int.tmod (wrap64 ((wrap64 ((wrap64 (x1001 - 1)) * 7)) + 3)) (x1000.length : Int)))) * 1117)))) + (wrap64 ((wrap64 (x1001 - 1)) * 29)))) + (wrap64 ((wrap64 (Int.tdiv (wrap64 (x1001 - 1)) (x1000.length : Int))) * 53)))) (wrap64 (Int.tdiv (wrap64 ((wrap64 ((wrap64 ((wrap64 ((wrap64 (rd x1000 (Int.tmod (wrap64 (x1001 - 1)) (x1000.length : Int)))) * 131)) + (wrap64 ((wrap64 (rd x1000 (Int.tmod (wrap64 ((wrap64 ((wrap64 (x1001 - 1)) * 7)) + 3)) (x1000.length : Int)))) * 1117)))) + (wrap64 ((wrap64 (x1001 - 1)) * 29)))) + (wrap64 ((wrap64 (Int.tdiv (wrap64 (x1001 - 1)) (x1000.length : Int))) * 53)))) 64))) x1, x1001))) else (none)) else (none)) else (none)) else (none))))
def spec_reader_pick.f (k : Nat) (s0_0 : List Int) (s0_1 : Int) (a1 : Int) : Option (Int × Int) := if a1 < 1 then (spec_reader_pick.j0 k a1 true s0_0 (wrap64 (s0_1 + 1))) else (spec_reader_pick.j0 k a1 ((s0_0.length : Int) == 0) s0_0 (wrap64 (s0_1 + 1)))
theorem spec_reader_pick.mono_l : ∀ k, (∀ y0 y1 y2 y3, LeO (spec_reader_pick.j0 k y0 y1 y2 y3) (spec_reader_pick.j0 (k + 1) y0 y1 y2 y3))
 | 0 => fun _ _ _ _ r h => by simp [spec_reader_pick.j0] at h
 | k + 1 => by
  have ih0 := spec_reader_pick.mono_l k
  ·intro y0 y1 y2 y3
   unfold spec_reader_pick.j0
   repeat' first | (with_reducible first | exact ih0 _ _ _ _ | exact lR | exact lN | refine lI ?_ ?_ | refine lB ?_ fun _ => ?_) | exact ih0 _ _ _ _ | exact lN | refine lI ?_ ?_ | refine lB ?_ fun _ => ?_
theorem spec_reader_pick.mono : ∀ a0 a1 a2 k, LeO (spec_reader_pick.f k a0 a1 a2) (spec_reader_pick.f (k + 1) a0 a1 a2) := by
 intro a0 a1 a2 k
 have ih0 := spec_reader_pick.mono_l k
 unfold spec_reader_pick.f
 repeat' first | (with_reducible first | exact ih0 _ _ _ _ | exact lR | exact lN | refine lI ?_ ?_ | refine lB ?_ fun _ => ?_) | exact ih0 _ _ _ _ | exact lN | refine lI ?_ ?_ | refine lB ?_ fun _ => ?_
set_option maxHeartbeats 8000000 in
set_option maxRecDepth 100000 in
theorem spec_reader_pick.calls (k : Nat) (g : Nat) (s0_0 : List Int) (s0_1 : Int) (a1 : Int) (r1 : Int) (r2 : Int) (w0 w : World) (hI : IsS71 w0 w g s0_0 s0_1) (hB : Below w0.heap.size w0 w) (h : spec_reader_pick.f k s0_0 s0_1 a1 = some (r1, r2)) :
  Calls Try.prog 51 #[.pointer (some ⟨g, 0, none⟩), .int .i64 a1] w fun e w' => e = .returned (.int .i64 r1) ∧ IsS71 w0 w' g s0_0 r2 ∧ Below w0.heap.size w0 w' ∧ KeepBut w w' g none := by
 have HI0 := aM hI
 have HK := aM (KeepBut.refl w g none)
 have HL := aM hB.size
 clear hI
 have HW0 := aM hB.size
 have HB := aM hB
 clear hB
 unfold spec_reader_pick.f at h
 have H := h
 clear h
 have HC3 := aM H
 clear H
 obtain ⟨ASz4_0, cSz4_0, HGz4, hgz4, HSz4_0⟩ := HI0.out
 have hcz4_0 := cellS71_0 HGz4
 have hcz4_1 := cellS71_1 HGz4
 have hfz4_1 := blk_frozen HGz4 1
 clear HGz4 hgz4
 go_enter Try.func51, Try.ntmps51
 go_upto_region 2 with (fail)
 repeat (go_quiet (fail); go_upto_region 2 with (fail))
 go_cut [24] (fun v24 wc => ∃ (kq : Nat) (x24_2 : Bool), v24 = .bool x24_2 ∧ Aside0 (spec_reader_pick.j0 kq a1 x24_2 s0_0 (wrap64 (s0_1 + 1)) = some (r1, r2)) ∧ Aside0 (kq ≤ k) ∧ Aside0 (IsS71 w0 wc g s0_0 (wrap64 (s0_1 + 1))) ∧ Aside0 (KeepBut w wc g none) ∧ Aside0 (Below w0.heap.size w0 wc))
 case first =>
  have H := HC3.out
  clear HC3
  by_cases c5 : a1 < 1
  ·rw [if_pos c5] at H
   have c5b0 : decide (a1 < 1) = true := decide_eq_true c5
   clear c5
   (first | rw [c5b0] | (simp only [i64_w, i32_w]; rw [c5b0]) | skip)
   have H' := aM H
   clear H
   go_wp2
   repeat (go_quiet (fail); try go_wp2)
   go_meet
   case rel => exact ⟨_, (true), qE, H', ⟨by first | omega | exact Nat.le_refl _⟩, ⟨iS71 HI0.out⟩, ⟨kB HK.out⟩, ⟨wS71 HB.out⟩⟩
  rw [if_neg c5] at H
  have c5b0 : decide (a1 < 1) = false := decide_eq_false c5
  clear c5
  (first | rw [c5b0] | (simp only [i64_w, i32_w]; rw [c5b0]) | skip)
  have H' := aM H
  clear H
  obtain ⟨ASz6_0, cSz6_0, HGz6, hgz6, HSz6_0⟩ := HI0.out
  have hcz6_0 := cellS71_0 HGz6
  have hcz6_1 := cellS71_1 HGz6
  have hfz6_1 := blk_frozen HGz6 1
  clear HGz6 hgz6
  go_wp2
  repeat (go_quiet (fail); try go_wp2)
  go_meet
  case rel => exact ⟨_, (((s0_0.length : Int) == 0)), qE, H', ⟨by first | omega | exact Nat.le_refl _⟩, ⟨iS71 HI0.out⟩, ⟨kB HK.out⟩, ⟨wS71 HB.out⟩⟩
 case rest =>
  clear HC3
  try clear c5
  try clear c5b0
  try clear hcz4_0 hcz4_1 hfz4_1
  try clear hcz6_0 hcz6_1 hfz6_1
  obtain ⟨kq, x24_2, rfl, HA, HJ2, HI0, HK, HB⟩ := hcut
  cases kq with
  | zero => exact absurd HA.out (by simp [spec_reader_pick.j0])
  | succ kj2 =>
   have H := HA.out
   clear HA
   simp only [spec_reader_pick.j0] at H
   by_cases c7 : x24_2 = true
   ·subst c7
    have H1 : (some (0, (wrap64 (s0_1 + 1)))) = some (r1, r2) := by rw [if_pos rfl] at H; exact H
    clear H
    have H := H1
    clear H1
    simp only [Option.some.injEq, Prod.mk.injEq] at H
    obtain ⟨rfl, rfl⟩ := H
    go_wp2
    repeat (go_quiet (fail); try go_wp2)
    go_ret
    exact ⟨qX, iS71 HI0.out, wS71 HB.out, kB HK.out⟩
   replace c7 := Bool.eq_false_iff.mpr c7
   subst c7
   have H1 : (if (wrap64 ((wrap64 (s0_1 + 1)) - 1)) < (s0_0.length : Int) then (if 0 ≤ (wrap64 ((wrap64 (s0_1 + 1)) - 1)) then (if a1 = 0 then (none) else (some (Int.tmod (wrap64 (rd s0_0 (wrap64 ((wrap64 (s0_1 + 1)) - 1)))) a1, (wrap64 (s0_1 + 1))))) else (none)) else (if (s0_0.length : Int) = 0 then (none) else (if 0 ≤ (Int.tmod (wrap64 ((wrap64 (s0_1 + 1)) - 1)) (s0_0.length : Int)) then (if (Int.tmod (wrap64 ((wrap64 (s0_1 + 1)) - 1)) (s0_0.length : Int)) < (s0_0.length : Int) then (if 0 ≤ (Int.tmod (wrap64 ((wrap64 ((wrap64 ((wrap64 (s0_1 + 1)) - 1)) * 7)) + 3)) (s0_0.length : Int)) then (if (Int.tmod (wrap64 ((wrap64 ((wrap64 ((wrap64 (s0_1 + 1)) - 1)) * 7)) + 3)) (s0_0.length : Int)) < (s0_0.length : Int) then (if a1 = 0 then (none) else (some (Int.tmod (Go.bits .xor .i64 (wrap64 ((wrap64 ((wrap64 ((wrap64 ((wrap64 (rd s0_0 (Int.tmod (wrap64 ((wrap64 (s0_1 + 1)) - 1)) (s0_0.length : Int)))) * 131)) + (wrap64 ((wrap64 (rd s0_0 (Int.tmod (wrap64 ((wrap64 ((wrap64 ((wrap64 (s0_1 + 1)) - 1)) * 7)) + 3)) (s0_0.length : Int)))) * 1117)))) + (wrap64 ((wrap64 ((wrap64 (s0_1 + 1)) - 1)) * 29)))) + (wrap64 ((wrap64 (Int.tdiv (wrap64 ((wrap64 (s0_1 + 1)) - 1)) (s0_0.length : Int))) * 53)))) (wrap64 (Int.tdiv (wrap64 ((wrap64 ((wrap64 ((wrap64 ((wrap64 (rd s0_0 (Int.tmod (wrap64 ((wrap64 (s0_1 + 1)) - 1)) (s0_0.length : Int)))) * 131)) + (wrap64 ((wrap64 (rd s0_0 (Int.tmod (wrap64 ((wrap64 ((wrap64 ((wrap64 (s0_1 + 1)) - 1)) * 7)) + 3)) (s0_0.length : Int)))) * 1117)))) + (wrap64 ((wrap64 ((wrap64 (s0_1 + 1)) - 1)) * 29)))) + (wrap64 ((wrap64 (Int.tdiv (wrap64 ((wrap64 (s0_1 + 1)) - 1)) (s0_0.length : Int))) * 53)))) 64))) a1, (wrap64 (s0_1 + 1))))) else (none)) else (none)) else (none)) else (none)))) = some (r1, r2) := by rw [if_neg (show ¬ (false = true) by decide)] at H; exact H
   clear H
   have H := H1
   clear H1
   by_cases c8 : (wrap64 ((wrap64 (s0_1 + 1)) - 1)) < (s0_0.length : Int)
   ·rw [if_pos c8] at H
    have c8b0 : decide ((wrap64 ((wrap64 (s0_1 + 1)) - 1)) < (s0_0.length : Int)) = true := decide_eq_true c8
    clear c8
    obtain ⟨ji9, hji9⟩ : ∃ j_ : Int, (wrap64 ((wrap64 (s0_1 + 1)) - 1)) = j_ := ⟨_, rfl⟩
    replace H : (if 0 ≤ (ji9) then (if a1 = 0 then (none) else (some (Int.tmod (wrap64 (rd s0_0 (ji9))) a1, (wrap64 (s0_1 + 1))))) else (none)) = some (r1, r2) := by first | (rw [hji9] at H; exact H) | (simp only [hji9] at H ⊢; exact H)
    (try rw [hji9] at c8b0)
    have hji9w : (IntKind.i64.wrap ((wrap64 (s0_1 + 1)) - 1)) = ji9 := (i64_w _).trans hji9
    replace H := iD H
    obtain ⟨c10b0, H⟩ := H
    by_cases c11 : a1 = 0
    ·rw [if_pos c11] at H
     exact absurd H (by simp)
    rw [if_neg c11] at H
    have c11b0 : (a1 == 0) = false := beq_eq_false_iff_ne.mpr c11
    have c11b1 : (a1 != 0) = true := bne_iff_ne.mpr c11
    simp only [Option.some.injEq, Prod.mk.injEq] at H
    obtain ⟨rfl, rfl⟩ := H
    obtain ⟨ASz12_0, cSz12_0, HGz12, hgz12, HSz12_0⟩ := HI0.out
    have hcz12_0 := cellS71_0 HGz12
    have hcz12_1 := cellS71_1 HGz12
    have hfz12_1 := blk_frozen HGz12 1
    clear HGz12 hgz12
    obtain ⟨ad120, e120, hx120_0⟩ := Kd.at_int HSz12_0 (ji9) oD oD
    cases e120
    replace hx120_0 := pw_cell_below HB.out hx120_0
    have p120 := eq_true (oD : 0 ≤ ((ji9) : Int))
    have q120 := eq_true (oD : (ji9) < (s0_0.length : Int))
    go_wp2
    repeat (go_quiet (fail); try go_wp2)
    go_ret
    exact ⟨by first | rfl | (simp [errW_none, errW_some] <;> rfl) | (simp only [← hji9]; first | rfl | (simp [errW_none, errW_some] <;> rfl)) | (simp [*, errW_none, errW_some] <;> rfl), iS71 HI0.out, wS71 HB.out, kB HK.out⟩
   rw [if_neg c8] at H
   have c8b0 : decide ((wrap64 ((wrap64 (s0_1 + 1)) - 1)) < (s0_0.length : Int)) = false := decide_eq_false c8
   clear c8
   by_cases c13 : (s0_0.length : Int) = 0
   ·rw [if_pos c13] at H
    exact absurd H (by simp)
   rw [if_neg c13] at H
   have c13b0 : ((s0_0.length : Int) == 0) = false := beq_eq_false_iff_ne.mpr c13
   have c13b1 : ((s0_0.length : Int) != 0) = true := bne_iff_ne.mpr c13
   have c13b2 : ¬ (s0_0 = []) := fun h_ => c13 (by rw [h_]; rfl)
   obtain ⟨ji14, hji14⟩ : ∃ j_ : Int, (Int.tmod (wrap64 ((wrap64 (s0_1 + 1)) - 1)) (s0_0.length : Int)) = j_ := ⟨_, rfl⟩
   replace H : (if 0 ≤ (ji14) then (if (ji14) < (s0_0.length : Int) then (if 0 ≤ (Int.tmod (wrap64 ((wrap64 ((wrap64 ((wrap64 (s0_1 + 1)) - 1)) * 7)) + 3)) (s0_0.length : Int)) then (if (Int.tmod (wrap64 ((wrap64 ((wrap64 ((wrap64 (s0_1 + 1)) - 1)) * 7)) + 3)) (s0_0.length : Int)) < (s0_0.length : Int) then (if a1 = 0 then (none) else (some (Int.tmod (Go.bits .xor .i64 (wrap64 ((wrap64 ((wrap64 ((wrap64 ((wrap64 (rd s0_0 (ji14))) * 131)) + (wrap64 ((wrap64 (rd s0_0 (Int.tmod (wrap64 ((wrap64 ((wrap64 ((wrap64 (s0_1 + 1)) - 1)) * 7)) + 3)) (s0_0.length : Int)))) * 1117)))) + (wrap64 ((wrap64 ((wrap64 (s0_1 + 1)) - 1)) * 29)))) + (wrap64 ((wrap64 (Int.tdiv (wrap64 ((wrap64 (s0_1 + 1)) - 1)) (s0_0.length : Int))) * 53)))) (wrap64 (Int.tdiv (wrap64 ((wrap64 ((wrap64 ((wrap64 ((wrap64 (rd s0_0 (ji14))) * 131)) + (wrap64 ((wrap64 (rd s0_0 (Int.tmod (wrap64 ((wrap64 ((wrap64 ((wrap64 (s0_1 + 1)) - 1)) * 7)) + 3)) (s0_0.length : Int)))) * 1117)))) + (wrap64 ((wrap64 ((wrap64 (s0_1 + 1)) - 1)) * 29)))) + (wrap64 ((wrap64 (Int.tdiv (wrap64 ((wrap64 (s0_1 + 1)) - 1)) (s0_0.length : Int))) * 53)))) 64))) a1, (wrap64 (s0_1 + 1))))) else (none)) else (none)) else (none)) else (none)) = some (r1, r2) := by first | (rw [hji14] at H; exact H) | (simp only [hji14] at H ⊢; exact H)
   replace H := iD H
   obtain ⟨c15b0, H⟩ := H
   replace H := iD H
   obtain ⟨c16b0, H⟩ := H
   obtain ⟨ji17, hji17⟩ : ∃ j_ : Int, (Int.tmod (wrap64 ((wrap64 ((wrap64 ((wrap64 (s0_1 + 1)) - 1)) * 7)) + 3)) (s0_0.length : Int)) = j_ := ⟨_, rfl⟩
   replace H : (if 0 ≤ (ji17) then (if (ji17) < (s0_0.length : Int) then (if a1 = 0 then (none) else (some (Int.tmod (Go.bits .xor .i64 (wrap64 ((wrap64 ((wrap64 ((wrap64 ((wrap64 (rd s0_0 (ji14))) * 131)) + (wrap64 ((wrap64 (rd s0_0 (ji17))) * 1117)))) + (wrap64 ((wrap64 ((wrap64 (s0_1 + 1)) - 1)) * 29)))) + (wrap64 ((wrap64 (Int.tdiv (wrap64 ((wrap64 (s0_1 + 1)) - 1)) (s0_0.length : Int))) * 53)))) (wrap64 (Int.tdiv (wrap64 ((wrap64 ((wrap64 ((wrap64 ((wrap64 (rd s0_0 (ji14))) * 131)) + (wrap64 ((wrap64 (rd s0_0 (ji17))) * 1117)))) + (wrap64 ((wrap64 ((wrap64 (s0_1 + 1)) - 1)) * 29)))) + (wrap64 ((wrap64 (Int.tdiv (wrap64 ((wrap64 (s0_1 + 1)) - 1)) (s0_0.length : Int))) * 53)))) 64))) a1, (wrap64 (s0_1 + 1))))) else (none)) else (none)) = some (r1, r2) := by first | (rw [hji17] at H; exact H) | (simp only [hji17] at H ⊢; exact H)
   replace H := iD H
   obtain ⟨c18b0, H⟩ := H
   replace H := iD H
   obtain ⟨c19b0, H⟩ := H
   by_cases c20 : a1 = 0
   ·rw [if_pos c20] at H
    exact absurd H (by simp)
   rw [if_neg c20] at H
   have c20b0 : (a1 == 0) = false := beq_eq_false_iff_ne.mpr c20
   have c20b1 : (a1 != 0) = true := bne_iff_ne.mpr c20
   simp only [Option.some.injEq, Prod.mk.injEq] at H
   obtain ⟨rfl, rfl⟩ := H
   obtain ⟨ASz21_0, cSz21_0, HGz21, hgz21, HSz21_0⟩ := HI0.out
   have hcz21_0 := cellS71_0 HGz21
   have hcz21_1 := cellS71_1 HGz21
   have hfz21_1 := blk_frozen HGz21 1
   clear HGz21 hgz21
   obtain ⟨ad121, e121, hx121_0⟩ := Kd.at_int HSz21_0 (ji14) oD oD
   cases e121
   replace hx121_0 := pw_cell_below HB.out hx121_0
   have p121 := eq_true (oD : 0 ≤ ((ji14) : Int))
   have q121 := eq_true (oD : (ji14) < (s0_0.length : Int))
   obtain ⟨ad122, e122, hx122_0⟩ := Kd.at_int HSz21_0 (ji17) oD oD
   obtain rfl : ad121 = ad122 := (by injection e122)
   replace hx122_0 := pw_cell_below HB.out hx122_0
   have p122 := eq_true (oD : 0 ≤ ((ji17) : Int))
   have q122 := eq_true (oD : (ji17) < (s0_0.length : Int))
   go_wp2
   repeat (go_quiet (fail); try go_wp2)
   go_ret
   exact ⟨by first | rfl | (simp [errW_none, errW_some] <;> rfl) | (simp only [← hji14, ← hji17]; first | rfl | (simp [errW_none, errW_some] <;> rfl)) | (simp [*, errW_none, errW_some] <;> rfl), iS71 HI0.out, wS71 HB.out, kB HK.out⟩
def spec_reader_one.f (k : Nat) (s0_0 : List Int) (s0_1 : Int) (l1 : List Int) : Option (Int × Int) := (spec_reader_pick.f k s0_0 s0_1 (l1.length : Int)).bind fun bt123 => (if 0 ≤ bt123.1 then (if bt123.1 < (l1.length : Int) then (some (rd l1 bt123.1, bt123.2)) else (none)) else (none))
theorem spec_reader_one.mono : ∀ a0 a1 a2 k, LeO (spec_reader_one.f k a0 a1 a2) (spec_reader_one.f (k + 1) a0 a1 a2) := by
 intro a0 a1 a2 k
 unfold spec_reader_one.f
 repeat' first | (with_reducible first | exact spec_reader_pick.mono _ _ _ _ | exact lR | exact lN | refine lI ?_ ?_ | refine lB ?_ fun _ => ?_) | exact spec_reader_pick.mono _ _ _ _ | exact lN | refine lI ?_ ?_ | refine lB ?_ fun _ => ?_
set_option maxHeartbeats 8000000 in
set_option maxRecDepth 100000 in
theorem spec_reader_one.calls (k : Nat) (g : Nat) (s0_0 : List Int) (s0_1 : Int) (A1 : Option Addr) (c1 : Nat) (l1 : List Int) (r1 : Int) (r2 : Int) (w0 w : World) (hI : IsS71 w0 w g s0_0 s0_1) (hB : Below w0.heap.size w0 w) (hr1 : Kd.C (Kd.int .i64) w A1 l1.length l1) (hc1 : l1.length ≤ c1) (hf1 : ∀ ad, A1 = some ad → 0 < l1.length → ad.block ≠ g) (h : spec_reader_one.f k s0_0 s0_1 l1 = some (r1, r2)) :
  Calls Try.prog 52 #[.pointer (some ⟨g, 0, none⟩), .slice A1 l1.length c1] w fun e w' => e = .returned (.int .i64 r1) ∧ IsS71 w0 w' g s0_0 r2 ∧ Below w0.heap.size w0 w' ∧ KeepBut w w' g none := by
 have HR1 := aM hr1
 have HC1 := aM hc1
 clear hr1 hc1
 have HI0 := aM hI
 have HK := aM (KeepBut.refl w g none)
 have HL := aM hB.size
 clear hI
 have HW0 := aM hB.size
 have HB := aM hB
 clear hB
 unfold spec_reader_one.f at h
 have H := h
 clear h
 replace H := Option.bind_eq_some_iff.mp H
 obtain ⟨⟨t123, t124⟩, A30, H⟩ := H
 replace H : (if 0 ≤ t123 then (if t123 < (l1.length : Int) then (some (rd l1 t123, t124)) else (none)) else (none)) = some (r1, r2) := H
 have A3 := aM A30
 clear A30
 replace H := iD H
 obtain ⟨c4b0, H⟩ := H
 replace H := iD H
 obtain ⟨c5b0, H⟩ := H
 simp only [Option.some.injEq, Prod.mk.injEq] at H
 obtain ⟨rfl, rfl⟩ := H
 go_enter Try.func52, Try.ntmps52
 go_wp2_with (first | ((with_reducible refine gate_callee (f := 51) rfl ?_); refine gL (some 9) Try.func51 #[.pointer (some ⟨g, 0, none⟩), .int .i64 (l1.length : Int)] ?_; (with_reducible refine (spec_reader_pick.calls k g s0_0 s0_1 (l1.length : Int) t123 t124 w0 _ ?side1 ?side2 A3.out).mono ?_); (case side1 => exact iS71 HI0.out); (case side2 => exact wS71 HB.out); rintro e w6 ⟨rfl, hi, hb, hk⟩; refine ⟨_, rfl, ?_⟩; replace HK := aM (KeepBut.trans (kB HK.out) hk (.inl rfl)); replace HB := aM (hb); replace HI0 := aM (hi); clear hb hk hi; have p125 : 0 ≤ (t123 : Int) := oD; have q125 : t123 < (l1.length : Int) := oD; obtain ⟨ad125, e125, hx125_0⟩ := Kd.at_int HR1.out t123 p125 q125; cases e125; replace hx125_0 := keep_cell HK.out hx125_0 (by first | (rw [add_block]; exact hf1 _ rfl (by omega)) | exact hf1 _ rfl (by omega) | exact hf1 ad125 rfl (by omega)); replace p125 := eq_true p125; replace q125 := eq_true q125))
 go_ret
 exact ⟨qX, iS71 HI0.out, wS71 HB.out, kB HK.out⟩
def spec_copyInts.f (l0 : List Int) : Option (List Int) := (some (([] : List Int) : List Int)).bind fun y184 => (if y184.length + l0.length < 17592186044416 then (some (y184 ++ l0)) else (none))
set_option maxHeartbeats 8000000 in
set_option maxRecDepth 100000 in
theorem spec_copyInts.calls (A0 : Option Addr) (c0 : Nat) (l0 : List Int) (r : List Int) (w : World) (hr0 : Kd.C (Kd.int .i64) w A0 l0.length l0) (hc0 : l0.length ≤ c0) (h : spec_copyInts.f l0 = some r) :
  Calls Try.prog 88 #[.slice A0 l0.length c0] w fun e w' => ∃ v0_ : Value, e = .returned (v0_) ∧ Kd.R (Kd.int .i64) 3 w' w.heap.size (fun _ => True) v0_ r ∧ Below w.heap.size w w' := by
 have HR0 := aM hr0
 have HC0 := aM hc0
 clear hr0 hc0
 have HB := aM (Below.refl w.heap.size w)
 unfold spec_copyInts.f at h
 have H := h
 clear h
 obtain ⟨y184, hy184⟩ : ∃ y_ : List Int, y_ = (([] : List Int)) := ⟨_, rfl⟩
 replace H : (if y184.length + l0.length < 17592186044416 then (some (y184 ++ l0)) else (none)) = some r := rY hy184 H
 have Ny184 := aM hy184
 clear hy184
 replace H := iS H
 obtain ⟨c2, H⟩ := H
 have LMc2 := aM c2
 clear c2
 obtain ⟨y187, hy187⟩ : ∃ y_ : List Int, y_ = (y184 ++ l0) := ⟨_, rfl⟩
 replace H : (some y187) = some r := rY hy187 H
 have Ny187 := aM hy187
 clear hy187
 obtain rfl := Option.some.inj H
 go_enter Try.func88, Try.ntmps88
 go_wp2_with (first | ((with_reducible refine gate_dst (N := 3) rfl ?_); refine iL ([] : List Int) [] ?_; intro v185 w3 ho4 hb hg_ hnew_; clear hg_ hnew_; (first | rw [← Ny184.out] at ho4 | (simp only [Int.reduceToNat] at ho4; rw [← Ny184.out] at ho4)); have HO186 := oR ho4 HB; replace HB := bS HB hb; clear hb ho4) | ((with_reducible refine gate_builtin (b := .append) (xs := #[.tmp 3, .tmp 4]) rfl ?_); at_builtin; refine Kd.R_append_rows (Kd.int .i64) (w0 := w) w.heap.size rfl (.tmp 3) (.tmp 4) 28 3 (.int .i64 0) 8 rfl Try.underlying28 info3 rfl (by decide) (by omega) v185 y184 l0 _ _ _ (fun _ => True) (fun _ => False) rfl rfl ?aO ?aR (fun _ _ h => h) (fun _ h => h.elim) ?aF ?aB ?aS ?aL ?_; (case aR => exact qC (Kd.C_below HR0.out HB.out)); (case aB => exact (qW HB.out)); (case aF => exact (fun _ _ => trivial)); (case aO => exact (qR HO186.out)); (case aS => exact (below_size (qW HB.out))); (case aL => have := LMc2.out; omega); intro v188 w5 ho hb hg hat; rw [← Ny187.out] at ho; replace HB := aM (hb); have HO189 := aM (ho); clear HO186; clear ho hb hg hat))
 go_ret
 exact ⟨_, qX, by refine qR ?_; exact HO189.out, by exact qW HB.out⟩
def spec_reader_spoil.f (k : Nat) (s0_0 : List Int) (s0_1 : Int) (l1 : List Int) (a2 : Int) : Option (List Int × Int) := (spec_copyInts.f l1).bind fun t190 => ((spec_reader_pick.f k s0_0 s0_1 20).bind fun bt193 => (if bt193.1 = 0 then (if t190.length < 17592186044416 then (some ((t190 ++ [a2]), bt193.2)) else (none)) else (if bt193.1 = 1 then (if (t190.length : Int) > 0 then (if 1 ≤ (t190.length : Int) then (some ((t190.drop (1 : Int).toNat), bt193.2)) else (none)) else (some (t190, bt193.2))) else (if bt193.1 = 2 then (if (t190.length : Int) > 0 then ((spec_reader_pick.f k s0_0 bt193.2 (t190.length : Int)).bind fun bt201 => ((spec_reader_one.f k s0_0 bt201.2 (([(-1), a2, 0, 1] : List Int))).bind fun bt206 => (if 0 ≤ bt201.1 then (if bt201.1 < (t190.length : Int) then (some ((t190.set (bt201.1 : Int).toNat bt206.1), bt206.2)) else (none)) else (none)))) else (some (t190, bt193.2))) else (some (t190, bt193.2))))))
theorem spec_reader_spoil.mono : ∀ a0 a1 a2 a3 k, LeO (spec_reader_spoil.f k a0 a1 a2 a3) (spec_reader_spoil.f (k + 1) a0 a1 a2 a3) := by
 intro a0 a1 a2 a3 k
 unfold spec_reader_spoil.f
 repeat' first | (with_reducible first | exact spec_reader_one.mono _ _ _ _ | exact spec_reader_pick.mono _ _ _ _ | exact lR | exact lN | refine lI ?_ ?_ | refine lB ?_ fun _ => ?_) | exact spec_reader_one.mono _ _ _ _ | exact spec_reader_pick.mono _ _ _ _ | exact lN | refine lI ?_ ?_ | refine lB ?_ fun _ => ?_
set_option maxHeartbeats 8000000 in
set_option maxRecDepth 100000 in
theorem spec_reader_spoil.calls (k : Nat) (g : Nat) (s0_0 : List Int) (s0_1 : Int) (A1 : Option Addr) (c1 : Nat) (l1 : List Int) (a2 : Int) (r1 : List Int) (r2 : Int) (w0 w : World) (hI : IsS71 w0 w g s0_0 s0_1) (hB : Below w0.heap.size w0 w) (hr1 : Kd.C (Kd.int .i64) w A1 l1.length l1) (hc1 : l1.length ≤ c1) (hf1 : ∀ ad, A1 = some ad → 0 < l1.length → ad.block ≠ g) (h : spec_reader_spoil.f k s0_0 s0_1 l1 a2 = some (r1, r2)) :
  Calls Try.prog 67 #[.pointer (some ⟨g, 0, none⟩), .slice A1 l1.length c1, .int .i64 a2] w fun e w' => ∃ v0_ : Value, e = .returned (v0_) ∧ Kd.Q (Kd.int .i64) 3 w' w.heap.size (fun _ => True) v0_ r1 ∧ IsS71 w0 w' g s0_0 r2 ∧ Below w0.heap.size w0 w' ∧ KeepBut w w' g none := by
 have HR1 := aM hr1
 have HC1 := aM hc1
 clear hr1 hc1
 have HI0 := aM hI
 have HK := aM (KeepBut.refl w g none)
 have HL := aM hB.size
 clear hI
 have HW0 := aM hB.size
 have HB := aM hB
 clear hB
 unfold spec_reader_spoil.f at h
 have H := h
 clear h
 replace H := Option.bind_eq_some_iff.mp H
 obtain ⟨t190, A40, H⟩ := H
 replace H : ((spec_reader_pick.f k s0_0 s0_1 20).bind fun bt193 => (if bt193.1 = 0 then (if t190.length < 17592186044416 then (some ((t190 ++ [a2]), bt193.2)) else (none)) else (if bt193.1 = 1 then (if (t190.length : Int) > 0 then (if 1 ≤ (t190.length : Int) then (some ((t190.drop (1 : Int).toNat), bt193.2)) else (none)) else (some (t190, bt193.2))) else (if bt193.1 = 2 then (if (t190.length : Int) > 0 then ((spec_reader_pick.f k s0_0 bt193.2 (t190.length : Int)).bind fun bt201 => ((spec_reader_one.f k s0_0 bt201.2 (([(-1), a2, 0, 1] : List Int))).bind fun bt206 => (if 0 ≤ bt201.1 then (if bt201.1 < (t190.length : Int) then (some ((t190.set (bt201.1 : Int).toNat bt206.1), bt206.2)) else (none)) else (none)))) else (some (t190, bt193.2))) else (some (t190, bt193.2)))))) = some (r1, r2) := H
 have A4 := aM A40
 clear A40
 replace H := Option.bind_eq_some_iff.mp H
 obtain ⟨⟨t193, t194⟩, A50, H⟩ := H
 replace H : (if t193 = 0 then (if t190.length < 17592186044416 then (some ((t190 ++ [a2]), t194)) else (none)) else (if t193 = 1 then (if (t190.length : Int) > 0 then (if 1 ≤ (t190.length : Int) then (some ((t190.drop (1 : Int).toNat), t194)) else (none)) else (some (t190, t194))) else (if t193 = 2 then (if (t190.length : Int) > 0 then ((spec_reader_pick.f k s0_0 t194 (t190.length : Int)).bind fun bt201 => ((spec_reader_one.f k s0_0 bt201.2 (([(-1), a2, 0, 1] : List Int))).bind fun bt206 => (if 0 ≤ bt201.1 then (if bt201.1 < (t190.length : Int) then (some ((t190.set (bt201.1 : Int).toNat bt206.1), bt206.2)) else (none)) else (none)))) else (some (t190, t194))) else (some (t190, t194))))) = some (r1, r2) := H
 have A5 := aM A50
 clear A50
 by_cases c6 : t193 = 0
 ·rw [if_pos c6] at H
  have c6b0 : (t193 == 0) = true := beq_iff_eq.mpr c6
  have c6b1 : (t193 != 0) = false := bne_eq_false_iff_eq.mpr c6
  clear c6
  replace H := iS H
  obtain ⟨c7, H⟩ := H
  have LMc7 := aM c7
  clear c7
  obtain ⟨y195, hy195⟩ : ∃ y_ : List Int, y_ = (t190 ++ [a2]) := ⟨_, rfl⟩
  replace H : (some (y195, t194)) = some (r1, r2) := rY hy195 H
  have Ny195 := aM hy195
  clear hy195
  simp only [Option.some.injEq, Prod.mk.injEq] at H
  obtain ⟨rfl, rfl⟩ := H
  go_enter Try.func67, Try.ntmps67
  go_wp2_with (first | ((with_reducible refine gate_callee (f := 88) rfl ?_); refine gL (some 9) Try.func88 #[.slice A1 l1.length c1] ?_; (with_reducible refine (spec_copyInts.calls _ _ l1 t190 _ ?side1 ?side2 A4.out).mono ?_); (case side1 => exact Kd.C_keep 0 HR1.out (kB HK.out) hf1); (case side2 => exact HC1.out); rintro e w8 ⟨v191, rfl, ho0, hb⟩; refine ⟨_, rfl, ?_⟩; have HO192 := lK ho0 HK; replace HK := aM (KeepBut.trans (kB HK.out) (KeepBut.of_below hb g none) (.inl rfl)); replace HB := aM (below_step (wS71 HB.out) hb); replace HI0 := aM (IsS71.below (iS71 HI0.out) hb); clear hb ho0) | ((with_reducible refine gate_callee (f := 51) rfl ?_); refine gL (some 11) Try.func51 #[.pointer (some ⟨g, 0, none⟩), .int .i64 20] ?_; (with_reducible refine (spec_reader_pick.calls k g s0_0 s0_1 20 t193 t194 w0 _ ?side1 ?side2 A5.out).mono ?_); (case side1 => exact iS71 HI0.out); (case side2 => exact wS71 HB.out); rintro e w9 ⟨rfl, hi, hb, hk⟩; refine ⟨_, rfl, ?_⟩; replace HO192 := aM (Kd.R_mono (Kd.R_keep (IsS71.apart (show IsS71 w0 _ g s0_0 s0_1 from iS71 HI0.out) (qR HO192.out) (by decide)) hk (fun _ h => h.2)) (fun _ h => h.1)); replace HK := aM (KeepBut.trans (kB HK.out) hk (.inl rfl)); replace HB := aM (hb); replace HI0 := aM (hi); clear hb hk hi) | ((with_reducible refine gate_builtin (b := .append) (xs := #[.tmp 14, .tmp 16]) rfl ?_); at_builtin; refine Kd.R_append (Kd.int .i64) w.heap.size rfl (.tmp 14) (.tmp 16) 28 3 (.int .i64 0) 8 rfl Try.underlying28 info3 rfl (by decide) (by omega) v191 t190 a2 [.int .i64 a2] (fun _ => True) (fun _ => False) rfl rfl ?aP (fun _ hk => hk.elim) ?aF ?aO (Below.refl _ _) ?aS ?aL ?_; (case aP => exact rfl); (case aF => exact (fun _ _ => trivial)); (case aO => exact (qR HO192.out)); (case aS => exact (keep_size (w := w) (g := g) (row := none) (kB HK.out))); (case aL => have := LMc7.out; omega); intro v196 w10 ho hb hg hat; rw [← Ny195.out] at ho; replace HB := aM (below_weaken (wS71 HB.out) HL.out hb); replace HI0 := aM (IsS71.grown (iS71 HI0.out) hg (IsS71.own_ne HI0.out HO192.out (by decide))); replace HK := aM (KeepBut.trans (kB HK.out) (KeepBut.of_grown hg g) (Kd.R_base2 HO192.out)); have HO197 := aM (ho); clear HO192; clear ho hb hg hat))
  go_ret
  exact ⟨_, qX, Kd.Q_of_R (qR HO197.out), iS71 HI0.out, wS71 HB.out, kB HK.out⟩
 rw [if_neg c6] at H
 have c6b0 : (t193 == 0) = false := beq_eq_false_iff_ne.mpr c6
 have c6b1 : (t193 != 0) = true := bne_iff_ne.mpr c6
 by_cases c11 : t193 = 1
 ·rw [if_pos c11] at H
  have c11b0 : (t193 == 1) = true := beq_iff_eq.mpr c11
  have c11b1 : (t193 != 1) = false := bne_eq_false_iff_eq.mpr c11
  clear c11
  by_cases c12 : (t190.length : Int) > 0
  rotate_left
  ·rw [if_neg c12] at H
   have c12b0 : decide (0 < (t190.length : Int)) = false := decide_eq_false c12
   have c12b1 : decide (0 < t190.length) = false := decide_eq_false (by omega)
   clear c12
   simp only [Option.some.injEq, Prod.mk.injEq] at H
   obtain ⟨rfl, rfl⟩ := H
   go_enter Try.func67, Try.ntmps67
   go_wp2_with (first | ((with_reducible refine gate_callee (f := 88) rfl ?_); refine gL (some 9) Try.func88 #[.slice A1 l1.length c1] ?_; (with_reducible refine (spec_copyInts.calls _ _ l1 t190 _ ?side1 ?side2 A4.out).mono ?_); (case side1 => exact Kd.C_keep 0 HR1.out (kB HK.out) hf1); (case side2 => exact HC1.out); rintro e w18 ⟨v191, rfl, ho0, hb⟩; refine ⟨_, rfl, ?_⟩; have HO192 := lK ho0 HK; replace HK := aM (KeepBut.trans (kB HK.out) (KeepBut.of_below hb g none) (.inl rfl)); replace HB := aM (below_step (wS71 HB.out) hb); replace HI0 := aM (IsS71.below (iS71 HI0.out) hb); clear hb ho0) | ((with_reducible refine gate_callee (f := 51) rfl ?_); refine gL (some 11) Try.func51 #[.pointer (some ⟨g, 0, none⟩), .int .i64 20] ?_; (with_reducible refine (spec_reader_pick.calls k g s0_0 s0_1 20 t193 t194 w0 _ ?side1 ?side2 A5.out).mono ?_); (case side1 => exact iS71 HI0.out); (case side2 => exact wS71 HB.out); rintro e w19 ⟨rfl, hi, hb, hk⟩; refine ⟨_, rfl, ?_⟩; replace HO192 := aM (Kd.R_mono (Kd.R_keep (IsS71.apart (show IsS71 w0 _ g s0_0 s0_1 from iS71 HI0.out) (qR HO192.out) (by decide)) hk (fun _ h => h.2)) (fun _ h => h.1)); replace HK := aM (KeepBut.trans (kB HK.out) hk (.inl rfl)); replace HB := aM (hb); replace HI0 := aM (hi); clear hb hk hi; obtain ⟨Ao20, co20, rfl⟩ := sL HO192))
   go_ret
   exact ⟨_, qX, Kd.Q_of_R (qR HO192.out), iS71 HI0.out, wS71 HB.out, kB HK.out⟩
  rw [if_pos c12] at H
  have c12b0 : decide (0 < (t190.length : Int)) = true := decide_eq_true c12
  have c12b1 : decide (0 < t190.length) = true := decide_eq_true (by omega)
  clear c12
  replace H := iS H
  obtain ⟨c13, H⟩ := H
  have c13b0 := eq_true c13
  have c13b1 : decide (1 ≤ (t190.length : Int)) = true := decide_eq_true c13
  clear c13
  obtain ⟨y198, hy198⟩ : ∃ y_ : List Int, y_ = (t190.drop (1 : Int).toNat) := ⟨_, rfl⟩
  replace H : (some (y198, t194)) = some (r1, r2) := rY hy198 H
  have Ny198 := aM hy198
  clear hy198
  simp only [Option.some.injEq, Prod.mk.injEq] at H
  obtain ⟨rfl, rfl⟩ := H
  go_enter Try.func67, Try.ntmps67
  go_wp2_with (first | ((with_reducible refine gate_callee (f := 88) rfl ?_); refine gL (some 9) Try.func88 #[.slice A1 l1.length c1] ?_; (with_reducible refine (spec_copyInts.calls _ _ l1 t190 _ ?side1 ?side2 A4.out).mono ?_); (case side1 => exact Kd.C_keep 0 HR1.out (kB HK.out) hf1); (case side2 => exact HC1.out); rintro e w14 ⟨v191, rfl, ho0, hb⟩; refine ⟨_, rfl, ?_⟩; have HO192 := lK ho0 HK; replace HK := aM (KeepBut.trans (kB HK.out) (KeepBut.of_below hb g none) (.inl rfl)); replace HB := aM (below_step (wS71 HB.out) hb); replace HI0 := aM (IsS71.below (iS71 HI0.out) hb); clear hb ho0) | ((with_reducible refine gate_callee (f := 51) rfl ?_); refine gL (some 11) Try.func51 #[.pointer (some ⟨g, 0, none⟩), .int .i64 20] ?_; (with_reducible refine (spec_reader_pick.calls k g s0_0 s0_1 20 t193 t194 w0 _ ?side1 ?side2 A5.out).mono ?_); (case side1 => exact iS71 HI0.out); (case side2 => exact wS71 HB.out); rintro e w15 ⟨rfl, hi, hb, hk⟩; refine ⟨_, rfl, ?_⟩; replace HO192 := aM (Kd.R_mono (Kd.R_keep (IsS71.apart (show IsS71 w0 _ g s0_0 s0_1 from iS71 HI0.out) (qR HO192.out) (by decide)) hk (fun _ h => h.2)) (fun _ h => h.1)); replace HK := aM (KeepBut.trans (kB HK.out) hk (.inl rfl)); replace HB := aM (hb); replace HI0 := aM (hi); clear hb hk hi; obtain ⟨Ao16, co16, rfl⟩ := sL HO192; have q17 : (1 : Int) ≤ ((t190.length : Int) : Int) := oD; obtain ⟨i017, hi017, _, hsz17, _⟩ := info_parts info3; have hcut17 := cut_from (P := Try.prog) 28 3 .i64 Try.underlying28 hi017 1 hsz17 Ao16 t190.length co16 1 (by omega) q17; have hr17 := Kd.Q_drop (k := (1 : Int).toNat) (Kd.Q_of_R HO192.out) (by omega); obtain ⟨A17, hA17⟩ : ∃ A1, A1 = (if co16 = (1 : Int).toNat then Ao16 else (Ao16 : Option Addr).map (·.add ((1 : Int).toNat * 1))) := ⟨_, rfl⟩; obtain ⟨c17, hc17⟩ : ∃ c1, c1 = co16 - (1 : Int).toNat := ⟨_, rfl⟩; have hy17 : y198.length = t190.length - (1 : Int).toNat := (by rw [Ny198.out, List.length_drop]); rw [← Ny198.out] at hr17; rw [← hy17, ← hA17, ← hc17] at hcut17; replace hr17 : Kd.Q (Kd.int .i64) 3 w15 w.heap.size (fun _ => True) (.slice A17 y198.length c17) y198 := (by rw [hA17, hc17, hy17]; exact hr17); have HE17 : Aside0 ((Value.slice A17 y198.length c17).ownBlock = (.slice Ao16 t190.length co16 : Value).ownBlock) := ⟨by rw [hA17]; split <;> (cases (Ao16 : Option Addr) <;> rfl)⟩; clear hy17 hi017 hsz17 HO192 hA17 hc17; have HO200 := aM hr17; clear hr17; replace q17 := eq_true q17))
  go_ret
  exact ⟨_, qX, by (with_reducible repeat (first | apply Kd.Q_alloc | apply Kd.Q_drewN | apply Kd.Q_drew)); exact HO200.out, iS71 HI0.out, wS71 HB.out, kB HK.out⟩
 rw [if_neg c11] at H
 have c11b0 : (t193 == 1) = false := beq_eq_false_iff_ne.mpr c11
 have c11b1 : (t193 != 1) = true := bne_iff_ne.mpr c11
 by_cases c21 : t193 = 2
 rotate_left
 ·rw [if_neg c21] at H
  have c21b0 : (t193 == 2) = false := beq_eq_false_iff_ne.mpr c21
  have c21b1 : (t193 != 2) = true := bne_iff_ne.mpr c21
  simp only [Option.some.injEq, Prod.mk.injEq] at H
  obtain ⟨rfl, rfl⟩ := H
  go_enter Try.func67, Try.ntmps67
  go_wp2_with (first | ((with_reducible refine gate_callee (f := 88) rfl ?_); refine gL (some 9) Try.func88 #[.slice A1 l1.length c1] ?_; (with_reducible refine (spec_copyInts.calls _ _ l1 t190 _ ?side1 ?side2 A4.out).mono ?_); (case side1 => exact Kd.C_keep 0 HR1.out (kB HK.out) hf1); (case side2 => exact HC1.out); rintro e w41 ⟨v191, rfl, ho0, hb⟩; refine ⟨_, rfl, ?_⟩; have HO192 := lK ho0 HK; replace HK := aM (KeepBut.trans (kB HK.out) (KeepBut.of_below hb g none) (.inl rfl)); replace HB := aM (below_step (wS71 HB.out) hb); replace HI0 := aM (IsS71.below (iS71 HI0.out) hb); clear hb ho0) | ((with_reducible refine gate_callee (f := 51) rfl ?_); refine gL (some 11) Try.func51 #[.pointer (some ⟨g, 0, none⟩), .int .i64 20] ?_; (with_reducible refine (spec_reader_pick.calls k g s0_0 s0_1 20 t193 t194 w0 _ ?side1 ?side2 A5.out).mono ?_); (case side1 => exact iS71 HI0.out); (case side2 => exact wS71 HB.out); rintro e w42 ⟨rfl, hi, hb, hk⟩; refine ⟨_, rfl, ?_⟩; replace HO192 := aM (Kd.R_mono (Kd.R_keep (IsS71.apart (show IsS71 w0 _ g s0_0 s0_1 from iS71 HI0.out) (qR HO192.out) (by decide)) hk (fun _ h => h.2)) (fun _ h => h.1)); replace HK := aM (KeepBut.trans (kB HK.out) hk (.inl rfl)); replace HB := aM (hb); replace HI0 := aM (hi); clear hb hk hi))
  go_ret
  exact ⟨_, qX, Kd.Q_of_R (qR HO192.out), iS71 HI0.out, wS71 HB.out, kB HK.out⟩
 rw [if_pos c21] at H
 have c21b0 : (t193 == 2) = true := beq_iff_eq.mpr c21
 have c21b1 : (t193 != 2) = false := bne_eq_false_iff_eq.mpr c21
 clear c21
 by_cases c22 : (t190.length : Int) > 0
 rotate_left
 ·rw [if_neg c22] at H
  have c22b0 : decide (0 < (t190.length : Int)) = false := decide_eq_false c22
  have c22b1 : decide (0 < t190.length) = false := decide_eq_false (by omega)
  clear c22
  simp only [Option.some.injEq, Prod.mk.injEq] at H
  obtain ⟨rfl, rfl⟩ := H
  go_enter Try.func67, Try.ntmps67
  go_wp2_with (first | ((with_reducible refine gate_callee (f := 88) rfl ?_); refine gL (some 9) Try.func88 #[.slice A1 l1.length c1] ?_; (with_reducible refine (spec_copyInts.calls _ _ l1 t190 _ ?side1 ?side2 A4.out).mono ?_); (case side1 => exact Kd.C_keep 0 HR1.out (kB HK.out) hf1); (case side2 => exact HC1.out); rintro e w38 ⟨v191, rfl, ho0, hb⟩; refine ⟨_, rfl, ?_⟩; have HO192 := lK ho0 HK; replace HK := aM (KeepBut.trans (kB HK.out) (KeepBut.of_below hb g none) (.inl rfl)); replace HB := aM (below_step (wS71 HB.out) hb); replace HI0 := aM (IsS71.below (iS71 HI0.out) hb); clear hb ho0) | ((with_reducible refine gate_callee (f := 51) rfl ?_); refine gL (some 11) Try.func51 #[.pointer (some ⟨g, 0, none⟩), .int .i64 20] ?_; (with_reducible refine (spec_reader_pick.calls k g s0_0 s0_1 20 t193 t194 w0 _ ?side1 ?side2 A5.out).mono ?_); (case side1 => exact iS71 HI0.out); (case side2 => exact wS71 HB.out); rintro e w39 ⟨rfl, hi, hb, hk⟩; refine ⟨_, rfl, ?_⟩; replace HO192 := aM (Kd.R_mono (Kd.R_keep (IsS71.apart (show IsS71 w0 _ g s0_0 s0_1 from iS71 HI0.out) (qR HO192.out) (by decide)) hk (fun _ h => h.2)) (fun _ h => h.1)); replace HK := aM (KeepBut.trans (kB HK.out) hk (.inl rfl)); replace HB := aM (hb); replace HI0 := aM (hi); clear hb hk hi; obtain ⟨Ao40, co40, rfl⟩ := sL HO192))
  go_ret
  exact ⟨_, qX, Kd.Q_of_R (qR HO192.out), iS71 HI0.out, wS71 HB.out, kB HK.out⟩
 rw [if_pos c22] at H
 have c22b0 : decide (0 < (t190.length : Int)) = true := decide_eq_true c22
 have c22b1 : decide (0 < t190.length) = true := decide_eq_true (by omega)
 clear c22
 replace H := Option.bind_eq_some_iff.mp H
 obtain ⟨⟨t201, t202⟩, A230, H⟩ := H
 replace H : ((spec_reader_one.f k s0_0 t202 (([(-1), a2, 0, 1] : List Int))).bind fun bt206 => (if 0 ≤ t201 then (if t201 < (t190.length : Int) then (some ((t190.set (t201 : Int).toNat bt206.1), bt206.2)) else (none)) else (none))) = some (r1, r2) := H
 have A23 := aM A230
 clear A230
 obtain ⟨y203, hy203⟩ : ∃ y_ : List Int, y_ = (([(-1), a2, 0, 1] : List Int)) := ⟨_, rfl⟩
 replace H : ((spec_reader_one.f k s0_0 t202 y203).bind fun bt206 => (if 0 ≤ t201 then (if t201 < (t190.length : Int) then (some ((t190.set (t201 : Int).toNat bt206.1), bt206.2)) else (none)) else (none))) = some (r1, r2) := rY hy203 H
 have Ny203 := aM hy203
 clear hy203
 replace H := Option.bind_eq_some_iff.mp H
 obtain ⟨⟨t206, t207⟩, A240, H⟩ := H
 replace H : (if 0 ≤ t201 then (if t201 < (t190.length : Int) then (some ((t190.set (t201 : Int).toNat t206), t207)) else (none)) else (none)) = some (r1, r2) := H
 have A24 := aM A240
 clear A240
 replace H := iD H
 obtain ⟨c25b0, H⟩ := H
 replace H := iD H
 obtain ⟨c26b0, H⟩ := H
 obtain ⟨y208, hy208⟩ : ∃ y_ : List Int, y_ = (t190.set (t201 : Int).toNat t206) := ⟨_, rfl⟩
 replace H : (some (y208, t207)) = some (r1, r2) := rY hy208 H
 have Ny208 := aM hy208
 clear hy208
 simp only [Option.some.injEq, Prod.mk.injEq] at H
 obtain ⟨rfl, rfl⟩ := H
 go_enter Try.func67, Try.ntmps67
 go_wp2_with (first | ((with_reducible refine gate_callee (f := 88) rfl ?_); refine gL (some 9) Try.func88 #[.slice A1 l1.length c1] ?_; (with_reducible refine (spec_copyInts.calls _ _ l1 t190 _ ?side1 ?side2 A4.out).mono ?_); (case side1 => exact Kd.C_keep 0 HR1.out (kB HK.out) hf1); (case side2 => exact HC1.out); rintro e w28 ⟨v191, rfl, ho0, hb⟩; refine ⟨_, rfl, ?_⟩; have HO192 := lK ho0 HK; replace HK := aM (KeepBut.trans (kB HK.out) (KeepBut.of_below hb g none) (.inl rfl)); replace HB := aM (below_step (wS71 HB.out) hb); replace HI0 := aM (IsS71.below (iS71 HI0.out) hb); clear hb ho0) | ((with_reducible refine gate_callee (f := 51) rfl ?_); refine gL (some 11) Try.func51 #[.pointer (some ⟨g, 0, none⟩), .int .i64 20] ?_; (with_reducible refine (spec_reader_pick.calls k g s0_0 s0_1 20 t193 t194 w0 _ ?side1 ?side2 A5.out).mono ?_); (case side1 => exact iS71 HI0.out); (case side2 => exact wS71 HB.out); rintro e w29 ⟨rfl, hi, hb, hk⟩; refine ⟨_, rfl, ?_⟩; replace HO192 := aM (Kd.R_mono (Kd.R_keep (IsS71.apart (show IsS71 w0 _ g s0_0 s0_1 from iS71 HI0.out) (qR HO192.out) (by decide)) hk (fun _ h => h.2)) (fun _ h => h.1)); replace HK := aM (KeepBut.trans (kB HK.out) hk (.inl rfl)); replace HB := aM (hb); replace HI0 := aM (hi); clear hb hk hi; obtain ⟨Ao30, co30, rfl⟩ := sL HO192) | ((with_reducible refine gate_callee (f := 51) rfl ?_); refine gL (some 34) Try.func51 #[.pointer (some ⟨g, 0, none⟩), .int .i64 (t190.length : Int)] ?_; (with_reducible refine (spec_reader_pick.calls k g s0_0 t194 (t190.length : Int) t201 t202 w0 _ ?side1 ?side2 A23.out).mono ?_); (case side1 => exact iS71 HI0.out); (case side2 => exact wS71 HB.out); rintro e w31 ⟨rfl, hi, hb, hk⟩; refine ⟨_, rfl, ?_⟩; replace HO192 := aM (Kd.R_mono (Kd.R_keep (IsS71.apart (show IsS71 w0 _ g s0_0 t194 from iS71 HI0.out) (qR HO192.out) (by decide)) hk (fun _ h => h.2)) (fun _ h => h.1)); replace HK := aM (KeepBut.trans (kB HK.out) hk (.inl rfl)); replace HB := aM (hb); replace HI0 := aM (hi); clear hb hk hi) | ((with_reducible refine gate_dst (N := 37) rfl ?_); refine iL ([(-1), a2, 0, 1] : List Int) [.int .i64 (-1), .int .i64 a2, .int .i64 0, .int .i64 1] ?_; intro v204 w32 ho33 hb hg_ hnew_; clear hg_ hnew_; (first | rw [← Ny203.out] at ho33 | (simp only [Int.reduceToNat] at ho33; rw [← Ny203.out] at ho33)); have HO205 := aM (Kd.R_lower (Kd.R_new' ho33 (Kd.R_lt (qR HO192.out))) (keep_size (w := w) (g := g) (row := none) (kB HK.out))); replace HO192 := aM (Kd.R_elder' (qR HO192.out) (Kd.R_base ho33) hb); replace HK := aM (KeepBut.trans (kB HK.out) (KeepBut.of_below hb g none) (.inl rfl)); replace HB := aM (below_step (wS71 HB.out) hb); replace HI0 := aM (IsS71.below (iS71 HI0.out) hb); clear hb ho33; obtain ⟨Ao34, co34, rfl⟩ := sL HO205) | ((with_reducible refine gate_callee (f := 52) rfl ?_); refine gL (some 38) Try.func52 #[.pointer (some ⟨g, 0, none⟩), .slice Ao34 y203.length co34] ?_; (with_reducible refine (spec_reader_one.calls k g s0_0 t202 _ _ y203 t206 t207 w0 _ ?side1 ?side2 ?side3 ?side4 ?side5 A24.out).mono ?_); (case side1 => exact iS71 HI0.out); (case side2 => exact wS71 HB.out); (case side3 => exact qC (Kd.R_reads' HO205.out).2.2); (case side4 => exact (Kd.R_reads' HO205.out).2.1); (case side5 => exact far_slice (IsS71.own_ne HI0.out HO205.out (by decide))); rintro e w35 ⟨rfl, hi, hb, hk⟩; refine ⟨_, rfl, ?_⟩; replace HO192 := aM (Kd.R_mono (Kd.R_keep (IsS71.apart (show IsS71 w0 _ g s0_0 t202 from iS71 HI0.out) (qR HO192.out) (by decide)) hk (fun _ h => h.2)) (fun _ h => h.1)); replace HO205 := aM (Kd.R_mono (Kd.R_keep (IsS71.apart (show IsS71 w0 _ g s0_0 t202 from iS71 HI0.out) (qR HO205.out) (by decide)) hk (fun _ h => h.2)) (fun _ h => h.1)); replace HK := aM (KeepBut.trans (kB HK.out) hk (.inl rfl)); replace HB := aM (hb); replace HI0 := aM (hi); clear hb hk hi; have p27 : 0 ≤ (t201 : Int) := oD; have q27 : (t201 : Int) < ((t190.length : Int) : Int) := oD; obtain ⟨go27, co27, eo27, gb27, gl27, cl27, HG27⟩ := Kd.R_form HO192.out (by omega); (first | cases eo27 | (injection eo27 with ea_ en_ ec_; (first | subst ea_ | (injection ea_ with ea_; subst ea_)); subst ec_; clear en_)); have GB27 := aM gb27; have GG27 := aM HG27; clear gb27 gl27 HG27; obtain ⟨hx27_0, hf27_0⟩ := Kd.R_celln 0 HO192.out (t201 : Int) p27 q27; replace p27 := eq_true p27; replace q27 := eq_true q27; have n_ := aM (Kd.R_mono (ok' := (fun k_ => some k_ ≠ (.slice Ao34 y203.length co34 : Value).ownBlock)) HO192.out (fun k_ hk => hk.2)); clear HO192; have HO192 := n_; clear n_; obtain ⟨hy36_, hz36_⟩ := Kd.R_celln 0 HO192.out (t201 : Int) oD oD; have HP36 := Kd.R_putg HO192.out (t201 : Int) t206) | ((with_reducible refine gate_store (t := 3) (p := 39) rfl ?_); refine store_event (t := 3) (p := 39) (v := ?vo_w37) (w1 := (w35.setCell ⟨go27, (t201 : Int).toNat, none⟩ (.int .i64 t206))) ?hg ?ho ?hn ?hr ?_; (case ho => rfl); (case hg => rfl); (case hn => rfl); (case hr => first | (go_simp; done) | (go_simp; rfl)); intro w37 hw; have hg : w35.grownBy w37 (some go27) := (by rw [hw]; exact HP36.2); have hp_ : Kd.R (Kd.int .i64) 3 w37 w.heap.size (fun k_ => some k_ ≠ (.slice Ao34 y203.length co34 : Value).ownBlock) (.slice (some ⟨go27, 0, none⟩) t190.length co30) y208 := (by rw [hw, Ny208.out]; exact HP36.1); clear HP36; replace HI0 := aM (IsS71.grown (iS71 HI0.out) hg (IsS71.own_ne HI0.out HO192.out (by decide))); replace HO205 := aM (Kd.R_after (v := (.slice (some ⟨go27, 0, none⟩) t190.length co30)) (v1 := (.slice (some ⟨go27, 0, none⟩) t190.length co30)) (ok := (fun _ => True)) (qR HO205.out) hg (.inl rfl)); replace HB := aM ((by rw [hw]; exact below_set (HB.out) (Nat.le_trans HL.out GB27.out) : Below w0.heap.size w0 w37)); replace HK := aM (KeepBut.trans (kB HK.out) (KeepBut.of_grown hg g) (Kd.R_base2 HO192.out)); replace HO192 := aM (hp_); clear hg hw hp_))
 go_ret
 exact ⟨_, qX, Kd.Q_of_R (by refine qR ?_; exact Kd.R_mono HO192.out (fun _ hk => trivial)), iS71 HI0.out, wS71 HB.out, kB HK.out⟩
def spec_anyPixel.l0 : Nat → Int → List Int → Int → List Int → Int → Option (List Int × Int)
 | 0, _, _, _, _, _ => none
 | k + 1, x1, x5, x6, x1000, x1001 => if x6 < x1 then ((spec_reader_pick.f k x1000 x1001 256).bind fun bt321 => (if x5.length < 17592186044416 then (spec_anyPixel.l0 k x1 (x5 ++ [bt321.1]) (wrap64 (x6 + 1)) x1000 bt321.2) else (none))) else ((spec_reader_spoil.f k x1000 x1001 x5 256).bind fun bt326 => (some (bt326.1, bt326.2)))
def spec_anyPixel.f (k : Nat) (s0_0 : List Int) (s0_1 : Int) (a1 : Int) : Option (List Int × Int) := spec_anyPixel.l0 k a1 (([] : List Int)) 0 s0_0 s0_1
theorem spec_anyPixel.mono_l : ∀ k, (∀ y0 y1 y2 y3 y4, LeO (spec_anyPixel.l0 k y0 y1 y2 y3 y4) (spec_anyPixel.l0 (k + 1) y0 y1 y2 y3 y4))
 | 0 => fun _ _ _ _ _ r h => by simp [spec_anyPixel.l0] at h
 | k + 1 => by
  have ih0 := spec_anyPixel.mono_l k
  ·intro y0 y1 y2 y3 y4
   unfold spec_anyPixel.l0
   repeat' first | (with_reducible first | exact ih0 _ _ _ _ _ | exact spec_reader_pick.mono _ _ _ _ | exact spec_reader_spoil.mono _ _ _ _ _ | exact lR | exact lN | refine lI ?_ ?_ | refine lB ?_ fun _ => ?_) | exact ih0 _ _ _ _ _ | exact spec_reader_pick.mono _ _ _ _ | exact spec_reader_spoil.mono _ _ _ _ _ | exact lN | refine lI ?_ ?_ | refine lB ?_ fun _ => ?_
theorem spec_anyPixel.mono : ∀ a0 a1 a2 k, LeO (spec_anyPixel.f k a0 a1 a2) (spec_anyPixel.f (k + 1) a0 a1 a2) := by
 intro a0 a1 a2 k
 have ih0 := spec_anyPixel.mono_l k
 unfold spec_anyPixel.f
 repeat' first | (with_reducible first | exact ih0 _ _ _ _ _ | exact spec_reader_pick.mono _ _ _ _ | exact spec_reader_spoil.mono _ _ _ _ _ | exact lR | exact lN | refine lI ?_ ?_ | refine lB ?_ fun _ => ?_) | exact ih0 _ _ _ _ _ | exact spec_reader_pick.mono _ _ _ _ | exact spec_reader_spoil.mono _ _ _ _ _ | exact lN | refine lI ?_ ?_ | refine lB ?_ fun _ => ?_
set_option maxHeartbeats 8000000 in
set_option maxRecDepth 100000 in
theorem spec_anyPixel.calls (k : Nat) (g : Nat) (s0_0 : List Int) (s0_1 : Int) (a1 : Int) (r1 : List Int) (r2 : Int) (w0 w : World) (hI : IsS71 w0 w g s0_0 s0_1) (hB : Below w0.heap.size w0 w) (h : spec_anyPixel.f k s0_0 s0_1 a1 = some (r1, r2)) :
  Calls Try.prog 63 #[.pointer (some ⟨g, 0, none⟩), .int .i64 a1] w fun e w' => ∃ v0_ : Value, e = .returned (v0_) ∧ Kd.Q (Kd.int .i64) 3 w' w.heap.size (fun _ => True) v0_ r1 ∧ IsS71 w0 w' g s0_0 r2 ∧ Below w0.heap.size w0 w' ∧ KeepBut w w' g none := by
 have HI0 := aM hI
 have HK := aM (KeepBut.refl w g none)
 have HL := aM hB.size
 clear hI
 have HW0 := aM hB.size
 have HB := aM hB
 clear hB
 unfold spec_anyPixel.f at h
 have H := h
 clear h
 obtain ⟨y318, hy318⟩ : ∃ y_ : List Int, y_ = (([] : List Int)) := ⟨_, rfl⟩
 replace H : (spec_anyPixel.l0 k a1 y318 0 s0_0 s0_1) = some (r1, r2) := rY hy318 H
 have Ny318 := aM hy318
 clear hy318
 have H' := aM H
 clear H
 go_enter Try.func63, Try.ntmps63
 go_wp2_with (first | ((with_reducible refine gate_dst (N := 7) rfl ?_); refine iL ([] : List Int) [] ?_; intro v319 w3 ho4 hb hg_ hnew_; clear hg_ hnew_; (first | rw [← Ny318.out] at ho4 | (simp only [Int.reduceToNat] at ho4; rw [← Ny318.out] at ho4)); have HO320 := lK ho4 HK; replace HK := aM (KeepBut.trans (kB HK.out) (KeepBut.of_below hb g none) (.inl rfl)); replace HB := aM (below_step (wS71 HB.out) hb); replace HI0 := aM (IsS71.below (iS71 HI0.out) hb); clear hb ho4))
 go_loopg [5, 6] k (fun kq v5 v6 w' => ∃ (x5_1 : List Int) (x6_1 : Int) (x1001_1 : Int), v6 = .int .i64 x6_1 ∧ Aside0 (spec_anyPixel.l0 kq a1 x5_1 x6_1 s0_0 x1001_1 = some (r1, r2)) ∧ Aside0 (kq ≤ k) ∧ Aside0 (Kd.R (Kd.int .i64) 3 w' w.heap.size (fun _ => True) v5 x5_1) ∧ Aside0 (IsS71 w0 w' g s0_0 x1001_1) ∧ Aside0 (KeepBut w w' g none) ∧ Aside0 (Below w0.heap.size w0 w'))
 case atStart => exact ⟨(y318), (0), (s0_1), qE, H', ⟨Nat.le_refl _⟩, ⟨by refine qR ?_; exact HO320.out⟩, ⟨iS71 HI0.out⟩, ⟨kB HK.out⟩, ⟨wS71 HB.out⟩⟩
 case round =>
  clear H'
  obtain ⟨x5_1, x6_1, x1001_1, rfl, HA, HK1, HO_5, HI0, HK, HB⟩ := hrel
  cases gk with
  | zero => exact absurd HA.out (by simp [spec_anyPixel.l0])
  | succ k1 =>
   have H := HA.out
   clear HA
   simp only [spec_anyPixel.l0] at H
   by_cases c5 : x6_1 < a1
   rotate_left
   ·rw [if_neg c5] at H
    have c5b0 : decide (x6_1 < a1) = false := decide_eq_false c5
    clear c5
    replace H := Option.bind_eq_some_iff.mp H
    obtain ⟨⟨t326, t329⟩, A100, H⟩ := H
    replace H : (some (t326, t329)) = some (r1, r2) := H
    have A10 := aM A100
    clear A100
    simp only [Option.some.injEq, Prod.mk.injEq] at H
    obtain ⟨rfl, rfl⟩ := H
    obtain ⟨Ao11, co11, rfl⟩ := sL HO_5
    go_wp2_with (first | ((with_reducible refine gate_callee (f := 67) rfl ?_); refine gL (some 20) Try.func67 #[.pointer (some ⟨g, 0, none⟩), .slice Ao11 x5_1.length co11, .int .i64 256] ?_; (with_reducible refine (spec_reader_spoil.calls k1 g s0_0 x1001_1 _ _ x5_1 256 t326 t329 w0 _ ?side1 ?side2 ?side3 ?side4 ?side5 A10.out).mono ?_); (case side1 => exact iS71 HI0.out); (case side2 => exact wS71 HB.out); (case side3 => exact qC (Kd.R_reads' HO_5.out).2.2); (case side4 => exact (Kd.R_reads' HO_5.out).2.1); (case side5 => exact far_slice (IsS71.own_ne HI0.out HO_5.out (by decide))); rintro e w12 ⟨v327, rfl, ho0, hi, hb, hk⟩; refine ⟨_, rfl, ?_⟩; have HO328 := aM (Kd.Q_lower (Kd.Q_new' ho0 (Kd.R_lt (qR HO_5.out))) (keep_size (w := w) (g := g) (row := none) (kB HK.out))); replace HO_5 := aM (Kd.R_mono (Kd.R_told (Kd.R_oldK (IsS71.apart (show IsS71 w0 _ g s0_0 x1001_1 from iS71 HI0.out) (qR HO_5.out) (by decide)) hk) (Kd.Q_base ho0)) (fun _ h_ => h_.1)); replace HK := aM (KeepBut.trans (kB HK.out) hk (.inl rfl)); replace HB := aM (hb); replace HI0 := aM (hi); clear hb hk hi ho0))
    go_ret
    exact ⟨_, qX, by (with_reducible repeat (first | apply Kd.Q_alloc | apply Kd.Q_drewN | apply Kd.Q_drew)); exact Kd.Q_mono HO328.out (fun _ hk => trivial), iS71 HI0.out, wS71 HB.out, kB HK.out⟩
   rw [if_pos c5] at H
   have c5b0 : decide (x6_1 < a1) = true := decide_eq_true c5
   clear c5
   replace H := Option.bind_eq_some_iff.mp H
   obtain ⟨⟨t321, t322⟩, A60, H⟩ := H
   replace H : (if x5_1.length < 17592186044416 then (spec_anyPixel.l0 k1 a1 (x5_1 ++ [t321]) (wrap64 (x6_1 + 1)) s0_0 t322) else (none)) = some (r1, r2) := H
   have A6 := aM A60
   clear A60
   replace H := iS H
   obtain ⟨c7, H⟩ := H
   have LMc7 := aM c7
   clear c7
   obtain ⟨y323, hy323⟩ : ∃ y_ : List Int, y_ = (x5_1 ++ [t321]) := ⟨_, rfl⟩
   replace H : (spec_anyPixel.l0 k1 a1 y323 (wrap64 (x6_1 + 1)) s0_0 t322) = some (r1, r2) := rY hy323 H
   have Ny323 := aM hy323
   clear hy323
   have H' := aM H
   clear H
   go_wp2_with (first | ((with_reducible refine gate_callee (f := 51) rfl ?_); refine gL (some 15) Try.func51 #[.pointer (some ⟨g, 0, none⟩), .int .i64 256] ?_; (with_reducible refine (spec_reader_pick.calls k1 g s0_0 x1001_1 256 t321 t322 w0 _ ?side1 ?side2 A6.out).mono ?_); (case side1 => exact iS71 HI0.out); (case side2 => exact wS71 HB.out); rintro e w8 ⟨rfl, hi, hb, hk⟩; refine ⟨_, rfl, ?_⟩; replace HO_5 := aM (Kd.R_mono (Kd.R_keep (IsS71.apart (show IsS71 w0 _ g s0_0 x1001_1 from iS71 HI0.out) (qR HO_5.out) (by decide)) hk (fun _ h => h.2)) (fun _ h => h.1)); replace HK := aM (KeepBut.trans (kB HK.out) hk (.inl rfl)); replace HB := aM (hb); replace HI0 := aM (hi); clear hb hk hi) | ((with_reducible refine gate_builtin (b := .append) (xs := #[.tmp 13, .tmp 16]) rfl ?_); at_builtin; refine Kd.R_append (Kd.int .i64) w.heap.size rfl (.tmp 13) (.tmp 16) 28 3 (.int .i64 0) 8 rfl Try.underlying28 info3 rfl (by decide) (by omega) u5 x5_1 t321 [.int .i64 t321] (fun _ => True) (fun _ => False) rfl rfl ?aP (fun _ hk => hk.elim) ?aF ?aO (Below.refl _ _) ?aS ?aL ?_; (case aP => exact rfl); (case aF => exact (fun _ _ => trivial)); (case aO => exact (qR HO_5.out)); (case aS => exact (keep_size (w := w) (g := g) (row := none) (kB HK.out))); (case aL => have := LMc7.out; omega); intro v324 w9 ho hb hg hat; rw [← Ny323.out] at ho; replace HB := aM (below_weaken (wS71 HB.out) HL.out hb); replace HI0 := aM (IsS71.grown (iS71 HI0.out) hg (IsS71.own_ne HI0.out HO_5.out (by decide))); replace HK := aM (KeepBut.trans (kB HK.out) (KeepBut.of_grown hg g) (Kd.R_base2 HO_5.out)); have HO325 := aM (ho); clear HO_5; clear ho hb hg hat))
   go_roundg k1
   case measure => have := HK1.out; omega
   case rel => exact ⟨(y323), (wrap64 (x6_1 + 1)), (t322), qE, H', ⟨by have := HK1.out; omega⟩, ⟨by refine qR ?_; exact HO325.out⟩, ⟨iS71 HI0.out⟩, ⟨kB HK.out⟩, ⟨wS71 HB.out⟩⟩
end Go.Proofs.Ytbldmekplkjfiaa.P
