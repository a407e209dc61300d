/- Contracts and row, written by a program of this place out of the translation: the call answers true and its argument reads as before, for every input; no condition. -/
import Derived.Test.YtbldmekplkjfiaaK0
import Derived.Test.YtbldmekplkjfiaaK1
import Derived.Test.YtbldmekplkjfiaaK2
import Derived.Test.YtbldmekplkjfiaaK3
namespace Go.Proofs.Ytbldmekplkjfiaa.P
open Go.RowKit Go.Proofs.YtbldmekplkjfiaaW.PrintWords Go.Proofs.YtbldmekplkjfiaaW.PrintLast Go.Proofs.YtbldmekplkjfiaaW.PrintMore
attribute [local go_sem] max2_int min2_int max_two min_two max_three min_three max_four min_four   -- for this text's walks alone
set_option linter.unusedVariables false
set_option linter.unusedSimpArgs false
mutual
def laws_FnNearestColor.j0 : Nat → List (List Int) → List Int → Int → Bool → Option (Bool)
 | 0, _, _, _, _ => none
 | k + 1, x3, x4, x5, x36 => if x36 = true then ((spec_NearestColor.f k x3 x4).bind fun t610 => (some (x5 == t610))) else (laws_FnNearestColor.l0 k x3 x4 x5 (([] : List Int)) 0)
def laws_FnNearestColor.l0 : Nat → List (List Int) → List Int → Int → List Int → Int → Option (Bool)
 | 0, _, _, _, _, _ => none
 | k + 1, x3, x4, x5, x6, x7 => if x7 < (x3.length : Int) then (laws_FnNearestColor.l1 k x3 x4 x5 x6 x7 0 0) else (laws_FnNearestColor.l2 k x3 x5 x6 0)
def laws_FnNearestColor.l1 : Nat → List (List Int) → List Int → Int → List Int → Int → Int → Int → Option (Bool)
 | 0, _, _, _, _, _, _, _ => none
 | k + 1, x3, x4, x5, x6, x7, x8, x9 => if x9 < (x4.length : Int) then (if 0 ≤ x7 then (if x7 < (x3.length : Int) then (if 0 ≤ x9 then (if x9 < ((rd_L2 x3 x7).length : Int) then (laws_FnNearestColor.l1 k x3 x4 x5 x6 x7 (wrap64 (x8 + (wrap64 ((wrap64 ((rd (rd_L2 x3 x7) x9) - (rd x4 x9))) * (wrap64 ((rd (rd_L2 x3 x7) x9) - (rd x4 x9))))))) (wrap64 (x9 + 1))) else (none)) else (none)) else (none)) else (none)) else (if x6.length < 17592186044416 then (laws_FnNearestColor.l0 k x3 x4 x5 (x6 ++ [x8]) (wrap64 (x7 + 1))) else (none))
def laws_FnNearestColor.l2 : Nat → List (List Int) → Int → List Int → Int → Option (Bool)
 | 0, _, _, _, _ => none
 | k + 1, x3, x5, x6, x10 => if x10 < (x6.length : Int) then (if 0 ≤ x10 then (if 0 ≤ x5 then (if x5 < (x6.length : Int) then (if (rd x6 x10) < (rd x6 x5) then (some false) else (if (rd x6 x10) = (rd x6 x5) then (if x10 < x5 then (some false) else (laws_FnNearestColor.l2 k x3 x5 x6 (wrap64 (x10 + 1)))) else (laws_FnNearestColor.l2 k x3 x5 x6 (wrap64 (x10 + 1))))) else (none)) else (none)) else (none)) else (if 0 ≤ x5 then (if x5 < (x3.length : Int) then ((impl_NearestColor.f k x3 (rd_L2 x3 x5)).bind fun t628 => (if 0 ≤ t628 then (if t628 < (x3.length : Int) then ((laws_equalInts.f k (rd_L2 x3 t628) (rd_L2 x3 x5)).bind fun t631 => (some t631)) else (none)) else (none))) else (none)) else (none))
end
def laws_FnNearestColor.f (k : Nat) (l0 : List Int) : Option (Bool) := if (l0.length : Int) > 1048576 then (some true) else ((spec_DrawNearestColor.f k l0).bind fun bt602 => ((impl_NearestColor.f k bt602.1 bt602.2).bind fun t608 => ((spec_NearestColor.f k bt602.1 bt602.2).bind fun t609 => (if t608 = t609 then (if t608 < 0 then (laws_FnNearestColor.j0 k bt602.1 bt602.2 t608 true) else (laws_FnNearestColor.j0 k bt602.1 bt602.2 t608 (decide (t608 ≥ (bt602.1.length : Int))))) else (laws_FnNearestColor.j0 k bt602.1 bt602.2 t608 true)))))
theorem laws_FnNearestColor.mono_l : ∀ k, (∀ y0 y1 y2 y3, LeO (laws_FnNearestColor.j0 k y0 y1 y2 y3) (laws_FnNearestColor.j0 (k + 1) y0 y1 y2 y3)) ∧ (∀ y0 y1 y2 y3 y4, LeO (laws_FnNearestColor.l0 k y0 y1 y2 y3 y4) (laws_FnNearestColor.l0 (k + 1) y0 y1 y2 y3 y4)) ∧ (∀ y0 y1 y2 y3 y4 y5 y6, LeO (laws_FnNearestColor.l1 k y0 y1 y2 y3 y4 y5 y6) (laws_FnNearestColor.l1 (k + 1) y0 y1 y2 y3 y4 y5 y6)) ∧ (∀ y0 y1 y2 y3, LeO (laws_FnNearestColor.l2 k y0 y1 y2 y3) (laws_FnNearestColor.l2 (k + 1) y0 y1 y2 y3))
 | 0 => ⟨fun _ _ _ _ r h => by simp [laws_FnNearestColor.j0] at h, fun _ _ _ _ _ r h => by simp [laws_FnNearestColor.l0] at h, fun _ _ _ _ _ _ _ r h => by simp [laws_FnNearestColor.l1] at h, fun _ _ _ _ r h => by simp [laws_FnNearestColor.l2] at h⟩
 | k + 1 => by
  obtain ⟨ih0, ih1, ih2, ih3⟩ := laws_FnNearestColor.mono_l k
  refine ⟨?_, ?_, ?_, ?_⟩
  all_goals intros
  all_goals first | unfold laws_FnNearestColor.j0 | unfold laws_FnNearestColor.l0 | unfold laws_FnNearestColor.l1 | unfold laws_FnNearestColor.l2
  all_goals repeat' first | (with_reducible first | exact ih0 _ _ _ _ | exact ih1 _ _ _ _ _ | exact ih2 _ _ _ _ _ _ _ | exact ih3 _ _ _ _ | exact impl_NearestColor.mono _ _ _ | exact laws_equalInts.mono _ _ _ | exact spec_DrawNearestColor.mono _ _ | exact spec_NearestColor.mono _ _ _ | exact lR | exact lN | refine lI ?_ ?_ | refine lB ?_ fun _ => ?_) | exact ih0 _ _ _ _ | exact ih1 _ _ _ _ _ | exact ih2 _ _ _ _ _ _ _ | exact ih3 _ _ _ _ | exact impl_NearestColor.mono _ _ _ | exact laws_equalInts.mono _ _ _ | exact spec_DrawNearestColor.mono _ _ | exact spec_NearestColor.mono _ _ _ | exact lN | refine lI ?_ ?_ | refine lB ?_ fun _ => ?_
theorem laws_FnNearestColor.mono : ∀ a0 k, LeO (laws_FnNearestColor.f k a0) (laws_FnNearestColor.f (k + 1) a0) := by
 intro a0 k
 obtain ⟨ih0, ih1, ih2, ih3⟩ := laws_FnNearestColor.mono_l k
 unfold laws_FnNearestColor.f
 repeat' first | (with_reducible first | exact ih0 _ _ _ _ | exact ih1 _ _ _ _ _ | exact ih2 _ _ _ _ _ _ _ | exact ih3 _ _ _ _ | exact impl_NearestColor.mono _ _ _ | exact laws_equalInts.mono _ _ _ | exact spec_DrawNearestColor.mono _ _ | exact spec_NearestColor.mono _ _ _ | exact lR | exact lN | refine lI ?_ ?_ | refine lB ?_ fun _ => ?_) | exact ih0 _ _ _ _ | exact ih1 _ _ _ _ _ | exact ih2 _ _ _ _ _ _ _ | exact ih3 _ _ _ _ | exact impl_NearestColor.mono _ _ _ | exact laws_equalInts.mono _ _ _ | exact spec_DrawNearestColor.mono _ _ | exact spec_NearestColor.mono _ _ _ | exact lN | refine lI ?_ ?_ | refine lB ?_ fun _ => ?_
def laws_FnNearestColor.T15 : Bool × List (List Nat × List Nat) := (true, [([], []), ([], []), ([], []), ([1, 2], [1, 2]), ([3], [3]), ([], []), ([4, 5], [4, 5]), ([6], [6]), ([], []), ([], []), ([8, 9], [8, 9]), ([10], [10]), ([7, 11], [7, 11]), ([], []), ([], []), ([13, 14], [13, 14]), ([15], [15]), ([], []), ([16, 17], [16, 17]), ([18], [18]), ([], []), ([], []), ([20, 21], [20, 21]), ([22], [22]), ([19, 23], [19, 23]), ([12, 24], [12, 24]), ([0, 25], [0, 25]), ([26, 0, 1, 2, 3, 4, 5, 6, 7, 8, 9, 10, 11, 12, 13, 14, 15, 16, 17, 18, 19, 20, 21, 22, 23, 24, 25, 26], [0, 26])])
def laws_FnNearestColor.B15 : List Nat := [0, 0, 0, 6, 14, 0, 62, 126, 0, 0, 768, 1792, 4094, 0, 0, 24576, 57344, 0, 253952, 516096, 0, 0, 3145728, 7340032, 16769024, 33554430, 67108863, 134217727]
theorem laws_FnNearestColor.tab15 : rtab .any (opsOf Try.f13 15) = laws_FnNearestColor.T15 := by kernel_rfl
theorem laws_FnNearestColor.bits15 : waitsOk laws_FnNearestColor.T15.2 laws_FnNearestColor.B15 = true := by kernel_rfl
def laws_FnNearestColor.T20 : Bool × List (List Nat × List Nat) := (true, [([], []), ([], []), ([0, 1], [0, 1]), ([2], [2]), ([], []), ([], []), ([4, 5], [4, 5]), ([6], [6]), ([3, 7], [3, 7]), ([8], [8]), ([9], [9]), ([9], [9]), ([10, 11, 9], [9, 10, 11]), ([12, 9], [9, 12]), ([9], [9]), ([9], [9]), ([14, 15, 9], [9, 14, 15]), ([16, 9], [9, 16]), ([13, 17, 9], [9, 13, 17]), ([18, 9, 9], [9, 18]), ([19], [19]), ([19], [19]), ([20, 21, 19], [19, 20, 21]), ([19, 22, 9], [9, 19, 22]), ([9, 23], [9, 23])])
def laws_FnNearestColor.B20 : List Nat := [0, 0, 3, 7, 0, 0, 48, 112, 255, 511, 1023, 1023, 4095, 8191, 1023, 1023, 50175, 115711, 262143, 524287, 1048575, 1048575, 4194303, 8388607, 16777215]
theorem laws_FnNearestColor.tab20 : rtab .any (opsOf Try.f13 20) = laws_FnNearestColor.T20 := by kernel_rfl
theorem laws_FnNearestColor.bits20 : waitsOk laws_FnNearestColor.T20.2 laws_FnNearestColor.B20 = true := by kernel_rfl
def laws_FnNearestColor.T22 : Bool × List (List Nat × List Nat) := (true, [([], []), ([], []), ([], []), ([], []), ([2, 3], [2, 3]), ([4], [4]), ([1, 5], [1, 5]), ([0, 6], [0, 6]), ([7], [7]), ([], []), ([], []), ([9, 10], [9, 10]), ([11], [11]), ([8, 12, 6], [8, 12]), ([13, 13, 0, 1, 2, 3, 4, 5, 6, 7, 8, 9, 10, 11, 12, 13], [13])])
def laws_FnNearestColor.B22 : List Nat := [0, 0, 0, 0, 12, 28, 62, 127, 255, 0, 0, 1536, 3584, 8191, 16383]
theorem laws_FnNearestColor.tab22 : rtab .any (opsOf Try.f13 22) = laws_FnNearestColor.T22 := by kernel_rfl
theorem laws_FnNearestColor.bits22 : waitsOk laws_FnNearestColor.T22.2 laws_FnNearestColor.B22 = true := by kernel_rfl
set_option maxHeartbeats 8000000 in
set_option maxRecDepth 100000 in
theorem laws_FnNearestColor.calls (k : Nat) (A0 : Option Addr) (c0 : Nat) (l0 : List Int) (r : Bool) (w : World) (hr0 : Kd.C (Kd.int .u8) w A0 l0.length l0) (hc0 : l0.length ≤ c0) (h : laws_FnNearestColor.f k l0 = some r) :
  Calls Try.prog 13 #[.slice A0 l0.length c0] w fun e w' => e = .returned (.bool r) ∧ Below w.heap.size w w' := by
 have HR0 := aM hr0
 have HC0 := aM hc0
 clear hr0 hc0
 have HB := aM (Below.refl w.heap.size w)
 unfold laws_FnNearestColor.f at h
 have H := h
 clear h
 by_cases c2 : (l0.length : Int) > 1048576
 ·rw [if_pos c2] at H
  have c2b0 : decide (1048576 < (l0.length : Int)) = true := decide_eq_true c2
  have c2b1 : decide (1048576 < l0.length) = true := decide_eq_true (by omega)
  clear c2
  obtain rfl := Option.some.inj H
  go_enter Try.func13, Try.ntmps13
  go_wp2
  go_ret
  exact ⟨qX, by exact qW HB.out⟩
 rw [if_neg c2] at H
 have c2b0 : decide (1048576 < (l0.length : Int)) = false := decide_eq_false c2
 have c2b1 : decide (1048576 < l0.length) = false := decide_eq_false (by omega)
 clear c2
 replace H := Option.bind_eq_some_iff.mp H
 obtain ⟨⟨t602, t605⟩, A30, H⟩ := H
 replace H : ((impl_NearestColor.f k t602 t605).bind fun t608 => ((spec_NearestColor.f k t602 t605).bind fun t609 => (if t608 = t609 then (if t608 < 0 then (laws_FnNearestColor.j0 k t602 t605 t608 true) else (laws_FnNearestColor.j0 k t602 t605 t608 (decide (t608 ≥ (t602.length : Int))))) else (laws_FnNearestColor.j0 k t602 t605 t608 true)))) = some r := H
 have A3 := aM A30
 clear A30
 replace H := Option.bind_eq_some_iff.mp H
 obtain ⟨t608, A40, H⟩ := H
 replace H : ((spec_NearestColor.f k t602 t605).bind fun t609 => (if t608 = t609 then (if t608 < 0 then (laws_FnNearestColor.j0 k t602 t605 t608 true) else (laws_FnNearestColor.j0 k t602 t605 t608 (decide (t608 ≥ (t602.length : Int))))) else (laws_FnNearestColor.j0 k t602 t605 t608 true))) = some r := H
 have A4 := aM A40
 clear A40
 have HC5 := aM H
 clear H
 go_enter Try.func13, Try.ntmps13
 go_upto_region 5 with (first | ((with_reducible refine gate_callee (f := 37) rfl ?_); refine gL (some 16) Try.func37 #[.slice A0 l0.length c0] ?_; (with_reducible refine (spec_DrawNearestColor.calls k _ _ l0 t602 t605 _ ?side1 ?side2 A3.out).mono ?_); (case side1 => exact qC HR0.out); (case side2 => exact HC0.out); rintro e w6 ⟨v603, v606, rfl, ho0, ho1, hb⟩; refine ⟨_, rfl, ?_⟩; have HO604 := aM (Kd.N_lower (Kd.N_mono (ok' := fun k_ => some k_ ≠ (v606 : Value).ownBlock) ho0 (fun k_ hk_ => hk_.2)) (below_size (qW HB.out))); have HO607 := aM (Kd.Q_lower (Kd.Q_mono (ok' := fun k_ => True) ho1 (fun _ hk_ => trivial)) (below_size (qW HB.out))); replace HB := bS HB hb; clear hb ho0 ho1; obtain ⟨Ao7, co7, eo7⟩ := Kd.N_slice HO604.out; subst eo7; obtain ⟨Ao8, co8, eo8, _⟩ := Kd.Q_slice HO607.out; subst eo8) | ((with_reducible refine gate_callee (f := 35) rfl ?_); refine gL (some 21) Try.func35 #[.slice Ao7 t602.length co7, .slice Ao8 t605.length co8] ?_; (with_reducible refine (impl_NearestColor.calls k _ _ t602 _ _ t605 t608 _ ?side1 ?side2 ?side3 ?side4 A4.out).mono ?_); (case side1 => exact qC (Kd.N_reads' HO604.out).2.2); (case side2 => exact (Kd.N_reads' HO604.out).2.1); (case side3 => exact qC (Kd.Q_reads' HO607.out).2.2); (case side4 => exact (Kd.Q_reads' HO607.out).2.1); rintro e w9 ⟨rfl, hb⟩; refine ⟨_, rfl, ?_⟩; replace HO604 := aM (Kd.N_below (by (with_reducible repeat (first | apply Kd.N_alloc | apply Kd.N_drewN | apply Kd.N_drew)); exact HO604.out) hb); replace HO607 := aM (Kd.Q_below (qQ HO607.out) hb); replace HB := bS HB hb; clear hb))
 (try simp only [Act.put, List.setIfInBounds_toArray, List.set_cons_zero, List.set_cons_succ])
 go_cut [36] (fun v36 wc => ∃ (kq : Nat) (x36_4 : Bool), v36 = .bool x36_4 ∧ Aside0 (laws_FnNearestColor.j0 kq t602 t605 t608 x36_4 = some r) ∧ Aside0 (kq ≤ k) ∧ Aside0 (Kd.N (Kd.slice 3 (Kd.int .i64)) 28 wc w.heap.size (fun k_ => some k_ ≠ ((.slice Ao8 t605.length co8) : Value).ownBlock) (.slice Ao7 t602.length co7) t602) ∧ Aside0 (Kd.Q (Kd.int .i64) 3 wc w.heap.size (fun _ => True) (.slice Ao8 t605.length co8) t605) ∧ Aside0 (Below w.heap.size w wc))
 case first =>
  have H := HC5.out
  clear HC5
  replace H := Option.bind_eq_some_iff.mp H
  obtain ⟨t609, A100, H⟩ := H
  replace H : (if t608 = t609 then (if t608 < 0 then (laws_FnNearestColor.j0 k t602 t605 t608 true) else (laws_FnNearestColor.j0 k t602 t605 t608 (decide (t608 ≥ (t602.length : Int))))) else (laws_FnNearestColor.j0 k t602 t605 t608 true)) = some r := H
  have A10 := aM A100
  clear A100
  by_cases c11 : t608 = t609
  rotate_left
  ·rw [if_neg c11] at H
   have c11b0 : (t608 == t609) = false := beq_eq_false_iff_ne.mpr c11
   have c11b1 : (t608 != t609) = true := bne_iff_ne.mpr c11
   (first | rw [c11b0] | (simp only [i64_w, i32_w]; rw [c11b0]) | skip)
   have H' := aM H
   clear H
   go_wp2_with (first | ((with_reducible refine gate_callee (f := 33) rfl ?_); refine gL (some 25) Try.func33 #[.slice Ao7 t602.length co7, .slice Ao8 t605.length co8] ?_; (with_reducible refine (spec_NearestColor.calls k _ _ t602 _ _ t605 t609 _ ?side1 ?side2 ?side3 ?side4 A10.out).mono ?_); (case side1 => exact qC (Kd.N_reads' HO604.out).2.2); (case side2 => exact (Kd.N_reads' HO604.out).2.1); (case side3 => exact qC (Kd.Q_reads' HO607.out).2.2); (case side4 => exact (Kd.Q_reads' HO607.out).2.1); rintro e w' ⟨rfl, ⟨nd, rfl⟩⟩; refine ⟨_, rfl, ?_⟩))
   go_meet
   case rel => exact ⟨_, (true), qE, H', ⟨by first | omega | exact Nat.le_refl _⟩, ⟨by (with_reducible repeat (first | apply Kd.N_alloc | apply Kd.N_drewN | apply Kd.N_drew)); exact HO604.out⟩, ⟨by (with_reducible repeat (first | apply Kd.Q_alloc | apply Kd.Q_drewN | apply Kd.Q_drew)); exact HO607.out⟩, ⟨by exact qW HB.out⟩⟩
  rw [if_pos c11] at H
  have c11b0 : (t608 == t609) = true := beq_iff_eq.mpr c11
  have c11b1 : (t608 != t609) = false := bne_eq_false_iff_eq.mpr c11
  clear c11
  (first | rw [c11b0] | (simp only [i64_w, i32_w]; rw [c11b0]) | skip)
  by_cases c12 : t608 < 0
  ·rw [if_pos c12] at H
   have c12b0 : decide (t608 < 0) = true := decide_eq_true c12
   clear c12
   have H' := aM H
   clear H
   go_wp2_with (first | ((with_reducible refine gate_callee (f := 33) rfl ?_); refine gL (some 25) Try.func33 #[.slice Ao7 t602.length co7, .slice Ao8 t605.length co8] ?_; (with_reducible refine (spec_NearestColor.calls k _ _ t602 _ _ t605 t609 _ ?side1 ?side2 ?side3 ?side4 A10.out).mono ?_); (case side1 => exact qC (Kd.N_reads' HO604.out).2.2); (case side2 => exact (Kd.N_reads' HO604.out).2.1); (case side3 => exact qC (Kd.Q_reads' HO607.out).2.2); (case side4 => exact (Kd.Q_reads' HO607.out).2.1); rintro e w' ⟨rfl, ⟨nd, rfl⟩⟩; refine ⟨_, rfl, ?_⟩))
   go_meet
   case rel => exact ⟨_, (true), qE, H', ⟨by first | omega | exact Nat.le_refl _⟩, ⟨by (with_reducible repeat (first | apply Kd.N_alloc | apply Kd.N_drewN | apply Kd.N_drew)); exact HO604.out⟩, ⟨by (with_reducible repeat (first | apply Kd.Q_alloc | apply Kd.Q_drewN | apply Kd.Q_drew)); exact HO607.out⟩, ⟨by exact qW HB.out⟩⟩
  rw [if_neg c12] at H
  have c12b0 : decide (t608 < 0) = false := decide_eq_false c12
  clear c12
  have H' := aM H
  clear H
  go_wp2_with (first | ((with_reducible refine gate_callee (f := 33) rfl ?_); refine gL (some 25) Try.func33 #[.slice Ao7 t602.length co7, .slice Ao8 t605.length co8] ?_; (with_reducible refine (spec_NearestColor.calls k _ _ t602 _ _ t605 t609 _ ?side1 ?side2 ?side3 ?side4 A10.out).mono ?_); (case side1 => exact qC (Kd.N_reads' HO604.out).2.2); (case side2 => exact (Kd.N_reads' HO604.out).2.1); (case side3 => exact qC (Kd.Q_reads' HO607.out).2.2); (case side4 => exact (Kd.Q_reads' HO607.out).2.1); rintro e w' ⟨rfl, ⟨nd, rfl⟩⟩; refine ⟨_, rfl, ?_⟩))
  go_meet
  case rel => exact ⟨_, (decide (t608 ≥ (t602.length : Int))), qE, H', ⟨by first | omega | exact Nat.le_refl _⟩, ⟨by (with_reducible repeat (first | apply Kd.N_alloc | apply Kd.N_drewN | apply Kd.N_drew)); exact HO604.out⟩, ⟨by (with_reducible repeat (first | apply Kd.Q_alloc | apply Kd.Q_drewN | apply Kd.Q_drew)); exact HO607.out⟩, ⟨by exact qW HB.out⟩⟩
 case rest =>
  clear HC5
  try clear c2
  try clear c2b0
  try clear c2b1
  try clear c11
  try clear c11b0
  try clear c11b1
  try clear c12
  try clear c12b0
  obtain ⟨kq, x36_4, rfl, HA, HJ4, HO_3, HO_4, HB⟩ := hcut
  cases kq with
  | zero => exact absurd HA.out (by simp [laws_FnNearestColor.j0])
  | succ kj4 =>
   have H := HA.out
   clear HA
   simp only [laws_FnNearestColor.j0] at H
   by_cases c13 : x36_4 = true
   ·subst c13
    have H1 : ((spec_NearestColor.f kj4 t602 t605).bind fun t610 => (some (t608 == t610))) = some r := by rw [if_pos rfl] at H; exact H
    clear H
    have H := H1
    clear H1
    replace H := Option.bind_eq_some_iff.mp H
    obtain ⟨t610, A140, H⟩ := H
    replace H : (some (t608 == t610)) = some r := H
    have A14 := aM A140
    clear A140
    obtain rfl := Option.some.inj H
    go_wp2_with (first | ((with_reducible refine gate_callee (f := 33) rfl ?_); refine gL (some 40) Try.func33 #[.slice Ao7 t602.length co7, .slice Ao8 t605.length co8] ?_; (with_reducible refine (spec_NearestColor.calls kj4 _ _ t602 _ _ t605 t610 _ ?side1 ?side2 ?side3 ?side4 A14.out).mono ?_); (case side1 => exact qC (Kd.N_reads' HO_3.out).2.2); (case side2 => exact (Kd.N_reads' HO_3.out).2.1); (case side3 => exact qC (Kd.Q_reads' HO_4.out).2.2); (case side4 => exact (Kd.Q_reads' HO_4.out).2.1); rintro e w' ⟨rfl, ⟨nd, rfl⟩⟩; refine ⟨_, rfl, ?_⟩))
    go_ret
    exact ⟨qX, by exact qW HB.out⟩
   replace c13 := Bool.eq_false_iff.mpr c13
   subst c13
   have H1 : (laws_FnNearestColor.l0 kj4 t602 t605 t608 (([] : List Int)) 0) = some r := by rw [if_neg (show ¬ (false = true) by decide)] at H; exact H
   clear H
   have H := H1
   clear H1
   obtain ⟨y611, hy611⟩ : ∃ y_ : List Int, y_ = (([] : List Int)) := ⟨_, rfl⟩
   replace H : (laws_FnNearestColor.l0 kj4 t602 t605 t608 y611 0) = some r := rY hy611 H
   have Ny611 := aM hy611
   clear hy611
   have H' := aM H
   clear H
   go_wp2_with (first | ((with_reducible refine gate_dst (N := 42) rfl ?_); (try (refine gate_guard (by rfl) ?_; dsimp only)); refine iL ([] : List Int) [] ?_; intro v612 w15 ho16 hb hg_ hnew_; clear hg_ hnew_; (first | rw [← Ny611.out] at ho16 | (simp only [Int.reduceToNat] at ho16; rw [← Ny611.out] at ho16)); replace HO_3 := aM (Kd.N_elder' (by (with_reducible repeat (first | apply Kd.N_alloc | apply Kd.N_drewN | apply Kd.N_drew)); exact HO_3.out) (Kd.R_base ho16) hb); have HO613 := aM (Kd.R_lower (Kd.R_new' ho16 (Kd.Q_lt (qQ HO_4.out))) (below_size (qW HB.out))); replace HO_4 := aM (Kd.Q_elder' (qQ HO_4.out) (Kd.R_base ho16) hb); replace HB := bS HB hb; clear hb ho16))
   go_loopg [6, 7] kj4 (fun kq v6 v7 w' => ∃ (x6_2 : List Int) (x7_2 : Int), v7 = .int .i64 x7_2 ∧ Aside0 (laws_FnNearestColor.l0 kq t602 t605 t608 x6_2 x7_2 = some r) ∧ Aside0 (kq ≤ kj4) ∧ Aside0 (Kd.N (Kd.slice 3 (Kd.int .i64)) 28 w' w.heap.size (fun k_ => some k_ ≠ ((.slice Ao8 t605.length co8) : Value).ownBlock ∧ some k_ ≠ (v6 : Value).ownBlock) (.slice Ao7 t602.length co7) t602) ∧ Aside0 (Kd.Q (Kd.int .i64) 3 w' w.heap.size (fun k_ => some k_ ≠ (v6 : Value).ownBlock) (.slice Ao8 t605.length co8) t605) ∧ Aside0 (Kd.R (Kd.int .i64) 3 w' w.heap.size (fun k_ => some k_ ≠ ((.slice Ao8 t605.length co8) : Value).ownBlock) v6 x6_2) ∧ Aside0 (Below w.heap.size w w'))
   case atStart => exact ⟨(y611), (0), qE, H', ⟨Nat.le_refl _⟩, ⟨by (with_reducible repeat (first | apply Kd.N_alloc | apply Kd.N_drewN | apply Kd.N_drew)); exact HO_3.out⟩, ⟨by (with_reducible repeat (first | apply Kd.Q_alloc | apply Kd.Q_drewN | apply Kd.Q_drew)); exact Kd.Q_mono HO_4.out (fun _ hk => hk.2)⟩, ⟨by refine qR ?_; exact Kd.R_mono HO613.out (fun _ hk => hk.2)⟩, ⟨by exact qW HB.out⟩⟩
   case round =>
    clear H'
    try clear c2
    try clear c2b0
    try clear c2b1
    try clear c11
    try clear c11b0
    try clear c11b1
    try clear c12
    try clear c12b0
    try clear c13
    obtain ⟨x6_2, x7_2, rfl, HA, HK2, HO_3, HO_4, HO_6, HB⟩ := hrel
    cases gk with
    | zero => exact absurd HA.out (by simp [laws_FnNearestColor.l0])
    | succ k2 =>
     have H := HA.out
     clear HA
     simp only [laws_FnNearestColor.l0] at H
     by_cases c17 : x7_2 < (t602.length : Int)
     ·rw [if_pos c17] at H
      have c17b0 : decide (x7_2 < (t602.length : Int)) = true := decide_eq_true c17
      clear c17
      have H' := aM H
      clear H
      go_wp2
      go_loopg [8, 9] k2 (fun kq v8 v9 w' => ∃ (x8_3 : Int) (x9_3 : Int), v8 = .int .i64 x8_3 ∧ v9 = .int .i64 x9_3 ∧ Aside0 (laws_FnNearestColor.l1 kq t602 t605 t608 x6_2 x7_2 x8_3 x9_3 = some r) ∧ Aside0 (kq ≤ k2) ∧ Aside0 (Kd.N (Kd.slice 3 (Kd.int .i64)) 28 w' w.heap.size (fun k_ => some k_ ≠ ((.slice Ao8 t605.length co8) : Value).ownBlock ∧ some k_ ≠ (u6 : Value).ownBlock) (.slice Ao7 t602.length co7) t602) ∧ Aside0 (Kd.Q (Kd.int .i64) 3 w' w.heap.size (fun k_ => some k_ ≠ (u6 : Value).ownBlock) (.slice Ao8 t605.length co8) t605) ∧ Aside0 (Kd.R (Kd.int .i64) 3 w' w.heap.size (fun k_ => some k_ ≠ ((.slice Ao8 t605.length co8) : Value).ownBlock) u6 x6_2) ∧ Aside0 (Below w.heap.size w w'))
      case atStart => exact ⟨(0), (0), qE, qE, H', ⟨Nat.le_refl _⟩, ⟨by (with_reducible repeat (first | apply Kd.N_alloc | apply Kd.N_drewN | apply Kd.N_drew)); exact HO_3.out⟩, ⟨by (with_reducible repeat (first | apply Kd.Q_alloc | apply Kd.Q_drewN | apply Kd.Q_drew)); exact HO_4.out⟩, ⟨by refine qR ?_; exact HO_6.out⟩, ⟨by exact qW HB.out⟩⟩
      case round =>
       clear H'
       try clear c2
       try clear c2b0
       try clear c2b1
       try clear c11
       try clear c11b0
       try clear c11b1
       try clear c12
       try clear c12b0
       try clear c13
       try clear c17
       try clear c17b0
       obtain ⟨x8_3, x9_3, rfl, rfl, HA, HK3, HO_3, HO_4, HO_6, HB⟩ := hrel
       cases gk with
       | zero => exact absurd HA.out (by simp [laws_FnNearestColor.l1])
       | succ k3 =>
        have H := HA.out
        clear HA
        simp only [laws_FnNearestColor.l1] at H
        by_cases c18 : x9_3 < (t605.length : Int)
        rotate_left
        ·rw [if_neg c18] at H
         have c18b0 : decide (x9_3 < (t605.length : Int)) = false := decide_eq_false c18
         clear c18
         replace H := iS H
         obtain ⟨c24, H⟩ := H
         have LMc24 := aM c24
         clear c24
         obtain ⟨y620, hy620⟩ : ∃ y_ : List Int, y_ = (x6_2 ++ [x8_3]) := ⟨_, rfl⟩
         replace H : (laws_FnNearestColor.l0 k3 t602 t605 t608 y620 (wrap64 (x7_2 + 1))) = some r := rY hy620 H
         have Ny620 := aM hy620
         clear hy620
         have H' := aM H
         clear H
         go_wp2_with (first | ((with_reducible refine gate_builtin (b := .append) (xs := #[.tmp 82, .tmp 84]) rfl ?_); (try (refine gate_guard (by rfl) ?_; dsimp only)); at_builtin; refine Kd.R_append (Kd.int .i64) (w0 := w) w.heap.size rfl (.tmp 82) (.tmp 84) 28 3 (.int .i64 0) 8 rfl Try.underlying28 info3 rfl (by decide) (by omega) u6 x6_2 x8_3 [.int .i64 x8_3] (fun k_ => some k_ ≠ (.slice Ao8 t605.length co8 : Value).ownBlock) (fun _ => False) rfl rfl ?aP (fun _ hk => hk.elim) ?aF ?aO ?aB ?aS ?aL ?_; (case aP => exact rfl); (case aB => exact (qW HB.out)); (case aF => exact (fun k_ hk => Kd.fresh' (Kd.Q_lt (qQ HO_4.out)) k_ hk)); (case aO => exact (qR HO_6.out)); (case aS => exact (below_size (qW HB.out))); (case aL => have := LMc24.out; omega); intro v621 w25 ho hb hg hat; rw [← Ny620.out] at ho; replace HO_3 := aM (Kd.N_afterv (ok := (fun k_ => some k_ ≠ (.slice Ao8 t605.length co8 : Value).ownBlock)) (by (with_reducible repeat (first | apply Kd.N_alloc | apply Kd.N_drewN | apply Kd.N_drew)); exact HO_3.out) hg hat); replace HO_4 := aM (Kd.Q_after (ok := (fun _ => True)) (by (with_reducible repeat (first | apply Kd.Q_alloc | apply Kd.Q_drewN | apply Kd.Q_drew)); exact Kd.Q_mono HO_4.out (fun _ hk => ⟨trivial, hk⟩)) hg hat); replace HB := aM (hb); have HO622 := aM (ho); clear HO_6; clear ho hb hg hat))
         go_roundg k3
         case measure => have := HJ4.out; have := HK2.out; have := HK3.out; omega
         case rel => exact ⟨(y620), (wrap64 (x7_2 + 1)), qE, H', ⟨by have := HJ4.out; have := HK2.out; have := HK3.out; omega⟩, ⟨by (with_reducible repeat (first | apply Kd.N_alloc | apply Kd.N_drewN | apply Kd.N_drew)); exact HO_3.out⟩, ⟨by (with_reducible repeat (first | apply Kd.Q_alloc | apply Kd.Q_drewN | apply Kd.Q_drew)); exact Kd.Q_mono HO_4.out (fun _ hk => hk.2)⟩, ⟨by refine qR ?_; exact HO622.out⟩, ⟨by exact qW HB.out⟩⟩
        rw [if_pos c18] at H
        have c18b0 : decide (x9_3 < (t605.length : Int)) = true := decide_eq_true c18
        clear c18
        replace H := iD H
        obtain ⟨c19b0, H⟩ := H
        replace H := iD H
        obtain ⟨c20b0, H⟩ := H
        replace H := iD H
        obtain ⟨c21b0, H⟩ := H
        replace H := iD H
        obtain ⟨c22b0, H⟩ := H
        have H' := aM H
        clear H
        try go_wp2
        replace HO_3 := aM (Kd.N_drew HO_3.out)
        replace HO_4 := aM (Kd.Q_drew HO_4.out)
        replace HO_6 := aM (Kd.R_drew HO_6.out)
        replace HB := aM (below_drew1 HB.out)
        have p614 : 0 ≤ (x7_2 : Int) := oD
        have q614 : x7_2 < (t602.length : Int) := oD
        obtain ⟨ad614, A614_0, c614_0, e614, hx614_0, hl614_0, hi614_0⟩ := at_L2 (Kd.N_reads' HO_3.out).2.2 x7_2 p614 q614
        cases e614
        obtain ⟨ce614, hce614, hMe614, hcc614⟩ := Kd.N_get HO_3.out [] x7_2 p614 (by first | exact q614 | exact oD | (have e_ := (Kd.N_reads' HO_3.out).1; omega))
        obtain ⟨ua614_0, uc614_0, rfl, ul614_0, ge614_0⟩ := Kd.FK_slice_open hMe614
        have hv614_0 := hcc614 0 _ rfl
        rw [Nat.add_zero, show ((Kd.slice 3 (Kd.int .i64))).sz = 1 from rfl, Nat.mul_one] at hv614_0
        replace hv614_0 := Option.some.inj (hv614_0.symm.trans hx614_0)
        injection hv614_0 with hva_ hvn_ hvc_
        rw [hva_] at ge614_0
        rw [hvc_] at ul614_0
        have HL614_0 := aM (show Kd.V (Kd.int .i64) 3 _ w.heap.size _ _ (rd_L2 t602 x7_2) from Kd.V_mk ul614_0 ge614_0)
        clear hva_ hvn_ hvc_ ge614_0 ul614_0
        clear hcc614 hce614
        have HR614_0 := aM hi614_0
        have HC614_0 := aM hl614_0
        clear hi614_0 hl614_0
        replace p614 := eq_true p614
        replace q614 := eq_true q614
        obtain ⟨ad615, e615, hx615_0⟩ := Kd.at_int (by repeat (first | (with_reducible exact HR614_0.out) | (with_reducible refine Kd.C_alloc ?_ _) | (with_reducible refine Kd.C_drewN ?_ _) | (with_reducible refine Kd.C_drew ?_) | exact HR614_0.out)) x9_3 oD oD
        cases e615
        have p615 := eq_true (oD : 0 ≤ (x9_3 : Int))
        have q615 := eq_true (oD : x9_3 < ((rd_L2 t602 x7_2).length : Int))
        obtain ⟨ad616, e616, hx616_0⟩ := Kd.at_int (Kd.Q_reads' HO_4.out).2.2 x9_3 oD oD
        cases e616
        have p616 := eq_true (oD : 0 ≤ (x9_3 : Int))
        have q616 := eq_true (oD : x9_3 < (t605.length : Int))
        have p617 : 0 ≤ (x7_2 : Int) := oD
        have q617 : x7_2 < (t602.length : Int) := oD
        obtain ⟨ad617, A617_0, c617_0, e617, hx617_0, hl617_0, hi617_0⟩ := at_L2 (Kd.N_reads' HO_3.out).2.2 x7_2 p617 q617
        obtain rfl : ad614 = ad617 := (by injection e617)
        obtain ⟨ce617, hce617, hMe617, hcc617⟩ := Kd.N_get HO_3.out [] x7_2 p617 (by first | exact q617 | exact oD | (have e_ := (Kd.N_reads' HO_3.out).1; omega))
        obtain ⟨ua617_0, uc617_0, rfl, ul617_0, ge617_0⟩ := Kd.FK_slice_open hMe617
        have hv617_0 := hcc617 0 _ rfl
        rw [Nat.add_zero, show ((Kd.slice 3 (Kd.int .i64))).sz = 1 from rfl, Nat.mul_one] at hv617_0
        replace hv617_0 := Option.some.inj (hv617_0.symm.trans hx617_0)
        injection hv617_0 with hva_ hvn_ hvc_
        rw [hva_] at ge617_0
        rw [hvc_] at ul617_0
        have HL617_0 := aM (show Kd.V (Kd.int .i64) 3 _ w.heap.size _ _ (rd_L2 t602 x7_2) from Kd.V_mk ul617_0 ge617_0)
        clear hva_ hvn_ hvc_ ge617_0 ul617_0
        clear hcc617 hce617
        have HR617_0 := aM hi617_0
        have HC617_0 := aM hl617_0
        clear hi617_0 hl617_0
        replace p617 := eq_true p617
        replace q617 := eq_true q617
        have ea_ := Option.some.inj (hx614_0.symm.trans hx617_0)
        injection ea_ with ea_ en_ ec_
        subst ea_
        subst ec_
        clear en_
        obtain ⟨ad618, e618, hx618_0⟩ := Kd.at_int (by repeat (first | (with_reducible exact HR617_0.out) | (with_reducible refine Kd.C_alloc ?_ _) | (with_reducible refine Kd.C_drewN ?_ _) | (with_reducible refine Kd.C_drew ?_) | exact HR617_0.out)) x9_3 oD oD
        cases e618
        have p618 := eq_true (oD : 0 ≤ (x9_3 : Int))
        have q618 := eq_true (oD : x9_3 < ((rd_L2 t602 x7_2).length : Int))
        obtain ⟨ad619, e619, hx619_0⟩ := Kd.at_int (Kd.Q_reads' HO_4.out).2.2 x9_3 oD oD
        obtain rfl : ad616 = ad619 := (by injection e619)
        have p619 := eq_true (oD : 0 ≤ (x9_3 : Int))
        have q619 := eq_true (oD : x9_3 < (t605.length : Int))
        refine start_ (n := 28) (S := fun w' => w'.cell? (ad614.add (x7_2).toNat) = some (.slice (some ad615) (rd_L2 t602 x7_2).length c614_0) ∧ w'.cell? (ad615.add (x9_3).toNat) = some (.int .i64 (rd (rd_L2 t602 x7_2) x9_3)) ∧ w'.cell? (ad616.add (x9_3).toNat) = some (.int .i64 (rd t605 x9_3)) ∧ w'.cell? (ad614.add (x7_2).toNat) = some (.slice (some ad615) (rd_L2 t602 x7_2).length c614_0) ∧ w'.cell? (ad615.add (x9_3).toNat) = some (.int .i64 (rd (rd_L2 t602 x7_2) x9_3)) ∧ w'.cell? (ad616.add (x9_3).toNat) = some (.int .i64 (rd t605 x9_3))) (ds := []) (bA 28 0) (by kernel_rfl) rfl rfl ⟨hx614_0, hx615_0, hx616_0, hx617_0, hx618_0, hx619_0⟩ (fun hHeld => ?_); refine with_tabW laws_FnNearestColor.tab15 laws_FnNearestColor.bits15 (fun HT_ HW_ => ?_)
        generalize wr.drew = w23 at HO_3 HO_4 HO_6 HB HL614_0 HL617_0 HR614_0 HR617_0 hx614_0 hx615_0 hx616_0 hx617_0 hx618_0 hx619_0 hHeld ⊢
        refine pQ 0 55 HT_ (bA 28 1) ?_
        refine pQ 1 56 HT_ (bA 28 3) ?_
        refine pQ 2 57 HT_ (bA 28 7) ?_
        refine pQ 3 58 HT_ (bA 28 15) ?_
        refine pQ 5 60 HT_ (bA 28 47) ?_
        refine pQ 8 63 HT_ (bA 28 303) ?_
        refine pQ 9 64 HT_ (bA 28 815) ?_
        refine pQ 10 65 HT_ (bA 28 1839) ?_
        refine pQ 13 68 HT_ (bA 28 10031) ?_
        refine pQ 14 69 HT_ (bA 28 26415) ?_
        refine pQ 15 70 HT_ (bA 28 59183) ?_
        refine pQ 17 72 HT_ (bA 28 190255) ?_
        refine pQ 20 75 HT_ (bA 28 1238831) ?_
        refine pQ 21 76 HT_ (bA 28 3335983) ?_
        refine pQ 22 77 HT_ (bA 28 7530287) ?_
        refine take_ (i := 4) (N := some 59) (v := ?_) (a' := ?_) (bA 28 7530303) rfl rfl (take_ofW HT_.out HW_.out (by kernel_rfl)) (fun _ _ _ h => h) (Or.inl ⟨by rfl, ?_⟩) hHeld ?_ ?_
        rotate_left
        ·rintro w' ⟨s0, s1, s2, s3, s4, s5⟩
         go_simp
         with_reducible rfl
        rotate_left
        ·refine pZ ?_
         rfl
        refine pQ 6 61 HT_ (bA 28 7530367) ?_
        refine take_ (i := 7) (N := some 62) (v := ?_) (a' := ?_) (bA 28 7530495) rfl rfl (take_ofW HT_.out HW_.out (by kernel_rfl)) (fun _ _ _ h => h) (Or.inl ⟨by rfl, ?_⟩) hHeld ?_ ?_
        rotate_left
        ·rintro w' ⟨s0, s1, s2, s3, s4, s5⟩
         go_simp
         with_reducible rfl
        rotate_left
        ·refine pZ ?_
         rfl
        refine take_ (i := 11) (N := some 66) (v := ?_) (a' := ?_) (bA 28 7532543) rfl rfl (take_ofW HT_.out HW_.out (by kernel_rfl)) (fun _ _ _ h => h) (Or.inl ⟨by rfl, ?_⟩) hHeld ?_ ?_
        rotate_left
        ·rintro w' ⟨s0, s1, s2, s3, s4, s5⟩
         go_simp
         with_reducible rfl
        rotate_left
        ·refine pZ ?_
         rfl
        refine pQ 12 67 HT_ (bA 28 7536639) ?_
        refine take_ (i := 16) (N := some 71) (v := ?_) (a' := ?_) (bA 28 7602175) rfl rfl (take_ofW HT_.out HW_.out (by kernel_rfl)) (fun _ _ _ h => h) (Or.inl ⟨by rfl, ?_⟩) hHeld ?_ ?_
        rotate_left
        ·rintro w' ⟨s0, s1, s2, s3, s4, s5⟩
         go_simp
         with_reducible rfl
        rotate_left
        ·refine pZ ?_
         rfl
        refine pQ 18 73 HT_ (bA 28 7864319) ?_
        refine take_ (i := 19) (N := some 74) (v := ?_) (a' := ?_) (bA 28 8388607) rfl rfl (take_ofW HT_.out HW_.out (by kernel_rfl)) (fun _ _ _ h => h) (Or.inl ⟨by rfl, ?_⟩) hHeld ?_ ?_
        rotate_left
        ·rintro w' ⟨s0, s1, s2, s3, s4, s5⟩
         go_simp
         with_reducible rfl
        rotate_left
        ·refine pZ ?_
         rfl
        refine take_ (i := 23) (N := some 78) (v := ?_) (a' := ?_) (bA 28 16777215) rfl rfl (take_ofW HT_.out HW_.out (by kernel_rfl)) (fun _ _ _ h => h) (Or.inl ⟨by rfl, ?_⟩) hHeld ?_ ?_
        rotate_left
        ·rintro w' ⟨s0, s1, s2, s3, s4, s5⟩
         go_simp
         with_reducible rfl
        rotate_left
        ·refine pZ ?_
         rfl
        refine pQ 24 79 HT_ (bA 28 33554431) ?_
        refine pQ 25 80 HT_ (bA 28 67108863) ?_
        refine pQ 26 81 HT_ (bA 28 134217727) ?_
        refine pQ 27 8 HT_ (bA 28 268435455) ?_
        refine done_ (done_of HT_.out (by kernel_rfl)) ?_
        try go_wp2
        go_roundg k3
        case measure => have := HJ4.out; have := HK2.out; have := HK3.out; omega
        case rel => exact ⟨(wrap64 (x8_3 + (wrap64 ((wrap64 ((rd (rd_L2 t602 x7_2) x9_3) - (rd t605 x9_3))) * (wrap64 ((rd (rd_L2 t602 x7_2) x9_3) - (rd t605 x9_3))))))), (wrap64 (x9_3 + 1)), qE, qE, H', ⟨by have := HJ4.out; have := HK2.out; have := HK3.out; omega⟩, ⟨by (with_reducible repeat (first | apply Kd.N_alloc | apply Kd.N_drewN | apply Kd.N_drew)); exact HO_3.out⟩, ⟨by (with_reducible repeat (first | apply Kd.Q_alloc | apply Kd.Q_drewN | apply Kd.Q_drew)); exact HO_4.out⟩, ⟨by refine qR ?_; exact HO_6.out⟩, ⟨by exact qW HB.out⟩⟩
     rw [if_neg c17] at H
     have c17b0 : decide (x7_2 < (t602.length : Int)) = false := decide_eq_false c17
     clear c17
     have H' := aM H
     clear H
     go_wp2
     go_loopg [10] k2 (fun kq v10 w' => ∃ (x10_3 : Int), v10 = .int .i64 x10_3 ∧ Aside0 (laws_FnNearestColor.l2 kq t602 t608 x6_2 x10_3 = some r) ∧ Aside0 (kq ≤ k2) ∧ Aside0 (Kd.N (Kd.slice 3 (Kd.int .i64)) 28 w' w.heap.size (fun k_ => some k_ ≠ (u6 : Value).ownBlock) (.slice Ao7 t602.length co7) t602) ∧ Aside0 (Kd.R (Kd.int .i64) 3 w' w.heap.size (fun _ => True) u6 x6_2) ∧ Aside0 (Below w.heap.size w w'))
     case atStart => exact ⟨(0), qE, H', ⟨Nat.le_refl _⟩, ⟨by (with_reducible repeat (first | apply Kd.N_alloc | apply Kd.N_drewN | apply Kd.N_drew)); exact Kd.N_mono HO_3.out (fun _ hk => hk.2)⟩, ⟨by refine qR ?_; exact Kd.R_mono HO_6.out (fun _ hk => trivial)⟩, ⟨by exact qW HB.out⟩⟩
     case round =>
      clear H'
      try clear c2
      try clear c2b0
      try clear c2b1
      try clear c11
      try clear c11b0
      try clear c11b1
      try clear c12
      try clear c12b0
      try clear c13
      try clear c17
      try clear c17b0
      try clear c18
      try clear c18b0
      try clear c19b0
      try clear c20b0
      try clear c21b0
      try clear c22b0
      try clear c24
      try clear hx614_0
      try clear hx615_0
      try clear hx616_0
      try clear hx617_0
      try clear hx618_0
      try clear hx619_0
      try clear p614
      try clear p615
      try clear p616
      try clear p617
      try clear p618
      try clear p619
      try clear q614
      try clear q615
      try clear q616
      try clear q617
      try clear q618
      try clear q619
      obtain ⟨x10_3, rfl, HA, HK3, HO_3, HO_6, HB⟩ := hrel
      cases gk with
      | zero => exact absurd HA.out (by simp [laws_FnNearestColor.l2])
      | succ k3 =>
       have H := HA.out
       clear HA
       simp only [laws_FnNearestColor.l2] at H
       by_cases c26 : x10_3 < (x6_2.length : Int)
       rotate_left
       ·rw [if_neg c26] at H
        have c26b0 : decide (x10_3 < (x6_2.length : Int)) = false := decide_eq_false c26
        clear c26
        replace H := iD H
        obtain ⟨c41b0, H⟩ := H
        replace H := iD H
        obtain ⟨c42b0, H⟩ := H
        replace H := Option.bind_eq_some_iff.mp H
        obtain ⟨t628, A430, H⟩ := H
        replace H : (if 0 ≤ t628 then (if t628 < (t602.length : Int) then ((laws_equalInts.f k3 (rd_L2 t602 t628) (rd_L2 t602 t608)).bind fun t631 => (some t631)) else (none)) else (none)) = some r := H
        have A43 := aM A430
        clear A430
        replace H := iD H
        obtain ⟨c44b0, H⟩ := H
        replace H := iD H
        obtain ⟨c45b0, H⟩ := H
        replace H := Option.bind_eq_some_iff.mp H
        obtain ⟨t631, A460, H⟩ := H
        replace H : (some t631) = some r := H
        have A46 := aM A460
        clear A460
        obtain rfl := Option.some.inj H
        obtain ⟨Ao47, co47, rfl⟩ := sL HO_6
        try go_wp2
        replace HO_3 := aM (Kd.N_drew HO_3.out)
        replace HO_6 := aM (Kd.R_drew HO_6.out)
        replace HB := aM (below_drew1 HB.out)
        have p627 : 0 ≤ (t608 : Int) := oD
        have q627 : t608 < (t602.length : Int) := oD
        obtain ⟨ad627, A627_0, c627_0, e627, hx627_0, hl627_0, hi627_0⟩ := at_L2 (Kd.N_reads' HO_3.out).2.2 t608 p627 q627
        cases e627
        obtain ⟨ce627, hce627, hMe627, hcc627⟩ := Kd.N_get HO_3.out [] t608 p627 (by first | exact q627 | exact oD | (have e_ := (Kd.N_reads' HO_3.out).1; omega))
        obtain ⟨ua627_0, uc627_0, rfl, ul627_0, ge627_0⟩ := Kd.FK_slice_open hMe627
        have hv627_0 := hcc627 0 _ rfl
        rw [Nat.add_zero, show ((Kd.slice 3 (Kd.int .i64))).sz = 1 from rfl, Nat.mul_one] at hv627_0
        replace hv627_0 := Option.some.inj (hv627_0.symm.trans hx627_0)
        injection hv627_0 with hva_ hvn_ hvc_
        rw [hva_] at ge627_0
        rw [hvc_] at ul627_0
        have HL627_0 := aM (show Kd.V (Kd.int .i64) 3 _ w.heap.size _ _ (rd_L2 t602 t608) from Kd.V_mk ul627_0 ge627_0)
        clear hva_ hvn_ hvc_ ge627_0 ul627_0
        clear hcc627 hce627
        have HR627_0 := aM hi627_0
        have HC627_0 := aM hl627_0
        clear hi627_0 hl627_0
        replace p627 := eq_true p627
        replace q627 := eq_true q627
        have p630 : 0 ≤ (t608 : Int) := oD
        have q630 : t608 < (t602.length : Int) := oD
        obtain ⟨ad630, A630_0, c630_0, e630, hx630_0, hl630_0, hi630_0⟩ := at_L2 (Kd.N_reads' HO_3.out).2.2 t608 p630 q630
        obtain rfl : ad627 = ad630 := (by injection e630)
        obtain ⟨ce630, hce630, hMe630, hcc630⟩ := Kd.N_get HO_3.out [] t608 p630 (by first | exact q630 | exact oD | (have e_ := (Kd.N_reads' HO_3.out).1; omega))
        obtain ⟨ua630_0, uc630_0, rfl, ul630_0, ge630_0⟩ := Kd.FK_slice_open hMe630
        have hv630_0 := hcc630 0 _ rfl
        rw [Nat.add_zero, show ((Kd.slice 3 (Kd.int .i64))).sz = 1 from rfl, Nat.mul_one] at hv630_0
        replace hv630_0 := Option.some.inj (hv630_0.symm.trans hx630_0)
        injection hv630_0 with hva_ hvn_ hvc_
        rw [hva_] at ge630_0
        rw [hvc_] at ul630_0
        have HL630_0 := aM (show Kd.V (Kd.int .i64) 3 _ w.heap.size _ _ (rd_L2 t602 t608) from Kd.V_mk ul630_0 ge630_0)
        clear hva_ hvn_ hvc_ ge630_0 ul630_0
        clear hcc630 hce630
        have HR630_0 := aM hi630_0
        have HC630_0 := aM hl630_0
        clear hi630_0 hl630_0
        replace p630 := eq_true p630
        replace q630 := eq_true q630
        have ea_ := Option.some.inj (hx627_0.symm.trans hx630_0)
        injection ea_ with ea_ en_ ec_
        subst ea_
        subst ec_
        clear en_
        have p629 : 0 ≤ (t628 : Int) := oD
        have q629 : t628 < (t602.length : Int) := oD
        obtain ⟨ad629, A629_0, c629_0, e629, hx629_0, hl629_0, hi629_0⟩ := at_L2 (Kd.N_reads' HO_3.out).2.2 t628 p629 q629
        obtain rfl : ad627 = ad629 := (by injection e629)
        obtain ⟨ce629, hce629, hMe629, hcc629⟩ := Kd.N_get HO_3.out [] t628 p629 (by first | exact q629 | exact oD | (have e_ := (Kd.N_reads' HO_3.out).1; omega))
        obtain ⟨ua629_0, uc629_0, rfl, ul629_0, ge629_0⟩ := Kd.FK_slice_open hMe629
        have hv629_0 := hcc629 0 _ rfl
        rw [Nat.add_zero, show ((Kd.slice 3 (Kd.int .i64))).sz = 1 from rfl, Nat.mul_one] at hv629_0
        replace hv629_0 := Option.some.inj (hv629_0.symm.trans hx629_0)
        injection hv629_0 with hva_ hvn_ hvc_
        rw [hva_] at ge629_0
        rw [hvc_] at ul629_0
        have HL629_0 := aM (show Kd.V (Kd.int .i64) 3 _ w.heap.size _ _ (rd_L2 t602 t628) from Kd.V_mk ul629_0 ge629_0)
        clear hva_ hvn_ hvc_ ge629_0 ul629_0
        clear hcc629 hce629
        have HR629_0 := aM hi629_0
        have HC629_0 := aM hl629_0
        clear hi629_0 hl629_0
        replace p629 := eq_true p629
        replace q629 := eq_true q629
        refine start_ (n := 15) (S := fun w' => w'.cell? (ad627.add (t608).toNat) = some (.slice A627_0 (rd_L2 t602 t608).length c627_0) ∧ w'.cell? (ad627.add (t608).toNat) = some (.slice A627_0 (rd_L2 t602 t608).length c627_0) ∧ w'.cell? (ad627.add (t628).toNat) = some (.slice A629_0 (rd_L2 t602 t628).length c629_0)) (ds := []) (bA 15 0) (by kernel_rfl) rfl rfl ⟨hx627_0, hx630_0, hx629_0⟩ (fun hHeld => ?_); refine with_tabW laws_FnNearestColor.tab22 laws_FnNearestColor.bits22 (fun HT_ HW_ => ?_)
        generalize wr.drew = w48 at HO_3 HO_6 HB HL627_0 HL629_0 HL630_0 HR627_0 HR629_0 HR630_0 hx627_0 hx629_0 hx630_0 hHeld ⊢
        refine pQ 0 117 HT_ (bA 15 1) ?_
        refine pQ 1 118 HT_ (bA 15 3) ?_
        refine pQ 2 119 HT_ (bA 15 7) ?_
        refine pQ 3 120 HT_ (bA 15 15) ?_
        refine pQ 4 121 HT_ (bA 15 31) ?_
        refine pQ 9 126 HT_ (bA 15 543) ?_
        refine pQ 10 127 HT_ (bA 15 1567) ?_
        refine pQ 11 128 HT_ (bA 15 3615) ?_
        refine take_ (i := 5) (N := some 122) (v := ?_) (a' := ?_) (bA 15 3647) rfl rfl (take_ofW HT_.out HW_.out (by kernel_rfl)) (fun _ _ _ h => h) (Or.inl ⟨by rfl, ?_⟩) hHeld ?_ ?_
        rotate_left
        ·rintro w' ⟨s0, s1, s2⟩
         go_simp
         with_reducible rfl
        rotate_left
        ·refine pZ ?_
         rfl
        refine take_ (i := 12) (N := some 129) (v := ?_) (a' := ?_) (bA 15 7743) rfl rfl (take_ofW HT_.out HW_.out (by kernel_rfl)) (fun _ _ _ h => h) (Or.inl ⟨by rfl, ?_⟩) hHeld ?_ ?_
        rotate_left
        ·rintro w' ⟨s0, s1, s2⟩
         go_simp
         with_reducible rfl
        rotate_left
        ·refine pZ ?_
         rfl
        refine one_ (i := 6) (N := some 123) (bA 15 7807) rfl rfl (one_of HT_.out (by kernel_rfl)) (by decide) (fun K hK => ?_)
        refine goes_ Try.func35 (by kernel_rfl) rfl #[.slice (some ad627) t602.length co7, .slice A627_0 (rd_L2 t602 t608).length c627_0] (by rfl) rfl rfl qM ?_
        with_reducible refine (impl_NearestColor.calls k3 _ _ t602 _ _ (rd_L2 t602 t608) t628 _ ?side1 ?side2 ?side3 ?side4 A43.out).mono ?_
        (case side1 => exact qC (Kd.N_reads' HO_3.out).2.2)
        (case side2 => exact (Kd.N_reads' HO_3.out).2.1)
        (case side3 => repeat (first | exact (by repeat (first | (with_reducible exact HR627_0.out) | (with_reducible refine Kd.C_alloc ?_ _) | (with_reducible refine Kd.C_drewN ?_ _) | (with_reducible refine Kd.C_drew ?_) | exact HR627_0.out)) | (with_reducible refine Kd.C_alloc ?_ _) | (with_reducible refine Kd.C_drewN ?_ _) | (with_reducible refine Kd.C_drew ?_)))
        (case side4 => exact HC627_0.out)
        rintro e w49 ⟨rfl, hb⟩
        have mR_ := aM (Kd.C_below HR629_0.out hb)
        clear HR629_0
        have HR629_0 := mR_
        clear mR_
        have HS0_ := (hb.cell (World.block_lt_of_cell? _ _ (hHeld.1))).trans (hHeld.1)
        have HS1_ := (hb.cell (World.block_lt_of_cell? _ _ (hHeld.2.1))).trans (hHeld.2.1)
        have HS2_ := (hb.cell (World.block_lt_of_cell? _ _ (hHeld.2.2))).trans (hHeld.2.2)
        refine ⟨_, rfl, ?_⟩
        replace HO_3 := aM (Kd.N_below (by (with_reducible repeat (first | apply Kd.N_alloc | apply Kd.N_drewN | apply Kd.N_drew)); exact HO_3.out) hb)
        replace HO_6 := aM (Kd.R_below (qR HO_6.out) hb)
        replace HL627_0 := aM (Kd.V_below (by (with_reducible repeat (first | apply Kd.V_alloc | apply Kd.V_drewN | apply Kd.V_drew)); exact HL627_0.out) hb)
        replace HL630_0 := aM (Kd.V_below (by (with_reducible repeat (first | apply Kd.V_alloc | apply Kd.V_drewN | apply Kd.V_drew)); exact HL630_0.out) hb)
        replace HR627_0 := aM (Kd.C_below (by repeat (first | (with_reducible exact HR627_0.out) | (with_reducible refine Kd.C_alloc ?_ _) | (with_reducible refine Kd.C_drewN ?_ _) | (with_reducible refine Kd.C_drew ?_) | exact HR627_0.out)) hb)
        replace HR630_0 := aM (Kd.C_below (by repeat (first | (with_reducible exact HR630_0.out) | (with_reducible refine Kd.C_alloc ?_ _) | (with_reducible refine Kd.C_drewN ?_ _) | (with_reducible refine Kd.C_drew ?_) | exact HR630_0.out)) hb)
        replace HB := bS HB hb
        (try clear hb)
        (try clear hb2)
        (try clear hk)
        (try clear hi)
        refine hK.out _ _ ⟨HS0_, HS1_, HS2_⟩ (fun hHeld => ?_)
        clear hK K
        refine norm_ (a' := ?_) ?_ ?_
        rotate_left
        ·show Act.put _ (some 123) _ = _
         refine pZ ?_
         rfl
        refine pQ 7 124 HT_ (bA 15 7935) ?_
        refine take_ (i := 8) (N := some 125) (v := ?_) (a' := ?_) (bA 15 8191) rfl rfl (take_ofW HT_.out HW_.out (by kernel_rfl)) (fun _ _ _ h => h) (Or.inl ⟨by rfl, ?_⟩) hHeld ?_ ?_
        rotate_left
        ·rintro w' ⟨s0, s1, s2⟩
         go_simp
         with_reducible rfl
        rotate_left
        ·refine pZ ?_
         rfl
        refine one_ (i := 13) (N := some 130) (bA 15 16383) rfl rfl (one_of HT_.out (by kernel_rfl)) (by decide) (fun K hK => ?_)
        refine goes_ Try.func28 (by kernel_rfl) rfl #[.slice A629_0 (rd_L2 t602 t628).length c629_0, .slice A627_0 (rd_L2 t602 t608).length c627_0] (by rfl) rfl rfl qM ?_
        with_reducible refine (laws_equalInts.calls k3 _ _ (rd_L2 t602 t628) _ _ (rd_L2 t602 t608) t631 _ ?side1 ?side2 ?side3 ?side4 A46.out).mono ?_
        (case side1 => repeat (first | exact (by repeat (first | (with_reducible exact HR629_0.out) | (with_reducible refine Kd.C_alloc ?_ _) | (with_reducible refine Kd.C_drewN ?_ _) | (with_reducible refine Kd.C_drew ?_) | exact HR629_0.out)) | (with_reducible refine Kd.C_alloc ?_ _) | (with_reducible refine Kd.C_drewN ?_ _) | (with_reducible refine Kd.C_drew ?_)))
        (case side2 => exact HC629_0.out)
        (case side3 => repeat (first | exact (by repeat (first | (with_reducible exact HR630_0.out) | (with_reducible refine Kd.C_alloc ?_ _) | (with_reducible refine Kd.C_drewN ?_ _) | (with_reducible refine Kd.C_drew ?_) | exact HR630_0.out)) | (with_reducible refine Kd.C_alloc ?_ _) | (with_reducible refine Kd.C_drewN ?_ _) | (with_reducible refine Kd.C_drew ?_)))
        (case side4 => exact HC630_0.out)
        rintro e w' ⟨rfl, ⟨nd, rfl⟩⟩
        refine ⟨_, rfl, ?_⟩
        refine hK.out _ _ ⟨hHeld.1, hHeld.2.1, hHeld.2.2⟩ (fun hHeld => ?_)
        clear hK K
        refine norm_ (a' := ?_) ?_ ?_
        rotate_left
        ·show Act.put _ (some 130) _ = _
         refine pZ ?_
         rfl
        refine pQ 14 2 HT_ (bA 15 32767) ?_
        refine done_ (done_of HT_.out (by kernel_rfl)) ?_
        try go_wp2
        go_ret
        exact ⟨qX, by exact qW HB.out⟩
       rw [if_pos c26] at H
       have c26b0 : decide (x10_3 < (x6_2.length : Int)) = true := decide_eq_true c26
       clear c26
       replace H := iD H
       obtain ⟨c27b0, H⟩ := H
       replace H := iD H
       obtain ⟨c28b0, H⟩ := H
       replace H := iD H
       obtain ⟨c29b0, H⟩ := H
       by_cases c30 : (rd x6_2 x10_3) < (rd x6_2 t608)
       ·rw [if_pos c30] at H
        have c30b0 : decide ((rd x6_2 x10_3) < (rd x6_2 t608)) = true := decide_eq_true c30
        clear c30
        obtain rfl := Option.some.inj H
        obtain ⟨Ao31, co31, rfl⟩ := sL HO_6
        try go_wp2
        replace HO_3 := aM (Kd.N_drew HO_3.out)
        replace HO_6 := aM (Kd.R_drew HO_6.out)
        replace HB := aM (below_drew1 HB.out)
        obtain ⟨ad623, e623, hx623_0⟩ := Kd.at_int (Kd.R_reads' HO_6.out).2.2 x10_3 oD oD
        cases e623
        have p623 := eq_true (oD : 0 ≤ (x10_3 : Int))
        have q623 := eq_true (oD : x10_3 < (x6_2.length : Int))
        obtain ⟨ad624, e624, hx624_0⟩ := Kd.at_int (Kd.R_reads' HO_6.out).2.2 t608 oD oD
        obtain rfl : ad623 = ad624 := (by injection e624)
        have p624 := eq_true (oD : 0 ≤ (t608 : Int))
        have q624 := eq_true (oD : t608 < (x6_2.length : Int))
        refine start_ (n := 25) (S := fun w' => w'.cell? (ad623.add (x10_3).toNat) = some (.int .i64 (rd x6_2 x10_3)) ∧ w'.cell? (ad623.add (t608).toNat) = some (.int .i64 (rd x6_2 t608))) (ds := []) (bA 25 0) (by kernel_rfl) rfl rfl ⟨hx623_0, hx624_0⟩ (fun hHeld => ?_); refine with_tabW laws_FnNearestColor.tab20 laws_FnNearestColor.bits20 (fun HT_ HW_ => ?_)
        generalize wr.drew = w32 at HO_3 HO_6 HB hx623_0 hx624_0 hHeld ⊢
        refine pQ 0 92 HT_ (bA 25 1) ?_
        refine pQ 1 93 HT_ (bA 25 3) ?_
        refine pQ 2 94 HT_ (bA 25 7) ?_
        refine pQ 4 96 HT_ (bA 25 23) ?_
        refine pQ 5 97 HT_ (bA 25 55) ?_
        refine pQ 6 98 HT_ (bA 25 119) ?_
        refine take_ (i := 3) (N := some 95) (v := ?_) (a' := ?_) (bA 25 127) rfl rfl (take_ofW HT_.out HW_.out (by kernel_rfl)) (fun _ _ _ h => h) (Or.inl ⟨by rfl, ?_⟩) hHeld ?_ ?_
        rotate_left
        ·rintro w' ⟨s0, s1⟩
         go_simp
         with_reducible rfl
        rotate_left
        ·refine pZ ?_
         rfl
        refine take_ (i := 7) (N := some 99) (v := ?_) (a' := ?_) (bA 25 255) rfl rfl (take_ofW HT_.out HW_.out (by kernel_rfl)) (fun _ _ _ h => h) (Or.inl ⟨by rfl, ?_⟩) hHeld ?_ ?_
        rotate_left
        ·rintro w' ⟨s0, s1⟩
         go_simp
         with_reducible rfl
        rotate_left
        ·refine pZ ?_
         rfl
        refine pQ 8 100 HT_ (bA 25 511) ?_
        refine pQ 9 101 HT_ (bA 25 1023) ?_
        refine pure_ (i := 10) (N := some 102) (v := undef) (a' := ?_) (bA 25 2047) rfl rfl (any_of HT_.out (by kernel_rfl)) (fun _ _ _ h => h) (Or.inr ⟨by rfl, rfl⟩) ?_ ?_
        rotate_left
        ·refine pZ ?_
         rfl
        refine pure_ (i := 11) (N := some 103) (v := undef) (a' := ?_) (bA 25 4095) rfl rfl (any_of HT_.out (by kernel_rfl)) (fun _ _ _ h => h) (Or.inr ⟨by rfl, rfl⟩) ?_ ?_
        rotate_left
        ·refine pZ ?_
         rfl
        refine pure_ (i := 12) (N := some 104) (v := undef) (a' := ?_) (bA 25 8191) rfl rfl (any_of HT_.out (by kernel_rfl)) (fun _ _ _ h => h) (Or.inr ⟨by rfl, rfl⟩) ?_ ?_
        rotate_left
        ·refine pZ ?_
         rfl
        refine pure_ (i := 13) (N := some 105) (v := undef) (a' := ?_) (bA 25 16383) rfl rfl (any_of HT_.out (by kernel_rfl)) (fun _ _ _ h => h) (Or.inr ⟨by rfl, rfl⟩) ?_ ?_
        rotate_left
        ·refine pZ ?_
         rfl
        refine pure_ (i := 14) (N := some 106) (v := undef) (a' := ?_) (bA 25 32767) rfl rfl (any_of HT_.out (by kernel_rfl)) (fun _ _ _ h => h) (Or.inr ⟨by rfl, rfl⟩) ?_ ?_
        rotate_left
        ·refine pZ ?_
         rfl
        refine pure_ (i := 15) (N := some 107) (v := undef) (a' := ?_) (bA 25 65535) rfl rfl (any_of HT_.out (by kernel_rfl)) (fun _ _ _ h => h) (Or.inr ⟨by rfl, rfl⟩) ?_ ?_
        rotate_left
        ·refine pZ ?_
         rfl
        refine pure_ (i := 16) (N := some 108) (v := undef) (a' := ?_) (bA 25 131071) rfl rfl (any_of HT_.out (by kernel_rfl)) (fun _ _ _ h => h) (Or.inr ⟨by rfl, rfl⟩) ?_ ?_
        rotate_left
        ·refine pZ ?_
         rfl
        refine pure_ (i := 17) (N := some 109) (v := undef) (a' := ?_) (bA 25 262143) rfl rfl (any_of HT_.out (by kernel_rfl)) (fun _ _ _ h => h) (Or.inr ⟨by rfl, rfl⟩) ?_ ?_
        rotate_left
        ·refine pZ ?_
         rfl
        refine pure_ (i := 18) (N := some 110) (v := undef) (a' := ?_) (bA 25 524287) rfl rfl (any_of HT_.out (by kernel_rfl)) (fun _ _ _ h => h) (Or.inr ⟨by rfl, rfl⟩) ?_ ?_
        rotate_left
        ·refine pZ ?_
         rfl
        refine pure_ (i := 19) (N := some 111) (v := undef) (a' := ?_) (bA 25 1048575) rfl rfl (any_of HT_.out (by kernel_rfl)) (fun _ _ _ h => h) (Or.inr ⟨by rfl, rfl⟩) ?_ ?_
        rotate_left
        ·refine pZ ?_
         rfl
        refine pure_ (i := 20) (N := some 112) (v := undef) (a' := ?_) (bA 25 2097151) rfl rfl (any_of HT_.out (by kernel_rfl)) (fun _ _ _ h => h) (Or.inr ⟨by rfl, rfl⟩) ?_ ?_
        rotate_left
        ·refine pZ ?_
         rfl
        refine pure_ (i := 21) (N := some 113) (v := undef) (a' := ?_) (bA 25 4194303) rfl rfl (any_of HT_.out (by kernel_rfl)) (fun _ _ _ h => h) (Or.inr ⟨by rfl, rfl⟩) ?_ ?_
        rotate_left
        ·refine pZ ?_
         rfl
        refine pure_ (i := 22) (N := some 114) (v := undef) (a' := ?_) (bA 25 8388607) rfl rfl (any_of HT_.out (by kernel_rfl)) (fun _ _ _ h => h) (Or.inr ⟨by rfl, rfl⟩) ?_ ?_
        rotate_left
        ·refine pZ ?_
         rfl
        refine pure_ (i := 23) (N := some 115) (v := undef) (a' := ?_) (bA 25 16777215) rfl rfl (any_of HT_.out (by kernel_rfl)) (fun _ _ _ h => h) (Or.inr ⟨by rfl, rfl⟩) ?_ ?_
        rotate_left
        ·refine pZ ?_
         rfl
        refine pQ 24 116 HT_ (bA 25 33554431) ?_
        refine done_ (done_of HT_.out (by kernel_rfl)) ?_
        try go_wp2
        go_ret
        exact ⟨qX, by exact qW HB.out⟩
       rw [if_neg c30] at H
       have c30b0 : decide ((rd x6_2 x10_3) < (rd x6_2 t608)) = false := decide_eq_false c30
       clear c30
       by_cases c33 : (rd x6_2 x10_3) = (rd x6_2 t608)
       rotate_left
       ·rw [if_neg c33] at H
        have c33b0 : ((rd x6_2 x10_3) == (rd x6_2 t608)) = false := beq_eq_false_iff_ne.mpr c33
        have c33b1 : ((rd x6_2 x10_3) != (rd x6_2 t608)) = true := bne_iff_ne.mpr c33
        have H' := aM H
        clear H
        obtain ⟨Ao39, co39, rfl⟩ := sL HO_6
        try go_wp2
        replace HO_3 := aM (Kd.N_drew HO_3.out)
        replace HO_6 := aM (Kd.R_drew HO_6.out)
        replace HB := aM (below_drew1 HB.out)
        obtain ⟨ad623, e623, hx623_0⟩ := Kd.at_int (Kd.R_reads' HO_6.out).2.2 x10_3 oD oD
        cases e623
        have p623 := eq_true (oD : 0 ≤ (x10_3 : Int))
        have q623 := eq_true (oD : x10_3 < (x6_2.length : Int))
        obtain ⟨ad624, e624, hx624_0⟩ := Kd.at_int (Kd.R_reads' HO_6.out).2.2 t608 oD oD
        obtain rfl : ad623 = ad624 := (by injection e624)
        have p624 := eq_true (oD : 0 ≤ (t608 : Int))
        have q624 := eq_true (oD : t608 < (x6_2.length : Int))
        obtain ⟨ad625, e625, hx625_0⟩ := Kd.at_int (Kd.R_reads' HO_6.out).2.2 x10_3 oD oD
        obtain rfl : ad623 = ad625 := (by injection e625)
        have p625 := eq_true (oD : 0 ≤ (x10_3 : Int))
        have q625 := eq_true (oD : x10_3 < (x6_2.length : Int))
        obtain ⟨ad626, e626, hx626_0⟩ := Kd.at_int (Kd.R_reads' HO_6.out).2.2 t608 oD oD
        obtain rfl : ad623 = ad626 := (by injection e626)
        have p626 := eq_true (oD : 0 ≤ (t608 : Int))
        have q626 := eq_true (oD : t608 < (x6_2.length : Int))
        refine start_ (n := 25) (S := fun w' => w'.cell? (ad623.add (x10_3).toNat) = some (.int .i64 (rd x6_2 x10_3)) ∧ w'.cell? (ad623.add (t608).toNat) = some (.int .i64 (rd x6_2 t608)) ∧ w'.cell? (ad623.add (x10_3).toNat) = some (.int .i64 (rd x6_2 x10_3)) ∧ w'.cell? (ad623.add (t608).toNat) = some (.int .i64 (rd x6_2 t608))) (ds := []) (bA 25 0) (by kernel_rfl) rfl rfl ⟨hx623_0, hx624_0, hx625_0, hx626_0⟩ (fun hHeld => ?_); refine with_tabW laws_FnNearestColor.tab20 laws_FnNearestColor.bits20 (fun HT_ HW_ => ?_)
        generalize wr.drew = w40 at HO_3 HO_6 HB hx623_0 hx624_0 hx625_0 hx626_0 hHeld ⊢
        refine pQ 0 92 HT_ (bA 25 1) ?_
        refine pQ 1 93 HT_ (bA 25 3) ?_
        refine pQ 2 94 HT_ (bA 25 7) ?_
        refine pQ 4 96 HT_ (bA 25 23) ?_
        refine pQ 5 97 HT_ (bA 25 55) ?_
        refine pQ 6 98 HT_ (bA 25 119) ?_
        refine take_ (i := 3) (N := some 95) (v := ?_) (a' := ?_) (bA 25 127) rfl rfl (take_ofW HT_.out HW_.out (by kernel_rfl)) (fun _ _ _ h => h) (Or.inl ⟨by rfl, ?_⟩) hHeld ?_ ?_
        rotate_left
        ·rintro w' ⟨s0, s1, s2, s3⟩
         go_simp
         with_reducible rfl
        rotate_left
        ·refine pZ ?_
         rfl
        refine take_ (i := 7) (N := some 99) (v := ?_) (a' := ?_) (bA 25 255) rfl rfl (take_ofW HT_.out HW_.out (by kernel_rfl)) (fun _ _ _ h => h) (Or.inl ⟨by rfl, ?_⟩) hHeld ?_ ?_
        rotate_left
        ·rintro w' ⟨s0, s1, s2, s3⟩
         go_simp
         with_reducible rfl
        rotate_left
        ·refine pZ ?_
         rfl
        refine pQ 8 100 HT_ (bA 25 511) ?_
        refine pQ 9 101 HT_ (bA 25 1023) ?_
        refine pQ 10 102 HT_ (bA 25 2047) ?_
        refine pQ 11 103 HT_ (bA 25 4095) ?_
        refine pQ 12 104 HT_ (bA 25 8191) ?_
        refine pQ 14 106 HT_ (bA 25 24575) ?_
        refine pQ 15 107 HT_ (bA 25 57343) ?_
        refine pQ 16 108 HT_ (bA 25 122879) ?_
        refine take_ (i := 13) (N := some 105) (v := ?_) (a' := ?_) (bA 25 131071) rfl rfl (take_ofW HT_.out HW_.out (by kernel_rfl)) (fun _ _ _ h => h) (Or.inl ⟨by rfl, ?_⟩) hHeld ?_ ?_
        rotate_left
        ·rintro w' ⟨s0, s1, s2, s3⟩
         go_simp
         with_reducible rfl
        rotate_left
        ·refine pZ ?_
         rfl
        refine take_ (i := 17) (N := some 109) (v := ?_) (a' := ?_) (bA 25 262143) rfl rfl (take_ofW HT_.out HW_.out (by kernel_rfl)) (fun _ _ _ h => h) (Or.inl ⟨by rfl, ?_⟩) hHeld ?_ ?_
        rotate_left
        ·rintro w' ⟨s0, s1, s2, s3⟩
         go_simp
         with_reducible rfl
        rotate_left
        ·refine pZ ?_
         rfl
        refine pQ 18 110 HT_ (bA 25 524287) ?_
        refine pQ 19 111 HT_ (bA 25 1048575) ?_
        refine pure_ (i := 20) (N := some 112) (v := undef) (a' := ?_) (bA 25 2097151) rfl rfl (any_of HT_.out (by kernel_rfl)) (fun _ _ _ h => h) (Or.inr ⟨by rfl, rfl⟩) ?_ ?_
        rotate_left
        ·refine pZ ?_
         rfl
        refine pure_ (i := 21) (N := some 113) (v := undef) (a' := ?_) (bA 25 4194303) rfl rfl (any_of HT_.out (by kernel_rfl)) (fun _ _ _ h => h) (Or.inr ⟨by rfl, rfl⟩) ?_ ?_
        rotate_left
        ·refine pZ ?_
         rfl
        refine pure_ (i := 22) (N := some 114) (v := undef) (a' := ?_) (bA 25 8388607) rfl rfl (any_of HT_.out (by kernel_rfl)) (fun _ _ _ h => h) (Or.inr ⟨by rfl, rfl⟩) ?_ ?_
        rotate_left
        ·refine pZ ?_
         rfl
        refine pQ 23 115 HT_ (bA 25 16777215) ?_
        refine pQ 24 116 HT_ (bA 25 33554431) ?_
        refine done_ (done_of HT_.out (by kernel_rfl)) ?_
        try go_wp2
        go_roundg k3
        case measure => have := HJ4.out; have := HK2.out; have := HK3.out; omega
        case rel => exact ⟨(wrap64 (x10_3 + 1)), qE, H', ⟨by have := HJ4.out; have := HK2.out; have := HK3.out; omega⟩, ⟨by (with_reducible repeat (first | apply Kd.N_alloc | apply Kd.N_drewN | apply Kd.N_drew)); exact HO_3.out⟩, ⟨by refine qR ?_; exact HO_6.out⟩, ⟨by exact qW HB.out⟩⟩
       rw [if_pos c33] at H
       have c33b0 : ((rd x6_2 x10_3) == (rd x6_2 t608)) = true := beq_iff_eq.mpr c33
       have c33b1 : ((rd x6_2 x10_3) != (rd x6_2 t608)) = false := bne_eq_false_iff_eq.mpr c33
       clear c33
       by_cases c34 : x10_3 < t608
       ·rw [if_pos c34] at H
        have c34b0 : decide (x10_3 < t608) = true := decide_eq_true c34
        clear c34
        obtain rfl := Option.some.inj H
        obtain ⟨Ao35, co35, rfl⟩ := sL HO_6
        try go_wp2
        replace HO_3 := aM (Kd.N_drew HO_3.out)
        replace HO_6 := aM (Kd.R_drew HO_6.out)
        replace HB := aM (below_drew1 HB.out)
        obtain ⟨ad623, e623, hx623_0⟩ := Kd.at_int (Kd.R_reads' HO_6.out).2.2 x10_3 oD oD
        cases e623
        have p623 := eq_true (oD : 0 ≤ (x10_3 : Int))
        have q623 := eq_true (oD : x10_3 < (x6_2.length : Int))
        obtain ⟨ad624, e624, hx624_0⟩ := Kd.at_int (Kd.R_reads' HO_6.out).2.2 t608 oD oD
        obtain rfl : ad623 = ad624 := (by injection e624)
        have p624 := eq_true (oD : 0 ≤ (t608 : Int))
        have q624 := eq_true (oD : t608 < (x6_2.length : Int))
        obtain ⟨ad625, e625, hx625_0⟩ := Kd.at_int (Kd.R_reads' HO_6.out).2.2 x10_3 oD oD
        obtain rfl : ad623 = ad625 := (by injection e625)
        have p625 := eq_true (oD : 0 ≤ (x10_3 : Int))
        have q625 := eq_true (oD : x10_3 < (x6_2.length : Int))
        obtain ⟨ad626, e626, hx626_0⟩ := Kd.at_int (Kd.R_reads' HO_6.out).2.2 t608 oD oD
        obtain rfl : ad623 = ad626 := (by injection e626)
        have p626 := eq_true (oD : 0 ≤ (t608 : Int))
        have q626 := eq_true (oD : t608 < (x6_2.length : Int))
        refine start_ (n := 25) (S := fun w' => w'.cell? (ad623.add (x10_3).toNat) = some (.int .i64 (rd x6_2 x10_3)) ∧ w'.cell? (ad623.add (t608).toNat) = some (.int .i64 (rd x6_2 t608)) ∧ w'.cell? (ad623.add (x10_3).toNat) = some (.int .i64 (rd x6_2 x10_3)) ∧ w'.cell? (ad623.add (t608).toNat) = some (.int .i64 (rd x6_2 t608))) (ds := []) (bA 25 0) (by kernel_rfl) rfl rfl ⟨hx623_0, hx624_0, hx625_0, hx626_0⟩ (fun hHeld => ?_); refine with_tabW laws_FnNearestColor.tab20 laws_FnNearestColor.bits20 (fun HT_ HW_ => ?_)
        generalize wr.drew = w36 at HO_3 HO_6 HB hx623_0 hx624_0 hx625_0 hx626_0 hHeld ⊢
        refine pQ 0 92 HT_ (bA 25 1) ?_
        refine pQ 1 93 HT_ (bA 25 3) ?_
        refine pQ 2 94 HT_ (bA 25 7) ?_
        refine pQ 4 96 HT_ (bA 25 23) ?_
        refine pQ 5 97 HT_ (bA 25 55) ?_
        refine pQ 6 98 HT_ (bA 25 119) ?_
        refine take_ (i := 3) (N := some 95) (v := ?_) (a' := ?_) (bA 25 127) rfl rfl (take_ofW HT_.out HW_.out (by kernel_rfl)) (fun _ _ _ h => h) (Or.inl ⟨by rfl, ?_⟩) hHeld ?_ ?_
        rotate_left
        ·rintro w' ⟨s0, s1, s2, s3⟩
         go_simp
         with_reducible rfl
        rotate_left
        ·refine pZ ?_
         rfl
        refine take_ (i := 7) (N := some 99) (v := ?_) (a' := ?_) (bA 25 255) rfl rfl (take_ofW HT_.out HW_.out (by kernel_rfl)) (fun _ _ _ h => h) (Or.inl ⟨by rfl, ?_⟩) hHeld ?_ ?_
        rotate_left
        ·rintro w' ⟨s0, s1, s2, s3⟩
         go_simp
         with_reducible rfl
        rotate_left
        ·refine pZ ?_
         rfl
        refine pQ 8 100 HT_ (bA 25 511) ?_
        refine pQ 9 101 HT_ (bA 25 1023) ?_
        refine pQ 10 102 HT_ (bA 25 2047) ?_
        refine pQ 11 103 HT_ (bA 25 4095) ?_
        refine pQ 12 104 HT_ (bA 25 8191) ?_
        refine pQ 14 106 HT_ (bA 25 24575) ?_
        refine pQ 15 107 HT_ (bA 25 57343) ?_
        refine pQ 16 108 HT_ (bA 25 122879) ?_
        refine take_ (i := 13) (N := some 105) (v := ?_) (a' := ?_) (bA 25 131071) rfl rfl (take_ofW HT_.out HW_.out (by kernel_rfl)) (fun _ _ _ h => h) (Or.inl ⟨by rfl, ?_⟩) hHeld ?_ ?_
        rotate_left
        ·rintro w' ⟨s0, s1, s2, s3⟩
         go_simp
         with_reducible rfl
        rotate_left
        ·refine pZ ?_
         rfl
        refine take_ (i := 17) (N := some 109) (v := ?_) (a' := ?_) (bA 25 262143) rfl rfl (take_ofW HT_.out HW_.out (by kernel_rfl)) (fun _ _ _ h => h) (Or.inl ⟨by rfl, ?_⟩) hHeld ?_ ?_
        rotate_left
        ·rintro w' ⟨s0, s1, s2, s3⟩
         go_simp
         with_reducible rfl
        rotate_left
        ·refine pZ ?_
         rfl
        refine pQ 18 110 HT_ (bA 25 524287) ?_
        refine pQ 19 111 HT_ (bA 25 1048575) ?_
        refine pQ 20 112 HT_ (bA 25 2097151) ?_
        refine pQ 21 113 HT_ (bA 25 4194303) ?_
        refine pQ 22 114 HT_ (bA 25 8388607) ?_
        refine pQ 23 115 HT_ (bA 25 16777215) ?_
        refine pQ 24 116 HT_ (bA 25 33554431) ?_
        refine done_ (done_of HT_.out (by kernel_rfl)) ?_
        try go_wp2
        go_ret
        exact ⟨qX, by exact qW HB.out⟩
       rw [if_neg c34] at H
       have c34b0 : decide (x10_3 < t608) = false := decide_eq_false c34
       clear c34
       have H' := aM H
       clear H
       obtain ⟨Ao37, co37, rfl⟩ := sL HO_6
       try go_wp2
       replace HO_3 := aM (Kd.N_drew HO_3.out)
       replace HO_6 := aM (Kd.R_drew HO_6.out)
       replace HB := aM (below_drew1 HB.out)
       obtain ⟨ad623, e623, hx623_0⟩ := Kd.at_int (Kd.R_reads' HO_6.out).2.2 x10_3 oD oD
       cases e623
       have p623 := eq_true (oD : 0 ≤ (x10_3 : Int))
       have q623 := eq_true (oD : x10_3 < (x6_2.length : Int))
       obtain ⟨ad624, e624, hx624_0⟩ := Kd.at_int (Kd.R_reads' HO_6.out).2.2 t608 oD oD
       obtain rfl : ad623 = ad624 := (by injection e624)
       have p624 := eq_true (oD : 0 ≤ (t608 : Int))
       have q624 := eq_true (oD : t608 < (x6_2.length : Int))
       obtain ⟨ad625, e625, hx625_0⟩ := Kd.at_int (Kd.R_reads' HO_6.out).2.2 x10_3 oD oD
       obtain rfl : ad623 = ad625 := (by injection e625)
       have p625 := eq_true (oD : 0 ≤ (x10_3 : Int))
       have q625 := eq_true (oD : x10_3 < (x6_2.length : Int))
       obtain ⟨ad626, e626, hx626_0⟩ := Kd.at_int (Kd.R_reads' HO_6.out).2.2 t608 oD oD
       obtain rfl : ad623 = ad626 := (by injection e626)
       have p626 := eq_true (oD : 0 ≤ (t608 : Int))
       have q626 := eq_true (oD : t608 < (x6_2.length : Int))
       refine start_ (n := 25) (S := fun w' => w'.cell? (ad623.add (x10_3).toNat) = some (.int .i64 (rd x6_2 x10_3)) ∧ w'.cell? (ad623.add (t608).toNat) = some (.int .i64 (rd x6_2 t608)) ∧ w'.cell? (ad623.add (x10_3).toNat) = some (.int .i64 (rd x6_2 x10_3)) ∧ w'.cell? (ad623.add (t608).toNat) = some (.int .i64 (rd x6_2 t608))) (ds := []) (bA 25 0) (by kernel_rfl) rfl rfl ⟨hx623_0, hx624_0, hx625_0, hx626_0⟩ (fun hHeld => ?_); refine with_tabW laws_FnNearestColor.tab20 laws_FnNearestColor.bits20 (fun HT_ HW_ => ?_)
       generalize wr.drew = w38 at HO_3 HO_6 HB hx623_0 hx624_0 hx625_0 hx626_0 hHeld ⊢
       refine pQ 0 92 HT_ (bA 25 1) ?_
       refine pQ 1 93 HT_ (bA 25 3) ?_
       refine pQ 2 94 HT_ (bA 25 7) ?_
       refine pQ 4 96 HT_ (bA 25 23) ?_
       refine pQ 5 97 HT_ (bA 25 55) ?_
       refine pQ 6 98 HT_ (bA 25 119) ?_
       refine take_ (i := 3) (N := some 95) (v := ?_) (a' := ?_) (bA 25 127) rfl rfl (take_ofW HT_.out HW_.out (by kernel_rfl)) (fun _ _ _ h => h) (Or.inl ⟨by rfl, ?_⟩) hHeld ?_ ?_
       rotate_left
       ·rintro w' ⟨s0, s1, s2, s3⟩
        go_simp
        with_reducible rfl
       rotate_left
       ·refine pZ ?_
        rfl
       refine take_ (i := 7) (N := some 99) (v := ?_) (a' := ?_) (bA 25 255) rfl rfl (take_ofW HT_.out HW_.out (by kernel_rfl)) (fun _ _ _ h => h) (Or.inl ⟨by rfl, ?_⟩) hHeld ?_ ?_
       rotate_left
       ·rintro w' ⟨s0, s1, s2, s3⟩
        go_simp
        with_reducible rfl
       rotate_left
       ·refine pZ ?_
        rfl
       refine pQ 8 100 HT_ (bA 25 511) ?_
       refine pQ 9 101 HT_ (bA 25 1023) ?_
       refine pQ 10 102 HT_ (bA 25 2047) ?_
       refine pQ 11 103 HT_ (bA 25 4095) ?_
       refine pQ 12 104 HT_ (bA 25 8191) ?_
       refine pQ 14 106 HT_ (bA 25 24575) ?_
       refine pQ 15 107 HT_ (bA 25 57343) ?_
       refine pQ 16 108 HT_ (bA 25 122879) ?_
       refine take_ (i := 13) (N := some 105) (v := ?_) (a' := ?_) (bA 25 131071) rfl rfl (take_ofW HT_.out HW_.out (by kernel_rfl)) (fun _ _ _ h => h) (Or.inl ⟨by rfl, ?_⟩) hHeld ?_ ?_
       rotate_left
       ·rintro w' ⟨s0, s1, s2, s3⟩
        go_simp
        with_reducible rfl
       rotate_left
       ·refine pZ ?_
        rfl
       refine take_ (i := 17) (N := some 109) (v := ?_) (a' := ?_) (bA 25 262143) rfl rfl (take_ofW HT_.out HW_.out (by kernel_rfl)) (fun _ _ _ h => h) (Or.inl ⟨by rfl, ?_⟩) hHeld ?_ ?_
       rotate_left
       ·rintro w' ⟨s0, s1, s2, s3⟩
        go_simp
        with_reducible rfl
       rotate_left
       ·refine pZ ?_
        rfl
       refine pQ 18 110 HT_ (bA 25 524287) ?_
       refine pQ 19 111 HT_ (bA 25 1048575) ?_
       refine pQ 20 112 HT_ (bA 25 2097151) ?_
       refine pQ 21 113 HT_ (bA 25 4194303) ?_
       refine pQ 22 114 HT_ (bA 25 8388607) ?_
       refine pQ 23 115 HT_ (bA 25 16777215) ?_
       refine pQ 24 116 HT_ (bA 25 33554431) ?_
       refine done_ (done_of HT_.out (by kernel_rfl)) ?_
       try go_wp2
       go_roundg k3
       case measure => have := HJ4.out; have := HK2.out; have := HK3.out; omega
       case rel => exact ⟨(wrap64 (x10_3 + 1)), qE, H', ⟨by have := HJ4.out; have := HK2.out; have := HK3.out; omega⟩, ⟨by (with_reducible repeat (first | apply Kd.N_alloc | apply Kd.N_drewN | apply Kd.N_drew)); exact HO_3.out⟩, ⟨by refine qR ?_; exact HO_6.out⟩, ⟨by exact qW HB.out⟩⟩
def laws_FnNearestColor.Pure : Prop := ∀ (l0 : List Int), l0.length ≤ maxLen → l0.length * 1 ≤ 140737488351232 → (∀ x ∈ l0, (Lit.int .u8 x).wf = true) → ∃ k, laws_FnNearestColor.f k l0 = some true
theorem laws_FnNearestColor.walk (P : laws_FnNearestColor.Pure) (a0 : Option Addr) (len0 cap0 : Nat) (z0 : List Int) (w : World) (w0 : (a0 = none ∧ len0 = 0 ∧ cap0 = 0 ∧ z0 = []) ∨ ∃ x, a0 = some x ∧ len0 ≤ cap0 ∧ cap0 ≤ maxLen ∧ z0.length = cap0 ∧ (∀ i, i < z0.length → w.cell? (x.add i) = some (.int .u8 (z0.getD i 0))) ∧ ∀ n ∈ z0, (Lit.int .u8 n).wf = true) (y0 : len0 * 1 ≤ 140737488351232) :
  Calls Try.prog 13 #[.slice a0 len0 cap0] w fun e w' => e = .returned (.bool true) ∧ Below w.heap.size w w' := by
 obtain ⟨l0, rfl, hr0, hm0, hw0, hc0⟩ := ReadsInt.ofRowC w0
 obtain ⟨k, h⟩ := P l0 hm0 y0 hw0
 refine (laws_FnNearestColor.calls k _ _ l0 true w (Kd.C_of_reads (d := (0 : Int)) (h1 := fun _ => rfl) hr0) hc0 h).mono ?_
 rintro e w' ⟨rfl, hd⟩
 exact ⟨rfl, hd⟩
end Go.Proofs.Ytbldmekplkjfiaa.P
