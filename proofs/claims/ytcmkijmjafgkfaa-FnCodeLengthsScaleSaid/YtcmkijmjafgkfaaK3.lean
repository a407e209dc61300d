/- Contracts and row, written by a program of this place out of the translation: the call answers true and its argument reads as before, for every input; no condition. -/
import Derived.Test.YtcmkijmjafgkfaaK0
import Derived.Test.YtcmkijmjafgkfaaK2
namespace Go.Proofs.Ytcmkijmjafgkfaa.P
open Go.RowKit Go.Proofs.YtcmkijmjafgkfaaW.PrintWords Go.Proofs.YtcmkijmjafgkfaaW.PrintLast Go.Proofs.YtcmkijmjafgkfaaW.PrintMore
attribute [local go_sem] max2_int min2_int max_two min_two max_three min_three max_four min_four   -- for this text's walks alone
set_option linter.unusedVariables false
set_option linter.unusedSimpArgs false
mutual
def impl_CodeLengths.j0 : Nat → List Int → Bool → Option (List Int)
 | 0, _, _ => none
 | k + 1, x0, x30 => if x30 = true then (some ([] : List Int)) else (if 0 ≤ (x0.length : Int) then (if ((x0.length : Int) : Int).toNat ≤ 35184372088832 then (impl_CodeLengths.l0 k (List.replicate ((x0.length : Int) : Int).toNat 0) (([] : List (S54))) x0 (x0.length : Int) 0) else (none)) else (none))
def impl_CodeLengths.l0 : Nat → List Int → List (S54) → List Int → Int → Int → Option (List Int)
 | 0, _, _, _, _, _ => none
 | k + 1, x3, x4, x35, x36, x37 => if x37 < x36 then (if 0 ≤ x37 then (if x37 < (x35.length : Int) then (if (rd x35 x37) > 0 then (if x4.length < 4398046511104 then (impl_CodeLengths.l0 k x3 (x4 ++ [(⟨rd x35 x37, (([x37] : List Int))⟩ : S54)]) x35 x36 (wrap64 (x37 + 1))) else (none)) else (impl_CodeLengths.l0 k x3 x4 x35 x36 (wrap64 (x37 + 1)))) else (none)) else (none)) else (if (x4.length : Int) = 1 then (if 0 < (x4.length : Int) then (if 0 < (((rd_T54 x4 0).f1).length : Int) then (if 0 ≤ (rd ((rd_T54 x4 0).f1) 0) then (if (rd ((rd_T54 x4 0).f1) 0) < (x3.length : Int) then (impl_CodeLengths.j2 k (x3.set ((rd ((rd_T54 x4 0).f1) 0) : Int).toNat 1) x4) else (none)) else (none)) else (none)) else (none)) else (impl_CodeLengths.j2 k x3 x4))
def impl_CodeLengths.j2 : Nat → List Int → List (S54) → Option (List Int)
 | 0, _, _ => none
 | k + 1, x3, x4 => impl_CodeLengths.l1 k x3 x4
def impl_CodeLengths.l1 : Nat → List Int → List (S54) → Option (List Int)
 | 0, _, _ => none
 | k + 1, x3, x4 => if (x4.length : Int) > 1 then (impl_CodeLengths.l2 k x3 x4 0 0 ([] : List Int)) else (some x3)
def impl_CodeLengths.l2 : Nat → List Int → List (S54) → Int → Int → List Int → Option (List Int)
 | 0, _, _, _, _, _ => none
 | k + 1, x3, x4, x67, x494000, x494001 => if x67 < 2 then (impl_CodeLengths.l3 k x3 x4 0 x67 x4 (x4.length : Int) 0 x494000 x494001) else (impl_CodeLengths.l4 k x3 x4 x494001 (x494001.length : Int) 0 x494000 x494001)
def impl_CodeLengths.l3 : Nat → List Int → List (S54) → Int → Int → List (S54) → Int → Int → Int → List Int → Option (List Int)
 | 0, _, _, _, _, _, _, _, _, _ => none
 | k + 1, x3, x4, x8, x67, x69, x70, x71, x494000, x494001 => if x71 < x70 then (if 0 ≤ x71 then (if x71 < (x69.length : Int) then (if 0 ≤ x8 then (if x8 < (x4.length : Int) then (if ((rd_T54 x69 x71).f0) < ((rd_T54 x4 x8).f0) then (impl_CodeLengths.l3 k x3 x4 x71 x67 x69 x70 (wrap64 (x71 + 1)) x494000 x494001) else (impl_CodeLengths.l3 k x3 x4 x8 x67 x69 x70 (wrap64 (x71 + 1)) x494000 x494001)) else (none)) else (none)) else (none)) else (none)) else (if 0 ≤ x8 then (if x8 < (x4.length : Int) then (if x494001.length + ((rd_T54 x4 x8).f1).length < 17592186044416 then (impl_CodeLengths.l2 k x3 (x4.eraseIdx (x8 : Int).toNat) (wrap64 (x67 + 1)) (wrap64 (x494000 + ((rd_T54 x4 x8).f0))) (x494001 ++ ((rd_T54 x4 x8).f1))) else (none)) else (none)) else (none))
def impl_CodeLengths.l4 : Nat → List Int → List (S54) → List Int → Int → Int → Int → List Int → Option (List Int)
 | 0, _, _, _, _, _, _, _ => none
 | k + 1, x3, x4, x111, x112, x113, x494000, x494001 => if x113 < x112 then (if 0 ≤ x113 then (if x113 < (x111.length : Int) then (if 0 ≤ (rd x111 x113) then (if (rd x111 x113) < (x3.length : Int) then (impl_CodeLengths.l4 k (x3.set ((rd x111 x113) : Int).toNat (wrap64 ((rd x3 (rd x111 x113)) + 1))) x4 x111 x112 (wrap64 (x113 + 1)) x494000 x494001) else (none)) else (none)) else (none)) else (none)) else (if x4.length < 4398046511104 then (impl_CodeLengths.l1 k x3 (x4 ++ [(⟨x494000, x494001⟩ : S54)])) else (none))
end
def impl_CodeLengths.f (k : Nat) (l0 : List Int) : Option (List Int) := if (l0.length : Int) < 1 then (impl_CodeLengths.j0 k l0 true) else (if (l0.length : Int) > 16 then (impl_CodeLengths.j0 k l0 true) else ((slices_Min_int_int.f k l0).bind fun t475 => (if t475 < 0 then (impl_CodeLengths.j0 k l0 true) else ((slices_Max_int_int.f k l0).bind fun t476 => (impl_CodeLengths.j0 k l0 (decide (t476 > 9999)))))))
theorem impl_CodeLengths.mono_l : ∀ k, (∀ y0 y1, LeO (impl_CodeLengths.j0 k y0 y1) (impl_CodeLengths.j0 (k + 1) y0 y1)) ∧ (∀ y0 y1 y2 y3 y4, LeO (impl_CodeLengths.l0 k y0 y1 y2 y3 y4) (impl_CodeLengths.l0 (k + 1) y0 y1 y2 y3 y4)) ∧ (∀ y0 y1, LeO (impl_CodeLengths.j2 k y0 y1) (impl_CodeLengths.j2 (k + 1) y0 y1)) ∧ (∀ y0 y1, LeO (impl_CodeLengths.l1 k y0 y1) (impl_CodeLengths.l1 (k + 1) y0 y1)) ∧ (∀ y0 y1 y2 y3 y4, LeO (impl_CodeLengths.l2 k y0 y1 y2 y3 y4) (impl_CodeLengths.l2 (k + 1) y0 y1 y2 y3 y4)) ∧ (∀ y0 y1 y2 y3 y4 y5 y6 y7 y8, LeO (impl_CodeLengths.l3 k y0 y1 y2 y3 y4 y5 y6 y7 y8) (impl_CodeLengths.l3 (k + 1) y0 y1 y2 y3 y4 y5 y6 y7 y8)) ∧ (∀ y0 y1 y2 y3 y4 y5 y6, LeO (impl_CodeLengths.l4 k y0 y1 y2 y3 y4 y5 y6) (impl_CodeLengths.l4 (k + 1) y0 y1 y2 y3 y4 y5 y6))
 | 0 => ⟨fun _ _ r h => by simp [impl_CodeLengths.j0] at h, fun _ _ _ _ _ r h => by simp [impl_CodeLengths.l0] at h, fun _ _ r h => by simp [impl_CodeLengths.j2] at h, fun _ _ r h => by simp [impl_CodeLengths.l1] at h, fun _ _ _ _ _ r h => by simp [impl_CodeLengths.l2] at h, fun _ _ _ _ _ _ _ _ _ r h => by simp [impl_CodeLengths.l3] at h, fun _ _ _ _ _ _ _ r h => by simp [impl_CodeLengths.l4] at h⟩
 | k + 1 => by
  obtain ⟨ih0, ih1, ih2, ih3, ih4, ih5, ih6⟩ := impl_CodeLengths.mono_l k
  refine ⟨?_, ?_, ?_, ?_, ?_, ?_, ?_⟩
  all_goals intros
  all_goals first | unfold impl_CodeLengths.j0 | unfold impl_CodeLengths.l0 | unfold impl_CodeLengths.j2 | unfold impl_CodeLengths.l1 | unfold impl_CodeLengths.l2 | unfold impl_CodeLengths.l3 | unfold impl_CodeLengths.l4
  all_goals repeat' first | (with_reducible first | exact ih0 _ _ | exact ih1 _ _ _ _ _ | exact ih2 _ _ | exact ih3 _ _ | exact ih4 _ _ _ _ _ | exact ih5 _ _ _ _ _ _ _ _ _ | exact ih6 _ _ _ _ _ _ _ | exact slices_Max_int_int.mono _ _ | exact slices_Min_int_int.mono _ _ | exact lR | exact lN | refine lI ?_ ?_ | refine lB ?_ fun _ => ?_) | exact ih0 _ _ | exact ih1 _ _ _ _ _ | exact ih2 _ _ | exact ih3 _ _ | exact ih4 _ _ _ _ _ | exact ih5 _ _ _ _ _ _ _ _ _ | exact ih6 _ _ _ _ _ _ _ | exact slices_Max_int_int.mono _ _ | exact slices_Min_int_int.mono _ _ | exact lN | refine lI ?_ ?_ | refine lB ?_ fun _ => ?_
theorem impl_CodeLengths.mono : ∀ a0 k, LeO (impl_CodeLengths.f k a0) (impl_CodeLengths.f (k + 1) a0) := by
 intro a0 k
 obtain ⟨ih0, ih1, ih2, ih3, ih4, ih5, ih6⟩ := impl_CodeLengths.mono_l k
 unfold impl_CodeLengths.f
 repeat' first | (with_reducible first | exact ih0 _ _ | exact ih1 _ _ _ _ _ | exact ih2 _ _ | exact ih3 _ _ | exact ih4 _ _ _ _ _ | exact ih5 _ _ _ _ _ _ _ _ _ | exact ih6 _ _ _ _ _ _ _ | exact slices_Max_int_int.mono _ _ | exact slices_Min_int_int.mono _ _ | exact lR | exact lN | refine lI ?_ ?_ | refine lB ?_ fun _ => ?_) | exact ih0 _ _ | exact ih1 _ _ _ _ _ | exact ih2 _ _ | exact ih3 _ _ | exact ih4 _ _ _ _ _ | exact ih5 _ _ _ _ _ _ _ _ _ | exact ih6 _ _ _ _ _ _ _ | exact slices_Max_int_int.mono _ _ | exact slices_Min_int_int.mono _ _ | exact lN | refine lI ?_ ?_ | refine lB ?_ fun _ => ?_
def impl_CodeLengths.T21 : Bool × List (List Nat × List Nat) := (true, [([], []), ([0], [0]), ([], []), ([], []), ([2, 3], [2, 3]), ([4], [4]), ([5], [5]), ([1, 6], [1, 6])])
def impl_CodeLengths.B21 : List Nat := [0, 1, 0, 0, 12, 28, 60, 127]
theorem impl_CodeLengths.tab21 : rtab .any (opsOf Try.f25 21) = impl_CodeLengths.T21 := by kernel_rfl
theorem impl_CodeLengths.bits21 : waitsOk impl_CodeLengths.T21.2 impl_CodeLengths.B21 = true := by kernel_rfl
def impl_CodeLengths.T24 : Bool × List (List Nat × List Nat) := (true, [([], []), ([0], [0]), ([], []), ([], []), ([2, 3], [2, 3]), ([4], [4]), ([5], [5]), ([1, 6], [1, 6]), ([0, 1, 2, 3, 4, 5, 6, 7], []), ([8, 7, 0, 1, 2, 3, 4, 5, 6, 7], [7, 8])])
def impl_CodeLengths.B24 : List Nat := [0, 1, 0, 0, 12, 28, 60, 127, 255, 511]
theorem impl_CodeLengths.tab24 : rtab .any (opsOf Try.f25 24) = impl_CodeLengths.T24 := by kernel_rfl
theorem impl_CodeLengths.bits24 : waitsOk impl_CodeLengths.T24.2 impl_CodeLengths.B24 = true := by kernel_rfl
def impl_CodeLengths.T25 : Bool × List (List Nat × List Nat) := (true, [([], []), ([0], [0]), ([], []), ([], []), ([2, 3], [2, 3]), ([4], [4]), ([5], [5]), ([1, 6], [1, 6]), ([0, 1, 2, 3, 4, 5, 6, 7], []), ([8, 7, 7, 0, 1, 2, 3, 4, 5, 6, 7], [7, 8])])
def impl_CodeLengths.B25 : List Nat := [0, 1, 0, 0, 12, 28, 60, 127, 255, 511]
theorem impl_CodeLengths.tab25 : rtab .any (opsOf Try.f25 25) = impl_CodeLengths.T25 := by kernel_rfl
theorem impl_CodeLengths.bits25 : waitsOk impl_CodeLengths.T25.2 impl_CodeLengths.B25 = true := by kernel_rfl
set_option maxHeartbeats 8000000 in
set_option maxRecDepth 100000 in
theorem impl_CodeLengths.calls (k : Nat) (A0 : Option Addr) (c0 : Nat) (l0 : List Int) (r : List Int) (w : World) (hr0 : Kd.C (Kd.int .i64) w A0 l0.length l0) (hc0 : l0.length ≤ c0) (h : impl_CodeLengths.f k l0 = some r) :
  Calls Try.prog 25 #[.slice A0 l0.length c0] w fun e w' => ∃ v0_ : Value, e = .returned (v0_) ∧ Kd.R (Kd.int .i64) 3 w' w.heap.size (fun _ => True) v0_ r ∧ Below w.heap.size w w' := by
 have hu54 := Try.underlying54
 have HR0 := aM hr0
 have HC0 := aM hc0
 clear hr0 hc0
 have HB := aM (Below.refl w.heap.size w)
 unfold impl_CodeLengths.f at h
 have H := h
 clear h
 have HC2 := aM H
 clear H
 go_enter Try.func25, Try.ntmps25
 go_upto_region 1 with (fail)
 go_cut [30] (fun v30 wc => ∃ (kq : Nat) (x30_1 : Bool), v30 = .bool x30_1 ∧ Aside0 (impl_CodeLengths.j0 kq l0 x30_1 = some r) ∧ Aside0 (kq ≤ k) ∧ Aside0 (Below w.heap.size w wc))
 case first =>
  have H := HC2.out
  clear HC2
  by_cases c3 : (l0.length : Int) < 1
  ·rw [if_pos c3] at H
   have c3b0 : decide ((l0.length : Int) < 1) = true := decide_eq_true c3
   have c3b1 : decide (l0.length < 1) = true := decide_eq_true (by omega)
   clear c3
   (first | rw [c3b0] | (simp only [i64_w, i32_w]; rw [c3b0]) | skip)
   have H' := aM H
   clear H
   go_wp2
   go_meet
   case rel => exact ⟨_, (true), qE, H', ⟨by first | omega | exact Nat.le_refl _⟩, ⟨by exact qW HB.out⟩⟩
  rw [if_neg c3] at H
  have c3b0 : decide ((l0.length : Int) < 1) = false := decide_eq_false c3
  have c3b1 : decide (l0.length < 1) = false := decide_eq_false (by omega)
  clear c3
  (first | rw [c3b0] | (simp only [i64_w, i32_w]; rw [c3b0]) | skip)
  by_cases c4 : (l0.length : Int) > 16
  ·rw [if_pos c4] at H
   have c4b0 : decide (16 < (l0.length : Int)) = true := decide_eq_true c4
   have c4b1 : decide (16 < l0.length) = true := decide_eq_true (by omega)
   clear c4
   have H' := aM H
   clear H
   go_wp2
   go_meet
   case rel => exact ⟨_, (true), qE, H', ⟨by first | omega | exact Nat.le_refl _⟩, ⟨by exact qW HB.out⟩⟩
  rw [if_neg c4] at H
  have c4b0 : decide (16 < (l0.length : Int)) = false := decide_eq_false c4
  have c4b1 : decide (16 < l0.length) = false := decide_eq_false (by omega)
  clear c4
  replace H := Option.bind_eq_some_iff.mp H
  obtain ⟨t475, A50, H⟩ := H
  replace H : (if t475 < 0 then (impl_CodeLengths.j0 k l0 true) else ((slices_Max_int_int.f k l0).bind fun t476 => (impl_CodeLengths.j0 k l0 (decide (t476 > 9999))))) = some r := H
  have A5 := aM A50
  clear A50
  by_cases c6 : t475 < 0
  ·rw [if_pos c6] at H
   have c6b0 : decide (t475 < 0) = true := decide_eq_true c6
   clear c6
   have H' := aM H
   clear H
   go_wp2_with (first | (go_at_call 43; (with_reducible refine (slices_Min_int_int.calls k _ _ l0 t475 _ ?side1 ?side2 A5.out).mono ?_); (case side1 => exact qC (Kd.C_below HR0.out HB.out)); (case side2 => exact HC0.out); rintro e w7 ⟨rfl, hb⟩; replace HB := bS HB hb; clear hb))
   go_meet
   case rel => exact ⟨_, (true), qE, H', ⟨by first | omega | exact Nat.le_refl _⟩, ⟨by exact qW HB.out⟩⟩
  rw [if_neg c6] at H
  have c6b0 : decide (t475 < 0) = false := decide_eq_false c6
  clear c6
  replace H := Option.bind_eq_some_iff.mp H
  obtain ⟨t476, A80, H⟩ := H
  replace H : (impl_CodeLengths.j0 k l0 (decide (t476 > 9999))) = some r := H
  have A8 := aM A80
  clear A80
  have H' := aM H
  clear H
  go_wp2_with (first | (go_at_call 43; (with_reducible refine (slices_Min_int_int.calls k _ _ l0 t475 _ ?side1 ?side2 A5.out).mono ?_); (case side1 => exact qC (Kd.C_below HR0.out HB.out)); (case side2 => exact HC0.out); rintro e w9 ⟨rfl, hb⟩; replace HB := bS HB hb; clear hb) | (go_at_call 44; (with_reducible refine (slices_Max_int_int.calls k _ _ l0 t476 _ ?side1 ?side2 A8.out).mono ?_); (case side1 => exact qC (Kd.C_below HR0.out HB.out)); (case side2 => exact HC0.out); rintro e w10 ⟨rfl, hb⟩; replace HB := bS HB hb; clear hb))
  go_meet
  case rel => exact ⟨_, (decide (t476 > 9999)), qE, H', ⟨by first | omega | exact Nat.le_refl _⟩, ⟨by exact qW HB.out⟩⟩
 case rest =>
  clear HC2
  try clear c3
  try clear c3b0
  try clear c3b1
  try clear c4
  try clear c4b0
  try clear c4b1
  try clear c6
  try clear c6b0
  obtain ⟨kq, x30_1, rfl, HA, HJ1, HB⟩ := hcut
  cases kq with
  | zero => exact absurd HA.out (by simp [impl_CodeLengths.j0])
  | succ kj1 =>
   have H := HA.out
   clear HA
   simp only [impl_CodeLengths.j0] at H
   by_cases c11 : x30_1 = true
   ·subst c11
    have H1 : (some ([] : List Int)) = some r := by rw [if_pos rfl] at H; exact H
    clear H
    have H := H1
    clear H1
    obtain rfl := Option.some.inj H
    go_wp2
    go_ret
    exact ⟨_, qX, qN, by exact qW HB.out⟩
   replace c11 := Bool.eq_false_iff.mpr c11
   subst c11
   have H1 : (if 0 ≤ (l0.length : Int) then (if ((l0.length : Int) : Int).toNat ≤ 35184372088832 then (impl_CodeLengths.l0 kj1 (List.replicate ((l0.length : Int) : Int).toNat 0) (([] : List (S54))) l0 (l0.length : Int) 0) else (none)) else (none)) = some r := by rw [if_neg (show ¬ (false = true) by decide)] at H; exact H
   clear H
   have H := H1
   clear H1
   replace H := iS H
   obtain ⟨c12, H⟩ := H
   have c12b0 := eq_true c12
   have c12b1 : decide (0 ≤ (l0.length : Int)) = true := decide_eq_true c12
   clear c12
   replace H := iS H
   obtain ⟨c13, H⟩ := H
   have c13b0 := eq_true c13
   have c13b1 : decide (((l0.length : Int) : Int).toNat ≤ 35184372088832) = true := decide_eq_true c13
   clear c13
   obtain ⟨y477, hy477⟩ : ∃ y_ : List Int, y_ = (List.replicate ((l0.length : Int) : Int).toNat 0) := ⟨_, rfl⟩
   replace H : (impl_CodeLengths.l0 kj1 y477 (([] : List (S54))) l0 (l0.length : Int) 0) = some r := rY hy477 H
   have Ny477 := aM hy477
   clear hy477
   obtain ⟨y480, hy480⟩ : ∃ y_ : List (S54), y_ = (([] : List (S54))) := ⟨_, rfl⟩
   replace H : (impl_CodeLengths.l0 kj1 y477 y480 l0 (l0.length : Int) 0) = some r := rY hy480 H
   have Ny480 := aM hy480
   clear hy480
   have H' := aM H
   clear H
   go_wp2_with (first | ((with_reducible refine gate_dst (N := 33) rfl ?_); (try (refine gate_guard (by rfl) ?_; dsimp only)); refine Kd.R_make (Kd.int .i64) _ 3 rfl (N := 33) rfl 22 _ _ rfl (l0.length : Int) rfl rfl Try.underlying22 (.int .i64 0) 8 info3 rfl (by decide) (by omega) 0 (ok := fun _ => True) (okp := fun _ => True) rfl (fun _ hk => hk) trivial oD (Nat.le_trans (Nat.mul_le_mul_right _ (oD : (l0.length : Int).toNat ≤ 35184372088832)) (by omega)) (Below.refl _ _) (Nat.le_refl _) ?_; intro v478 w14 ho15 hb hg_ hnew_; clear hg_ hnew_; (first | rw [← Ny477.out] at ho15 | (simp only [Int.reduceToNat] at ho15; rw [← Ny477.out] at ho15)); have HO479 := oR ho15 HB; replace HB := bS HB hb; clear hb ho15) | ((with_reducible refine gate_dst (N := 34) rfl ?_); (try (refine gate_guard (by rfl) ?_; dsimp only)); refine Kd.S_lit k54 _ 54 ?hg (N := 34) ?hd (xs := ([] : List (S54))) (inner := []) (ok := fun _ => True) (okp := fun _ => True) ?hr ?hp (fun _ hk => hk) trivial (Below.refl _ _) (Nat.le_refl _) (by simp) ?_; (case hd => rfl); (case hg => rfl); (case hr => first | (go_simp; done) | (go_simp; rfl)); (case hp => exact (Reps.none _ _)); intro v481 w16 ho17 hb hg_ hnew_; clear hg_ hnew_; (first | rw [← Ny480.out] at ho17 | (simp only [Int.reduceToNat] at ho17; rw [← Ny480.out] at ho17)); have HO482 := aM (Kd.S_lower (Kd.S_new' ho17 (Kd.R_lt (qR HO479.out))) (below_size (qW HB.out))); replace HO479 := aM (Kd.R_below (qR HO479.out) hb); replace HB := bS HB hb; clear hb ho17))
   go_loopg [4, 37] kj1 (fun kq v4 v37 w' => ∃ (x4_2 : List (S54)) (x37_2 : Int), v37 = .int .i64 x37_2 ∧ Aside0 (impl_CodeLengths.l0 kq y477 x4_2 l0 (l0.length : Int) x37_2 = some r) ∧ Aside0 (kq ≤ kj1) ∧ Aside0 (Kd.R (Kd.int .i64) 3 w' w.heap.size (fun _ => True) v478 y477) ∧ Aside0 (Kd.S k54 54 w' w.heap.size (fun k_ => some k_ ≠ (v478 : Value).ownBlock) v4 x4_2) ∧ Aside0 (Below w.heap.size w w'))
   case atStart => exact ⟨(y480), (0), qE, H', ⟨Nat.le_refl _⟩, ⟨by refine qR ?_; exact HO479.out⟩, ⟨by (with_reducible repeat (first | apply Kd.S_alloc | apply Kd.S_drewN | apply Kd.S_drew)); exact Kd.S_mono HO482.out (fun _ hk => hk.2)⟩, ⟨by exact qW HB.out⟩⟩
   case round =>
    clear H'
    try clear c3
    try clear c3b0
    try clear c3b1
    try clear c4
    try clear c4b0
    try clear c4b1
    try clear c6
    try clear c6b0
    try clear c11
    try clear c12
    try clear c12b0
    try clear c12b1
    try clear c13
    try clear c13b0
    try clear c13b1
    obtain ⟨x4_2, x37_2, rfl, HA, HK2, HO_3, HO_4, HB⟩ := hrel
    cases gk with
    | zero => exact absurd HA.out (by simp [impl_CodeLengths.l0])
    | succ k2 =>
     have H := HA.out
     clear HA
     simp only [impl_CodeLengths.l0] at H
     by_cases c18 : x37_2 < (l0.length : Int)
     ·rw [if_pos c18] at H
      have c18b0 : decide (x37_2 < (l0.length : Int)) = true := decide_eq_true c18
      clear c18
      replace H := iD H
      obtain ⟨c19b0, H⟩ := H
      replace H := iD H
      obtain ⟨c20b0, H⟩ := H
      by_cases c21 : (rd l0 x37_2) > 0
      rotate_left
      ·rw [if_neg c21] at H
       have c21b0 : decide (0 < (rd l0 x37_2)) = false := decide_eq_false c21
       clear c21
       have H' := aM H
       clear H
       obtain ⟨ad483, e483, hx483_0⟩ := Kd.at_int HR0.out x37_2 oD oD
       cases e483
       replace hx483_0 := bD HB hx483_0
       have p483 := eq_true (oD : 0 ≤ (x37_2 : Int))
       have q483 := eq_true (oD : x37_2 < (l0.length : Int))
       go_wp2
       go_roundg k2
       case measure => have := HJ1.out; have := HK2.out; omega
       case rel => exact ⟨(x4_2), (wrap64 (x37_2 + 1)), qE, H', ⟨by have := HJ1.out; have := HK2.out; omega⟩, ⟨by refine qR ?_; exact HO_3.out⟩, ⟨by (with_reducible repeat (first | apply Kd.S_alloc | apply Kd.S_drewN | apply Kd.S_drew)); exact HO_4.out⟩, ⟨by exact qW HB.out⟩⟩
      rw [if_pos c21] at H
      have c21b0 : decide (0 < (rd l0 x37_2)) = true := decide_eq_true c21
      clear c21
      obtain ⟨y484, hy484⟩ : ∃ y_ : List Int, y_ = (([x37_2] : List Int)) := ⟨_, rfl⟩
      replace H : (if x4_2.length < 4398046511104 then (impl_CodeLengths.l0 k2 y477 (x4_2 ++ [(⟨rd l0 x37_2, y484⟩ : S54)]) l0 (l0.length : Int) (wrap64 (x37_2 + 1))) else (none)) = some r := rY hy484 H
      have Ny484 := aM hy484
      clear hy484
      replace H := iS H
      obtain ⟨c22, H⟩ := H
      have LMc22 := aM c22
      clear c22
      obtain ⟨y487, hy487⟩ : ∃ y_ : List (S54), y_ = (x4_2 ++ [(⟨rd l0 x37_2, y484⟩ : S54)]) := ⟨_, rfl⟩
      replace H : (impl_CodeLengths.l0 k2 y477 y487 l0 (l0.length : Int) (wrap64 (x37_2 + 1))) = some r := rY hy487 H
      have Ny487 := aM hy487
      clear hy487
      have H' := aM H
      clear H
      obtain ⟨ad483, e483, hx483_0⟩ := Kd.at_int HR0.out x37_2 oD oD
      cases e483
      replace hx483_0 := bD HB hx483_0
      have p483 := eq_true (oD : 0 ≤ (x37_2 : Int))
      have q483 := eq_true (oD : x37_2 < (l0.length : Int))
      go_wp2_with (first | ((with_reducible refine gate_dst (N := 47) rfl ?_); (try (refine gate_guard (by rfl) ?_; dsimp only)); refine iL ([x37_2] : List Int) [.int .i64 x37_2] ?_; intro v485 w23 ho24 hb hg_ hnew_; clear hg_ hnew_; (first | rw [← Ny484.out] at ho24 | (simp only [Int.reduceToNat] at ho24; rw [← Ny484.out] at ho24)); replace HO_4 := aM (Kd.S_elder' (by (with_reducible repeat (first | apply Kd.S_alloc | apply Kd.S_drewN | apply Kd.S_drew)); exact HO_4.out) (Kd.R_base ho24) hb); have HO486 := nR ho24 HO_3 HB; replace HO_3 := aM (Kd.R_elder' (qR HO_3.out) (Kd.R_base ho24) hb); replace HB := bS HB hb; clear hb ho24; obtain ⟨Ao25, co25, rfl⟩ := sL HO486) | ((with_reducible refine gate_builtin (b := .append) (xs := #[.tmp 44, .tmp 49]) rfl ?_); (try (refine gate_guard (by rfl) ?_; dsimp only)); at_builtin; refine Kd.S_append k54 (w0 := w) w.heap.size rfl (.tmp 44) (.tmp 49) 52 54 (.agg #[(.int .i64 0), (.slice none 0 0)]) 32 rfl Try.underlying52 info54 rfl (by decide) (by omega) u4 x4_2 (⟨rd l0 x37_2, y484⟩ : S54) [.int .i64 (rd l0 x37_2), .slice Ao25 y484.length co25] (fun k_ => some k_ ≠ (v478 : Value).ownBlock) (fun k_ => some k_ = (.slice Ao25 y484.length co25 : Value).ownBlock) rfl rfl ?aP (fun k_ hk_ => ((Kd.R_mono (ok' := fun k_ => ((fun k_ => some k_ ≠ (v478 : Value).ownBlock)) k_ ∧ some k_ ≠ (u4 : Value).ownBlock) (Kd.R_apart' (HO486.out) (Kd.S_typed HO_4.out) (by decide)) (fun k_ hk => ⟨hk.1.2, hk.2⟩))).1 k_ hk_.symm) ?aF ?aO ?aB ?aS ?aL ?_; (case aP => exact k54_mkM _ _ _ (⟨rd l0 x37_2, y484⟩ : S54) (Kd.R_mono (Kd.R_tight rfl (Kd.R_mono (ok' := fun k_ => ((fun k_ => some k_ ≠ (v478 : Value).ownBlock)) k_ ∧ some k_ ≠ (u4 : Value).ownBlock) (Kd.R_apart' (HO486.out) (Kd.S_typed HO_4.out) (by decide)) (fun k_ hk => ⟨hk.1.2, hk.2⟩))) (fun _ h_ => h_))); (case aB => exact (qW HB.out)); (case aF => exact (fun k_ hk => Kd.fresh' (Kd.R_lt (qR HO_3.out)) k_ hk)); (case aO => exact (by (with_reducible repeat (first | apply Kd.S_alloc | apply Kd.S_drewN | apply Kd.S_drew)); exact Kd.S_mono HO_4.out (fun k_ hk => ⟨hk.1, fun e_ => hk.2 e_⟩))); (case aS => exact (below_size (qW HB.out))); (case aL => have := LMc22.out; omega); intro v488 w26 ho hb hg hat; rw [← Ny487.out] at ho; replace HO_3 := aM (Kd.R_over' (qR HO_3.out) (Kd.S_typed (by (with_reducible repeat (first | apply Kd.S_alloc | apply Kd.S_drewN | apply Kd.S_drew)); exact HO_4.out)) (by decide) hg); replace HB := aM (hb); have HO489 := aM (ho); clear HO_4 HO486; clear ho hb hg hat))
      go_roundg k2
      case measure => have := HJ1.out; have := HK2.out; omega
      case rel => exact ⟨(y487), (wrap64 (x37_2 + 1)), qE, H', ⟨by have := HJ1.out; have := HK2.out; omega⟩, ⟨by refine qR ?_; exact Kd.R_mono HO_3.out (fun _ hk => trivial)⟩, ⟨by (with_reducible repeat (first | apply Kd.S_alloc | apply Kd.S_drewN | apply Kd.S_drew)); exact HO489.out⟩, ⟨by exact qW HB.out⟩⟩
     rw [if_neg c18] at H
     have c18b0 : decide (x37_2 < (l0.length : Int)) = false := decide_eq_false c18
     clear c18
     have HC27 := aM H
     clear H
     obtain ⟨Ao28, co28, eo28⟩ := Kd.S_slice HO_4.out
     subst eo28
     go_upto_if 54 with (fail)
     go_cut [] (fun wc => ∃ (kq : Nat) (x3_26 : List Int), Aside0 (impl_CodeLengths.j2 kq x3_26 x4_2 = some r) ∧ Aside0 (kq ≤ k2) ∧ Aside0 (Kd.R (Kd.int .i64) 3 wc w.heap.size (fun _ => True) v478 x3_26) ∧ Aside0 (Kd.S k54 54 wc w.heap.size (fun k_ => some k_ ≠ (v478 : Value).ownBlock) (.slice Ao28 x4_2.length co28) x4_2) ∧ Aside0 (Below w.heap.size w wc))
     case first =>
      have H := HC27.out
      clear HC27
      by_cases c29 : (x4_2.length : Int) = 1
      rotate_left
      ·rw [if_neg c29] at H
       have c29b0 : ((x4_2.length : Int) == 1) = false := beq_eq_false_iff_ne.mpr c29
       have c29b1 : ((x4_2.length : Int) != 1) = true := bne_iff_ne.mpr c29
       (first | rw [c29b0] | (simp only [i64_w, i32_w]; rw [c29b0]) | skip)
       have H' := aM H
       clear H
       go_wp2
       go_meet
       case rel => exact ⟨_, (y477), H', ⟨by have := HJ1.out; have := HK2.out; first | omega | exact Nat.le_refl _⟩, ⟨by refine qR ?_; exact HO_3.out⟩, ⟨by (with_reducible repeat (first | apply Kd.S_alloc | apply Kd.S_drewN | apply Kd.S_drew)); exact HO_4.out⟩, ⟨by exact qW HB.out⟩⟩
      rw [if_pos c29] at H
      have c29b0 : ((x4_2.length : Int) == 1) = true := beq_iff_eq.mpr c29
      have c29b1 : ((x4_2.length : Int) != 1) = false := bne_eq_false_iff_eq.mpr c29
      clear c29
      (first | rw [c29b0] | (simp only [i64_w, i32_w]; rw [c29b0]) | skip)
      replace H := iS H
      obtain ⟨c30, H⟩ := H
      have c30b0 : decide (0 < (x4_2.length : Int)) = true := decide_eq_true c30
      have c30b1 : decide (0 < x4_2.length) = true := decide_eq_true (by omega)
      clear c30
      replace H := iS H
      obtain ⟨c31, H⟩ := H
      have c31b0 : decide (0 < (((rd_T54 x4_2 0).f1).length : Int)) = true := decide_eq_true c31
      have c31b1 : decide (0 < ((rd_T54 x4_2 0).f1).length) = true := decide_eq_true (by omega)
      clear c31
      replace H := iD H
      obtain ⟨c32b0, H⟩ := H
      replace H := iD H
      obtain ⟨c33b0, H⟩ := H
      obtain ⟨y492, hy492⟩ : ∃ y_ : List Int, y_ = (y477.set ((rd ((rd_T54 x4_2 0).f1) 0) : Int).toNat 1) := ⟨_, rfl⟩
      replace H : (impl_CodeLengths.j2 k2 y492 x4_2) = some r := rY hy492 H
      have Ny492 := aM hy492
      clear hy492
      have H' := aM H
      clear H
      have p490 : 0 ≤ (0 : Int) := (by omega)
      have q490 : 0 < (x4_2.length : Int) := oD
      obtain ⟨ad490, A490_1, c490_1, e490, hx490_0, hx490_1, hl490_1, hi490_1⟩ := at_T54 (Kd.S_reads' HO_4.out).2.2 0 p490 q490
      cases e490
      obtain ⟨ce490, hce490, hMe490, hcc490⟩ := Kd.S_get HO_4.out z54 0 p490 (by first | exact q490 | exact oD | (have e_ := (Kd.S_reads' HO_4.out).1; omega))
      obtain ⟨ve490_1, rfl, ge490_1⟩ := k54_openM hMe490
      have hv490_1 := hcc490 1 _ rfl
      rw [add_field _ _ 1 (by omega)] at hv490_1
      replace hv490_1 := Option.some.inj (hv490_1.symm.trans hx490_1)
      rw [hv490_1] at ge490_1
      have HL490_1 := aM (show Kd.R (Kd.int .i64) 3 _ _ _ _ ((rd_T54 x4_2 0).f1) from ge490_1)
      clear hv490_1 ge490_1
      clear hcc490 hce490
      have qi490 : (0 < x4_2.length) = True := eq_true (by omega)
      (try rw [show ((0 : Int)).toNat = 0 from rfl] at hx490_0)
      (try rw [show 0 * 2 = 0 from rfl] at hx490_0)
      (try rw [Addr.add_zero'] at hx490_0)
      (try rw [show ((0 : Int)).toNat = 0 from rfl] at hx490_1)
      (try rw [show 0 * 2 = 0 from rfl] at hx490_1)
      (try rw [Addr.add_zero'] at hx490_1)
      have HR490_1 := aM hi490_1
      have HC490_1 := aM hl490_1
      clear hi490_1 hl490_1
      replace p490 := eq_true p490
      replace q490 := eq_true q490
      have p491 : 0 ≤ (0 : Int) := (by omega)
      have q491 : 0 < (((rd_T54 x4_2 0).f1).length : Int) := oD
      obtain ⟨ad491, e491, hx491_0⟩ := Kd.at_int (by repeat (first | (with_reducible exact HR490_1.out) | (with_reducible refine Kd.C_alloc ?_ _) | (with_reducible refine Kd.C_drewN ?_ _) | (with_reducible refine Kd.C_drew ?_) | exact HR490_1.out)) 0 p491 q491
      cases e491
      have qi491 : (0 < ((rd_T54 x4_2 0).f1).length) = True := eq_true (by omega)
      (try rw [show ((0 : Int)).toNat = 0 from rfl] at hx491_0)
      (try rw [Addr.add_zero'] at hx491_0)
      replace p491 := eq_true p491
      replace q491 := eq_true q491
      have p34 : 0 ≤ ((rd ((rd_T54 x4_2 0).f1) 0) : Int) := oD
      have q34 : ((rd ((rd_T54 x4_2 0).f1) 0) : Int) < ((y477.length : Int) : Int) := oD
      obtain ⟨go34, co34, eo34, gb34, gl34, cl34, HG34⟩ := Kd.R_form HO_3.out (by omega)
      (first | cases eo34 | (injection eo34 with ea_ en_ ec_; (first | subst ea_ | (injection ea_ with ea_; subst ea_)); subst ec_; clear en_))
      have GB34 := aM gb34
      have GG34 := aM HG34
      clear gb34 gl34 HG34
      obtain ⟨hx34_0, hf34_0⟩ := Kd.R_celln 0 HO_3.out ((rd ((rd_T54 x4_2 0).f1) 0) : Int) p34 q34
      replace p34 := eq_true p34
      replace q34 := eq_true q34
      have HP35 := Kd.R_putg HO_3.out ((rd ((rd_T54 x4_2 0).f1) 0) : Int) 1
      go_wp2_with (first | ((with_reducible refine gate_store (t := 3) (p := 62) rfl ?_); refine store_event (t := 3) (p := 62) (v := ?vo_w36) (w1 := (wr.setCell ⟨go34, ((rd ((rd_T54 x4_2 0).f1) 0) : Int).toNat, none⟩ (.int .i64 1))) ?hg ?ho ?hn ?hr ?_; (case ho => rfl); (case hg => rfl); (case hn => rfl); (case hr => first | (go_simp; done) | (go_simp; rfl)); intro w36 hw; have hg : wr.grownBy w36 (some go34) := (by rw [hw]; exact HP35.2); have hp_ : Kd.R (Kd.int .i64) 3 w36 w.heap.size (fun _ => True) (.slice (some ⟨go34, 0, none⟩) y477.length co34) y492 := (by rw [hw, Ny492.out]; exact HP35.1); clear HP35; replace HO_3 := aM (hp_); replace HO_4 := aM (Kd.S_after (v := (.slice (some ⟨go34, 0, none⟩) y477.length co34)) (v1 := (.slice (some ⟨go34, 0, none⟩) y477.length co34)) (ok := (fun _ => True)) (by (with_reducible repeat (first | apply Kd.S_alloc | apply Kd.S_drewN | apply Kd.S_drew)); exact Kd.S_mono HO_4.out (fun _ hk => ⟨trivial, hk⟩)) hg (.inl rfl)); replace HL490_1 := aM (Kd.R_after (v := (.slice (some ⟨go34, 0, none⟩) y477.length co34)) (v1 := (.slice (some ⟨go34, 0, none⟩) y477.length co34)) (ok := (fun k_ => some k_ ≠ (.slice (some ad490) x4_2.length co28 : Value).ownBlock)) (by refine qR ?_; exact Kd.R_mono HL490_1.out (fun _ hk => ⟨hk.2, hk.1⟩)) hg (.inl rfl)); replace HB := aM ((by rw [hw]; exact below_set (HB.out) GB34.out : Below w.heap.size w w36)); clear hg hw hp_))
      go_meet
      case rel => exact ⟨_, (y492), H', ⟨by have := HJ1.out; have := HK2.out; first | omega | exact Nat.le_refl _⟩, ⟨by refine qR ?_; exact HO_3.out⟩, ⟨by (with_reducible repeat (first | apply Kd.S_alloc | apply Kd.S_drewN | apply Kd.S_drew)); exact Kd.S_mono HO_4.out (fun _ hk => hk.2)⟩, ⟨by exact qW HB.out⟩⟩
     case rest =>
      clear HC27
      try clear c3
      try clear c3b0
      try clear c3b1
      try clear c4
      try clear c4b0
      try clear c4b1
      try clear c6
      try clear c6b0
      try clear c11
      try clear c12
      try clear c12b0
      try clear c12b1
      try clear c13
      try clear c13b0
      try clear c13b1
      try clear c18
      try clear c18b0
      try clear c19b0
      try clear c20b0
      try clear c21
      try clear c21b0
      try clear c22
      try clear c29
      try clear c29b0
      try clear c29b1
      try clear c30
      try clear c30b0
      try clear c30b1
      try clear c31
      try clear c31b0
      try clear c31b1
      try clear c32b0
      try clear c33b0
      try clear p34
      try clear q34
      try clear hx34_0
      try clear hx483_0
      try clear hx490_0
      try clear hx490_1
      try clear hx491_0
      try clear p34
      try clear p483
      try clear p490
      try clear p491
      try clear q34
      try clear q483
      try clear q490
      try clear q491
      obtain ⟨kq, x3_26, HA, HJ26, HO_3, HO_4, HB⟩ := hcut
      cases kq with
      | zero => exact absurd HA.out (by simp [impl_CodeLengths.j2])
      | succ kj26 =>
       have H := HA.out
       clear HA
       simp only [impl_CodeLengths.j2] at H
       have H' := aM H
       clear H
       go_wp2
       go_loopg [4] kj26 (fun kq v4 w' => ∃ (x3_4 : List Int) (x4_4 : List (S54)), Aside0 (impl_CodeLengths.l1 kq x3_4 x4_4 = some r) ∧ Aside0 (kq ≤ kj26) ∧ Aside0 (Kd.R (Kd.int .i64) 3 w' w.heap.size (fun _ => True) v478 x3_4) ∧ Aside0 (Kd.S k54 54 w' w.heap.size (fun k_ => some k_ ≠ (v478 : Value).ownBlock) v4 x4_4) ∧ Aside0 (Below w.heap.size w w'))
       case atStart => exact ⟨(x3_26), (x4_2), H', ⟨Nat.le_refl _⟩, ⟨by refine qR ?_; exact HO_3.out⟩, ⟨by (with_reducible repeat (first | apply Kd.S_alloc | apply Kd.S_drewN | apply Kd.S_drew)); exact HO_4.out⟩, ⟨by exact qW HB.out⟩⟩
       case round =>
        clear H'
        try clear c3
        try clear c3b0
        try clear c3b1
        try clear c4
        try clear c4b0
        try clear c4b1
        try clear c6
        try clear c6b0
        try clear c11
        try clear c12
        try clear c12b0
        try clear c12b1
        try clear c13
        try clear c13b0
        try clear c13b1
        try clear c18
        try clear c18b0
        try clear c19b0
        try clear c20b0
        try clear c21
        try clear c21b0
        try clear c22
        try clear c29
        try clear c29b0
        try clear c29b1
        try clear c30
        try clear c30b0
        try clear c30b1
        try clear c31
        try clear c31b0
        try clear c31b1
        try clear c32b0
        try clear c33b0
        try clear p34
        try clear q34
        try clear hx34_0
        try clear hx483_0
        try clear hx490_0
        try clear hx490_1
        try clear hx491_0
        try clear p34
        try clear p483
        try clear p490
        try clear p491
        try clear q34
        try clear q483
        try clear q490
        try clear q491
        obtain ⟨x3_4, x4_4, HA, HK4, HO_3, HO_4, HB⟩ := hrel
        cases gk with
        | zero => exact absurd HA.out (by simp [impl_CodeLengths.l1])
        | succ k4 =>
         have H := HA.out
         clear HA
         simp only [impl_CodeLengths.l1] at H
         by_cases c37 : (x4_4.length : Int) > 1
         rotate_left
         ·rw [if_neg c37] at H
          have c37b0 : decide (1 < (x4_4.length : Int)) = false := decide_eq_false c37
          have c37b1 : decide (1 < x4_4.length) = false := decide_eq_false (by omega)
          clear c37
          obtain rfl := Option.some.inj H
          obtain ⟨Ao88, co88, eo88⟩ := Kd.S_slice HO_4.out
          subst eo88
          go_wp2
          go_ret
          exact ⟨_, qX, by refine qR ?_; exact HO_3.out, by exact qW HB.out⟩
         rw [if_pos c37] at H
         have c37b0 : decide (1 < (x4_4.length : Int)) = true := decide_eq_true c37
         have c37b1 : decide (1 < x4_4.length) = true := decide_eq_true (by omega)
         clear c37
         have H' := aM H
         clear H
         obtain ⟨Ao38, co38, eo38⟩ := Kd.S_slice HO_4.out
         subst eo38
         go_wp2_with (first | ((with_reducible refine gate_dst (N := 7) rfl ?_); (try (refine gate_guard (by rfl) ?_; dsimp only)); refine bxE (N := 7) (cs := #[.int .i64 0, .slice none 0 0]) (t := 54) ?_; intro gb493 hg w39 hbox hb; replace HO_3 := aM (Kd.R_below (qR HO_3.out) hb); replace HO_4 := aM (Kd.S_below (Kd.S_elderB (by (with_reducible repeat (first | apply Kd.S_alloc | apply Kd.S_drewN | apply Kd.S_drew)); exact HO_4.out) gb493 (Nat.le_of_eq hg.symm)) hb); have BK493 := aM (hbox); have GW493 := gW hg HB; have GE493 := gW hg HB; replace HB := bS HB hb; clear hb hbox hg; obtain ⟨⟨hcz40_0, hcz40_1⟩, hfz40_0, hfz40_1⟩ := cf2 BK493))
         go_loopg [4, 67] k4 (fun kq v4 v67 w' => ∃ (x4_5 : List (S54)) (x67_5 : Int) (x494000_5 : Int) (x494001_5 : List Int) (u494001 : Value), v67 = .int .i64 x67_5 ∧ Aside0 (impl_CodeLengths.l2 kq x3_4 x4_5 x67_5 x494000_5 x494001_5 = some r) ∧ Aside0 (kq ≤ k4) ∧ Aside0 (Kd.R (Kd.int .i64) 3 w' w.heap.size (fun k_ => some k_ ≠ (u494001 : Value).ownBlock) v478 x3_4) ∧ Aside0 (Kd.S k54 54 w' w.heap.size (fun k_ => some k_ ≠ (v478 : Value).ownBlock ∧ some k_ ≠ (u494001 : Value).ownBlock ∧ k_ ≠ gb493) v4 x4_5) ∧ Aside0 (Kd.R (Kd.int .i64) 3 w' w.heap.size (fun k_ => some k_ ≠ (v478 : Value).ownBlock) u494001 x494001_5) ∧ Aside0 (w'.heap[gb493]? = some (.cells #[.int .i64 x494000_5, u494001] 54 (0, 0))) ∧ Aside0 (Below w.heap.size w w'))
         case atStart => exact ⟨(x4_4), (0), (0), (([] : List Int)), (.slice none 0 0), qE, H', ⟨Nat.le_refl _⟩, ⟨by refine qR ?_; exact Kd.R_mono (rT HO_3 BK493) (fun _ hk => (by simp [Value.ownBlock]))⟩, ⟨by (with_reducible repeat (first | apply Kd.S_alloc | apply Kd.S_drewN | apply Kd.S_drew)); exact Kd.S_mono (Kd.S_far (p := ⟨gb493, 1, none⟩) (Kd.S_far (p := ⟨gb493, 0, none⟩) (Kd.S_mono HO_4.out (fun k_ hk => (⟨hk, hk.2⟩ : _ ∧ k_ ≠ gb493))) (fun _ hk => hk.2) (.int .i64 0)) (fun _ hk => hk.2) (.slice none 0 0)) (fun _ hk => ⟨hk.1.1, ⟨(by simp [Value.ownBlock]), hk.1.2⟩⟩)⟩, ⟨qN⟩, ⟨by exact bP BK493.out⟩, ⟨by exact qW HB.out⟩⟩
         case round =>
          clear H'
          try clear c3
          try clear c3b0
          try clear c3b1
          try clear c4
          try clear c4b0
          try clear c4b1
          try clear c6
          try clear c6b0
          try clear c11
          try clear c12
          try clear c12b0
          try clear c12b1
          try clear c13
          try clear c13b0
          try clear c13b1
          try clear c18
          try clear c18b0
          try clear c19b0
          try clear c20b0
          try clear c21
          try clear c21b0
          try clear c22
          try clear c29
          try clear c29b0
          try clear c29b1
          try clear c30
          try clear c30b0
          try clear c30b1
          try clear c31
          try clear c31b0
          try clear c31b1
          try clear c32b0
          try clear c33b0
          try clear p34
          try clear q34
          try clear c37
          try clear c37b0
          try clear c37b1
          try clear hcz40_0 hcz40_1 hfz40_0 hfz40_1
          try clear hx34_0
          try clear hx483_0
          try clear hx490_0
          try clear hx490_1
          try clear hx491_0
          try clear p34
          try clear p483
          try clear p490
          try clear p491
          try clear q34
          try clear q483
          try clear q490
          try clear q491
          obtain ⟨x4_5, x67_5, x494000_5, x494001_5, u494001, rfl, HA, HK5, HO_3, HO_4, HO_494001, BK493, HB⟩ := hrel
          cases gk with
          | zero => exact absurd HA.out (by simp [impl_CodeLengths.l2])
          | succ k5 =>
           have H := HA.out
           clear HA
           simp only [impl_CodeLengths.l2] at H
           by_cases c41 : x67_5 < 2
           rotate_left
           ·rw [if_neg c41] at H
            have c41b0 : decide (x67_5 < 2) = false := decide_eq_false c41
            clear c41
            have H' := aM H
            clear H
            obtain ⟨⟨hcz74_0, hcz74_1⟩, hfz74_0, hfz74_1⟩ := cf2 BK493
            obtain ⟨Ao75, co75, rfl⟩ := sL HO_494001
            go_wp2
            go_loopg [113] k5 (fun kq v113 w' => ∃ (x3_6 : List Int) (x113_6 : Int), v113 = .int .i64 x113_6 ∧ Aside0 (impl_CodeLengths.l4 kq x3_6 x4_5 x494001_5 (x494001_5.length : Int) x113_6 x494000_5 x494001_5 = some r) ∧ Aside0 (kq ≤ k5) ∧ Aside0 (Kd.R (Kd.int .i64) 3 w' w.heap.size (fun k_ => some k_ ≠ ((.slice Ao75 x494001_5.length co75) : Value).ownBlock ∧ some k_ ≠ ((.slice Ao75 x494001_5.length co75) : Value).ownBlock) v478 x3_6) ∧ Aside0 (Kd.S k54 54 w' w.heap.size (fun k_ => some k_ ≠ (v478 : Value).ownBlock ∧ some k_ ≠ ((.slice Ao75 x494001_5.length co75) : Value).ownBlock ∧ some k_ ≠ ((.slice Ao75 x494001_5.length co75) : Value).ownBlock ∧ k_ ≠ gb493) u4 x4_5) ∧ Aside0 (Kd.R (Kd.int .i64) 3 w' w.heap.size (fun k_ => some k_ ≠ (v478 : Value).ownBlock) (.slice Ao75 x494001_5.length co75) x494001_5) ∧ Aside0 (Kd.R (Kd.int .i64) 3 w' w.heap.size (fun k_ => some k_ ≠ (v478 : Value).ownBlock) (.slice Ao75 x494001_5.length co75) x494001_5) ∧ Aside0 (w'.heap[gb493]? = some (.cells #[.int .i64 x494000_5, (.slice Ao75 x494001_5.length co75)] 54 (0, 0))) ∧ Aside0 (Below w.heap.size w w'))
            case atStart => exact ⟨(x3_4), (0), qE, H', ⟨Nat.le_refl _⟩, ⟨by refine qR ?_; exact Kd.R_mono HO_3.out (fun _ hk => ⟨hk, hk⟩)⟩, ⟨by (with_reducible repeat (first | apply Kd.S_alloc | apply Kd.S_drewN | apply Kd.S_drew)); exact Kd.S_mono HO_4.out (fun _ hk => ⟨hk.1, ⟨hk.2.1, ⟨hk.2.1, hk.2.2⟩⟩⟩)⟩, ⟨by refine qR ?_; exact HO_494001.out⟩, ⟨by refine qR ?_; exact HO_494001.out⟩, ⟨by refine qB ?_; exact BK493.out⟩, ⟨by exact qW HB.out⟩⟩
            case round =>
             clear H'
             try clear c4
             try clear c6
             try clear c41
             try clear c41b0
             try clear hcz74_0 hcz74_1 hfz74_0 hfz74_1
             obtain ⟨x3_6, x113_6, rfl, HA, HK6, HO_3, HO_4, HO_111, HO_494001, BK493, HB⟩ := hrel
             cases gk with
             | zero => exact absurd HA.out (by simp [impl_CodeLengths.l4])
             | succ k6 =>
              have H := HA.out
              clear HA
              simp only [impl_CodeLengths.l4] at H
              by_cases c76 : x113_6 < (x494001_5.length : Int)
              rotate_left
              ·rw [if_neg c76] at H
               have c76b0 : decide (x113_6 < (x494001_5.length : Int)) = false := decide_eq_false c76
               clear c76
               replace H := iS H
               obtain ⟨c85, H⟩ := H
               have LMc85 := aM c85
               clear c85
               obtain ⟨y508, hy508⟩ : ∃ y_ : List (S54), y_ = (x4_5 ++ [(⟨x494000_5, x494001_5⟩ : S54)]) := ⟨_, rfl⟩
               replace H : (impl_CodeLengths.l1 k6 x3_6 y508) = some r := rY hy508 H
               have Ny508 := aM hy508
               clear hy508
               have H' := aM H
               clear H
               obtain ⟨⟨hcz86_0, hcz86_1⟩, hfz86_0, hfz86_1⟩ := cf2 BK493
               go_wp2_with (first | ((with_reducible refine gate_builtin (b := .append) (xs := #[.tmp 124, .tmp 126]) rfl ?_); (try (refine gate_guard (by rfl) ?_; dsimp only)); at_builtin; refine Kd.S_append k54 (w0 := w) w.heap.size rfl (.tmp 124) (.tmp 126) 52 54 (.agg #[(.int .i64 0), (.slice none 0 0)]) 32 rfl Try.underlying52 info54 rfl (by decide) (by omega) u4 x4_5 (⟨x494000_5, x494001_5⟩ : S54) [.int .i64 x494000_5, .slice Ao75 x494001_5.length co75] (fun k_ => some k_ ≠ (v478 : Value).ownBlock ∧ k_ ≠ gb493) (fun k_ => some k_ = (.slice Ao75 x494001_5.length co75 : Value).ownBlock) rfl rfl ?aP (fun k_ hk_ => ((Kd.R_mono (ok' := fun k_ => ((fun k_ => some k_ ≠ (v478 : Value).ownBlock ∧ k_ ≠ gb493)) k_ ∧ some k_ ≠ (u4 : Value).ownBlock) (Kd.R_types (Kd.R_apart' (HO_494001.out) (Kd.S_typed HO_4.out) (by decide)) BK493.out (by decide)) (fun k_ hk => ⟨⟨hk.1.1, hk.2⟩, hk.1.2⟩))).1 k_ hk_.symm) ?aF ?aO ?aB ?aS ?aL ?_; (case aP => exact k54_mkM _ _ _ (⟨x494000_5, x494001_5⟩ : S54) (Kd.R_mono (Kd.R_tight rfl (Kd.R_mono (ok' := fun k_ => ((fun k_ => some k_ ≠ (v478 : Value).ownBlock ∧ k_ ≠ gb493)) k_ ∧ some k_ ≠ (u4 : Value).ownBlock) (Kd.R_types (Kd.R_apart' (HO_494001.out) (Kd.S_typed HO_4.out) (by decide)) BK493.out (by decide)) (fun k_ hk => ⟨⟨hk.1.1, hk.2⟩, hk.1.2⟩))) (fun _ h_ => h_))); (case aB => exact (qW HB.out)); (case aF => exact (fun k_ hk => ⟨Kd.fresh' (Kd.R_lt (qR HO_3.out)) k_ hk, Kd.freshB (g := gb493) (o := .cells #[.int .i64 x494000_5, .slice Ao75 x494001_5.length co75] 54 (0, 0)) (qB BK493.out) k_ hk⟩)); (case aO => exact (by (with_reducible repeat (first | apply Kd.S_alloc | apply Kd.S_drewN | apply Kd.S_drew)); exact Kd.S_mono HO_4.out (fun k_ hk => ⟨⟨hk.1, hk.2.2.2⟩, fun e_ => hk.2.2.1 e_⟩))); (case aS => exact (below_size (qW HB.out))); (case aL => have := LMc85.out; omega); intro v509 w87 ho hb hg hat; rw [← Ny508.out] at ho; replace HO_3 := aM (Kd.R_over' (qR HO_3.out) (Kd.S_typed (by (with_reducible repeat (first | apply Kd.S_alloc | apply Kd.S_drewN | apply Kd.S_drew)); exact HO_4.out)) (by decide) hg); replace BK493 := aM (blk_grown (g := gb493) (o := .cells #[.int .i64 x494000_5, .slice Ao75 x494001_5.length co75] 54 (0, 0)) (qB BK493.out) hg (Kd.S_away HO_4.out (fun _ hk => hk.2.2.2))); replace HB := aM (hb); have HO510 := aM (ho); clear HO_4 HO_494001 HO_111; clear ho hb hg hat))
               go_roundg k6
               case measure => have := HJ1.out; have := HK2.out; have := HJ26.out; have := HK4.out; have := HK5.out; have := HK6.out; omega
               case rel => exact ⟨(x3_6), (y508), H', ⟨by have := HJ1.out; have := HK2.out; have := HJ26.out; have := HK4.out; have := HK5.out; have := HK6.out; omega⟩, ⟨by refine qR ?_; exact Kd.R_mono HO_3.out (fun _ hk => trivial)⟩, ⟨by (with_reducible repeat (first | apply Kd.S_alloc | apply Kd.S_drewN | apply Kd.S_drew)); exact Kd.S_mono HO510.out (fun _ hk => hk.1)⟩, ⟨by exact qW HB.out⟩⟩
              rw [if_pos c76] at H
              have c76b0 : decide (x113_6 < (x494001_5.length : Int)) = true := decide_eq_true c76
              clear c76
              replace H := iD H
              obtain ⟨c77b0, H⟩ := H
              replace H := iD H
              obtain ⟨c78b0, H⟩ := H
              replace H := iD H
              obtain ⟨c79b0, H⟩ := H
              replace H := iD H
              obtain ⟨c80b0, H⟩ := H
              obtain ⟨y507, hy507⟩ : ∃ y_ : List Int, y_ = (x3_6.set ((rd x494001_5 x113_6) : Int).toNat (wrap64 ((rd x3_6 (rd x494001_5 x113_6)) + 1))) := ⟨_, rfl⟩
              replace H : (impl_CodeLengths.l4 k6 y507 x4_5 x494001_5 (x494001_5.length : Int) (wrap64 (x113_6 + 1)) x494000_5 x494001_5) = some r := rY hy507 H
              have Ny507 := aM hy507
              clear hy507
              have H' := aM H
              clear H
              obtain ⟨ad505, e505, hx505_0⟩ := Kd.at_int (Kd.R_reads' HO_111.out).2.2 x113_6 oD oD
              cases e505
              have p505 := eq_true (oD : 0 ≤ (x113_6 : Int))
              have q505 := eq_true (oD : x113_6 < (x494001_5.length : Int))
              obtain ⟨Ao82, co82, rfl⟩ := sL HO_3
              obtain ⟨ad506, e506, hx506_0⟩ := Kd.at_int (Kd.R_reads' HO_3.out).2.2 (rd x494001_5 x113_6) oD oD
              cases e506
              have p506 := eq_true (oD : 0 ≤ ((rd x494001_5 x113_6) : Int))
              have q506 := eq_true (oD : (rd x494001_5 x113_6) < (x3_6.length : Int))
              have p81 : 0 ≤ ((rd x494001_5 x113_6) : Int) := oD
              have q81 : ((rd x494001_5 x113_6) : Int) < ((x3_6.length : Int) : Int) := oD
              obtain ⟨go81, co81, eo81, gb81, gl81, cl81, HG81⟩ := Kd.R_form HO_3.out (by omega)
              (first | cases eo81 | (injection eo81 with ea_ en_ ec_; (first | subst ea_ | (injection ea_ with ea_; subst ea_)); subst ec_; clear en_))
              have GB81 := aM gb81
              have GG81 := aM HG81
              clear gb81 gl81 HG81
              (first | simp only [add_plain] at hx506_0 | skip)
              obtain ⟨hx81_0, hf81_0⟩ := Kd.R_celln 0 HO_3.out ((rd x494001_5 x113_6) : Int) p81 q81
              replace p81 := eq_true p81
              replace q81 := eq_true q81
              have HP83 := Kd.R_putg HO_3.out ((rd x494001_5 x113_6) : Int) (wrap64 ((rd x3_6 (rd x494001_5 x113_6)) + 1))
              go_wp2_with (first | ((with_reducible refine gate_store (t := 3) (p := 122) rfl ?_); refine store_event (t := 3) (p := 122) (v := ?vo_w84) (w1 := (wr.setCell ⟨go81, ((rd x494001_5 x113_6) : Int).toNat, none⟩ (.int .i64 (wrap64 ((rd x3_6 (rd x494001_5 x113_6)) + 1))))) ?hg ?ho ?hn ?hr ?_; (case ho => rfl); (case hg => rfl); (case hn => rfl); (case hr => first | (go_simp; done) | (go_simp; rfl)); intro w84 hw; have hg : wr.grownBy w84 (some go81) := (by rw [hw]; exact HP83.2); have hp_ : Kd.R (Kd.int .i64) 3 w84 w.heap.size (fun k_ => some k_ ≠ (.slice (some ad505) x494001_5.length co75 : Value).ownBlock ∧ some k_ ≠ (.slice (some ad505) x494001_5.length co75 : Value).ownBlock) (.slice (some ⟨go81, 0, none⟩) x3_6.length co82) y507 := (by rw [hw, Ny507.out]; exact HP83.1); clear HP83; replace HO_4 := aM (Kd.S_after (v := (.slice (some ⟨go81, 0, none⟩) x3_6.length co82)) (v1 := (.slice (some ⟨go81, 0, none⟩) x3_6.length co82)) (ok := (fun k_ => some k_ ≠ (.slice (some ad505) x494001_5.length co75 : Value).ownBlock ∧ some k_ ≠ (.slice (some ad505) x494001_5.length co75 : Value).ownBlock ∧ k_ ≠ gb493)) (by (with_reducible repeat (first | apply Kd.S_alloc | apply Kd.S_drewN | apply Kd.S_drew)); exact Kd.S_mono HO_4.out (fun _ hk => ⟨⟨hk.2.1, ⟨hk.2.2.1, hk.2.2.2⟩⟩, hk.1⟩)) hg (.inl rfl)); replace HO_111 := aM (Kd.R_after (v := (.slice (some ⟨go81, 0, none⟩) x3_6.length co82)) (v1 := (.slice (some ⟨go81, 0, none⟩) x3_6.length co82)) (ok := (fun _ => True)) (by refine qR ?_; exact Kd.R_mono HO_111.out (fun _ hk => ⟨trivial, hk⟩)) hg (.inl rfl)); replace HO_494001 := aM (Kd.R_after (v := (.slice (some ⟨go81, 0, none⟩) x3_6.length co82)) (v1 := (.slice (some ⟨go81, 0, none⟩) x3_6.length co82)) (ok := (fun _ => True)) (by refine qR ?_; exact Kd.R_mono HO_494001.out (fun _ hk => ⟨trivial, hk⟩)) hg (.inl rfl)); replace BK493 := gB BK493 hg (Kd.R_ne HO_3.out BK493.out (by decide)); replace HO_3 := aM (hp_); replace HB := aM ((by rw [hw]; exact below_set (HB.out) GB81.out : Below w.heap.size w w84)); clear hg hw hp_))
              go_roundg k6
              case measure => have := HJ1.out; have := HK2.out; have := HJ26.out; have := HK4.out; have := HK5.out; have := HK6.out; omega
              case rel => exact ⟨(y507), (wrap64 (x113_6 + 1)), qE, H', ⟨by have := HJ1.out; have := HK2.out; have := HJ26.out; have := HK4.out; have := HK5.out; have := HK6.out; omega⟩, ⟨by refine qR ?_; exact HO_3.out⟩, ⟨by (with_reducible repeat (first | apply Kd.S_alloc | apply Kd.S_drewN | apply Kd.S_drew)); exact Kd.S_mono HO_4.out (fun _ hk => ⟨hk.2, ⟨hk.1.1, ⟨hk.1.2.1, hk.1.2.2⟩⟩⟩)⟩, ⟨by refine qR ?_; exact Kd.R_mono HO_111.out (fun _ hk => hk.2)⟩, ⟨by refine qR ?_; exact Kd.R_mono HO_494001.out (fun _ hk => hk.2)⟩, ⟨by refine qB ?_; exact BK493.out⟩, ⟨by exact qW HB.out⟩⟩
           rw [if_pos c41] at H
           have c41b0 : decide (x67_5 < 2) = true := decide_eq_true c41
           clear c41
           have H' := aM H
           clear H
           obtain ⟨Ao42, co42, eo42⟩ := Kd.S_slice HO_4.out
           subst eo42
           go_wp2
           go_loopg [8, 71] k5 (fun kq v8 v71 w' => ∃ (x8_6 : Int) (x71_6 : Int), v8 = .int .i64 x8_6 ∧ v71 = .int .i64 x71_6 ∧ Aside0 (impl_CodeLengths.l3 kq x3_4 x4_5 x8_6 x67_5 x4_5 (x4_5.length : Int) x71_6 x494000_5 x494001_5 = some r) ∧ Aside0 (kq ≤ k5) ∧ Aside0 (Kd.R (Kd.int .i64) 3 w' w.heap.size (fun k_ => some k_ ≠ (u494001 : Value).ownBlock) v478 x3_4) ∧ Aside0 (Kd.S k54 54 w' w.heap.size (fun k_ => some k_ ≠ (v478 : Value).ownBlock ∧ some k_ ≠ (u494001 : Value).ownBlock ∧ k_ ≠ gb493) (.slice Ao42 x4_5.length co42) x4_5) ∧ Aside0 (Kd.S k54 54 w' w.heap.size (fun k_ => some k_ ≠ (v478 : Value).ownBlock ∧ some k_ ≠ (u494001 : Value).ownBlock ∧ k_ ≠ gb493) (.slice Ao42 x4_5.length co42) x4_5) ∧ Aside0 (Kd.R (Kd.int .i64) 3 w' w.heap.size (fun k_ => some k_ ≠ (v478 : Value).ownBlock) u494001 x494001_5) ∧ Aside0 (w'.heap[gb493]? = some (.cells #[.int .i64 x494000_5, u494001] 54 (0, 0))) ∧ Aside0 (Below w.heap.size w w'))
           case atStart => exact ⟨(0), (0), qE, qE, H', ⟨Nat.le_refl _⟩, ⟨by refine qR ?_; exact HO_3.out⟩, ⟨by (with_reducible repeat (first | apply Kd.S_alloc | apply Kd.S_drewN | apply Kd.S_drew)); exact HO_4.out⟩, ⟨by (with_reducible repeat (first | apply Kd.S_alloc | apply Kd.S_drewN | apply Kd.S_drew)); exact HO_4.out⟩, ⟨by refine qR ?_; exact HO_494001.out⟩, ⟨by refine qB ?_; exact BK493.out⟩, ⟨by exact qW HB.out⟩⟩
           case round =>
            clear H'
            try clear c3
            try clear c3b0
            try clear c3b1
            try clear c4
            try clear c4b0
            try clear c4b1
            try clear c6
            try clear c6b0
            try clear c11
            try clear c12
            try clear c12b0
            try clear c12b1
            try clear c13
            try clear c13b0
            try clear c13b1
            try clear c18
            try clear c18b0
            try clear c19b0
            try clear c20b0
            try clear c21
            try clear c21b0
            try clear c22
            try clear c29
            try clear c29b0
            try clear c29b1
            try clear c30
            try clear c30b0
            try clear c30b1
            try clear c31
            try clear c31b0
            try clear c31b1
            try clear c32b0
            try clear c33b0
            try clear p34
            try clear q34
            try clear c37
            try clear c37b0
            try clear c37b1
            try clear c41
            try clear c41b0
            try clear hcz40_0 hcz40_1 hfz40_0 hfz40_1
            try clear hx34_0
            try clear hx483_0
            try clear hx490_0
            try clear hx490_1
            try clear hx491_0
            try clear p34
            try clear p483
            try clear p490
            try clear p491
            try clear q34
            try clear q483
            try clear q490
            try clear q491
            obtain ⟨x8_6, x71_6, rfl, rfl, HA, HK6, HO_3, HO_4, HO_69, HO_494001, BK493, HB⟩ := hrel
            cases gk with
            | zero => exact absurd HA.out (by simp [impl_CodeLengths.l3])
            | succ k6 =>
             have H := HA.out
             clear HA
             simp only [impl_CodeLengths.l3] at H
             by_cases c43 : x71_6 < (x4_5.length : Int)
             rotate_left
             ·rw [if_neg c43] at H
              have c43b0 : decide (x71_6 < (x4_5.length : Int)) = false := decide_eq_false c43
              clear c43
              replace H := iD H
              obtain ⟨c59b0, H⟩ := H
              replace H := iD H
              obtain ⟨c60b0, H⟩ := H
              replace H := iS H
              obtain ⟨c61, H⟩ := H
              have LMc61 := aM c61
              clear c61
              obtain ⟨y499, hy499⟩ : ∃ y_ : List Int, y_ = (x494001_5 ++ ((rd_T54 x4_5 x8_6).f1)) := ⟨_, rfl⟩
              replace H : (impl_CodeLengths.l2 k6 x3_4 (x4_5.eraseIdx (x8_6 : Int).toNat) (wrap64 (x67_5 + 1)) (wrap64 (x494000_5 + ((rd_T54 x4_5 x8_6).f0))) y499) = some r := rY hy499 H
              have Ny499 := aM hy499
              clear hy499
              have c62b0 := eq_true (oD : 0 ≤ x8_6)
              have c63b0 := eq_true (oD : x8_6 < (x4_5.length : Int))
              obtain ⟨y502, hy502⟩ : ∃ y_ : List (S54), y_ = (x4_5.eraseIdx (x8_6 : Int).toNat) := ⟨_, rfl⟩
              replace H : (impl_CodeLengths.l2 k6 x3_4 y502 (wrap64 (x67_5 + 1)) (wrap64 (x494000_5 + ((rd_T54 x4_5 x8_6).f0))) y499) = some r := rY hy502 H
              have Ny502 := aM hy502
              clear hy502
              have H' := aM H
              clear H
              try go_wp2
              replace HO_3 := aM (Kd.R_drew HO_3.out)
              replace HO_4 := aM (Kd.S_drew HO_4.out)
              replace HO_69 := aM (Kd.S_drew HO_69.out)
              replace HO_494001 := aM (Kd.R_drew HO_494001.out)
              replace BK493 := aM (blk_drew BK493.out)
              replace HB := aM (below_drew1 HB.out)
              have p497 : 0 ≤ (x8_6 : Int) := oD
              have q497 : x8_6 < (x4_5.length : Int) := oD
              obtain ⟨ad497, A497_1, c497_1, e497, hx497_0, hx497_1, hl497_1, hi497_1⟩ := at_T54 (Kd.S_reads' HO_4.out).2.2 x8_6 p497 q497
              cases e497
              obtain ⟨ce497, hce497, hMe497, hcc497⟩ := Kd.S_get HO_4.out z54 x8_6 p497 (by first | exact q497 | exact oD | (have e_ := (Kd.S_reads' HO_4.out).1; omega))
              obtain ⟨ve497_1, rfl, ge497_1⟩ := k54_openM hMe497
              have hv497_1 := hcc497 1 _ rfl
              rw [add_field _ _ 1 (by omega)] at hv497_1
              replace hv497_1 := Option.some.inj (hv497_1.symm.trans hx497_1)
              rw [hv497_1] at ge497_1
              have HL497_1 := aM (show Kd.R (Kd.int .i64) 3 _ _ _ _ ((rd_T54 x4_5 x8_6).f1) from ge497_1)
              clear hv497_1 ge497_1
              clear hcc497 hce497
              have HR497_1 := aM hi497_1
              have HC497_1 := aM hl497_1
              clear hi497_1 hl497_1
              replace p497 := eq_true p497
              replace q497 := eq_true q497
              refine start_ (n := 10) (S := fun w' => w'.cell? ⟨gb493, 0, none⟩ = some (.int .i64 x494000_5) ∧ w'.cell? ⟨gb493, 1, none⟩ = some (u494001) ∧ w'.cell? (ad497.add ((x8_6).toNat * 2)) = some (.int .i64 ((rd_T54 x4_5 x8_6).f0)) ∧ w'.cell? ⟨(ad497.add ((x8_6).toNat * 2)).block, (ad497.add ((x8_6).toNat * 2)).off + 1, none⟩ = some (.slice A497_1 ((rd_T54 x4_5 x8_6).f1).length c497_1)) (ds := [9]) (bA 10 0) (by kernel_rfl) rfl rfl ⟨(blk_cell BK493.out 0).trans rfl, (blk_cell BK493.out 1).trans rfl, hx497_0, hx497_1⟩ (fun hHeld => ?_); refine with_tabW impl_CodeLengths.tab24 impl_CodeLengths.bits24 (fun HT_ HW_ => ?_)
              generalize wr.drew = w64 at HO_3 HO_4 HO_69 HO_494001 BK493 HB HL497_1 HR497_1 hx497_0 hx497_1 hHeld ⊢
              refine pQ 0 86 HT_ (bA 10 1) ?_
              refine pQ 2 88 HT_ (bA 10 5) ?_
              refine pQ 3 89 HT_ (bA 10 13) ?_
              refine pQ 4 90 HT_ (bA 10 29) ?_
              refine pQ 5 91 HT_ (bA 10 61) ?_
              refine take_ (i := 1) (N := some 87) (v := ?_) (a' := ?_) (bA 10 63) rfl rfl (take_ofW HT_.out HW_.out (by kernel_rfl)) (fun _ _ _ h => h) (Or.inl ⟨by rfl, ?_⟩) hHeld ?_ ?_
              rotate_left
              ·rintro w' ⟨s0, s1, s2, s3⟩
               go_simp
               with_reducible rfl
              rotate_left
              ·refine pZ ?_
               rfl
              refine take_ (i := 6) (N := some 92) (v := ?_) (a' := ?_) (bA 10 127) rfl rfl (take_ofW HT_.out HW_.out (by kernel_rfl)) (fun _ _ _ h => h) (Or.inl ⟨by rfl, ?_⟩) hHeld ?_ ?_
              rotate_left
              ·rintro w' ⟨s0, s1, s2, s3⟩
               go_simp
               with_reducible rfl
              rotate_left
              ·refine pZ ?_
               rfl
              refine pQ 7 93 HT_ (bA 10 255) ?_
              refine pQ 8 94 HT_ (bA 10 511) ?_
              refine last_ (i := 9) (N := none) (bA 10 1023) rfl rfl (one_of HT_.out (by kernel_rfl)) (by decide) (fun K hK => ?_)
              have hs65 : w64.cell? ⟨gb493, 0, none⟩ = some (.int .i64 x494000_5) := (blk_cell BK493.out 0).trans rfl
              have hfs65 := blk_frozen BK493.out 0
              refine skip_ (w1 := ?_) (by rfl) rfl ?_ ?_
              rotate_left
              ·go_simp
               rfl
              refine hK.out _ _ ?_
              clear hK K
              refine done_ (done_of HT_.out (by kernel_rfl)) ?_
              try go_wp2
              have n0_ : Aside0 (Kd.R (Kd.int .i64) 3 (w64.setCell ⟨gb493, 0, none⟩ (.int .i64 (wrap64 (x494000_5 + ((rd_T54 x4_5 x8_6).f0))))) w.heap.size (fun k_ => some k_ ≠ (u494001 : Value).ownBlock) v478 x3_4) := ⟨by refine qR ?_; exact Kd.R_mono (rT HO_3 BK493) (fun _ hk => hk.1)⟩
              have n1_ : Aside0 (Kd.S k54 54 (w64.setCell ⟨gb493, 0, none⟩ (.int .i64 (wrap64 (x494000_5 + ((rd_T54 x4_5 x8_6).f0))))) w.heap.size (fun k_ => some k_ ≠ (v478 : Value).ownBlock ∧ some k_ ≠ (u494001 : Value).ownBlock ∧ k_ ≠ gb493) (.slice (some ad497) x4_5.length co42) x4_5) := ⟨by (with_reducible repeat (first | apply Kd.S_alloc | apply Kd.S_drewN | apply Kd.S_drew)); exact Kd.S_mono (Kd.S_far (p := ⟨gb493, 0, none⟩) (Kd.S_mono HO_4.out (fun k_ hk => (⟨hk, hk.2.2⟩ : _ ∧ k_ ≠ gb493))) (fun _ hk => hk.2) (.int .i64 (wrap64 (x494000_5 + ((rd_T54 x4_5 x8_6).f0))))) (fun _ hk => ⟨hk.1.1, ⟨hk.1.2.1, hk.1.2.2⟩⟩)⟩
              have n2_ : Aside0 (Kd.S k54 54 (w64.setCell ⟨gb493, 0, none⟩ (.int .i64 (wrap64 (x494000_5 + ((rd_T54 x4_5 x8_6).f0))))) w.heap.size (fun k_ => some k_ ≠ (v478 : Value).ownBlock ∧ some k_ ≠ (u494001 : Value).ownBlock ∧ k_ ≠ gb493) (.slice (some ad497) x4_5.length co42) x4_5) := ⟨by (with_reducible repeat (first | apply Kd.S_alloc | apply Kd.S_drewN | apply Kd.S_drew)); exact Kd.S_mono (Kd.S_far (p := ⟨gb493, 0, none⟩) (Kd.S_mono HO_69.out (fun k_ hk => (⟨hk, hk.2.2⟩ : _ ∧ k_ ≠ gb493))) (fun _ hk => hk.2) (.int .i64 (wrap64 (x494000_5 + ((rd_T54 x4_5 x8_6).f0))))) (fun _ hk => ⟨hk.1.1, ⟨hk.1.2.1, hk.1.2.2⟩⟩)⟩
              have n3_ : Aside0 (Kd.R (Kd.int .i64) 3 (w64.setCell ⟨gb493, 0, none⟩ (.int .i64 (wrap64 (x494000_5 + ((rd_T54 x4_5 x8_6).f0))))) w.heap.size (fun k_ => some k_ ≠ (v478 : Value).ownBlock) u494001 x494001_5) := ⟨by refine qR ?_; exact Kd.R_mono (rT HO_494001 BK493) (fun _ hk => hk.1)⟩
              have n4_ : Aside0 (Kd.R (Kd.int .i64) 3 (w64.setCell ⟨gb493, 0, none⟩ (.int .i64 (wrap64 (x494000_5 + ((rd_T54 x4_5 x8_6).f0))))) w.heap.size (fun k_ => some k_ ≠ (v478 : Value).ownBlock ∧ some k_ ≠ (.slice (some ad497) x4_5.length co42 : Value).ownBlock ∧ some k_ ≠ (u494001 : Value).ownBlock ∧ k_ ≠ gb493) (.slice A497_1 ((rd_T54 x4_5 x8_6).f1).length c497_1) ((rd_T54 x4_5 x8_6).f1)) := ⟨by refine qR ?_; exact Kd.R_mono (rT HL497_1 BK493) (fun _ hk => ⟨hk.1.1.1, ⟨hk.1.2, ⟨hk.1.1.2.1, hk.1.1.2.2⟩⟩⟩)⟩
              have n5_ : Aside0 ((w64.setCell ⟨gb493, 0, none⟩ (.int .i64 (wrap64 (x494000_5 + ((rd_T54 x4_5 x8_6).f0))))).heap[gb493]? = some (.cells #[.int .i64 (wrap64 (x494000_5 + ((rd_T54 x4_5 x8_6).f0))), u494001] 54 (0, 0))) := ⟨by exact bP BK493.out⟩
              have n6_ : Aside0 (Below w.heap.size w (w64.setCell ⟨gb493, 0, none⟩ (.int .i64 (wrap64 (x494000_5 + ((rd_T54 x4_5 x8_6).f0)))))) := ⟨by exact qW HB.out⟩
              (try clear HO_3)
              (try clear HO_4)
              (try clear HO_69)
              (try clear HO_494001)
              (try clear HL497_1)
              (try clear BK493)
              (try clear HB)
              generalize (w64.setCell ⟨gb493, 0, none⟩ (.int .i64 (wrap64 (x494000_5 + ((rd_T54 x4_5 x8_6).f0))))) = w66 at n0_ n1_ n2_ n3_ n4_ n5_ n6_ ⊢
              have HO_3 := n0_
              have HO_4 := n1_
              have HO_69 := n2_
              have HO_494001 := n3_
              have HL497_1 := n4_
              have BK493 := n5_
              have HB := n6_
              clear n0_ n1_ n2_ n3_ n4_ n5_ n6_
              replace HO_3 := aM (Kd.R_drew HO_3.out)
              replace HO_4 := aM (Kd.S_drew HO_4.out)
              replace HO_69 := aM (Kd.S_drew HO_69.out)
              replace HO_494001 := aM (Kd.R_drew HO_494001.out)
              replace HL497_1 := aM (Kd.R_drew HL497_1.out)
              replace BK493 := aM (blk_drew BK493.out)
              replace HB := aM (below_drew1 HB.out)
              have p498 : 0 ≤ (x8_6 : Int) := oD
              have q498 : x8_6 < (x4_5.length : Int) := oD
              obtain ⟨ad498, A498_1, c498_1, e498, hx498_0, hx498_1, hl498_1, hi498_1⟩ := at_T54 (Kd.S_reads' HO_4.out).2.2 x8_6 p498 q498
              obtain rfl : ad497 = ad498 := (by injection e498)
              obtain ⟨ce498, hce498, hMe498, hcc498⟩ := Kd.S_get HO_4.out z54 x8_6 p498 (by first | exact q498 | exact oD | (have e_ := (Kd.S_reads' HO_4.out).1; omega))
              obtain ⟨ve498_1, rfl, ge498_1⟩ := k54_openM hMe498
              have hv498_1 := hcc498 1 _ rfl
              rw [add_field _ _ 1 (by omega)] at hv498_1
              replace hv498_1 := Option.some.inj (hv498_1.symm.trans hx498_1)
              rw [hv498_1] at ge498_1
              have HL498_1 := aM (show Kd.R (Kd.int .i64) 3 _ _ _ _ ((rd_T54 x4_5 x8_6).f1) from ge498_1)
              clear hv498_1 ge498_1
              clear hcc498 hce498
              have HR498_1 := aM hi498_1
              have HC498_1 := aM hl498_1
              clear hi498_1 hl498_1
              replace p498 := eq_true p498
              replace q498 := eq_true q498
              refine start_ (n := 10) (S := fun w' => w'.cell? ⟨gb493, 0, none⟩ = some (.int .i64 (wrap64 (x494000_5 + ((rd_T54 x4_5 x8_6).f0)))) ∧ w'.cell? ⟨gb493, 1, none⟩ = some (u494001) ∧ w'.cell? (ad497.add ((x8_6).toNat * 2)) = some (.int .i64 ((rd_T54 x4_5 x8_6).f0)) ∧ w'.cell? ⟨(ad497.add ((x8_6).toNat * 2)).block, (ad497.add ((x8_6).toNat * 2)).off + 1, none⟩ = some (.slice A498_1 ((rd_T54 x4_5 x8_6).f1).length c498_1)) (ds := [7, 9]) (bA 10 0) (by kernel_rfl) rfl rfl ⟨(blk_cell BK493.out 0).trans rfl, (blk_cell BK493.out 1).trans rfl, hx498_0, hx498_1⟩ (fun hHeld => ?_); refine with_tabW impl_CodeLengths.tab25 impl_CodeLengths.bits25 (fun HT_ HW_ => ?_)
              generalize w66.drew = w67 at HO_3 HO_4 HO_69 HO_494001 HL497_1 BK493 HB HL498_1 HR498_1 hx498_0 hx498_1 hHeld ⊢
              refine pQ 0 95 HT_ (bA 10 1) ?_
              refine pQ 2 97 HT_ (bA 10 5) ?_
              refine pQ 3 98 HT_ (bA 10 13) ?_
              refine pQ 4 99 HT_ (bA 10 29) ?_
              refine pQ 5 100 HT_ (bA 10 61) ?_
              refine take_ (i := 1) (N := some 96) (v := ?_) (a' := ?_) (bA 10 63) rfl rfl (take_ofW HT_.out HW_.out (by kernel_rfl)) (fun _ _ _ h => h) (Or.inl ⟨by rfl, ?_⟩) hHeld ?_ ?_
              rotate_left
              ·rintro w' ⟨s0, s1, s2, s3⟩
               go_simp
               with_reducible rfl
              rotate_left
              ·refine pZ ?_
               rfl
              refine take_ (i := 6) (N := some 101) (v := ?_) (a' := ?_) (bA 10 127) rfl rfl (take_ofW HT_.out HW_.out (by kernel_rfl)) (fun _ _ _ h => h) (Or.inl ⟨by rfl, ?_⟩) hHeld ?_ ?_
              rotate_left
              ·rintro w' ⟨s0, s1, s2, s3⟩
               go_simp
               with_reducible rfl
              rotate_left
              ·refine pZ ?_
               rfl
              refine last_ (i := 7) (N := some 102) (bA 10 255) rfl rfl (one_of HT_.out (by kernel_rfl)) (by decide) (fun K hK => ?_)
              refine Kd.R_append_rows_step (Kd.int .i64) (w0 := w) w.heap.size (by rfl) (.tmp 96) (.tmp 101) 22 3 (.int .i64 0) 8 rfl Try.underlying22 info3 rfl (by decide) (by omega) u494001 x494001_5 ((rd_T54 x4_5 x8_6).f1) _ _ _ (fun k_ => some k_ ≠ (v478 : Value).ownBlock) (fun _ => False) rfl rfl ?aO ?aR (fun _ _ h => h) (fun _ h => h.elim) ?aF ?aB ?aS ?aL ?_
              (case aR => repeat (first | exact (by repeat (first | (with_reducible exact HR498_1.out) | (with_reducible refine Kd.C_alloc ?_ _) | (with_reducible refine Kd.C_drewN ?_ _) | (with_reducible refine Kd.C_drew ?_) | exact HR498_1.out)) | (with_reducible refine Kd.C_alloc ?_ _) | (with_reducible refine Kd.C_drewN ?_ _) | (with_reducible refine Kd.C_drew ?_)))
              (case aB => exact (qW HB.out))
              (case aF => exact (fun k_ hk => Kd.fresh' (Kd.R_lt (qR HO_3.out)) k_ hk))
              (case aO => exact (qR HO_494001.out))
              (case aS => exact (below_size (qW HB.out)))
              (case aL => have := LMc61.out; omega)
              intro v500 w68 ho hb hg hat
              rw [← Ny499.out] at ho
              replace HO_3 := aM (Kd.R_after (ok := (fun _ => True)) (by refine qR ?_; exact Kd.R_mono HO_3.out (fun _ hk => ⟨trivial, hk⟩)) hg hat)
              replace HO_4 := aM (Kd.S_after (ok := (fun k_ => some k_ ≠ (v478 : Value).ownBlock ∧ k_ ≠ gb493)) (by (with_reducible repeat (first | apply Kd.S_alloc | apply Kd.S_drewN | apply Kd.S_drew)); exact Kd.S_mono HO_4.out (fun _ hk => ⟨⟨hk.1, hk.2.2⟩, hk.2.1⟩)) hg hat)
              replace HO_69 := aM (Kd.S_after (ok := (fun k_ => some k_ ≠ (v478 : Value).ownBlock ∧ k_ ≠ gb493)) (by (with_reducible repeat (first | apply Kd.S_alloc | apply Kd.S_drewN | apply Kd.S_drew)); exact Kd.S_mono HO_69.out (fun _ hk => ⟨⟨hk.1, hk.2.2⟩, hk.2.1⟩)) hg hat)
              replace BK493 := gB BK493 hg (Kd.R_ne HO_494001.out BK493.out (by decide))
              replace HL497_1 := aM (Kd.R_after (ok := (fun k_ => some k_ ≠ (v478 : Value).ownBlock ∧ some k_ ≠ (.slice (some ad497) x4_5.length co42 : Value).ownBlock ∧ k_ ≠ gb493)) (by refine qR ?_; exact Kd.R_mono HL497_1.out (fun _ hk => ⟨⟨hk.1, ⟨hk.2.1, hk.2.2.2⟩⟩, hk.2.2.1⟩)) hg hat)
              replace HL498_1 := aM (Kd.R_after (ok := (fun k_ => some k_ ≠ (v478 : Value).ownBlock ∧ some k_ ≠ (.slice (some ad497) x4_5.length co42 : Value).ownBlock ∧ k_ ≠ gb493)) (by refine qR ?_; exact Kd.R_mono HL498_1.out (fun _ hk => ⟨⟨hk.1.1, ⟨hk.2, hk.1.2.2⟩⟩, hk.1.2.1⟩)) hg hat)
              replace HB := aM (hb)
              have HO501 := aM (ho)
              clear HO_494001
              clear ho hb hg hat
              obtain ⟨Ao69, co69, eo69⟩ := Kd.R_slice HO501.out
              (first | subst eo69 | (injection eo69 with f1_ f2_ f3_; have f4_ := f1_.symm; have f5_ := f3_.symm; clear f1_ f2_ f3_; subst f4_; subst f5_))
              refine hK.out _ _ ?_
              clear hK K
              refine norm_ (a' := ?_) ?_ ?_
              rotate_left
              ·show Act.put _ (some 102) _ = _
               refine pZ ?_
               rfl
              refine pQ 8 103 HT_ (bA 10 511) ?_
              refine last_ (i := 9) (N := none) (bA 10 1023) rfl rfl (one_of HT_.out (by kernel_rfl)) (by decide) (fun K hK => ?_)
              have hs70 : w68.cell? ⟨gb493, 1, none⟩ = some (u494001) := (blk_cell BK493.out 1).trans rfl
              have hfs70 := blk_frozen BK493.out 1
              refine skip_ (w1 := ?_) (by rfl) rfl ?_ ?_
              rotate_left
              ·go_simp
               rfl
              refine hK.out _ _ ?_
              clear hK K
              refine done_ (done_of HT_.out (by kernel_rfl)) ?_
              have n0_ : Aside0 (Kd.R (Kd.int .i64) 3 (w68.setCell ⟨gb493, 1, none⟩ (.slice Ao69 y499.length co69)) w.heap.size (fun k_ => some k_ ≠ (.slice Ao69 y499.length co69 : Value).ownBlock) v478 x3_4) := ⟨by refine qR ?_; exact Kd.R_mono (rT HO_3 BK493) (fun _ hk => hk.1.2)⟩
              have n1_ : Aside0 (Kd.S k54 54 (w68.setCell ⟨gb493, 1, none⟩ (.slice Ao69 y499.length co69)) w.heap.size (fun k_ => some k_ ≠ (v478 : Value).ownBlock ∧ some k_ ≠ (.slice Ao69 y499.length co69 : Value).ownBlock ∧ k_ ≠ gb493) (.slice (some ad497) x4_5.length co42) x4_5) := ⟨by (with_reducible repeat (first | apply Kd.S_alloc | apply Kd.S_drewN | apply Kd.S_drew)); exact Kd.S_mono (Kd.S_far (p := ⟨gb493, 1, none⟩) (Kd.S_mono HO_4.out (fun k_ hk => (⟨hk, hk.1.2⟩ : _ ∧ k_ ≠ gb493))) (fun _ hk => hk.2) (.slice Ao69 y499.length co69)) (fun _ hk => ⟨hk.1.1.1, ⟨hk.1.2, hk.1.1.2⟩⟩)⟩
              have n2_ : Aside0 (Kd.S k54 54 (w68.setCell ⟨gb493, 1, none⟩ (.slice Ao69 y499.length co69)) w.heap.size (fun k_ => some k_ ≠ (v478 : Value).ownBlock ∧ some k_ ≠ (.slice Ao69 y499.length co69 : Value).ownBlock ∧ k_ ≠ gb493) (.slice (some ad497) x4_5.length co42) x4_5) := ⟨by (with_reducible repeat (first | apply Kd.S_alloc | apply Kd.S_drewN | apply Kd.S_drew)); exact Kd.S_mono (Kd.S_far (p := ⟨gb493, 1, none⟩) (Kd.S_mono HO_69.out (fun k_ hk => (⟨hk, hk.1.2⟩ : _ ∧ k_ ≠ gb493))) (fun _ hk => hk.2) (.slice Ao69 y499.length co69)) (fun _ hk => ⟨hk.1.1.1, ⟨hk.1.2, hk.1.1.2⟩⟩)⟩
              have n3_ : Aside0 (Kd.R (Kd.int .i64) 3 (w68.setCell ⟨gb493, 1, none⟩ (.slice Ao69 y499.length co69)) w.heap.size (fun k_ => some k_ ≠ (v478 : Value).ownBlock ∧ some k_ ≠ (.slice (some ad497) x4_5.length co42 : Value).ownBlock ∧ some k_ ≠ (.slice Ao69 y499.length co69 : Value).ownBlock ∧ k_ ≠ gb493) (.slice A497_1 ((rd_T54 x4_5 x8_6).f1).length c497_1) ((rd_T54 x4_5 x8_6).f1)) := ⟨by refine qR ?_; exact Kd.R_mono (rT HL497_1 BK493) (fun _ hk => ⟨hk.1.1.1, ⟨hk.1.1.2.1, ⟨hk.1.2, hk.1.1.2.2⟩⟩⟩)⟩
              have n4_ : Aside0 (Kd.R (Kd.int .i64) 3 (w68.setCell ⟨gb493, 1, none⟩ (.slice Ao69 y499.length co69)) w.heap.size (fun k_ => some k_ ≠ (v478 : Value).ownBlock ∧ some k_ ≠ (.slice (some ad497) x4_5.length co42 : Value).ownBlock ∧ some k_ ≠ (.slice Ao69 y499.length co69 : Value).ownBlock ∧ k_ ≠ gb493) (.slice A498_1 ((rd_T54 x4_5 x8_6).f1).length c498_1) ((rd_T54 x4_5 x8_6).f1)) := ⟨by refine qR ?_; exact Kd.R_mono (rT HL498_1 BK493) (fun _ hk => ⟨hk.1.1.1, ⟨hk.1.1.2.1, ⟨hk.1.2, hk.1.1.2.2⟩⟩⟩)⟩
              have n5_ : Aside0 (Kd.R (Kd.int .i64) 3 (w68.setCell ⟨gb493, 1, none⟩ (.slice Ao69 y499.length co69)) w.heap.size (fun k_ => some k_ ≠ (v478 : Value).ownBlock) (.slice Ao69 y499.length co69) y499) := ⟨by refine qR ?_; exact Kd.R_mono (rT HO501 BK493) (fun _ hk => hk.1)⟩
              have n6_ : Aside0 ((w68.setCell ⟨gb493, 1, none⟩ (.slice Ao69 y499.length co69)).heap[gb493]? = some (.cells #[.int .i64 (wrap64 (x494000_5 + ((rd_T54 x4_5 x8_6).f0))), .slice Ao69 y499.length co69] 54 (0, 0))) := ⟨by exact bP BK493.out⟩
              have n7_ : Aside0 (Below w.heap.size w (w68.setCell ⟨gb493, 1, none⟩ (.slice Ao69 y499.length co69))) := ⟨by exact qW HB.out⟩
              (try clear HO_3)
              (try clear HO_4)
              (try clear HO_69)
              (try clear HL497_1)
              (try clear HL498_1)
              (try clear HO501)
              (try clear BK493)
              (try clear HB)
              generalize (w68.setCell ⟨gb493, 1, none⟩ (.slice Ao69 y499.length co69)) = w71 at n0_ n1_ n2_ n3_ n4_ n5_ n6_ n7_ ⊢
              have HO_3 := n0_
              have HO_4 := n1_
              have HO_69 := n2_
              have HL497_1 := n3_
              have HL498_1 := n4_
              have HO501 := n5_
              have BK493 := n6_
              have HB := n7_
              clear n0_ n1_ n2_ n3_ n4_ n5_ n6_ n7_
              try go_wp2_with (first | (go_at_call 45; have h0_ : 0 ≤ (x8_6 : Int) := oD; have h1_ : (x8_6 : Int) < (x4_5.length : Int) := oD; obtain ⟨gd73, cap_, ev_, _⟩ := Kd.S_form HO_4.out (by omega); injection ev_ with ea_ el_ ec_; clear el_; subst ec_; (first | subst ea_ | (injection ea_ with eb_; subst eb_)); refine (slicesDelete.calls (w0 := w) (base := w.heap.size) (g := gd73) (n := x4_5.length) (c := co42) (x8_6) (by with_reducible rfl) h0_ h1_ HO_4.out HB.out (below_size HB.out)).mono ?_; clear h0_ h1_; rintro e w72 ⟨rfl, ho, hb, hg⟩; have d0_ := aM (Kd.R_drewN HO_3.out 1); have d1_ := aM (Kd.S_drewN HO_4.out 1); have d2_ := aM (Kd.S_drewN HO_69.out 1); have d3_ := aM (Kd.R_drewN HL497_1.out 1); have d4_ := aM (Kd.R_drewN HL498_1.out 1); have d5_ := aM (Kd.R_drewN HO501.out 1); have d6_ := aM (blk_drewN BK493.out 1); clear HO_3 HO_4 HO_69 HL497_1 HL498_1 HO501 BK493; have HO_3 := d0_; have HO_4 := d1_; have HO_69 := d2_; have HL497_1 := d3_; have HL498_1 := d4_; have HO501 := d5_; have BK493 := d6_; clear d0_ d1_ d2_ d3_ d4_ d5_ d6_; generalize World.drewN w71 1 = wd_ at HO_3 HO_4 HO_69 HL497_1 HL498_1 HO501 BK493 hg; rw [← Ny502.out] at ho; have hn_ : x4_5.length - 1 = y502.length := (by have := (Kd.S_reads' ho).1; omega); rw [hn_] at ho ⊢; clear hn_; replace HO_3 := aM (Kd.R_over' (v := (.slice (some ⟨gd73, 0, none⟩) x4_5.length co42)) (qR HO_3.out) (Kd.S_typed HO_4.out) (by decide) hg); replace BK493 := aM (blk_grown (g := gb493) (o := .cells #[.int .i64 (wrap64 (x494000_5 + ((rd_T54 x4_5 x8_6).f0))), .slice Ao69 y499.length co69] 54 (0, 0)) (qB BK493.out) hg (Kd.S_away HO_4.out (fun _ hk => hk.2.2))); replace HL497_1 := aM (Kd.R_after (v := (.slice (some ⟨gd73, 0, none⟩) x4_5.length co42)) (v1 := .slice (some ⟨gd73, 0, none⟩) y502.length co42) (ok := (fun k_ => some k_ ≠ (v478 : Value).ownBlock ∧ some k_ ≠ (.slice Ao69 y499.length co69 : Value).ownBlock ∧ k_ ≠ gb493)) (by refine qR ?_; exact Kd.R_mono HL497_1.out (fun _ hk => ⟨⟨hk.1, ⟨hk.2.2.1, hk.2.2.2⟩⟩, hk.2.1⟩)) hg (.inl rfl)); replace HL498_1 := aM (Kd.R_after (v := (.slice (some ⟨gd73, 0, none⟩) x4_5.length co42)) (v1 := .slice (some ⟨gd73, 0, none⟩) y502.length co42) (ok := (fun k_ => some k_ ≠ (v478 : Value).ownBlock ∧ some k_ ≠ (.slice Ao69 y499.length co69 : Value).ownBlock ∧ k_ ≠ gb493)) (by refine qR ?_; exact Kd.R_mono HL498_1.out (fun _ hk => ⟨⟨hk.1, ⟨hk.2.2.1, hk.2.2.2⟩⟩, hk.2.1⟩)) hg (.inl rfl)); replace HO501 := aM (Kd.R_over' (v := (.slice (some ⟨gd73, 0, none⟩) x4_5.length co42)) (qR HO501.out) (Kd.S_typed HO_4.out) (by decide) hg); replace HO_4 := aM (ho); replace HB := aM (hb); clear ho hb hg))
              go_roundg k6
              case measure => have := HJ1.out; have := HK2.out; have := HJ26.out; have := HK4.out; have := HK5.out; have := HK6.out; omega
              case rel => exact ⟨(y502), (wrap64 (x67_5 + 1)), (wrap64 (x494000_5 + ((rd_T54 x4_5 x8_6).f0))), (y499), (.slice Ao69 y499.length co69), qE, H', ⟨by have := HJ1.out; have := HK2.out; have := HJ26.out; have := HK4.out; have := HK5.out; have := HK6.out; omega⟩, ⟨by refine qR ?_; exact HO_3.out⟩, ⟨by (with_reducible repeat (first | apply Kd.S_alloc | apply Kd.S_drewN | apply Kd.S_drew)); exact HO_4.out⟩, ⟨by refine qR ?_; exact HO501.out⟩, ⟨by refine qB ?_; exact BK493.out⟩, ⟨by exact qW HB.out⟩⟩
             rw [if_pos c43] at H
             have c43b0 : decide (x71_6 < (x4_5.length : Int)) = true := decide_eq_true c43
             clear c43
             replace H := iD H
             obtain ⟨c44b0, H⟩ := H
             replace H := iD H
             obtain ⟨c45b0, H⟩ := H
             replace H := iD H
             obtain ⟨c46b0, H⟩ := H
             replace H := iD H
             obtain ⟨c47b0, H⟩ := H
             by_cases c48 : ((rd_T54 x4_5 x71_6).f0) < ((rd_T54 x4_5 x8_6).f0)
             ·rw [if_pos c48] at H
              have c48b0 : decide (((rd_T54 x4_5 x71_6).f0) < ((rd_T54 x4_5 x8_6).f0)) = true := decide_eq_true c48
              clear c48
              have H' := aM H
              clear H
              have p494 : 0 ≤ (x71_6 : Int) := oD
              have q494 : x71_6 < (x4_5.length : Int) := oD
              obtain ⟨ad494, A494_1, c494_1, e494, hx494_0, hx494_1, hl494_1, hi494_1⟩ := at_T54 (Kd.S_reads' HO_69.out).2.2 x71_6 p494 q494
              cases e494
              obtain ⟨ce494, hce494, hMe494, hcc494⟩ := Kd.S_get HO_69.out z54 x71_6 p494 (by first | exact q494 | exact oD | (have e_ := (Kd.S_reads' HO_69.out).1; omega))
              obtain ⟨ve494_1, rfl, ge494_1⟩ := k54_openM hMe494
              have hv494_1 := hcc494 1 _ rfl
              rw [add_field _ _ 1 (by omega)] at hv494_1
              replace hv494_1 := Option.some.inj (hv494_1.symm.trans hx494_1)
              rw [hv494_1] at ge494_1
              have HL494_1 := aM (show Kd.R (Kd.int .i64) 3 _ _ _ _ ((rd_T54 x4_5 x71_6).f1) from ge494_1)
              clear hv494_1 ge494_1
              clear hcc494 hce494
              have HR494_1 := aM hi494_1
              have HC494_1 := aM hl494_1
              clear hi494_1 hl494_1
              replace p494 := eq_true p494
              replace q494 := eq_true q494
              try go_wp2_with (first | ((with_reducible refine gate_dst (N := 10) rfl ?_); (try (refine gate_guard (by rfl) ?_; dsimp only)); refine bxE (N := 10) (cs := #[.int .i64 0, .slice none 0 0]) (t := 54) ?_; intro gb495 hg w49 hbox hb; replace HO_3 := aM (Kd.R_below (qR HO_3.out) hb); replace HO_4 := aM (Kd.S_below (Kd.S_elderB (by (with_reducible repeat (first | apply Kd.S_alloc | apply Kd.S_drewN | apply Kd.S_drew)); exact HO_4.out) gb495 (Nat.le_of_eq hg.symm)) hb); replace HO_69 := aM (Kd.S_below (Kd.S_elderB (by (with_reducible repeat (first | apply Kd.S_alloc | apply Kd.S_drewN | apply Kd.S_drew)); exact HO_69.out) gb495 (Nat.le_of_eq hg.symm)) hb); replace HO_494001 := aM (Kd.R_below (qR HO_494001.out) hb); replace HL494_1 := aM (Kd.R_below (qR HL494_1.out) hb); replace HR494_1 := aM (Kd.C_below (by repeat (first | (with_reducible exact HR494_1.out) | (with_reducible refine Kd.C_alloc ?_ _) | (with_reducible refine Kd.C_drewN ?_ _) | (with_reducible refine Kd.C_drew ?_) | exact HR494_1.out)) hb); have BK495 := aM (hbox); have GW495 := gW hg HB; have GE495 := gW hg HB; replace HB := bS HB hb; have NB493_495 := nL hg BK493; have NB495_493 := nG hg BK493; replace BK493 := bB BK493 hb; clear hb hbox hg; have hnb50 := NB495_493.out; have hnc50 := NB493_495.out; obtain ⟨⟨hcz51_0, hcz51_1⟩, hfz51_0, hfz51_1⟩ := cf2 BK495))
              have n0_ : Aside0 (Kd.R (Kd.int .i64) 3 ((w49.setCell ⟨gb495, 0, none⟩ (.int .i64 ((rd_T54 x4_5 x71_6).f0))).setCell ⟨gb495, 1, none⟩ (.slice A494_1 ((rd_T54 x4_5 x71_6).f1).length c494_1)) w.heap.size (fun k_ => some k_ ≠ (u494001 : Value).ownBlock) v478 x3_4) := ⟨by refine qR ?_; exact Kd.R_mono (rT HO_3 BK495) (fun _ hk => hk.1)⟩
              have n1_ : Aside0 (Kd.S k54 54 ((w49.setCell ⟨gb495, 0, none⟩ (.int .i64 ((rd_T54 x4_5 x71_6).f0))).setCell ⟨gb495, 1, none⟩ (.slice A494_1 ((rd_T54 x4_5 x71_6).f1).length c494_1)) w.heap.size (fun k_ => some k_ ≠ (v478 : Value).ownBlock ∧ some k_ ≠ (u494001 : Value).ownBlock ∧ k_ ≠ gb493 ∧ k_ ≠ gb495) (.slice (some ad494) x4_5.length co42) x4_5) := ⟨by (with_reducible repeat (first | apply Kd.S_alloc | apply Kd.S_drewN | apply Kd.S_drew)); exact Kd.S_mono (Kd.S_far (p := ⟨gb495, 1, none⟩) (Kd.S_far (p := ⟨gb495, 0, none⟩) (Kd.S_mono HO_4.out (fun k_ hk => (⟨hk, hk.2⟩ : _ ∧ k_ ≠ gb495))) (fun _ hk => hk.2) (.int .i64 ((rd_T54 x4_5 x71_6).f0))) (fun _ hk => hk.2) (.slice A494_1 ((rd_T54 x4_5 x71_6).f1).length c494_1)) (fun _ hk => ⟨hk.1.1.1, ⟨hk.1.1.2.1, ⟨hk.1.1.2.2, hk.1.2⟩⟩⟩)⟩
              have n2_ : Aside0 (Kd.S k54 54 ((w49.setCell ⟨gb495, 0, none⟩ (.int .i64 ((rd_T54 x4_5 x71_6).f0))).setCell ⟨gb495, 1, none⟩ (.slice A494_1 ((rd_T54 x4_5 x71_6).f1).length c494_1)) w.heap.size (fun k_ => some k_ ≠ (v478 : Value).ownBlock ∧ some k_ ≠ (u494001 : Value).ownBlock ∧ k_ ≠ gb493 ∧ k_ ≠ gb495) (.slice (some ad494) x4_5.length co42) x4_5) := ⟨by (with_reducible repeat (first | apply Kd.S_alloc | apply Kd.S_drewN | apply Kd.S_drew)); exact Kd.S_mono (Kd.S_far (p := ⟨gb495, 1, none⟩) (Kd.S_far (p := ⟨gb495, 0, none⟩) (Kd.S_mono HO_69.out (fun k_ hk => (⟨hk, hk.2⟩ : _ ∧ k_ ≠ gb495))) (fun _ hk => hk.2) (.int .i64 ((rd_T54 x4_5 x71_6).f0))) (fun _ hk => hk.2) (.slice A494_1 ((rd_T54 x4_5 x71_6).f1).length c494_1)) (fun _ hk => ⟨hk.1.1.1, ⟨hk.1.1.2.1, ⟨hk.1.1.2.2, hk.1.2⟩⟩⟩)⟩
              have n3_ : Aside0 (Kd.R (Kd.int .i64) 3 ((w49.setCell ⟨gb495, 0, none⟩ (.int .i64 ((rd_T54 x4_5 x71_6).f0))).setCell ⟨gb495, 1, none⟩ (.slice A494_1 ((rd_T54 x4_5 x71_6).f1).length c494_1)) w.heap.size (fun k_ => some k_ ≠ (v478 : Value).ownBlock) u494001 x494001_5) := ⟨by refine qR ?_; exact Kd.R_mono (rT HO_494001 BK495) (fun _ hk => hk.1)⟩
              have n4_ : Aside0 (Kd.R (Kd.int .i64) 3 ((w49.setCell ⟨gb495, 0, none⟩ (.int .i64 ((rd_T54 x4_5 x71_6).f0))).setCell ⟨gb495, 1, none⟩ (.slice A494_1 ((rd_T54 x4_5 x71_6).f1).length c494_1)) w.heap.size (fun k_ => some k_ ≠ (v478 : Value).ownBlock ∧ some k_ ≠ (.slice (some ad494) x4_5.length co42 : Value).ownBlock ∧ some k_ ≠ (u494001 : Value).ownBlock ∧ k_ ≠ gb493) (.slice A494_1 ((rd_T54 x4_5 x71_6).f1).length c494_1) ((rd_T54 x4_5 x71_6).f1)) := ⟨by refine qR ?_; exact Kd.R_mono (rT HL494_1 BK495) (fun _ hk => ⟨hk.1.1.1, ⟨hk.1.2, ⟨hk.1.1.2.1, hk.1.1.2.2⟩⟩⟩)⟩
              have n5_ : Aside0 (((w49.setCell ⟨gb495, 0, none⟩ (.int .i64 ((rd_T54 x4_5 x71_6).f0))).setCell ⟨gb495, 1, none⟩ (.slice A494_1 ((rd_T54 x4_5 x71_6).f1).length c494_1)).heap[gb493]? = some (.cells #[.int .i64 x494000_5, u494001] 54 (0, 0))) := ⟨by refine qB ?_; refine blk_far ?_ NB493_495.out _; refine qB ?_; refine blk_far ?_ NB493_495.out _; refine qB ?_; exact BK493.out⟩
              have n6_ : Aside0 (((w49.setCell ⟨gb495, 0, none⟩ (.int .i64 ((rd_T54 x4_5 x71_6).f0))).setCell ⟨gb495, 1, none⟩ (.slice A494_1 ((rd_T54 x4_5 x71_6).f1).length c494_1)).heap[gb495]? = some (.cells #[.int .i64 ((rd_T54 x4_5 x71_6).f0), .slice A494_1 ((rd_T54 x4_5 x71_6).f1).length c494_1] 54 (0, 0))) := ⟨by exact bP BK495.out⟩
              have n7_ : Aside0 (Below w.heap.size w ((w49.setCell ⟨gb495, 0, none⟩ (.int .i64 ((rd_T54 x4_5 x71_6).f0))).setCell ⟨gb495, 1, none⟩ (.slice A494_1 ((rd_T54 x4_5 x71_6).f1).length c494_1))) := ⟨by exact qW HB.out⟩
              (try clear HO_3)
              (try clear HO_4)
              (try clear HO_69)
              (try clear HO_494001)
              (try clear HL494_1)
              (try clear BK493)
              (try clear BK495)
              (try clear HB)
              generalize ((w49.setCell ⟨gb495, 0, none⟩ (.int .i64 ((rd_T54 x4_5 x71_6).f0))).setCell ⟨gb495, 1, none⟩ (.slice A494_1 ((rd_T54 x4_5 x71_6).f1).length c494_1)) = w52 at n0_ n1_ n2_ n3_ n4_ n5_ n6_ n7_ ⊢
              have HO_3 := n0_
              have HO_4 := n1_
              have HO_69 := n2_
              have HO_494001 := n3_
              have HL494_1 := n4_
              have BK493 := n5_
              have BK495 := n6_
              have HB := n7_
              clear n0_ n1_ n2_ n3_ n4_ n5_ n6_ n7_
              replace HO_3 := aM (Kd.R_drew HO_3.out)
              replace HO_4 := aM (Kd.S_drew HO_4.out)
              replace HO_69 := aM (Kd.S_drew HO_69.out)
              replace HO_494001 := aM (Kd.R_drew HO_494001.out)
              replace HL494_1 := aM (Kd.R_drew HL494_1.out)
              replace BK493 := aM (blk_drew BK493.out)
              replace BK495 := aM (blk_drew BK495.out)
              replace HB := aM (below_drew1 HB.out)
              have p496 : 0 ≤ (x8_6 : Int) := oD
              have q496 : x8_6 < (x4_5.length : Int) := oD
              obtain ⟨ad496, A496_1, c496_1, e496, hx496_0, hx496_1, hl496_1, hi496_1⟩ := at_T54 (Kd.S_reads' HO_4.out).2.2 x8_6 p496 q496
              obtain rfl : ad494 = ad496 := (by injection e496)
              obtain ⟨ce496, hce496, hMe496, hcc496⟩ := Kd.S_get HO_4.out z54 x8_6 p496 (by first | exact q496 | exact oD | (have e_ := (Kd.S_reads' HO_4.out).1; omega))
              obtain ⟨ve496_1, rfl, ge496_1⟩ := k54_openM hMe496
              have hv496_1 := hcc496 1 _ rfl
              rw [add_field _ _ 1 (by omega)] at hv496_1
              replace hv496_1 := Option.some.inj (hv496_1.symm.trans hx496_1)
              rw [hv496_1] at ge496_1
              have HL496_1 := aM (show Kd.R (Kd.int .i64) 3 _ _ _ _ ((rd_T54 x4_5 x8_6).f1) from ge496_1)
              clear hv496_1 ge496_1
              clear hcc496 hce496
              have HR496_1 := aM hi496_1
              have HC496_1 := aM hl496_1
              clear hi496_1 hl496_1
              replace p496 := eq_true p496
              replace q496 := eq_true q496
              refine start_ (n := 8) (S := fun w' => w'.cell? ⟨gb495, 0, none⟩ = some (.int .i64 ((rd_T54 x4_5 x71_6).f0)) ∧ w'.cell? ⟨gb495, 1, none⟩ = some (.slice A494_1 ((rd_T54 x4_5 x71_6).f1).length c494_1) ∧ w'.cell? (ad494.add ((x8_6).toNat * 2)) = some (.int .i64 ((rd_T54 x4_5 x8_6).f0)) ∧ w'.cell? ⟨(ad494.add ((x8_6).toNat * 2)).block, (ad494.add ((x8_6).toNat * 2)).off + 1, none⟩ = some (.slice A496_1 ((rd_T54 x4_5 x8_6).f1).length c496_1)) (ds := []) (bA 8 0) (by kernel_rfl) rfl rfl ⟨(blk_cell BK495.out 0).trans rfl, (blk_cell BK495.out 1).trans rfl, hx496_0, hx496_1⟩ (fun hHeld => ?_); refine with_tabW impl_CodeLengths.tab21 impl_CodeLengths.bits21 (fun HT_ HW_ => ?_)
              generalize w52.drew = w53 at HO_3 HO_4 HO_69 HO_494001 HL494_1 BK493 BK495 HB HL496_1 HR496_1 hx496_0 hx496_1 hHeld ⊢
              refine pQ 0 76 HT_ (bA 8 1) ?_
              refine pQ 2 78 HT_ (bA 8 5) ?_
              refine pQ 3 79 HT_ (bA 8 13) ?_
              refine pQ 4 80 HT_ (bA 8 29) ?_
              refine pQ 5 81 HT_ (bA 8 61) ?_
              refine take_ (i := 1) (N := some 77) (v := ?_) (a' := ?_) (bA 8 63) rfl rfl (take_ofW HT_.out HW_.out (by kernel_rfl)) (fun _ _ _ h => h) (Or.inl ⟨by rfl, ?_⟩) hHeld ?_ ?_
              rotate_left
              ·rintro w' ⟨s0, s1, s2, s3⟩
               go_simp
               with_reducible rfl
              rotate_left
              ·refine pZ ?_
               rfl
              refine take_ (i := 6) (N := some 82) (v := ?_) (a' := ?_) (bA 8 127) rfl rfl (take_ofW HT_.out HW_.out (by kernel_rfl)) (fun _ _ _ h => h) (Or.inl ⟨by rfl, ?_⟩) hHeld ?_ ?_
              rotate_left
              ·rintro w' ⟨s0, s1, s2, s3⟩
               go_simp
               with_reducible rfl
              rotate_left
              ·refine pZ ?_
               rfl
              refine pQ 7 83 HT_ (bA 8 255) ?_
              refine done_ (done_of HT_.out (by kernel_rfl)) ?_
              try go_wp2
              go_roundg k6
              case measure => have := HJ1.out; have := HK2.out; have := HJ26.out; have := HK4.out; have := HK5.out; have := HK6.out; omega
              case rel => exact ⟨(x71_6), (wrap64 (x71_6 + 1)), qE, qE, H', ⟨by have := HJ1.out; have := HK2.out; have := HJ26.out; have := HK4.out; have := HK5.out; have := HK6.out; omega⟩, ⟨by refine qR ?_; exact HO_3.out⟩, ⟨by (with_reducible repeat (first | apply Kd.S_alloc | apply Kd.S_drewN | apply Kd.S_drew)); exact Kd.S_mono HO_4.out (fun _ hk => ⟨hk.1, ⟨hk.2.1, hk.2.2.1⟩⟩)⟩, ⟨by (with_reducible repeat (first | apply Kd.S_alloc | apply Kd.S_drewN | apply Kd.S_drew)); exact Kd.S_mono HO_69.out (fun _ hk => ⟨hk.1, ⟨hk.2.1, hk.2.2.1⟩⟩)⟩, ⟨by refine qR ?_; exact HO_494001.out⟩, ⟨by refine qB ?_; exact BK493.out⟩, ⟨by exact qW HB.out⟩⟩
             rw [if_neg c48] at H
             have c48b0 : decide (((rd_T54 x4_5 x71_6).f0) < ((rd_T54 x4_5 x8_6).f0)) = false := decide_eq_false c48
             clear c48
             have H' := aM H
             clear H
             have p494 : 0 ≤ (x71_6 : Int) := oD
             have q494 : x71_6 < (x4_5.length : Int) := oD
             obtain ⟨ad494, A494_1, c494_1, e494, hx494_0, hx494_1, hl494_1, hi494_1⟩ := at_T54 (Kd.S_reads' HO_69.out).2.2 x71_6 p494 q494
             cases e494
             obtain ⟨ce494, hce494, hMe494, hcc494⟩ := Kd.S_get HO_69.out z54 x71_6 p494 (by first | exact q494 | exact oD | (have e_ := (Kd.S_reads' HO_69.out).1; omega))
             obtain ⟨ve494_1, rfl, ge494_1⟩ := k54_openM hMe494
             have hv494_1 := hcc494 1 _ rfl
             rw [add_field _ _ 1 (by omega)] at hv494_1
             replace hv494_1 := Option.some.inj (hv494_1.symm.trans hx494_1)
             rw [hv494_1] at ge494_1
             have HL494_1 := aM (show Kd.R (Kd.int .i64) 3 _ _ _ _ ((rd_T54 x4_5 x71_6).f1) from ge494_1)
             clear hv494_1 ge494_1
             clear hcc494 hce494
             have HR494_1 := aM hi494_1
             have HC494_1 := aM hl494_1
             clear hi494_1 hl494_1
             replace p494 := eq_true p494
             replace q494 := eq_true q494
             try go_wp2_with (first | ((with_reducible refine gate_dst (N := 10) rfl ?_); (try (refine gate_guard (by rfl) ?_; dsimp only)); refine bxE (N := 10) (cs := #[.int .i64 0, .slice none 0 0]) (t := 54) ?_; intro gb495 hg w54 hbox hb; replace HO_3 := aM (Kd.R_below (qR HO_3.out) hb); replace HO_4 := aM (Kd.S_below (Kd.S_elderB (by (with_reducible repeat (first | apply Kd.S_alloc | apply Kd.S_drewN | apply Kd.S_drew)); exact HO_4.out) gb495 (Nat.le_of_eq hg.symm)) hb); replace HO_69 := aM (Kd.S_below (Kd.S_elderB (by (with_reducible repeat (first | apply Kd.S_alloc | apply Kd.S_drewN | apply Kd.S_drew)); exact HO_69.out) gb495 (Nat.le_of_eq hg.symm)) hb); replace HO_494001 := aM (Kd.R_below (qR HO_494001.out) hb); replace HL494_1 := aM (Kd.R_below (qR HL494_1.out) hb); replace HR494_1 := aM (Kd.C_below (by repeat (first | (with_reducible exact HR494_1.out) | (with_reducible refine Kd.C_alloc ?_ _) | (with_reducible refine Kd.C_drewN ?_ _) | (with_reducible refine Kd.C_drew ?_) | exact HR494_1.out)) hb); have BK495 := aM (hbox); have GW495 := gW hg HB; have GE495 := gW hg HB; replace HB := bS HB hb; have NB493_495 := nL hg BK493; have NB495_493 := nG hg BK493; replace BK493 := bB BK493 hb; clear hb hbox hg; have hnb55 := NB495_493.out; have hnc55 := NB493_495.out; obtain ⟨⟨hcz56_0, hcz56_1⟩, hfz56_0, hfz56_1⟩ := cf2 BK495))
             have n0_ : Aside0 (Kd.R (Kd.int .i64) 3 ((w54.setCell ⟨gb495, 0, none⟩ (.int .i64 ((rd_T54 x4_5 x71_6).f0))).setCell ⟨gb495, 1, none⟩ (.slice A494_1 ((rd_T54 x4_5 x71_6).f1).length c494_1)) w.heap.size (fun k_ => some k_ ≠ (u494001 : Value).ownBlock) v478 x3_4) := ⟨by refine qR ?_; exact Kd.R_mono (rT HO_3 BK495) (fun _ hk => hk.1)⟩
             have n1_ : Aside0 (Kd.S k54 54 ((w54.setCell ⟨gb495, 0, none⟩ (.int .i64 ((rd_T54 x4_5 x71_6).f0))).setCell ⟨gb495, 1, none⟩ (.slice A494_1 ((rd_T54 x4_5 x71_6).f1).length c494_1)) w.heap.size (fun k_ => some k_ ≠ (v478 : Value).ownBlock ∧ some k_ ≠ (u494001 : Value).ownBlock ∧ k_ ≠ gb493 ∧ k_ ≠ gb495) (.slice (some ad494) x4_5.length co42) x4_5) := ⟨by (with_reducible repeat (first | apply Kd.S_alloc | apply Kd.S_drewN | apply Kd.S_drew)); exact Kd.S_mono (Kd.S_far (p := ⟨gb495, 1, none⟩) (Kd.S_far (p := ⟨gb495, 0, none⟩) (Kd.S_mono HO_4.out (fun k_ hk => (⟨hk, hk.2⟩ : _ ∧ k_ ≠ gb495))) (fun _ hk => hk.2) (.int .i64 ((rd_T54 x4_5 x71_6).f0))) (fun _ hk => hk.2) (.slice A494_1 ((rd_T54 x4_5 x71_6).f1).length c494_1)) (fun _ hk => ⟨hk.1.1.1, ⟨hk.1.1.2.1, ⟨hk.1.1.2.2, hk.1.2⟩⟩⟩)⟩
             have n2_ : Aside0 (Kd.S k54 54 ((w54.setCell ⟨gb495, 0, none⟩ (.int .i64 ((rd_T54 x4_5 x71_6).f0))).setCell ⟨gb495, 1, none⟩ (.slice A494_1 ((rd_T54 x4_5 x71_6).f1).length c494_1)) w.heap.size (fun k_ => some k_ ≠ (v478 : Value).ownBlock ∧ some k_ ≠ (u494001 : Value).ownBlock ∧ k_ ≠ gb493 ∧ k_ ≠ gb495) (.slice (some ad494) x4_5.length co42) x4_5) := ⟨by (with_reducible repeat (first | apply Kd.S_alloc | apply Kd.S_drewN | apply Kd.S_drew)); exact Kd.S_mono (Kd.S_far (p := ⟨gb495, 1, none⟩) (Kd.S_far (p := ⟨gb495, 0, none⟩) (Kd.S_mono HO_69.out (fun k_ hk => (⟨hk, hk.2⟩ : _ ∧ k_ ≠ gb495))) (fun _ hk => hk.2) (.int .i64 ((rd_T54 x4_5 x71_6).f0))) (fun _ hk => hk.2) (.slice A494_1 ((rd_T54 x4_5 x71_6).f1).length c494_1)) (fun _ hk => ⟨hk.1.1.1, ⟨hk.1.1.2.1, ⟨hk.1.1.2.2, hk.1.2⟩⟩⟩)⟩
             have n3_ : Aside0 (Kd.R (Kd.int .i64) 3 ((w54.setCell ⟨gb495, 0, none⟩ (.int .i64 ((rd_T54 x4_5 x71_6).f0))).setCell ⟨gb495, 1, none⟩ (.slice A494_1 ((rd_T54 x4_5 x71_6).f1).length c494_1)) w.heap.size (fun k_ => some k_ ≠ (v478 : Value).ownBlock) u494001 x494001_5) := ⟨by refine qR ?_; exact Kd.R_mono (rT HO_494001 BK495) (fun _ hk => hk.1)⟩
             have n4_ : Aside0 (Kd.R (Kd.int .i64) 3 ((w54.setCell ⟨gb495, 0, none⟩ (.int .i64 ((rd_T54 x4_5 x71_6).f0))).setCell ⟨gb495, 1, none⟩ (.slice A494_1 ((rd_T54 x4_5 x71_6).f1).length c494_1)) w.heap.size (fun k_ => some k_ ≠ (v478 : Value).ownBlock ∧ some k_ ≠ (.slice (some ad494) x4_5.length co42 : Value).ownBlock ∧ some k_ ≠ (u494001 : Value).ownBlock ∧ k_ ≠ gb493) (.slice A494_1 ((rd_T54 x4_5 x71_6).f1).length c494_1) ((rd_T54 x4_5 x71_6).f1)) := ⟨by refine qR ?_; exact Kd.R_mono (rT HL494_1 BK495) (fun _ hk => ⟨hk.1.1.1, ⟨hk.1.2, ⟨hk.1.1.2.1, hk.1.1.2.2⟩⟩⟩)⟩
             have n5_ : Aside0 (((w54.setCell ⟨gb495, 0, none⟩ (.int .i64 ((rd_T54 x4_5 x71_6).f0))).setCell ⟨gb495, 1, none⟩ (.slice A494_1 ((rd_T54 x4_5 x71_6).f1).length c494_1)).heap[gb493]? = some (.cells #[.int .i64 x494000_5, u494001] 54 (0, 0))) := ⟨by refine qB ?_; refine blk_far ?_ NB493_495.out _; refine qB ?_; refine blk_far ?_ NB493_495.out _; refine qB ?_; exact BK493.out⟩
             have n6_ : Aside0 (((w54.setCell ⟨gb495, 0, none⟩ (.int .i64 ((rd_T54 x4_5 x71_6).f0))).setCell ⟨gb495, 1, none⟩ (.slice A494_1 ((rd_T54 x4_5 x71_6).f1).length c494_1)).heap[gb495]? = some (.cells #[.int .i64 ((rd_T54 x4_5 x71_6).f0), .slice A494_1 ((rd_T54 x4_5 x71_6).f1).length c494_1] 54 (0, 0))) := ⟨by exact bP BK495.out⟩
             have n7_ : Aside0 (Below w.heap.size w ((w54.setCell ⟨gb495, 0, none⟩ (.int .i64 ((rd_T54 x4_5 x71_6).f0))).setCell ⟨gb495, 1, none⟩ (.slice A494_1 ((rd_T54 x4_5 x71_6).f1).length c494_1))) := ⟨by exact qW HB.out⟩
             (try clear HO_3)
             (try clear HO_4)
             (try clear HO_69)
             (try clear HO_494001)
             (try clear HL494_1)
             (try clear BK493)
             (try clear BK495)
             (try clear HB)
             generalize ((w54.setCell ⟨gb495, 0, none⟩ (.int .i64 ((rd_T54 x4_5 x71_6).f0))).setCell ⟨gb495, 1, none⟩ (.slice A494_1 ((rd_T54 x4_5 x71_6).f1).length c494_1)) = w57 at n0_ n1_ n2_ n3_ n4_ n5_ n6_ n7_ ⊢
             have HO_3 := n0_
             have HO_4 := n1_
             have HO_69 := n2_
             have HO_494001 := n3_
             have HL494_1 := n4_
             have BK493 := n5_
             have BK495 := n6_
             have HB := n7_
             clear n0_ n1_ n2_ n3_ n4_ n5_ n6_ n7_
             replace HO_3 := aM (Kd.R_drew HO_3.out)
             replace HO_4 := aM (Kd.S_drew HO_4.out)
             replace HO_69 := aM (Kd.S_drew HO_69.out)
             replace HO_494001 := aM (Kd.R_drew HO_494001.out)
             replace HL494_1 := aM (Kd.R_drew HL494_1.out)
             replace BK493 := aM (blk_drew BK493.out)
             replace BK495 := aM (blk_drew BK495.out)
             replace HB := aM (below_drew1 HB.out)
             have p496 : 0 ≤ (x8_6 : Int) := oD
             have q496 : x8_6 < (x4_5.length : Int) := oD
             obtain ⟨ad496, A496_1, c496_1, e496, hx496_0, hx496_1, hl496_1, hi496_1⟩ := at_T54 (Kd.S_reads' HO_4.out).2.2 x8_6 p496 q496
             obtain rfl : ad494 = ad496 := (by injection e496)
             obtain ⟨ce496, hce496, hMe496, hcc496⟩ := Kd.S_get HO_4.out z54 x8_6 p496 (by first | exact q496 | exact oD | (have e_ := (Kd.S_reads' HO_4.out).1; omega))
             obtain ⟨ve496_1, rfl, ge496_1⟩ := k54_openM hMe496
             have hv496_1 := hcc496 1 _ rfl
             rw [add_field _ _ 1 (by omega)] at hv496_1
             replace hv496_1 := Option.some.inj (hv496_1.symm.trans hx496_1)
             rw [hv496_1] at ge496_1
             have HL496_1 := aM (show Kd.R (Kd.int .i64) 3 _ _ _ _ ((rd_T54 x4_5 x8_6).f1) from ge496_1)
             clear hv496_1 ge496_1
             clear hcc496 hce496
             have HR496_1 := aM hi496_1
             have HC496_1 := aM hl496_1
             clear hi496_1 hl496_1
             replace p496 := eq_true p496
             replace q496 := eq_true q496
             refine start_ (n := 8) (S := fun w' => w'.cell? ⟨gb495, 0, none⟩ = some (.int .i64 ((rd_T54 x4_5 x71_6).f0)) ∧ w'.cell? ⟨gb495, 1, none⟩ = some (.slice A494_1 ((rd_T54 x4_5 x71_6).f1).length c494_1) ∧ w'.cell? (ad494.add ((x8_6).toNat * 2)) = some (.int .i64 ((rd_T54 x4_5 x8_6).f0)) ∧ w'.cell? ⟨(ad494.add ((x8_6).toNat * 2)).block, (ad494.add ((x8_6).toNat * 2)).off + 1, none⟩ = some (.slice A496_1 ((rd_T54 x4_5 x8_6).f1).length c496_1)) (ds := []) (bA 8 0) (by kernel_rfl) rfl rfl ⟨(blk_cell BK495.out 0).trans rfl, (blk_cell BK495.out 1).trans rfl, hx496_0, hx496_1⟩ (fun hHeld => ?_); refine with_tabW impl_CodeLengths.tab21 impl_CodeLengths.bits21 (fun HT_ HW_ => ?_)
             generalize w57.drew = w58 at HO_3 HO_4 HO_69 HO_494001 HL494_1 BK493 BK495 HB HL496_1 HR496_1 hx496_0 hx496_1 hHeld ⊢
             refine pQ 0 76 HT_ (bA 8 1) ?_
             refine pQ 2 78 HT_ (bA 8 5) ?_
             refine pQ 3 79 HT_ (bA 8 13) ?_
             refine pQ 4 80 HT_ (bA 8 29) ?_
             refine pQ 5 81 HT_ (bA 8 61) ?_
             refine take_ (i := 1) (N := some 77) (v := ?_) (a' := ?_) (bA 8 63) rfl rfl (take_ofW HT_.out HW_.out (by kernel_rfl)) (fun _ _ _ h => h) (Or.inl ⟨by rfl, ?_⟩) hHeld ?_ ?_
             rotate_left
             ·rintro w' ⟨s0, s1, s2, s3⟩
              go_simp
              with_reducible rfl
             rotate_left
             ·refine pZ ?_
              rfl
             refine take_ (i := 6) (N := some 82) (v := ?_) (a' := ?_) (bA 8 127) rfl rfl (take_ofW HT_.out HW_.out (by kernel_rfl)) (fun _ _ _ h => h) (Or.inl ⟨by rfl, ?_⟩) hHeld ?_ ?_
             rotate_left
             ·rintro w' ⟨s0, s1, s2, s3⟩
              go_simp
              with_reducible rfl
             rotate_left
             ·refine pZ ?_
              rfl
             refine pQ 7 83 HT_ (bA 8 255) ?_
             refine done_ (done_of HT_.out (by kernel_rfl)) ?_
             try go_wp2
             go_roundg k6
             case measure => have := HJ1.out; have := HK2.out; have := HJ26.out; have := HK4.out; have := HK5.out; have := HK6.out; omega
             case rel => exact ⟨(x8_6), (wrap64 (x71_6 + 1)), qE, qE, H', ⟨by have := HJ1.out; have := HK2.out; have := HJ26.out; have := HK4.out; have := HK5.out; have := HK6.out; omega⟩, ⟨by refine qR ?_; exact HO_3.out⟩, ⟨by (with_reducible repeat (first | apply Kd.S_alloc | apply Kd.S_drewN | apply Kd.S_drew)); exact Kd.S_mono HO_4.out (fun _ hk => ⟨hk.1, ⟨hk.2.1, hk.2.2.1⟩⟩)⟩, ⟨by (with_reducible repeat (first | apply Kd.S_alloc | apply Kd.S_drewN | apply Kd.S_drew)); exact Kd.S_mono HO_69.out (fun _ hk => ⟨hk.1, ⟨hk.2.1, hk.2.2.1⟩⟩)⟩, ⟨by refine qR ?_; exact HO_494001.out⟩, ⟨by refine qB ?_; exact BK493.out⟩, ⟨by exact qW HB.out⟩⟩
def IsS60 (w0 W : World) (g : Nat) (f0 : List Int) (f1 : Int) : Prop := ∃ A0 c0, W.heap[g]? = some (.cells #[.slice A0 f0.length c0, .int .i64 f1] 60 (0, 0)) ∧ w0.heap.size ≤ g ∧ Kd.C (Kd.int .u8) w0 A0 f0.length f0
theorem IsS60.grown {w0 W : World} {g : Nat} {f0 : List Int} {f1 : Int} {W1 : World} {row : Option Nat} (h : IsS60 w0 W g f0 f1) (hw : W.grownBy W1 row) (hne : some g ≠ row) : IsS60 w0 W1 g f0 f1 := by
 obtain ⟨A0, c0, hb, hg, hr0⟩ := h
 exact ⟨A0, c0, blk_grown hb hw hne, hg, hr0⟩
theorem IsS60.own_neN {w0 W : World} {g : Nat} {f0 : List Int} {f1 : Int} {α : Type} {d : Kd α} {e : Nat} {base : Nat} {ok : Nat → Prop} {v : Value} {xs : List α} (h : IsS60 w0 W g f0 f1) (ho : Kd.N d e W base ok v xs) (ht : e ≠ 60) : some g ≠ v.ownBlock := by
 obtain ⟨A0, c0, hb, hg, hr0⟩ := h
 exact Kd.N_ne ho hb ht
theorem IsS60.fresh {w0 W : World} {g : Nat} {f0 : List Int} {f1 : Int} (h : IsS60 w0 W g f0 f1) : ∀ k, W.heap.size ≤ k → k ≠ g := by
 obtain ⟨A0, c0, hb, hg, hr0⟩ := h
 exact Kd.freshB hb
theorem IsS60.kept {w0 W : World} {g : Nat} {f0 : List Int} {f1 : Int} {W1 : World} {S : Nat → Prop} (h : IsS60 w0 W g f0 f1) (hk : Kept W W1 S) (hne : ¬ S g) : IsS60 w0 W1 g f0 f1 := by
 obtain ⟨A0, c0, hb, hg, hr0⟩ := h
 exact ⟨A0, c0, blk_kept hb hk hne, hg, hr0⟩
theorem IsS60.below {w0 W : World} {g : Nat} {f0 : List Int} {f1 : Int} {W1 : World} (h : IsS60 w0 W g f0 f1) (hw : Below W.heap.size W W1) : IsS60 w0 W1 g f0 f1 := h.grown (grown_of_below hw none) (by simp)
theorem IsS60.alloc {w0 W : World} {g : Nat} {f0 : List Int} {f1 : Int} (h : IsS60 w0 W g f0 f1) (o : Obj) : IsS60 w0 (W.alloc o) g f0 f1 := h.below (below_alloc (Below.refl _ _) o)
theorem IsS60.drewN {w0 W : World} {g : Nat} {f0 : List Int} {f1 : Int} (h : IsS60 w0 W g f0 f1) (m : Nat) : IsS60 w0 (W.drewN m) g f0 f1 := h
theorem IsS60.drew {w0 W : World} {g : Nat} {f0 : List Int} {f1 : Int} (h : IsS60 w0 W g f0 f1) : IsS60 w0 W.drew g f0 f1 := h
theorem IsS60.at_ {w0 W : World} {g : Nat} {f0 : List Int} {f1 : Int} {w' : World} {m : Nat} (hq : W.drewN m = w') (h : IsS60 w0 W g f0 f1) : IsS60 w0 w' g f0 f1 := by subst hq; exact IsS60.drewN h m
theorem IsS60.apart {w0 W : World} {g : Nat} {f0 : List Int} {f1 : Int} {α : Type} {d : Kd α} {e : Nat} {base : Nat} {ok : Nat → Prop} {v : Value} {xs : List α} (h : IsS60 w0 W g f0 f1) (ho : d.R e W base ok v xs) (ht : ∀ q, q ∈ e :: d.E → q ≠ 60) : d.R e W base (fun k => ok k ∧ k ≠ g) v xs := by
 obtain ⟨A0, c0, hb, hg, hr0⟩ := h
 exact Kd.R_types ho hb ht
theorem IsS60.own_ne {w0 W : World} {g : Nat} {f0 : List Int} {f1 : Int} {α : Type} {d : Kd α} {e : Nat} {base : Nat} {ok : Nat → Prop} {v : Value} {xs : List α} (h : IsS60 w0 W g f0 f1) (ho : d.R e W base ok v xs) (ht : e ≠ 60) : some g ≠ v.ownBlock := by
 obtain ⟨A0, c0, hb, hg, hr0⟩ := h
 exact Kd.R_ne ho hb ht
theorem IsS60.apartQ {w0 W : World} {g : Nat} {f0 : List Int} {f1 : Int} {α : Type} {d : Kd α} {e : Nat} {base : Nat} {ok : Nat → Prop} {v : Value} {xs : List α} (h : IsS60 w0 W g f0 f1) (ho : d.Q e W base ok v xs) (ht : ∀ q, q ∈ e :: d.E → q ≠ 60) : d.Q e W base (fun k => ok k ∧ k ≠ g) v xs := by
 obtain ⟨A0, c0, hb, hg, hr0⟩ := h
 exact Kd.Q_types ho hb ht
theorem IsS60.own_neQ {w0 W : World} {g : Nat} {f0 : List Int} {f1 : Int} {α : Type} {d : Kd α} {e : Nat} {base : Nat} {ok : Nat → Prop} {v : Value} {xs : List α} (h : IsS60 w0 W g f0 f1) (ho : d.Q e W base ok v xs) (ht : e ≠ 60) : some g ≠ v.ownBlock := by
 obtain ⟨A0, c0, hb, hg, hr0⟩ := h
 exact Kd.Q_ne ho hb ht
theorem IsS60.apartS {w0 W : World} {g : Nat} {f0 : List Int} {f1 : Int} {α : Type} {d : Kd α} {e : Nat} {base : Nat} {ok : Nat → Prop} {v : Value} {xs : List α} (h : IsS60 w0 W g f0 f1) (ho : d.S e W base ok v xs) (ht : ∀ q, q ∈ e :: d.E → q ≠ 60) : d.S e W base (fun k => ok k ∧ k ≠ g) v xs := by
 obtain ⟨A0, c0, hb, hg, hr0⟩ := h
 exact Kd.S_types ho hb ht
theorem IsS60.own_neS {w0 W : World} {g : Nat} {f0 : List Int} {f1 : Int} {α : Type} {d : Kd α} {e : Nat} {base : Nat} {ok : Nat → Prop} {v : Value} {xs : List α} (h : IsS60 w0 W g f0 f1) (ho : d.S e W base ok v xs) (ht : e ≠ 60) : some g ≠ v.ownBlock := by
 obtain ⟨A0, c0, hb, hg, hr0⟩ := h
 exact Kd.S_ne ho hb ht
theorem IsS60.lt {w0 W : World} {g : Nat} {f0 : List Int} {f1 : Int} (h : IsS60 w0 W g f0 f1) : g < W.heap.size := by
 obtain ⟨A0, c0, hb, hg, hr0⟩ := h
 exact blk_lt hb
theorem IsS60.ge {w0 W : World} {g : Nat} {f0 : List Int} {f1 : Int} (h : IsS60 w0 W g f0 f1) : w0.heap.size ≤ g := by
 obtain ⟨A0, c0, hb, hg, hr0⟩ := h
 exact hg
theorem IsS60.ne_blk {w0 W : World} {g : Nat} {f0 : List Int} {f1 : Int} {a : Nat} {cs : Array Value} {t : TypeId} {fr : Nat × Nat} (h : IsS60 w0 W g f0 f1) (hb2 : W.heap[a]? = some (.cells cs t fr)) (ht : t ≠ 60) : g ≠ a := by
 obtain ⟨A0, c0, hb, hg, hr0⟩ := h
 rintro rfl
 rw [hb] at hb2
 injection hb2 with hb2
 injection hb2 with _ ht2
 exact ht ht2.symm
theorem IsS60.far {w0 W : World} {g : Nat} {f0 : List Int} {f1 : Int} {p : Addr} (h : IsS60 w0 W g f0 f1) (hne : g ≠ p.block) (u : Value) : IsS60 w0 (W.setCell p u) g f0 f1 := by
 obtain ⟨A0, c0, hb, hg, hr0⟩ := h
 exact ⟨A0, c0, blk_far hb hne u, hg, hr0⟩
theorem cellS60_0 {W : World} {g : Nat} {A0 : Option Addr} {c0 : Nat} {f0 : List Int} {f1 : Int} (h : W.heap[g]? = some (.cells #[.slice A0 f0.length c0, .int .i64 f1] 60 (0, 0))) : W.cell? ⟨g, 0, none⟩ = some (.slice A0 f0.length c0) := (blk_cell h 0).trans rfl
theorem cellS60_1 {W : World} {g : Nat} {A0 : Option Addr} {c0 : Nat} {f0 : List Int} {f1 : Int} (h : W.heap[g]? = some (.cells #[.slice A0 f0.length c0, .int .i64 f1] 60 (0, 0))) : W.cell? ⟨g, 1, none⟩ = some (.int .i64 f1) := (blk_cell h 1).trans rfl
theorem IsS60.set_1 {w0 W : World} {g : Nat} {f0 : List Int} {f1 : Int} (h : IsS60 w0 W g f0 f1) (x : Int) : IsS60 w0 (W.setCell ⟨g, 1, none⟩ (.int .i64 x)) g f0 x := by
 obtain ⟨A0, c0, hb, hg, hr0⟩ := h
 exact ⟨A0, c0, by simpa using blk_set hb 1 (.int .i64 x), hg, hr0⟩
theorem IsS60.new (w0 W : World) (A0 : Option Addr) (c0 : Nat) (f0 : List Int) (f1 : Int) (hB : Below w0.heap.size w0 W) (hr0 : Kd.C (Kd.int .u8) w0 A0 f0.length f0) : IsS60 w0 (W.alloc (.cells #[.slice A0 f0.length c0, .int .i64 f1] 60)) W.heap.size f0 f1 := ⟨A0, c0, by simpa using heap_alloc_new W _, hB.size, hr0⟩
theorem farA60 {w0 W : World} {g : Nat} {f0 : List Int} {f1 : Int} {g2 j : Nat} {u : Value} (h : IsS60 w0 W g f0 f1) (hn : Aside0 (g ≠ g2)) : IsS60 w0 (W.setCell ⟨g2, j, none⟩ u) g f0 f1 := IsS60.far h hn.out u
theorem iS60 {w0 W W2 : World} {g : Nat} {f0 : List Int} {f1 : Int} {f0' : List Int} {f1' : Int} (a : IsS60 w0 W g f0 f1) (f : IsS60 w0 W g f0 f1 → IsS60 w0 W2 g f0' f1' := by intro h_; repeat (first | (with_reducible first | exact h_ | apply IsS60.alloc | apply IsS60.drewN | apply IsS60.drew | apply IsS60.set_1 | (refine farA60 ?_ ?_; rotate_left; assumption)) | exact h_)) : IsS60 w0 W2 g f0' f1' := f a
theorem wS60 {n : Nat} {w w' W : World} (a : Below n w w') (f : Below n w w' → Below n w W := by intro h_; repeat (first | (with_reducible first | exact h_ | apply below_alloc | apply pw_below_drewN | apply below_drew1 | (refine below_set ?_ ?_; rotate_left; exact IsS60.ge (Aside0.out (by assumption))) | (refine below_setA ?_ ?_; rotate_left; assumption)) | exact h_)) : Below n w W := f a
end Go.Proofs.Ytcmkijmjafgkfaa.P
