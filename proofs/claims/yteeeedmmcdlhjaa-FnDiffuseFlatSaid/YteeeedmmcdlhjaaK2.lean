/- Contracts and row, written by a program of this place out of the translation: the call answers true and its argument reads as before, for every input; no condition. -/
import Derived.Test.YteeeedmmcdlhjaaK0
import Derived.Test.YteeeedmmcdlhjaaK1
namespace Go.Proofs.Yteeeedmmcdlhjaa.P
open Go.RowKit Go.Proofs.YteeeedmmcdlhjaaW.PrintWords Go.Proofs.YteeeedmmcdlhjaaW.PrintLast Go.Proofs.YteeeedmmcdlhjaaW.PrintMore
attribute [local go_sem] max2_int min2_int max_two min_two max_three min_three max_four min_four   -- for this text's walks alone
set_option linter.unusedVariables false
set_option linter.unusedSimpArgs false
def spec_nearestLevel.l0 : Nat → Int → Int → Int → Int → Option (Int)
 | 0, _, _, _, _ => none
 | k + 1, x0, x1, x5, x6 => if x6 < x1 then ((spec_levelValue.f x6 x1).bind fun t533 => ((spec_distance.f (wrap64 (t533 - x0))).bind fun t534 => ((spec_levelValue.f x5 x1).bind fun t535 => ((spec_distance.f (wrap64 (t535 - x0))).bind fun t536 => (if t534 < t536 then (spec_nearestLevel.l0 k x0 x1 x6 (wrap64 (x6 + 1))) else (spec_nearestLevel.l0 k x0 x1 x5 (wrap64 (x6 + 1)))))))) else (some x5)
def spec_nearestLevel.f (k : Nat) (a0 : Int) (a1 : Int) : Option (Int) := spec_nearestLevel.l0 k a0 a1 0 1
theorem spec_nearestLevel.mono_l : ∀ k, (∀ y0 y1 y2 y3, LeO (spec_nearestLevel.l0 k y0 y1 y2 y3) (spec_nearestLevel.l0 (k + 1) y0 y1 y2 y3))
 | 0 => fun _ _ _ _ r h => by simp [spec_nearestLevel.l0] at h
 | k + 1 => by
  have ih0 := spec_nearestLevel.mono_l k
  ·intro y0 y1 y2 y3
   unfold spec_nearestLevel.l0
   repeat' first | (with_reducible first | exact ih0 _ _ _ _ | exact lR | exact lN | refine lI ?_ ?_ | refine lB ?_ fun _ => ?_) | exact ih0 _ _ _ _ | exact lN | refine lI ?_ ?_ | refine lB ?_ fun _ => ?_
theorem spec_nearestLevel.mono : ∀ a0 a1 k, LeO (spec_nearestLevel.f k a0 a1) (spec_nearestLevel.f (k + 1) a0 a1) := by
 intro a0 a1 k
 have ih0 := spec_nearestLevel.mono_l k
 unfold spec_nearestLevel.f
 repeat' first | (with_reducible first | exact ih0 _ _ _ _ | exact lR | exact lN | refine lI ?_ ?_ | refine lB ?_ fun _ => ?_) | exact ih0 _ _ _ _ | exact lN | refine lI ?_ ?_ | refine lB ?_ fun _ => ?_
set_option maxHeartbeats 8000000 in
set_option maxRecDepth 100000 in
theorem spec_nearestLevel.calls (k : Nat) (a0 : Int) (a1 : Int) (r : Int) (w : World) (h : spec_nearestLevel.f k a0 a1 = some r) :
  Calls Try.prog 69 #[.int .i64 a0, .int .i64 a1] w fun e w' => e = .returned (.int .i64 r) ∧ Drawn0 w w' := by
 unfold spec_nearestLevel.f at h
 have H := h
 clear h
 have H' := aM H
 clear H
 go_enter Try.func69, Try.ntmps69
 go_wp2
 go_loopg [5, 6] k (fun kq v5 v6 w' => ∃ (x5_1 : Int) (x6_1 : Int), v5 = .int .i64 x5_1 ∧ v6 = .int .i64 x6_1 ∧ Aside0 (spec_nearestLevel.l0 kq a0 a1 x5_1 x6_1 = some r) ∧ Aside0 (kq ≤ k) ∧ Drawn0 w w')
 case atStart => exact ⟨(0), (1), qE, qE, H', ⟨Nat.le_refl _⟩, qD⟩
 case round =>
  clear H'
  obtain ⟨x5_1, x6_1, rfl, rfl, HA, HK1, ⟨m1, rfl⟩⟩ := hrel
  cases gk with
  | zero => exact absurd HA.out (by simp [spec_nearestLevel.l0])
  | succ k1 =>
   have H := HA.out
   clear HA
   simp only [spec_nearestLevel.l0] at H
   by_cases c3 : x6_1 < a1
   rotate_left
   ·rw [if_neg c3] at H
    have c3b0 : decide (x6_1 < a1) = false := decide_eq_false c3
    clear c3
    obtain rfl := Option.some.inj H
    go_wp2
    go_ret
    exact ⟨qE, qD⟩
   rw [if_pos c3] at H
   have c3b0 : decide (x6_1 < a1) = true := decide_eq_true c3
   clear c3
   replace H := Option.bind_eq_some_iff.mp H
   obtain ⟨t533, A40, H⟩ := H
   replace H : ((spec_distance.f (wrap64 (t533 - a0))).bind fun t534 => ((spec_levelValue.f x5_1 a1).bind fun t535 => ((spec_distance.f (wrap64 (t535 - a0))).bind fun t536 => (if t534 < t536 then (spec_nearestLevel.l0 k1 a0 a1 x6_1 (wrap64 (x6_1 + 1))) else (spec_nearestLevel.l0 k1 a0 a1 x5_1 (wrap64 (x6_1 + 1))))))) = some r := H
   have A4 := aM A40
   clear A40
   replace H := Option.bind_eq_some_iff.mp H
   obtain ⟨t534, A50, H⟩ := H
   replace H : ((spec_levelValue.f x5_1 a1).bind fun t535 => ((spec_distance.f (wrap64 (t535 - a0))).bind fun t536 => (if t534 < t536 then (spec_nearestLevel.l0 k1 a0 a1 x6_1 (wrap64 (x6_1 + 1))) else (spec_nearestLevel.l0 k1 a0 a1 x5_1 (wrap64 (x6_1 + 1)))))) = some r := H
   have A5 := aM A50
   clear A50
   replace H := Option.bind_eq_some_iff.mp H
   obtain ⟨t535, A60, H⟩ := H
   replace H : ((spec_distance.f (wrap64 (t535 - a0))).bind fun t536 => (if t534 < t536 then (spec_nearestLevel.l0 k1 a0 a1 x6_1 (wrap64 (x6_1 + 1))) else (spec_nearestLevel.l0 k1 a0 a1 x5_1 (wrap64 (x6_1 + 1))))) = some r := H
   have A6 := aM A60
   clear A60
   replace H := Option.bind_eq_some_iff.mp H
   obtain ⟨t536, A70, H⟩ := H
   replace H : (if t534 < t536 then (spec_nearestLevel.l0 k1 a0 a1 x6_1 (wrap64 (x6_1 + 1))) else (spec_nearestLevel.l0 k1 a0 a1 x5_1 (wrap64 (x6_1 + 1)))) = some r := H
   have A7 := aM A70
   clear A70
   by_cases c8 : t534 < t536
   ·rw [if_pos c8] at H
    have c8b0 : decide (t534 < t536) = true := decide_eq_true c8
    clear c8
    have H' := aM H
    clear H
    go_wp2_with (first | ((with_reducible refine gate_callee (f := 59) rfl ?_); refine gL (some 14) Try.func59 #[.int .i64 x6_1, .int .i64 a1] ?_; (with_reducible refine (spec_levelValue.calls x6_1 a1 t533 _ A4.out).mono ?_); rintro e w' ⟨rfl, ⟨nd, rfl⟩⟩; refine ⟨_, rfl, ?_⟩) | ((with_reducible refine gate_callee (f := 96) rfl ?_); refine gL (some 17) Try.func96 #[.int .i64 (wrap64 (t533 - a0))] ?_; (with_reducible refine (spec_distance.calls (wrap64 (t533 - a0)) t534 _ A5.out).mono ?_); rintro e w' ⟨rfl, ⟨nd, rfl⟩⟩; refine ⟨_, rfl, ?_⟩) | ((with_reducible refine gate_callee (f := 59) rfl ?_); refine gL (some 20) Try.func59 #[.int .i64 x5_1, .int .i64 a1] ?_; (with_reducible refine (spec_levelValue.calls x5_1 a1 t535 _ A6.out).mono ?_); rintro e w' ⟨rfl, ⟨nd, rfl⟩⟩; refine ⟨_, rfl, ?_⟩) | ((with_reducible refine gate_callee (f := 96) rfl ?_); refine gL (some 23) Try.func96 #[.int .i64 (wrap64 (t535 - a0))] ?_; (with_reducible refine (spec_distance.calls (wrap64 (t535 - a0)) t536 _ A7.out).mono ?_); rintro e w' ⟨rfl, ⟨nd, rfl⟩⟩; refine ⟨_, rfl, ?_⟩))
    go_roundg k1
    case measure => have := HK1.out; omega
    case rel => exact ⟨(x6_1), (wrap64 (x6_1 + 1)), qE, qE, H', ⟨by have := HK1.out; omega⟩, qD⟩
   rw [if_neg c8] at H
   have c8b0 : decide (t534 < t536) = false := decide_eq_false c8
   clear c8
   have H' := aM H
   clear H
   go_wp2_with (first | ((with_reducible refine gate_callee (f := 59) rfl ?_); refine gL (some 14) Try.func59 #[.int .i64 x6_1, .int .i64 a1] ?_; (with_reducible refine (spec_levelValue.calls x6_1 a1 t533 _ A4.out).mono ?_); rintro e w' ⟨rfl, ⟨nd, rfl⟩⟩; refine ⟨_, rfl, ?_⟩) | ((with_reducible refine gate_callee (f := 96) rfl ?_); refine gL (some 17) Try.func96 #[.int .i64 (wrap64 (t533 - a0))] ?_; (with_reducible refine (spec_distance.calls (wrap64 (t533 - a0)) t534 _ A5.out).mono ?_); rintro e w' ⟨rfl, ⟨nd, rfl⟩⟩; refine ⟨_, rfl, ?_⟩) | ((with_reducible refine gate_callee (f := 59) rfl ?_); refine gL (some 20) Try.func59 #[.int .i64 x5_1, .int .i64 a1] ?_; (with_reducible refine (spec_levelValue.calls x5_1 a1 t535 _ A6.out).mono ?_); rintro e w' ⟨rfl, ⟨nd, rfl⟩⟩; refine ⟨_, rfl, ?_⟩) | ((with_reducible refine gate_callee (f := 96) rfl ?_); refine gL (some 23) Try.func96 #[.int .i64 (wrap64 (t535 - a0))] ?_; (with_reducible refine (spec_distance.calls (wrap64 (t535 - a0)) t536 _ A7.out).mono ?_); rintro e w' ⟨rfl, ⟨nd, rfl⟩⟩; refine ⟨_, rfl, ?_⟩))
   go_roundg k1
   case measure => have := HK1.out; omega
   case rel => exact ⟨(x5_1), (wrap64 (x6_1 + 1)), qE, qE, H', ⟨by have := HK1.out; omega⟩, qD⟩
def impl_floorDiv.f (a0 : Int) (a1 : Int) : Option (Int) := if a1 = 0 then (none) else (if (wrap64 ((wrap64 (Int.tdiv a0 a1)) * a1)) > a0 then (some (wrap64 ((wrap64 (Int.tdiv a0 a1)) - 1))) else (some (wrap64 (Int.tdiv a0 a1))))
set_option maxHeartbeats 8000000 in
set_option maxRecDepth 100000 in
theorem impl_floorDiv.calls (a0 : Int) (a1 : Int) (r : Int) (w : World) (h : impl_floorDiv.f a0 a1 = some r) :
  Calls Try.prog 74 #[.int .i64 a0, .int .i64 a1] w fun e w' => e = .returned (.int .i64 r) ∧ Drawn0 w w' := by
 unfold impl_floorDiv.f at h
 have H := h
 clear h
 by_cases c3 : a1 = 0
 ·rw [if_pos c3] at H
  exact absurd H (by simp)
 rw [if_neg c3] at H
 have c3b0 : (a1 == 0) = false := beq_eq_false_iff_ne.mpr c3
 have c3b1 : (a1 != 0) = true := bne_iff_ne.mpr c3
 by_cases c4 : (wrap64 ((wrap64 (Int.tdiv a0 a1)) * a1)) > a0
 ·rw [if_pos c4] at H
  have c4b0 : decide (a0 < (wrap64 ((wrap64 (Int.tdiv a0 a1)) * a1))) = true := decide_eq_true c4
  clear c4
  obtain rfl := Option.some.inj H
  go_enter Try.func74, Try.ntmps74
  go_wp2
  go_ret
  exact ⟨qE, qD⟩
 rw [if_neg c4] at H
 have c4b0 : decide (a0 < (wrap64 ((wrap64 (Int.tdiv a0 a1)) * a1))) = false := decide_eq_false c4
 clear c4
 obtain rfl := Option.some.inj H
 go_enter Try.func74, Try.ntmps74
 go_wp2
 go_ret
 exact ⟨qE, qD⟩
def spec_floorDiv.f (a0 : Int) (a1 : Int) : Option (Int) := if a1 = 0 then (none) else (if (Int.tmod a0 a1) < 0 then (some (wrap64 ((wrap64 (Int.tdiv a0 a1)) - 1))) else (some (wrap64 (Int.tdiv a0 a1))))
set_option maxHeartbeats 8000000 in
set_option maxRecDepth 100000 in
theorem spec_floorDiv.calls (a0 : Int) (a1 : Int) (r : Int) (w : World) (h : spec_floorDiv.f a0 a1 = some r) :
  Calls Try.prog 70 #[.int .i64 a0, .int .i64 a1] w fun e w' => e = .returned (.int .i64 r) ∧ Drawn0 w w' := by
 unfold spec_floorDiv.f at h
 have H := h
 clear h
 by_cases c3 : a1 = 0
 ·rw [if_pos c3] at H
  exact absurd H (by simp)
 rw [if_neg c3] at H
 have c3b0 : (a1 == 0) = false := beq_eq_false_iff_ne.mpr c3
 have c3b1 : (a1 != 0) = true := bne_iff_ne.mpr c3
 by_cases c4 : (Int.tmod a0 a1) < 0
 ·rw [if_pos c4] at H
  have c4b0 : decide ((Int.tmod a0 a1) < 0) = true := decide_eq_true c4
  clear c4
  obtain rfl := Option.some.inj H
  go_enter Try.func70, Try.ntmps70
  go_wp2
  go_ret
  exact ⟨qE, qD⟩
 rw [if_neg c4] at H
 have c4b0 : decide ((Int.tmod a0 a1) < 0) = false := decide_eq_false c4
 clear c4
 obtain rfl := Option.some.inj H
 go_enter Try.func70, Try.ntmps70
 go_wp2
 go_ret
 exact ⟨qE, qD⟩
def spec_copyInts.f (l0 : List Int) : Option (List Int) := (some (([] : List Int) : List Int)).bind fun y327 => (if y327.length + l0.length < 17592186044416 then (some (y327 ++ l0)) else (none))
set_option maxHeartbeats 8000000 in
set_option maxRecDepth 100000 in
theorem spec_copyInts.calls (A0 : Option Addr) (c0 : Nat) (l0 : List Int) (r : List Int) (w : World) (hr0 : Kd.C (Kd.int .i64) w A0 l0.length l0) (hc0 : l0.length ≤ c0) (h : spec_copyInts.f l0 = some r) :
  Calls Try.prog 94 #[.slice A0 l0.length c0] w fun e w' => ∃ v0_ : Value, e = .returned (v0_) ∧ Kd.R (Kd.int .i64) 3 w' w.heap.size (fun _ => True) v0_ r ∧ Below w.heap.size w w' := by
 have HR0 := aM hr0
 have HC0 := aM hc0
 clear hr0 hc0
 have HB := aM (Below.refl w.heap.size w)
 unfold spec_copyInts.f at h
 have H := h
 clear h
 obtain ⟨y327, hy327⟩ : ∃ y_ : List Int, y_ = (([] : List Int)) := ⟨_, rfl⟩
 replace H : (if y327.length + l0.length < 17592186044416 then (some (y327 ++ l0)) else (none)) = some r := rY hy327 H
 have Ny327 := aM hy327
 clear hy327
 replace H := iS H
 obtain ⟨c2, H⟩ := H
 have LMc2 := aM c2
 clear c2
 obtain ⟨y330, hy330⟩ : ∃ y_ : List Int, y_ = (y327 ++ l0) := ⟨_, rfl⟩
 replace H : (some y330) = some r := rY hy330 H
 have Ny330 := aM hy330
 clear hy330
 obtain rfl := Option.some.inj H
 go_enter Try.func94, Try.ntmps94
 go_wp2_with (first | ((with_reducible refine gate_dst (N := 3) rfl ?_); refine iL ([] : List Int) [] ?_; intro v328 w3 ho4 hb hg_ hnew_; clear hg_ hnew_; (first | rw [← Ny327.out] at ho4 | (simp only [Int.reduceToNat] at ho4; rw [← Ny327.out] at ho4)); have HO329 := oR ho4 HB; replace HB := bS HB hb; clear hb ho4) | ((with_reducible refine gate_builtin (b := .append) (xs := #[.tmp 3, .tmp 4]) rfl ?_); at_builtin; refine Kd.R_append_rows (Kd.int .i64) (w0 := w) w.heap.size rfl (.tmp 3) (.tmp 4) 25 3 (.int .i64 0) 8 rfl Try.underlying25 info3 rfl (by decide) (by omega) v328 y327 l0 _ _ _ (fun _ => True) (fun _ => False) rfl rfl ?aO ?aR (fun _ _ h => h) (fun _ h => h.elim) ?aF ?aB ?aS ?aL ?_; (case aR => exact qC (Kd.C_below HR0.out HB.out)); (case aB => exact (qW HB.out)); (case aF => exact (fun _ _ => trivial)); (case aO => exact (qR HO329.out)); (case aS => exact (below_size (qW HB.out))); (case aL => have := LMc2.out; omega); intro v331 w5 ho hb hg hat; rw [← Ny330.out] at ho; replace HB := aM (hb); have HO332 := aM (ho); clear HO329; clear ho hb hg hat))
 go_ret
 exact ⟨_, qX, by refine qR ?_; exact HO332.out, by exact qW HB.out⟩
def spec_copyImage.f (a0_0 : Int) (a0_1 : Int) (a0_2 : Int) (l0_3 : List Int) : Option (Int × Int × Int × List Int) := (spec_copyInts.f l0_3).bind fun t335 => (some (a0_0, a0_1, a0_2, t335))
def spec_copyImage.T1 : Bool × List (List Nat × List Nat) := (true, [([], []), ([0], [0]), ([], []), ([2], [2]), ([], []), ([4], [4]), ([], []), ([6], [6]), ([7], [7]), ([1, 3, 5, 8], [1, 3, 5, 8]), ([9, 8, 0, 1, 2, 3, 4, 5, 6, 7, 8, 9], [9])])
def spec_copyImage.B1 : List Nat := [0, 1, 0, 4, 0, 16, 0, 64, 192, 511, 1023]
theorem spec_copyImage.tab1 : rtab .any (opsOf Try.f58 1) = spec_copyImage.T1 := by kernel_rfl
theorem spec_copyImage.bits1 : waitsOk spec_copyImage.T1.2 spec_copyImage.B1 = true := by kernel_rfl
set_option maxHeartbeats 8000000 in
set_option maxRecDepth 100000 in
theorem spec_copyImage.calls (a0_0 : Int) (a0_1 : Int) (a0_2 : Int) (A0_3 : Option Addr) (c0_3 : Nat) (l0_3 : List Int) (r1 : Int) (r2 : Int) (r3 : Int) (r4 : List Int) (w : World) (hr0_3 : Kd.C (Kd.int .i64) w A0_3 l0_3.length l0_3) (hc0_3 : l0_3.length ≤ c0_3) (h : spec_copyImage.f a0_0 a0_1 a0_2 l0_3 = some (r1, r2, r3, r4)) :
  Calls Try.prog 58 #[.agg #[.int .i64 a0_0, .int .i64 a0_1, .int .i64 a0_2, .slice A0_3 l0_3.length c0_3]] w fun e w' => ∃ v3_ : Value, e = .returned (.agg #[.int .i64 r1, .int .i64 r2, .int .i64 r3, v3_]) ∧ Kd.R (Kd.int .i64) 3 w' w.heap.size (fun _ => True) v3_ r4 ∧ Below w.heap.size w w' := by
 have hu27 := Try.underlying27
 have HR0_3 := aM hr0_3
 have HC0_3 := aM hc0_3
 clear hr0_3 hc0_3
 have HB := aM (Below.refl w.heap.size w)
 unfold spec_copyImage.f at h
 have H := h
 clear h
 replace H := Option.bind_eq_some_iff.mp H
 obtain ⟨t335, A20, H⟩ := H
 replace H : (some (a0_0, a0_1, a0_2, t335)) = some (r1, r2, r3, r4) := H
 have A2 := aM A20
 clear A20
 simp only [Option.some.injEq, Prod.mk.injEq] at H
 obtain ⟨rfl, rfl, rfl, rfl⟩ := H
 go_enter Try.func58, Try.ntmps58
 try go_wp2_with (first | ((with_reducible refine gate_dst (N := 1) rfl ?_); refine bxE (N := 1) (cs := #[.int .i64 a0_0, .int .i64 a0_1, .int .i64 a0_2, .slice A0_3 l0_3.length c0_3]) (t := 27) ?_; intro gb333 hg w3 hbox hb; have BK333 := aM (hbox); have GW333 := gW hg HB; have GE333 := gW hg HB; replace HB := bS HB hb; clear hb hbox hg) | ((with_reducible refine gate_dst (N := 2) rfl ?_); refine bxE (N := 2) (cs := #[.int .i64 0, .int .i64 0, .int .i64 0, .slice none 0 0]) (t := 27) ?_; intro gb334 hg w4 hbox hb; have BK334 := aM (hbox); have GW334 := gW hg HB; have GE334 := gW hg HB; replace HB := bS HB hb; have NB333_334 := nL hg BK333; have NB334_333 := nG hg BK333; replace BK333 := bB BK333 hb; clear hb hbox hg))
 replace BK333 := aM (blk_drew BK333.out)
 replace BK334 := aM (blk_drew BK334.out)
 replace HB := aM (below_drew1 HB.out)
 refine start_ (n := 11) (S := fun w' => w'.cell? ⟨gb333, 0, none⟩ = some (.int .i64 a0_0) ∧ w'.cell? ⟨gb333, 1, none⟩ = some (.int .i64 a0_1) ∧ w'.cell? ⟨gb333, 2, none⟩ = some (.int .i64 a0_2) ∧ w'.cell? ⟨gb333, 3, none⟩ = some (.slice A0_3 l0_3.length c0_3)) (ds := []) (bA 11 0) (by kernel_rfl) rfl rfl ⟨(blk_cell BK333.out 0).trans rfl, (blk_cell BK333.out 1).trans rfl, (blk_cell BK333.out 2).trans rfl, (blk_cell BK333.out 3).trans rfl⟩ (fun hHeld => ?_); refine with_tabW spec_copyImage.tab1 spec_copyImage.bits1 (fun HT_ HW_ => ?_)
 generalize w4.drew = w5 at BK333 BK334 HB hHeld ⊢
 refine pQ 0 3 HT_ (bA 11 1) ?_
 refine pQ 2 5 HT_ (bA 11 5) ?_
 refine pQ 4 7 HT_ (bA 11 21) ?_
 refine pQ 6 9 HT_ (bA 11 85) ?_
 refine take_ (i := 1) (N := some 4) (v := ?_) (a' := ?_) (bA 11 87) rfl rfl (take_ofW HT_.out HW_.out (by kernel_rfl)) (fun _ _ _ h => h) (Or.inl ⟨by rfl, ?_⟩) hHeld ?_ ?_
 rotate_left
 ·rintro w' ⟨s0, s1, s2, s3⟩
  go_simp
  with_reducible rfl
 rotate_left
 ·refine pZ ?_
  rfl
 refine take_ (i := 3) (N := some 6) (v := ?_) (a' := ?_) (bA 11 95) rfl rfl (take_ofW HT_.out HW_.out (by kernel_rfl)) (fun _ _ _ h => h) (Or.inl ⟨by rfl, ?_⟩) hHeld ?_ ?_
 rotate_left
 ·rintro w' ⟨s0, s1, s2, s3⟩
  go_simp
  with_reducible rfl
 rotate_left
 ·refine pZ ?_
  rfl
 refine take_ (i := 5) (N := some 8) (v := ?_) (a' := ?_) (bA 11 127) rfl rfl (take_ofW HT_.out HW_.out (by kernel_rfl)) (fun _ _ _ h => h) (Or.inl ⟨by rfl, ?_⟩) hHeld ?_ ?_
 rotate_left
 ·rintro w' ⟨s0, s1, s2, s3⟩
  go_simp
  with_reducible rfl
 rotate_left
 ·refine pZ ?_
  rfl
 refine take_ (i := 7) (N := some 10) (v := ?_) (a' := ?_) (bA 11 255) rfl rfl (take_ofW HT_.out HW_.out (by kernel_rfl)) (fun _ _ _ h => h) (Or.inl ⟨by rfl, ?_⟩) hHeld ?_ ?_
 rotate_left
 ·rintro w' ⟨s0, s1, s2, s3⟩
  go_simp
  with_reducible rfl
 rotate_left
 ·refine pZ ?_
  rfl
 refine one_ (i := 8) (N := some 11) (bA 11 511) rfl rfl (one_of HT_.out (by kernel_rfl)) (by decide) (fun K hK => ?_)
 refine goes_ Try.func94 (by kernel_rfl) rfl #[.slice A0_3 l0_3.length c0_3] (by rfl) rfl rfl qM ?_
 with_reducible refine (spec_copyInts.calls _ _ l0_3 t335 _ ?side1 ?side2 A2.out).mono ?_
 (case side1 => exact qC (Kd.C_below HR0_3.out HB.out))
 (case side2 => exact HC0_3.out)
 rintro e w6 ⟨v336, rfl, ho0, hb⟩
 refine ⟨_, rfl, ?_⟩
 have HO337 := oR ho0 HB
 replace BK333 := bB BK333 hb
 replace BK334 := bB BK334 hb
 replace HB := bS HB hb
 (try clear hb)
 (try clear hb2)
 (try clear hk)
 (try clear hi)
 (try clear ho0)
 obtain ⟨Ao7, co7, eo7⟩ := Kd.R_slice HO337.out
 (first | subst eo7 | (injection eo7 with f1_ f2_ f3_; have f4_ := f1_.symm; have f5_ := f3_.symm; clear f1_ f2_ f3_; subst f4_; subst f5_))
 refine hK.out _ _ ⟨(blk_cell BK333.out 0).trans rfl, (blk_cell BK333.out 1).trans rfl, (blk_cell BK333.out 2).trans rfl, (blk_cell BK333.out 3).trans rfl⟩ (fun hHeld => ?_)
 clear hK K
 refine norm_ (a' := ?_) ?_ ?_
 rotate_left
 ·show Act.put _ (some 11) _ = _
  refine pZ ?_
  rfl
 refine pQ 9 12 HT_ (bA 11 1023) ?_
 refine one_ (i := 10) (N := none) (bA 11 2047) rfl rfl (one_of HT_.out (by kernel_rfl)) (by decide) (fun K hK => ?_)
 have hs8 : w6.cell? ⟨gb334, 0, none⟩ = some (.int .i64 0) := (blk_cell BK334.out 0).trans rfl
 have hfs8 := blk_frozen BK334.out 0
 have hns8_0 := NB333_334.out
 have hms8_0 := NB334_333.out
 have hs9 : w6.cell? ⟨gb334, 1, none⟩ = some (.int .i64 0) := (blk_cell BK334.out 1).trans rfl
 have hfs9 := blk_frozen BK334.out 1
 have hns9_0 := NB333_334.out
 have hms9_0 := NB334_333.out
 have hs10 : w6.cell? ⟨gb334, 2, none⟩ = some (.int .i64 0) := (blk_cell BK334.out 2).trans rfl
 have hfs10 := blk_frozen BK334.out 2
 have hns10_0 := NB333_334.out
 have hms10_0 := NB334_333.out
 have hs11 : w6.cell? ⟨gb334, 3, none⟩ = some (.slice none 0 0) := (blk_cell BK334.out 3).trans rfl
 have hfs11 := blk_frozen BK334.out 3
 have hns11_0 := NB333_334.out
 have hms11_0 := NB334_333.out
 refine skip_ (w1 := ?_) (by rfl) rfl ?_ ?_
 rotate_left
 ·go_simp
  rfl
 refine hK.out _ _ ⟨((cell_far (p := ⟨gb334, _, none⟩) NB333_334.out _).trans (((cell_far (p := ⟨gb334, _, none⟩) NB333_334.out _).trans (((cell_far (p := ⟨gb334, _, none⟩) NB333_334.out _).trans (((cell_far (p := ⟨gb334, _, none⟩) NB333_334.out _).trans (hHeld.1)))))))), ((cell_far (p := ⟨gb334, _, none⟩) NB333_334.out _).trans (((cell_far (p := ⟨gb334, _, none⟩) NB333_334.out _).trans (((cell_far (p := ⟨gb334, _, none⟩) NB333_334.out _).trans (((cell_far (p := ⟨gb334, _, none⟩) NB333_334.out _).trans (hHeld.2.1)))))))), ((cell_far (p := ⟨gb334, _, none⟩) NB333_334.out _).trans (((cell_far (p := ⟨gb334, _, none⟩) NB333_334.out _).trans (((cell_far (p := ⟨gb334, _, none⟩) NB333_334.out _).trans (((cell_far (p := ⟨gb334, _, none⟩) NB333_334.out _).trans (hHeld.2.2.1)))))))), ((cell_far (p := ⟨gb334, _, none⟩) NB333_334.out _).trans (((cell_far (p := ⟨gb334, _, none⟩) NB333_334.out _).trans (((cell_far (p := ⟨gb334, _, none⟩) NB333_334.out _).trans (((cell_far (p := ⟨gb334, _, none⟩) NB333_334.out _).trans (hHeld.2.2.2))))))))⟩ (fun hHeld => ?_)
 clear hK K
 refine done_ (done_of HT_.out (by kernel_rfl)) ?_
 try go_wp2
 refine bodyPost_ret (results_cell_row rfl _ _ gb334 27 #[.int .i64 a0_0, .int .i64 a0_1, .int .i64 a0_2, .slice Ao7 t335.length co7] (0, 0) _ rfl (by exact bP BK334.out) Try.underlying27 rfl (by kernel_rfl)) rfl ?_
 exact ⟨_, qX, by refine qR ?_; exact Kd.R_mono (rT HO337 BK334) (fun _ hk => trivial), by exact qW HB.out⟩
def spec_onImage.f (a0_0 : Int) (a0_1 : Int) (a0_2 : Int) (l0_3 : List Int) (a1 : Int) (a2 : Int) : Option (Bool) := (spec_inRange.f a1 0 (wrap64 (a0_0 - 1))).bind fun t538 => (if t538 = true then ((spec_inRange.f a2 0 (wrap64 (a0_1 - 1))).bind fun t539 => (some t539)) else (some false))
set_option maxHeartbeats 8000000 in
set_option maxRecDepth 100000 in
theorem spec_onImage.calls (a0_0 : Int) (a0_1 : Int) (a0_2 : Int) (A0_3 : Option Addr) (c0_3 : Nat) (l0_3 : List Int) (a1 : Int) (a2 : Int) (r : Bool) (w : World) (hr0_3 : Kd.C (Kd.int .i64) w A0_3 l0_3.length l0_3) (hc0_3 : l0_3.length ≤ c0_3) (h : spec_onImage.f a0_0 a0_1 a0_2 l0_3 a1 a2 = some r) :
  Calls Try.prog 97 #[.agg #[.int .i64 a0_0, .int .i64 a0_1, .int .i64 a0_2, .slice A0_3 l0_3.length c0_3], .int .i64 a1, .int .i64 a2] w fun e w' => e = .returned (.bool r) ∧ Below w.heap.size w w' := by
 have hu27 := Try.underlying27
 have HR0_3 := aM hr0_3
 have HC0_3 := aM hc0_3
 clear hr0_3 hc0_3
 have HB := aM (Below.refl w.heap.size w)
 unfold spec_onImage.f at h
 have H := h
 clear h
 replace H := Option.bind_eq_some_iff.mp H
 obtain ⟨t538, A40, H⟩ := H
 replace H : (if t538 = true then ((spec_inRange.f a2 0 (wrap64 (a0_1 - 1))).bind fun t539 => (some t539)) else (some false)) = some r := H
 have A4 := aM A40
 clear A40
 by_cases c5 : t538 = true
 rotate_left
 ·replace c5 := Bool.eq_false_iff.mpr c5
  subst c5
  have H1 : (some false) = some r := by rw [if_neg (show ¬ (false = true) by decide)] at H; exact H
  clear H
  have H := H1
  clear H1
  obtain rfl := Option.some.inj H
  go_enter Try.func97, Try.ntmps97
  go_wp2_with (first | ((with_reducible refine gate_dst (N := 3) rfl ?_); refine bxE (N := 3) (cs := #[.int .i64 a0_0, .int .i64 a0_1, .int .i64 a0_2, .slice A0_3 l0_3.length c0_3]) (t := 27) ?_; intro gb537 hg w9 hbox hb; have BK537 := aM (hbox); have GW537 := gW hg HB; have GE537 := gW hg HB; replace HB := bS HB hb; clear hb hbox hg; obtain ⟨⟨hcz10_0, hcz10_1, hcz10_2, hcz10_3⟩, hfz10_0, hfz10_1, hfz10_2, hfz10_3⟩ := cf4 BK537) | ((with_reducible refine gate_callee (f := 51) rfl ?_); refine gL (some 11) Try.func51 #[.int .i64 a1, .int .i64 0, .int .i64 (wrap64 (a0_0 - 1))] ?_; (with_reducible refine (spec_inRange.calls a1 0 (wrap64 (a0_0 - 1)) false _ A4.out).mono ?_); rintro e w' ⟨rfl, ⟨nd, rfl⟩⟩; refine ⟨_, rfl, ?_⟩))
  go_ret
  exact ⟨qX, by exact qW HB.out⟩
 subst c5
 have H1 : ((spec_inRange.f a2 0 (wrap64 (a0_1 - 1))).bind fun t539 => (some t539)) = some r := by rw [if_pos rfl] at H; exact H
 clear H
 have H := H1
 clear H1
 replace H := Option.bind_eq_some_iff.mp H
 obtain ⟨t539, A60, H⟩ := H
 replace H : (some t539) = some r := H
 have A6 := aM A60
 clear A60
 obtain rfl := Option.some.inj H
 go_enter Try.func97, Try.ntmps97
 go_wp2_with (first | ((with_reducible refine gate_dst (N := 3) rfl ?_); refine bxE (N := 3) (cs := #[.int .i64 a0_0, .int .i64 a0_1, .int .i64 a0_2, .slice A0_3 l0_3.length c0_3]) (t := 27) ?_; intro gb537 hg w7 hbox hb; have BK537 := aM (hbox); have GW537 := gW hg HB; have GE537 := gW hg HB; replace HB := bS HB hb; clear hb hbox hg; obtain ⟨⟨hcz8_0, hcz8_1, hcz8_2, hcz8_3⟩, hfz8_0, hfz8_1, hfz8_2, hfz8_3⟩ := cf4 BK537) | ((with_reducible refine gate_callee (f := 51) rfl ?_); refine gL (some 11) Try.func51 #[.int .i64 a1, .int .i64 0, .int .i64 (wrap64 (a0_0 - 1))] ?_; (with_reducible refine (spec_inRange.calls a1 0 (wrap64 (a0_0 - 1)) true _ A4.out).mono ?_); rintro e w' ⟨rfl, ⟨nd, rfl⟩⟩; refine ⟨_, rfl, ?_⟩) | (go_at_call 51; (with_reducible refine (spec_inRange.calls a2 0 (wrap64 (a0_1 - 1)) t539 _ A6.out).mono ?_); rintro e w' ⟨rfl, ⟨nd, rfl⟩⟩))
 go_ret
 exact ⟨qX, by exact qW HB.out⟩
def spec_pass.f (a0_0 : Int) (a0_1 : Int) (a0_2 : Int) (l0_3 : List Int) (a1 : Int) (a2 : Int) (a3 : Int) : Option (List Int) := (spec_onImage.f a0_0 a0_1 a0_2 l0_3 a1 a2).bind fun t541 => (if t541 = true then (if 0 ≤ (wrap64 ((wrap64 (a2 * a0_0)) + a1)) then (if (wrap64 ((wrap64 (a2 * a0_0)) + a1)) < (l0_3.length : Int) then (some (l0_3.set ((wrap64 ((wrap64 (a2 * a0_0)) + a1)) : Int).toNat (wrap64 ((rd l0_3 (wrap64 ((wrap64 (a2 * a0_0)) + a1))) + a3)))) else (none)) else (none)) else (some l0_3))
def spec_pass.T2 : Bool × List (List Nat × List Nat) := (true, [([], []), ([0], [0]), ([], []), ([], []), ([3], [3]), ([2, 4], [2, 4]), ([], []), ([5, 6], [5, 6]), ([], []), ([8], [8]), ([], []), ([], []), ([11], [11]), ([10, 12], [10, 12]), ([], []), ([13, 14], [13, 14]), ([9, 15], [9, 15]), ([16], [16]), ([], []), ([17, 18], [17, 18]), ([1, 7, 0, 1, 2, 3, 4, 5, 6, 7, 8, 9, 10, 11, 12, 13, 14, 15, 16, 17, 18, 19], [1, 7]), ([20, 19, 0, 1, 2, 3, 4, 5, 6, 7, 8, 9, 10, 11, 12, 13, 14, 15, 16, 17, 18, 19], [19, 20])])
def spec_pass.B2 : List Nat := [0, 1, 0, 0, 8, 28, 0, 124, 0, 256, 0, 0, 2048, 7168, 0, 31744, 65280, 130816, 0, 524032, 1048575, 2097151]
theorem spec_pass.tab2 : rtab .any (opsOf Try.f71 2) = spec_pass.T2 := by kernel_rfl
theorem spec_pass.bits2 : waitsOk spec_pass.T2.2 spec_pass.B2 = true := by kernel_rfl
set_option maxHeartbeats 8000000 in
set_option maxRecDepth 100000 in
theorem spec_pass.calls (a0_0 : Int) (a0_1 : Int) (a0_2 : Int) (P0_3_ : Nat → Prop) (u9000_ : Value) (l0_3 : List Int) (a1 : Int) (a2 : Int) (a3 : Int) (r : List Int) (w0 w : World) (hB : Below w0.heap.size w0 w) (ho0_3 : Kd.R (Kd.int .i64) 3 w w0.heap.size P0_3_ u9000_ l0_3) (h : spec_pass.f a0_0 a0_1 a0_2 l0_3 a1 a2 a3 = some r) :
  Calls Try.prog 71 #[.agg #[.int .i64 a0_0, .int .i64 a0_1, .int .i64 a0_2, u9000_], .int .i64 a1, .int .i64 a2, .int .i64 a3] w fun e w' => e = .returned (.tuple #[]) ∧ Kd.R (Kd.int .i64) 3 w' w0.heap.size (fun k_ => (P0_3_ k_ ∨ w.heap.size ≤ k_)) u9000_ r ∧ Below w0.heap.size w0 w' ∧ Kept w w' (fun k_ => P0_3_ k_) := by
 have hu27 := Try.underlying27
 have HO0_3 := aM (show Kd.R (Kd.int .i64) 3 w w0.heap.size (fun k_ => (P0_3_ k_ ∨ w.heap.size ≤ k_)) u9000_ l0_3 from Kd.R_mono ho0_3 (fun k_ hk => (.inl hk)))
 have HK := aM (Kept.refl w (fun k_ => P0_3_ k_))
 have HW0 := aM hB.size
 have HB := aM hB
 clear hB
 unfold spec_pass.f at h
 have H := h
 clear h
 replace H := Option.bind_eq_some_iff.mp H
 obtain ⟨t541, A50, H⟩ := H
 replace H : (if t541 = true then (if 0 ≤ (wrap64 ((wrap64 (a2 * a0_0)) + a1)) then (if (wrap64 ((wrap64 (a2 * a0_0)) + a1)) < (l0_3.length : Int) then (some (l0_3.set ((wrap64 ((wrap64 (a2 * a0_0)) + a1)) : Int).toNat (wrap64 ((rd l0_3 (wrap64 ((wrap64 (a2 * a0_0)) + a1))) + a3)))) else (none)) else (none)) else (some l0_3)) = some r := H
 have A5 := aM A50
 clear A50
 by_cases c6 : t541 = true
 rotate_left
 ·replace c6 := Bool.eq_false_iff.mpr c6
  subst c6
  have H1 : (some l0_3) = some r := by rw [if_neg (show ¬ (false = true) by decide)] at H; exact H
  clear H
  have H := H1
  clear H1
  obtain rfl := Option.some.inj H
  obtain ⟨Ao17, co17, rfl⟩ := sL HO0_3
  go_enter Try.func71, Try.ntmps71
  go_wp2_with (first | ((with_reducible refine gate_dst (N := 4) rfl ?_); refine bxE (N := 4) (cs := #[.int .i64 a0_0, .int .i64 a0_1, .int .i64 a0_2, .slice Ao17 l0_3.length co17]) (t := 27) ?_; intro gb540 hg w18 hbox hb; replace HO0_3 := aM (Kd.R_below (qR HO0_3.out) hb); have BK540 := aM (hbox); have GW540 := aM ((by rw [hg]; exact (by first | exact HK.out.1 | exact (show Kept w _ (fun k_ => P0_3_ k_) from kP HK.out).1) : w.heap.size ≤ gb540)); replace HK := aM (Kept.below (S := (fun k_ => P0_3_ k_)) (kP HK.out) hb); have GE540 := aM ((by rw [hg]; exact (below_size (qW HB.out)) : w0.heap.size ≤ gb540)); replace HB := bS HB hb; clear hb hbox hg; obtain ⟨⟨hcz19_0, hcz19_1, hcz19_2, hcz19_3⟩, hfz19_0, hfz19_1, hfz19_2, hfz19_3⟩ := cf4 BK540) | ((with_reducible refine gate_callee (f := 97) rfl ?_); refine gL (some 11) Try.func97 #[.agg #[.int .i64 a0_0, .int .i64 a0_1, .int .i64 a0_2, .slice Ao17 l0_3.length co17], .int .i64 a1, .int .i64 a2] ?_; (with_reducible refine (spec_onImage.calls a0_0 a0_1 a0_2 _ _ l0_3 a1 a2 false _ ?side1 ?side2 A5.out).mono ?_); (case side1 => exact qC (Kd.R_reads' HO0_3.out).2.2); (case side2 => exact (Kd.R_reads' HO0_3.out).2.1); rintro e w20 ⟨rfl, hb⟩; refine ⟨_, rfl, ?_⟩; replace HO0_3 := aM (Kd.R_below (qR HO0_3.out) hb); replace BK540 := bB BK540 hb; replace HK := aM (Kept.below (S := (fun k_ => P0_3_ k_)) (kP HK.out) hb); replace HB := bS HB hb; clear hb))
  first | go_end0 | ((try simp only [Exit.inBlock, Exit.then]); refine bodyPost_ret (results_none rfl _ _ _) rfl ?_)
  exact ⟨qX, by refine qR ?_; exact HO0_3.out, by exact qW HB.out, kP HK.out⟩
 subst c6
 have H1 : (if 0 ≤ (wrap64 ((wrap64 (a2 * a0_0)) + a1)) then (if (wrap64 ((wrap64 (a2 * a0_0)) + a1)) < (l0_3.length : Int) then (some (l0_3.set ((wrap64 ((wrap64 (a2 * a0_0)) + a1)) : Int).toNat (wrap64 ((rd l0_3 (wrap64 ((wrap64 (a2 * a0_0)) + a1))) + a3)))) else (none)) else (none)) = some r := by rw [if_pos rfl] at H; exact H
 clear H
 have H := H1
 clear H1
 obtain ⟨ji7, hji7⟩ : ∃ j_ : Int, (wrap64 ((wrap64 (a2 * a0_0)) + a1)) = j_ := ⟨_, rfl⟩
 replace H : (if 0 ≤ (ji7) then (if (ji7) < (l0_3.length : Int) then (some (l0_3.set ((ji7) : Int).toNat (wrap64 ((rd l0_3 (ji7)) + a3)))) else (none)) else (none)) = some r := by first | (rw [hji7] at H; exact H) | (simp only [hji7] at H ⊢; exact H)
 (try rw [hji7] at A5)
 have hji7w : (IntKind.i64.wrap ((wrap64 (a2 * a0_0)) + a1)) = ji7 := (i64_w _).trans hji7
 replace H := iD H
 obtain ⟨c8b0, H⟩ := H
 replace H := iD H
 obtain ⟨c9b0, H⟩ := H
 obtain ⟨y543, hy543⟩ : ∃ y_ : List Int, y_ = (l0_3.set ((ji7) : Int).toNat (wrap64 ((rd l0_3 (ji7)) + a3))) := ⟨_, rfl⟩
 replace H : (some y543) = some r := rY hy543 H
 have Ny543 := aM hy543
 clear hy543
 obtain rfl := Option.some.inj H
 obtain ⟨Ao11, co11, rfl⟩ := sL HO0_3
 go_enter Try.func71, Try.ntmps71
 try go_wp2_with (first | ((with_reducible refine gate_dst (N := 4) rfl ?_); refine bxE (N := 4) (cs := #[.int .i64 a0_0, .int .i64 a0_1, .int .i64 a0_2, .slice Ao11 l0_3.length co11]) (t := 27) ?_; intro gb540 hg w12 hbox hb; replace HO0_3 := aM (Kd.R_below (qR HO0_3.out) hb); have BK540 := aM (hbox); have GW540 := aM ((by rw [hg]; exact (by first | exact HK.out.1 | exact (show Kept w _ (fun k_ => P0_3_ k_) from kP HK.out).1) : w.heap.size ≤ gb540)); replace HK := aM (Kept.below (S := (fun k_ => P0_3_ k_)) (kP HK.out) hb); have GE540 := aM ((by rw [hg]; exact (below_size (qW HB.out)) : w0.heap.size ≤ gb540)); replace HB := bS HB hb; clear hb hbox hg; obtain ⟨⟨hcz13_0, hcz13_1, hcz13_2, hcz13_3⟩, hfz13_0, hfz13_1, hfz13_2, hfz13_3⟩ := cf4 BK540) | ((with_reducible refine gate_callee (f := 97) rfl ?_); refine gL (some 11) Try.func97 #[.agg #[.int .i64 a0_0, .int .i64 a0_1, .int .i64 a0_2, .slice Ao11 l0_3.length co11], .int .i64 a1, .int .i64 a2] ?_; (with_reducible refine (spec_onImage.calls a0_0 a0_1 a0_2 _ _ l0_3 a1 a2 true _ ?side1 ?side2 A5.out).mono ?_); (case side1 => exact qC (Kd.R_reads' HO0_3.out).2.2); (case side2 => exact (Kd.R_reads' HO0_3.out).2.1); rintro e w14 ⟨rfl, hb⟩; refine ⟨_, rfl, ?_⟩; replace HO0_3 := aM (Kd.R_below (qR HO0_3.out) hb); replace BK540 := bB BK540 hb; replace HK := aM (Kept.below (S := (fun k_ => P0_3_ k_)) (kP HK.out) hb); replace HB := bS HB hb; clear hb))
 replace HO0_3 := aM (Kd.R_drew HO0_3.out)
 replace BK540 := aM (blk_drew BK540.out)
 replace HK := aM (Kept.drew HK.out)
 replace HB := aM (below_drew1 HB.out)
 obtain ⟨ad542, e542, hx542_0⟩ := Kd.at_int (Kd.R_reads' HO0_3.out).2.2 (ji7) oD oD
 cases e542
 have p542 := eq_true (oD : 0 ≤ ((ji7) : Int))
 have q542 := eq_true (oD : (ji7) < (l0_3.length : Int))
 have p10 : 0 ≤ ((ji7) : Int) := oD
 have q10 : ((ji7) : Int) < ((l0_3.length : Int) : Int) := oD
 obtain ⟨go10, co10, eo10, gb10, gl10, cl10, HG10⟩ := Kd.R_form HO0_3.out (by omega)
 (first | cases eo10 | (injection eo10 with ea_ en_ ec_; (first | subst ea_ | (injection ea_ with ea_; subst ea_)); subst ec_; clear en_))
 have GB10 := aM gb10
 have GG10 := aM HG10
 clear gb10 gl10 HG10
 have HMgo10 := aM (show (P0_3_ go10 ∨ w.heap.size ≤ go10) from (HO0_3.out.1 _ rfl))
 (first | simp only [add_plain] at hx542_0 | skip)
 obtain ⟨hx10_0, hf10_0⟩ := Kd.R_celln 0 HO0_3.out ((ji7) : Int) p10 q10
 replace p10 := eq_true p10
 replace q10 := eq_true q10
 have HP16 := Kd.R_putn HO0_3.out ((ji7) : Int) (wrap64 ((rd l0_3 (ji7)) + a3))
 rw [← Ny543.out] at HP16
 have HQ16 := aM HP16
 clear HP16
 refine start_ (n := 22) (S := fun w' => w'.cell? ⟨gb540, 0, none⟩ = some (.int .i64 a0_0) ∧ w'.cell? ⟨gb540, 1, none⟩ = some (.int .i64 a0_1) ∧ w'.cell? ⟨gb540, 2, none⟩ = some (.int .i64 a0_2) ∧ w'.cell? ⟨gb540, 3, none⟩ = some (.slice (some ⟨go10, 0, none⟩) l0_3.length co11) ∧ w'.cell? ⟨go10, ((ji7)).toNat, none⟩ = some (.int .i64 (rd l0_3 (ji7)))) (ds := [21]) (bA 22 0) (by kernel_rfl) rfl rfl ⟨(blk_cell BK540.out 0).trans rfl, (blk_cell BK540.out 1).trans rfl, (blk_cell BK540.out 2).trans rfl, (blk_cell BK540.out 3).trans rfl, hx542_0⟩ (fun hHeld => ?_); refine with_tabW spec_pass.tab2 spec_pass.bits2 (fun HT_ HW_ => ?_)
 generalize w14.drew = w15 at HO0_3 BK540 HK HB GG10 HQ16 hf10_0 hx10_0 hx542_0 hHeld ⊢
 refine pQ 0 12 HT_ (bA 22 1) ?_
 refine pQ 2 14 HT_ (bA 22 5) ?_
 refine pQ 3 15 HT_ (bA 22 13) ?_
 refine pQ 6 18 HT_ (bA 22 77) ?_
 refine pQ 8 20 HT_ (bA 22 333) ?_
 refine pQ 10 22 HT_ (bA 22 1357) ?_
 refine pQ 11 23 HT_ (bA 22 3405) ?_
 refine pQ 14 26 HT_ (bA 22 19789) ?_
 refine pQ 18 30 HT_ (bA 22 281933) ?_
 refine take_ (i := 1) (N := some 13) (v := ?_) (a' := ?_) (bA 22 281935) rfl rfl (take_ofW HT_.out HW_.out (by kernel_rfl)) (fun _ _ _ h => h) (Or.inl ⟨by rfl, ?_⟩) hHeld ?_ ?_
 rotate_left
 ·rintro w' ⟨s0, s1, s2, s3, s4⟩
  go_simp
  with_reducible rfl
 rotate_left
 ·refine pZ ?_
  rfl
 refine take_ (i := 4) (N := some 16) (v := ?_) (a' := ?_) (bA 22 281951) rfl rfl (take_ofW HT_.out HW_.out (by kernel_rfl)) (fun _ _ _ h => h) (Or.inl ⟨by rfl, ?_⟩) hHeld ?_ ?_
 rotate_left
 ·rintro w' ⟨s0, s1, s2, s3, s4⟩
  go_simp
  with_reducible rfl
 rotate_left
 ·refine pZ ?_
  rfl
 refine pQ 5 17 HT_ (bA 22 281983) ?_
 refine pQ 7 19 HT_ (bA 22 282111) ?_
 refine take_ (i := 9) (N := some 21) (v := ?_) (a' := ?_) (bA 22 282623) rfl rfl (take_ofW HT_.out HW_.out (by kernel_rfl)) (fun _ _ _ h => h) (Or.inl ⟨by rfl, ?_⟩) hHeld ?_ ?_
 rotate_left
 ·rintro w' ⟨s0, s1, s2, s3, s4⟩
  go_simp
  with_reducible rfl
 rotate_left
 ·refine pZ ?_
  rfl
 refine take_ (i := 12) (N := some 24) (v := ?_) (a' := ?_) (bA 22 286719) rfl rfl (take_ofW HT_.out HW_.out (by kernel_rfl)) (fun _ _ _ h => h) (Or.inl ⟨by rfl, ?_⟩) hHeld ?_ ?_
 rotate_left
 ·rintro w' ⟨s0, s1, s2, s3, s4⟩
  go_simp
  with_reducible rfl
 rotate_left
 ·refine pZ ?_
  rfl
 refine pQ 13 25 HT_ (bA 22 294911) ?_
 refine pQ 15 27 HT_ (bA 22 327679) ?_
 refine pQ 16 28 HT_ (bA 22 393215) ?_
 refine take_ (i := 17) (N := some 29) (v := ?_) (a' := ?_) (bA 22 524287) rfl rfl (take_ofW HT_.out HW_.out (by kernel_rfl)) (fun _ _ _ h => h) (Or.inl ⟨by rfl, ?_⟩) hHeld ?_ ?_
 rotate_left
 ·rintro w' ⟨s0, s1, s2, s3, s4⟩
  go_simp
  with_reducible rfl
 rotate_left
 ·refine pZ ?_
  rfl
 refine pQ 19 31 HT_ (bA 22 1048575) ?_
 refine pQ 20 32 HT_ (bA 22 2097151) ?_
 refine last_ (i := 21) (N := none) (bA 22 4194303) rfl rfl (one_of HT_.out (by kernel_rfl)) (by decide) (fun K hK => ?_)
 refine skip_ (w1 := ?_) (by rfl) rfl ?_ ?_
 rotate_left
 ·go_simp
  rfl
 refine hK.out _ _ ?_
 clear hK K
 refine done_ (done_of HT_.out (by kernel_rfl)) ?_
 try go_wp2
 first | go_end0 | ((try simp only [Exit.inBlock, Exit.then]); refine bodyPost_ret (results_none rfl _ _ _) rfl ?_)
 exact ⟨by first | rfl | (simp [errW_none, errW_some] <;> rfl) | (simp only [← hji7]; first | rfl | (simp [errW_none, errW_some] <;> rfl)) | (simp [*, errW_none, errW_some] <;> rfl), by refine qR ?_; exact HQ16.out, by exact qW HB.out, by repeat (first | (with_reducible first | exact HK.out | apply Kept.alloc | apply Kept.drewN | apply Kept.drew | refine Kept.setCell ?_ HMgo10.out _ | refine Kept.setCell ?_ (.inr GW540.out) _) | exact HK.out)⟩
mutual
def spec_DiffuseImage.j0 : Nat → Int → Bool → Int → Int → Int → List Int → Option (Int × Int × Int × List Int × Bool)
 | 0, _, _, _, _, _, _ => none
 | k + 1, x1, x27, x545000, x545001, x545002, x545003 => if x27 = true then (some (0, 0, 0, ([] : List Int), false)) else ((spec_copyImage.f x545000 x545001 x545002 x545003).bind fun bt548 => (spec_DiffuseImage.l0 k x1 0 x545000 x545001 x545002 x545003 bt548.1 bt548.2.1 bt548.2.2.1 bt548.2.2.2))
def spec_DiffuseImage.l0 : Nat → Int → Int → Int → Int → Int → List Int → Int → Int → Int → List Int → Option (Int × Int × Int × List Int × Bool)
 | 0, _, _, _, _, _, _, _, _, _, _ => none
 | k + 1, x1, x7, x545000, x545001, x545002, x545003, x555000, x555001, x555002, x555003 => if x7 < x545001 then (spec_DiffuseImage.l1 k x1 x7 0 x545000 x545001 x545002 x545003 x555000 x555001 x555002 x555003) else (some (x555000, x555001, x555002, x555003, true))
def spec_DiffuseImage.l1 : Nat → Int → Int → Int → Int → Int → Int → List Int → Int → Int → Int → List Int → Option (Int × Int × Int × List Int × Bool)
 | 0, _, _, _, _, _, _, _, _, _, _, _ => none
 | k + 1, x1, x7, x8, x545000, x545001, x545002, x545003, x555000, x555001, x555002, x555003 => if x8 < x545000 then (if 0 ≤ (wrap64 ((wrap64 (x7 * x545000)) + x8)) then (if (wrap64 ((wrap64 (x7 * x545000)) + x8)) < (x555003.length : Int) then ((spec_nearestLevel.f k (rd x555003 (wrap64 ((wrap64 (x7 * x545000)) + x8))) x1).bind fun t556 => ((spec_levelValue.f t556 x1).bind fun t557 => ((spec_floorDiv.f (wrap64 (7 * (wrap64 ((rd x555003 (wrap64 ((wrap64 (x7 * x545000)) + x8))) - t557)))) 16).bind fun t559 => ((spec_floorDiv.f (wrap64 (3 * (wrap64 ((rd x555003 (wrap64 ((wrap64 (x7 * x545000)) + x8))) - t557)))) 16).bind fun t560 => ((spec_floorDiv.f (wrap64 (5 * (wrap64 ((rd x555003 (wrap64 ((wrap64 (x7 * x545000)) + x8))) - t557)))) 16).bind fun t561 => ((spec_pass.f x555000 x555001 x555002 (x555003.set ((wrap64 ((wrap64 (x7 * x545000)) + x8)) : Int).toNat t557) (wrap64 (x8 + 1)) x7 t559).bind fun t562 => ((spec_pass.f x555000 x555001 x555002 t562 (wrap64 (x8 - 1)) (wrap64 (x7 + 1)) t560).bind fun t563 => ((spec_pass.f x555000 x555001 x555002 t563 x8 (wrap64 (x7 + 1)) t561).bind fun t564 => ((spec_pass.f x555000 x555001 x555002 t564 (wrap64 (x8 + 1)) (wrap64 (x7 + 1)) (wrap64 ((wrap64 ((wrap64 ((wrap64 ((rd x555003 (wrap64 ((wrap64 (x7 * x545000)) + x8))) - t557)) - t559)) - t560)) - t561))).bind fun t565 => (spec_DiffuseImage.l1 k x1 x7 (wrap64 (x8 + 1)) x545000 x545001 x545002 x545003 x555000 x555001 x555002 t565)))))))))) else (none)) else (none)) else (spec_DiffuseImage.l0 k x1 (wrap64 (x7 + 1)) x545000 x545001 x545002 x545003 x555000 x555001 x555002 x555003)
end
def spec_DiffuseImage.f (k : Nat) (a0_0 : Int) (a0_1 : Int) (a0_2 : Int) (l0_3 : List Int) (a1 : Int) : Option (Int × Int × Int × List Int × Bool) := (spec_validImage.f k a0_0 a0_1 a0_2 l0_3).bind fun t546 => (if t546 = true then (if a0_2 = 1 then ((spec_validLevels.f a1).bind fun t547 => (spec_DiffuseImage.j0 k a1 (!t547) a0_0 a0_1 a0_2 l0_3)) else (spec_DiffuseImage.j0 k a1 true a0_0 a0_1 a0_2 l0_3)) else (spec_DiffuseImage.j0 k a1 true a0_0 a0_1 a0_2 l0_3))
theorem spec_DiffuseImage.mono_l : ∀ k, (∀ y0 y1 y2 y3 y4 y5, LeO (spec_DiffuseImage.j0 k y0 y1 y2 y3 y4 y5) (spec_DiffuseImage.j0 (k + 1) y0 y1 y2 y3 y4 y5)) ∧ (∀ y0 y1 y2 y3 y4 y5 y6 y7 y8 y9, LeO (spec_DiffuseImage.l0 k y0 y1 y2 y3 y4 y5 y6 y7 y8 y9) (spec_DiffuseImage.l0 (k + 1) y0 y1 y2 y3 y4 y5 y6 y7 y8 y9)) ∧ (∀ y0 y1 y2 y3 y4 y5 y6 y7 y8 y9 y10, LeO (spec_DiffuseImage.l1 k y0 y1 y2 y3 y4 y5 y6 y7 y8 y9 y10) (spec_DiffuseImage.l1 (k + 1) y0 y1 y2 y3 y4 y5 y6 y7 y8 y9 y10))
 | 0 => ⟨fun _ _ _ _ _ _ r h => by simp [spec_DiffuseImage.j0] at h, fun _ _ _ _ _ _ _ _ _ _ r h => by simp [spec_DiffuseImage.l0] at h, fun _ _ _ _ _ _ _ _ _ _ _ r h => by simp [spec_DiffuseImage.l1] at h⟩
 | k + 1 => by
  obtain ⟨ih0, ih1, ih2⟩ := spec_DiffuseImage.mono_l k
  refine ⟨?_, ?_, ?_⟩
  all_goals intros
  all_goals first | unfold spec_DiffuseImage.j0 | unfold spec_DiffuseImage.l0 | unfold spec_DiffuseImage.l1
  all_goals repeat' first | (with_reducible first | exact ih0 _ _ _ _ _ _ | exact ih1 _ _ _ _ _ _ _ _ _ _ | exact ih2 _ _ _ _ _ _ _ _ _ _ _ | exact spec_nearestLevel.mono _ _ _ | exact spec_validImage.mono _ _ _ _ _ | exact lR | exact lN | refine lI ?_ ?_ | refine lB ?_ fun _ => ?_) | exact ih0 _ _ _ _ _ _ | exact ih1 _ _ _ _ _ _ _ _ _ _ | exact ih2 _ _ _ _ _ _ _ _ _ _ _ | exact spec_nearestLevel.mono _ _ _ | exact spec_validImage.mono _ _ _ _ _ | exact lN | refine lI ?_ ?_ | refine lB ?_ fun _ => ?_
theorem spec_DiffuseImage.mono : ∀ a0 a1 a2 a3 a4 k, LeO (spec_DiffuseImage.f k a0 a1 a2 a3 a4) (spec_DiffuseImage.f (k + 1) a0 a1 a2 a3 a4) := by
 intro a0 a1 a2 a3 a4 k
 obtain ⟨ih0, ih1, ih2⟩ := spec_DiffuseImage.mono_l k
 unfold spec_DiffuseImage.f
 repeat' first | (with_reducible first | exact ih0 _ _ _ _ _ _ | exact ih1 _ _ _ _ _ _ _ _ _ _ | exact ih2 _ _ _ _ _ _ _ _ _ _ _ | exact spec_nearestLevel.mono _ _ _ | exact spec_validImage.mono _ _ _ _ _ | exact lR | exact lN | refine lI ?_ ?_ | refine lB ?_ fun _ => ?_) | exact ih0 _ _ _ _ _ _ | exact ih1 _ _ _ _ _ _ _ _ _ _ | exact ih2 _ _ _ _ _ _ _ _ _ _ _ | exact spec_nearestLevel.mono _ _ _ | exact spec_validImage.mono _ _ _ _ _ | exact lN | refine lI ?_ ?_ | refine lB ?_ fun _ => ?_
set_option maxHeartbeats 8000000 in
set_option maxRecDepth 100000 in
theorem spec_DiffuseImage.calls (k : Nat) (a0_0 : Int) (a0_1 : Int) (a0_2 : Int) (A0_3 : Option Addr) (c0_3 : Nat) (l0_3 : List Int) (a1 : Int) (r1 : Int) (r2 : Int) (r3 : Int) (r4 : List Int) (r5 : Bool) (w : World) (hr0_3 : Kd.C (Kd.int .i64) w A0_3 l0_3.length l0_3) (hc0_3 : l0_3.length ≤ c0_3) (h : spec_DiffuseImage.f k a0_0 a0_1 a0_2 l0_3 a1 = some (r1, r2, r3, r4, r5)) :
  Calls Try.prog 27 #[.agg #[.int .i64 a0_0, .int .i64 a0_1, .int .i64 a0_2, .slice A0_3 l0_3.length c0_3], .int .i64 a1] w fun e w' => ∃ v3_ : Value, e = .returned (.tuple #[.agg #[.int .i64 r1, .int .i64 r2, .int .i64 r3, v3_], .bool r5]) ∧ Kd.R (Kd.int .i64) 3 w' w.heap.size (fun _ => True) v3_ r4 ∧ Below w.heap.size w w' := by
 have hu27 := Try.underlying27
 have HR0_3 := aM hr0_3
 have HC0_3 := aM hc0_3
 clear hr0_3 hc0_3
 have HB := aM (Below.refl w.heap.size w)
 unfold spec_DiffuseImage.f at h
 have H := h
 clear h
 have HC3 := aM H
 clear H
 go_enter Try.func27, Try.ntmps27
 go_upto_region 1 with (first | ((with_reducible refine gate_dst (N := 2) rfl ?_); refine bxE (N := 2) (cs := #[.int .i64 a0_0, .int .i64 a0_1, .int .i64 a0_2, .slice A0_3 l0_3.length c0_3]) (t := 27) ?_; intro gb544 hg w4 hbox hb; have BK544 := aM (hbox); have GW544 := gW hg HB; have GE544 := gW hg HB; replace HB := bS HB hb; clear hb hbox hg) | ((with_reducible refine gate_dst (N := 4) rfl ?_); refine bxE (N := 4) (cs := #[.int .i64 0, .int .i64 0, .int .i64 0, .slice none 0 0]) (t := 27) ?_; intro gb545 hg w5 hbox hb; have BK545 := aM (hbox); have GW545 := gW hg HB; have GE545 := gW hg HB; replace HB := bS HB hb; have NB544_545 := nL hg BK544; have NB545_544 := nG hg BK544; replace BK544 := bB BK544 hb; clear hb hbox hg))
 (try simp only [Act.put, List.setIfInBounds_toArray, List.set_cons_zero, List.set_cons_succ])
 go_cut [27] (fun v27 wc => ∃ (kq : Nat) (x27_2 : Bool), v27 = .bool x27_2 ∧ Aside0 (spec_DiffuseImage.j0 kq a1 x27_2 a0_0 a0_1 a0_2 l0_3 = some (r1, r2, r3, r4, r5)) ∧ Aside0 (kq ≤ k) ∧ Aside0 (wc.heap[gb544]? = some (.cells #[.int .i64 a0_0, .int .i64 a0_1, .int .i64 a0_2, (.slice A0_3 l0_3.length c0_3)] 27 (0, 0))) ∧ Aside0 (wc.heap[gb545]? = some (.cells #[.int .i64 0, .int .i64 0, .int .i64 0, (.slice none 0 0)] 27 (0, 0))) ∧ Aside0 (Below w.heap.size w wc))
 case first =>
  have H := HC3.out
  clear HC3
  replace H := Option.bind_eq_some_iff.mp H
  obtain ⟨t546, A60, H⟩ := H
  replace H : (if t546 = true then (if a0_2 = 1 then ((spec_validLevels.f a1).bind fun t547 => (spec_DiffuseImage.j0 k a1 (!t547) a0_0 a0_1 a0_2 l0_3)) else (spec_DiffuseImage.j0 k a1 true a0_0 a0_1 a0_2 l0_3)) else (spec_DiffuseImage.j0 k a1 true a0_0 a0_1 a0_2 l0_3)) = some (r1, r2, r3, r4, r5) := H
  have A6 := aM A60
  clear A60
  by_cases c7 : t546 = true
  rotate_left
  ·replace c7 := Bool.eq_false_iff.mpr c7
   subst c7
   have H1 : (spec_DiffuseImage.j0 k a1 true a0_0 a0_1 a0_2 l0_3) = some (r1, r2, r3, r4, r5) := by rw [if_neg (show ¬ (false = true) by decide)] at H; exact H
   clear H
   have H := H1
   clear H1
   have H' := aM H
   clear H
   have hnb18 := NB544_545.out
   have hnc18 := NB545_544.out
   obtain ⟨⟨hcz19_0, hcz19_1, hcz19_2, hcz19_3⟩, hfz19_0, hfz19_1, hfz19_2, hfz19_3⟩ := cf4 BK544
   go_wp2_with (first | ((with_reducible refine gate_callee (f := 52) rfl ?_); refine gL (some 16) Try.func52 #[.agg #[.int .i64 a0_0, .int .i64 a0_1, .int .i64 a0_2, .slice A0_3 l0_3.length c0_3]] ?_; (with_reducible refine (spec_validImage.calls k a0_0 a0_1 a0_2 _ _ l0_3 false _ ?side1 ?side2 A6.out).mono ?_); (case side1 => exact qC (Kd.C_below HR0_3.out HB.out)); (case side2 => exact HC0_3.out); rintro e w20 ⟨rfl, hb⟩; refine ⟨_, rfl, ?_⟩; replace BK544 := bB BK544 hb; replace BK545 := bB BK545 hb; replace HB := bS HB hb; clear hb))
   go_meet
   case rel => exact ⟨_, (true), qE, H', ⟨by first | omega | exact Nat.le_refl _⟩, ⟨by refine qB ?_; exact BK544.out⟩, ⟨by refine qB ?_; exact BK545.out⟩, ⟨by exact qW HB.out⟩⟩
  subst c7
  have H1 : (if a0_2 = 1 then ((spec_validLevels.f a1).bind fun t547 => (spec_DiffuseImage.j0 k a1 (!t547) a0_0 a0_1 a0_2 l0_3)) else (spec_DiffuseImage.j0 k a1 true a0_0 a0_1 a0_2 l0_3)) = some (r1, r2, r3, r4, r5) := by rw [if_pos rfl] at H; exact H
  clear H
  have H := H1
  clear H1
  by_cases c8 : a0_2 = 1
  rotate_left
  ·rw [if_neg c8] at H
   have c8b0 : (a0_2 == 1) = false := beq_eq_false_iff_ne.mpr c8
   have c8b1 : (a0_2 != 1) = true := bne_iff_ne.mpr c8
   (first | rw [c8b0] | (simp only [i64_w, i32_w]; rw [c8b0]) | skip)
   have H' := aM H
   clear H
   have hnb14 := NB544_545.out
   have hnc14 := NB545_544.out
   obtain ⟨⟨hcz15_0, hcz15_1, hcz15_2, hcz15_3⟩, hfz15_0, hfz15_1, hfz15_2, hfz15_3⟩ := cf4 BK544
   go_wp2_with (first | ((with_reducible refine gate_callee (f := 52) rfl ?_); refine gL (some 16) Try.func52 #[.agg #[.int .i64 a0_0, .int .i64 a0_1, .int .i64 a0_2, .slice A0_3 l0_3.length c0_3]] ?_; (with_reducible refine (spec_validImage.calls k a0_0 a0_1 a0_2 _ _ l0_3 true _ ?side1 ?side2 A6.out).mono ?_); (case side1 => exact qC (Kd.C_below HR0_3.out HB.out)); (case side2 => exact HC0_3.out); rintro e w16 ⟨rfl, hb⟩; refine ⟨_, rfl, ?_⟩; replace BK544 := bB BK544 hb; replace BK545 := bB BK545 hb; replace HB := bS HB hb; clear hb; obtain ⟨⟨hcz17_0, hcz17_1, hcz17_2, hcz17_3⟩, hfz17_0, hfz17_1, hfz17_2, hfz17_3⟩ := cf4 BK544))
   go_meet
   case rel => exact ⟨_, (true), qE, H', ⟨by first | omega | exact Nat.le_refl _⟩, ⟨by refine qB ?_; exact BK544.out⟩, ⟨by refine qB ?_; exact BK545.out⟩, ⟨by exact qW HB.out⟩⟩
  rw [if_pos c8] at H
  have c8b0 : (a0_2 == 1) = true := beq_iff_eq.mpr c8
  have c8b1 : (a0_2 != 1) = false := bne_eq_false_iff_eq.mpr c8
  clear c8
  (first | rw [c8b0] | (simp only [i64_w, i32_w]; rw [c8b0]) | skip)
  replace H := Option.bind_eq_some_iff.mp H
  obtain ⟨t547, A90, H⟩ := H
  replace H : (spec_DiffuseImage.j0 k a1 (!t547) a0_0 a0_1 a0_2 l0_3) = some (r1, r2, r3, r4, r5) := H
  have A9 := aM A90
  clear A90
  have H' := aM H
  clear H
  have hnb10 := NB544_545.out
  have hnc10 := NB545_544.out
  obtain ⟨⟨hcz11_0, hcz11_1, hcz11_2, hcz11_3⟩, hfz11_0, hfz11_1, hfz11_2, hfz11_3⟩ := cf4 BK544
  go_wp2_with (first | ((with_reducible refine gate_callee (f := 52) rfl ?_); refine gL (some 16) Try.func52 #[.agg #[.int .i64 a0_0, .int .i64 a0_1, .int .i64 a0_2, .slice A0_3 l0_3.length c0_3]] ?_; (with_reducible refine (spec_validImage.calls k a0_0 a0_1 a0_2 _ _ l0_3 true _ ?side1 ?side2 A6.out).mono ?_); (case side1 => exact qC (Kd.C_below HR0_3.out HB.out)); (case side2 => exact HC0_3.out); rintro e w12 ⟨rfl, hb⟩; refine ⟨_, rfl, ?_⟩; replace BK544 := bB BK544 hb; replace BK545 := bB BK545 hb; replace HB := bS HB hb; clear hb; obtain ⟨⟨hcz13_0, hcz13_1, hcz13_2, hcz13_3⟩, hfz13_0, hfz13_1, hfz13_2, hfz13_3⟩ := cf4 BK544) | (go_at_call 57; (with_reducible refine (spec_validLevels.calls a1 t547 _ A9.out).mono ?_); rintro e w' ⟨rfl, ⟨nd, rfl⟩⟩))
  go_meet
  case rel => exact ⟨_, (!t547), qE, H', ⟨by first | omega | exact Nat.le_refl _⟩, ⟨by refine qB ?_; exact BK544.out⟩, ⟨by refine qB ?_; exact BK545.out⟩, ⟨by exact qW HB.out⟩⟩
 case rest =>
  clear HC3
  try clear c7
  try clear c8
  try clear c8b0
  try clear c8b1
  try clear hcz11_0 hcz11_1 hcz11_2 hcz11_3 hfz11_0 hfz11_1 hfz11_2 hfz11_3
  try clear hcz13_0 hcz13_1 hcz13_2 hcz13_3 hfz13_0 hfz13_1 hfz13_2 hfz13_3
  try clear hcz15_0 hcz15_1 hcz15_2 hcz15_3 hfz15_0 hfz15_1 hfz15_2 hfz15_3
  try clear hcz17_0 hcz17_1 hcz17_2 hcz17_3 hfz17_0 hfz17_1 hfz17_2 hfz17_3
  try clear hcz19_0 hcz19_1 hcz19_2 hcz19_3 hfz19_0 hfz19_1 hfz19_2 hfz19_3
  obtain ⟨kq, x27_2, rfl, HA, HJ2, BK544, BK545, HB⟩ := hcut
  cases kq with
  | zero => exact absurd HA.out (by simp [spec_DiffuseImage.j0])
  | succ kj2 =>
   have H := HA.out
   clear HA
   simp only [spec_DiffuseImage.j0] at H
   by_cases c21 : x27_2 = true
   ·subst c21
    have H1 : (some (0, 0, 0, ([] : List Int), false)) = some (r1, r2, r3, r4, r5) := by rw [if_pos rfl] at H; exact H
    clear H
    have H := H1
    clear H1
    simp only [Option.some.injEq, Prod.mk.injEq] at H
    obtain ⟨rfl, rfl, rfl, rfl, rfl⟩ := H
    have hnb22 := NB545_544.out
    have hnc22 := NB544_545.out
    obtain ⟨⟨hcz23_0, hcz23_1, hcz23_2, hcz23_3⟩, hfz23_0, hfz23_1, hfz23_2, hfz23_3⟩ := cf4 BK545
    go_wp2
    refine bodyPost_ret (results_ct rfl _ _ gb545 27 #[.int .i64 0, .int .i64 0, .int .i64 0, .slice none 0 0] (0, 0) _ rfl (by exact bP BK545.out) Try.underlying27 rfl (by kernel_rfl)) rfl ?_
    exact ⟨_, qX, qN, by exact qW HB.out⟩
   replace c21 := Bool.eq_false_iff.mpr c21
   subst c21
   have H1 : ((spec_copyImage.f a0_0 a0_1 a0_2 l0_3).bind fun bt548 => (spec_DiffuseImage.l0 kj2 a1 0 a0_0 a0_1 a0_2 l0_3 bt548.1 bt548.2.1 bt548.2.2.1 bt548.2.2.2)) = some (r1, r2, r3, r4, r5) := by rw [if_neg (show ¬ (false = true) by decide)] at H; exact H
   clear H
   have H := H1
   clear H1
   replace H := Option.bind_eq_some_iff.mp H
   obtain ⟨⟨t548, t549, t550, t551⟩, A240, H⟩ := H
   replace H : (spec_DiffuseImage.l0 kj2 a1 0 a0_0 a0_1 a0_2 l0_3 t548 t549 t550 t551) = some (r1, r2, r3, r4, r5) := H
   have A24 := aM A240
   clear A240
   have H' := aM H
   clear H
   have hnb25 := NB544_545.out
   have hnc25 := NB545_544.out
   obtain ⟨⟨hcz26_0, hcz26_1, hcz26_2, hcz26_3⟩, hfz26_0, hfz26_1, hfz26_2, hfz26_3⟩ := cf4 BK544
   go_wp2_with (first | ((with_reducible refine gate_callee (f := 58) rfl ?_); refine gL (some 30) Try.func58 #[.agg #[.int .i64 a0_0, .int .i64 a0_1, .int .i64 a0_2, .slice A0_3 l0_3.length c0_3]] ?_; (with_reducible refine (spec_copyImage.calls a0_0 a0_1 a0_2 _ _ l0_3 t548 t549 t550 t551 _ ?side1 ?side2 A24.out).mono ?_); (case side1 => exact qC (Kd.C_below HR0_3.out HB.out)); (case side2 => exact HC0_3.out); rintro e w27 ⟨v552, rfl, ho0, hb⟩; refine ⟨_, rfl, ?_⟩; have HO553 := oR ho0 HB; replace BK544 := bB BK544 hb; replace BK545 := bB BK545 hb; replace HB := bS HB hb; clear hb ho0) | ((with_reducible refine gate_dst (N := 6) rfl ?_); refine bxE (N := 6) (cs := #[.int .i64 0, .int .i64 0, .int .i64 0, .slice none 0 0]) (t := 27) ?_; intro gb554 hg w28 hbox hb; replace HO553 := aM (Kd.R_below (qR HO553.out) hb); have BK554 := aM (hbox); have GW554 := gW hg HB; have GE554 := gW hg HB; replace HB := bS HB hb; have NB544_554 := nL hg BK544; have NB554_544 := nG hg BK544; replace BK544 := bB BK544 hb; have NB545_554 := nL hg BK545; have NB554_545 := nG hg BK545; replace BK545 := bB BK545 hb; clear hb hbox hg; have hnb29 := NB554_544.out; have hnc29 := NB544_554.out; have hnb30 := NB554_545.out; have hnc30 := NB545_554.out; obtain ⟨⟨hcz31_0, hcz31_1, hcz31_2, hcz31_3⟩, hfz31_0, hfz31_1, hfz31_2, hfz31_3⟩ := cf4 BK554; obtain ⟨Ao32, co32, rfl⟩ := sL HO553))
   go_loopg [7] kj2 (fun kq v7 w' => ∃ (x7_2 : Int) (x555003_2 : List Int) (u555003 : Value), v7 = .int .i64 x7_2 ∧ Aside0 (spec_DiffuseImage.l0 kq a1 x7_2 a0_0 a0_1 a0_2 l0_3 t548 t549 t550 x555003_2 = some (r1, r2, r3, r4, r5)) ∧ Aside0 (kq ≤ kj2) ∧ Aside0 (Kd.R (Kd.int .i64) 3 w' w.heap.size (fun _ => True) u555003 x555003_2) ∧ Aside0 (w'.heap[gb544]? = some (.cells #[.int .i64 a0_0, .int .i64 a0_1, .int .i64 a0_2, (.slice A0_3 l0_3.length c0_3)] 27 (0, 0))) ∧ Aside0 (w'.heap[gb545]? = some (.cells #[.int .i64 0, .int .i64 0, .int .i64 0, (.slice none 0 0)] 27 (0, 0))) ∧ Aside0 (w'.heap[gb554]? = some (.cells #[.int .i64 t548, .int .i64 t549, .int .i64 t550, u555003] 27 (0, 0))) ∧ Aside0 (Below w.heap.size w w'))
   case atStart => exact ⟨(0), (t551), (.slice Ao32 t551.length co32), qE, H', ⟨Nat.le_refl _⟩, ⟨by refine qR ?_; exact Kd.R_mono (rT HO553 BK554) (fun _ hk => trivial)⟩, ⟨by refine qB ?_; refine blk_far ?_ NB544_554.out _; refine qB ?_; refine blk_far ?_ NB544_554.out _; refine qB ?_; refine blk_far ?_ NB544_554.out _; refine qB ?_; refine blk_far ?_ NB544_554.out _; refine qB ?_; exact BK544.out⟩, ⟨by refine qB ?_; refine blk_far ?_ NB545_554.out _; refine qB ?_; refine blk_far ?_ NB545_554.out _; refine qB ?_; refine blk_far ?_ NB545_554.out _; refine qB ?_; refine blk_far ?_ NB545_554.out _; refine qB ?_; exact BK545.out⟩, ⟨by exact bP BK554.out⟩, ⟨by exact qW HB.out⟩⟩
   case round =>
    clear H'
    try clear c7
    try clear c8
    try clear c8b0
    try clear c8b1
    try clear c21
    try clear hcz11_0 hcz11_1 hcz11_2 hcz11_3 hfz11_0 hfz11_1 hfz11_2 hfz11_3
    try clear hcz13_0 hcz13_1 hcz13_2 hcz13_3 hfz13_0 hfz13_1 hfz13_2 hfz13_3
    try clear hcz15_0 hcz15_1 hcz15_2 hcz15_3 hfz15_0 hfz15_1 hfz15_2 hfz15_3
    try clear hcz17_0 hcz17_1 hcz17_2 hcz17_3 hfz17_0 hfz17_1 hfz17_2 hfz17_3
    try clear hcz19_0 hcz19_1 hcz19_2 hcz19_3 hfz19_0 hfz19_1 hfz19_2 hfz19_3
    try clear hcz23_0 hcz23_1 hcz23_2 hcz23_3 hfz23_0 hfz23_1 hfz23_2 hfz23_3
    try clear hcz26_0 hcz26_1 hcz26_2 hcz26_3 hfz26_0 hfz26_1 hfz26_2 hfz26_3
    try clear hcz31_0 hcz31_1 hcz31_2 hcz31_3 hfz31_0 hfz31_1 hfz31_2 hfz31_3
    obtain ⟨x7_2, x555003_2, u555003, rfl, HA, HK2, HO_555003, BK544, BK545, BK554, HB⟩ := hrel
    cases gk with
    | zero => exact absurd HA.out (by simp [spec_DiffuseImage.l0])
    | succ k2 =>
     have H := HA.out
     clear HA
     simp only [spec_DiffuseImage.l0] at H
     by_cases c33 : x7_2 < a0_1
     rotate_left
     ·rw [if_neg c33] at H
      have c33b0 : decide (x7_2 < a0_1) = false := decide_eq_false c33
      clear c33
      simp only [Option.some.injEq, Prod.mk.injEq] at H
      obtain ⟨rfl, rfl, rfl, rfl, rfl⟩ := H
      have hnb70 := NB544_545.out
      have hnc70 := NB545_544.out
      have hnb71 := NB544_554.out
      have hnc71 := NB554_544.out
      obtain ⟨⟨hcz72_0, hcz72_1, hcz72_2, hcz72_3⟩, hfz72_0, hfz72_1, hfz72_2, hfz72_3⟩ := cf4 BK544
      have hnb73 := NB554_545.out
      have hnc73 := NB545_554.out
      obtain ⟨⟨hcz74_0, hcz74_1, hcz74_2, hcz74_3⟩, hfz74_0, hfz74_1, hfz74_2, hfz74_3⟩ := cf4 BK554
      obtain ⟨⟨hcz75_0, hcz75_1, hcz75_2, hcz75_3⟩, hfz75_0, hfz75_1, hfz75_2, hfz75_3⟩ := cf4 BK545
      obtain ⟨Ao76, co76, rfl⟩ := sL HO_555003
      go_wp2
      refine bodyPost_ret (results_ct rfl _ _ gb545 27 #[.int .i64 t548, .int .i64 t549, .int .i64 t550, .slice Ao76 x555003_2.length co76] (0, 0) _ rfl (by exact bP BK545.out) Try.underlying27 rfl (by kernel_rfl)) rfl ?_
      exact ⟨_, qX, by refine qR ?_; exact Kd.R_mono (rT HO_555003 BK545) (fun _ hk => trivial), by exact qW HB.out⟩
     rw [if_pos c33] at H
     have c33b0 : decide (x7_2 < a0_1) = true := decide_eq_true c33
     clear c33
     have H' := aM H
     clear H
     have hnb34 := NB544_545.out
     have hnc34 := NB545_544.out
     have hnb35 := NB544_554.out
     have hnc35 := NB554_544.out
     obtain ⟨⟨hcz36_0, hcz36_1, hcz36_2, hcz36_3⟩, hfz36_0, hfz36_1, hfz36_2, hfz36_3⟩ := cf4 BK544
     go_wp2
     go_loopg [8] k2 (fun kq v8 w' => ∃ (x8_3 : Int) (x555003_3 : List Int) (u555003 : Value), v8 = .int .i64 x8_3 ∧ Aside0 (spec_DiffuseImage.l1 kq a1 x7_2 x8_3 a0_0 a0_1 a0_2 l0_3 t548 t549 t550 x555003_3 = some (r1, r2, r3, r4, r5)) ∧ Aside0 (kq ≤ k2) ∧ Aside0 (Kd.R (Kd.int .i64) 3 w' w.heap.size (fun _ => True) u555003 x555003_3) ∧ Aside0 (w'.heap[gb544]? = some (.cells #[.int .i64 a0_0, .int .i64 a0_1, .int .i64 a0_2, (.slice A0_3 l0_3.length c0_3)] 27 (0, 0))) ∧ Aside0 (w'.heap[gb545]? = some (.cells #[.int .i64 0, .int .i64 0, .int .i64 0, (.slice none 0 0)] 27 (0, 0))) ∧ Aside0 (w'.heap[gb554]? = some (.cells #[.int .i64 t548, .int .i64 t549, .int .i64 t550, u555003] 27 (0, 0))) ∧ Aside0 (Below w.heap.size w w'))
     case atStart => exact ⟨(0), (x555003_2), (u555003), qE, H', ⟨Nat.le_refl _⟩, ⟨by refine qR ?_; exact HO_555003.out⟩, ⟨by refine qB ?_; exact BK544.out⟩, ⟨by refine qB ?_; exact BK545.out⟩, ⟨by refine qB ?_; exact BK554.out⟩, ⟨by exact qW HB.out⟩⟩
     case round =>
      clear H'
      try clear c7
      try clear c8
      try clear c8b0
      try clear c8b1
      try clear c21
      try clear c33
      try clear c33b0
      try clear hcz11_0 hcz11_1 hcz11_2 hcz11_3 hfz11_0 hfz11_1 hfz11_2 hfz11_3
      try clear hcz13_0 hcz13_1 hcz13_2 hcz13_3 hfz13_0 hfz13_1 hfz13_2 hfz13_3
      try clear hcz15_0 hcz15_1 hcz15_2 hcz15_3 hfz15_0 hfz15_1 hfz15_2 hfz15_3
      try clear hcz17_0 hcz17_1 hcz17_2 hcz17_3 hfz17_0 hfz17_1 hfz17_2 hfz17_3
      try clear hcz19_0 hcz19_1 hcz19_2 hcz19_3 hfz19_0 hfz19_1 hfz19_2 hfz19_3
      try clear hcz23_0 hcz23_1 hcz23_2 hcz23_3 hfz23_0 hfz23_1 hfz23_2 hfz23_3
      try clear hcz26_0 hcz26_1 hcz26_2 hcz26_3 hfz26_0 hfz26_1 hfz26_2 hfz26_3
      try clear hcz31_0 hcz31_1 hcz31_2 hcz31_3 hfz31_0 hfz31_1 hfz31_2 hfz31_3
      try clear hcz36_0 hcz36_1 hcz36_2 hcz36_3 hfz36_0 hfz36_1 hfz36_2 hfz36_3
      obtain ⟨x8_3, x555003_3, u555003, rfl, HA, HK3, HO_555003, BK544, BK545, BK554, HB⟩ := hrel
      cases gk with
      | zero => exact absurd HA.out (by simp [spec_DiffuseImage.l1])
      | succ k3 =>
       have H := HA.out
       clear HA
       simp only [spec_DiffuseImage.l1] at H
       by_cases c37 : x8_3 < a0_0
       rotate_left
       ·rw [if_neg c37] at H
        have c37b0 : decide (x8_3 < a0_0) = false := decide_eq_false c37
        clear c37
        have H' := aM H
        clear H
        have hnb67 := NB544_545.out
        have hnc67 := NB545_544.out
        have hnb68 := NB544_554.out
        have hnc68 := NB554_544.out
        obtain ⟨⟨hcz69_0, hcz69_1, hcz69_2, hcz69_3⟩, hfz69_0, hfz69_1, hfz69_2, hfz69_3⟩ := cf4 BK544
        go_wp2
        go_roundg k3
        case measure => have := HJ2.out; have := HK2.out; have := HK3.out; omega
        case rel => exact ⟨(wrap64 (x7_2 + 1)), (x555003_3), (u555003), qE, H', ⟨by have := HJ2.out; have := HK2.out; have := HK3.out; omega⟩, ⟨by refine qR ?_; exact HO_555003.out⟩, ⟨by refine qB ?_; exact BK544.out⟩, ⟨by refine qB ?_; exact BK545.out⟩, ⟨by refine qB ?_; exact BK554.out⟩, ⟨by exact qW HB.out⟩⟩
       rw [if_pos c37] at H
       have c37b0 : decide (x8_3 < a0_0) = true := decide_eq_true c37
       clear c37
       obtain ⟨ji38, hji38⟩ : ∃ j_ : Int, (wrap64 ((wrap64 (x7_2 * a0_0)) + x8_3)) = j_ := ⟨_, rfl⟩
       replace H : (if 0 ≤ (ji38) then (if (ji38) < (x555003_3.length : Int) then ((spec_nearestLevel.f k3 (rd x555003_3 (ji38)) a1).bind fun t556 => ((spec_levelValue.f t556 a1).bind fun t557 => ((spec_floorDiv.f (wrap64 (7 * (wrap64 ((rd x555003_3 (ji38)) - t557)))) 16).bind fun t559 => ((spec_floorDiv.f (wrap64 (3 * (wrap64 ((rd x555003_3 (ji38)) - t557)))) 16).bind fun t560 => ((spec_floorDiv.f (wrap64 (5 * (wrap64 ((rd x555003_3 (ji38)) - t557)))) 16).bind fun t561 => ((spec_pass.f t548 t549 t550 (x555003_3.set ((ji38) : Int).toNat t557) (wrap64 (x8_3 + 1)) x7_2 t559).bind fun t562 => ((spec_pass.f t548 t549 t550 t562 (wrap64 (x8_3 - 1)) (wrap64 (x7_2 + 1)) t560).bind fun t563 => ((spec_pass.f t548 t549 t550 t563 x8_3 (wrap64 (x7_2 + 1)) t561).bind fun t564 => ((spec_pass.f t548 t549 t550 t564 (wrap64 (x8_3 + 1)) (wrap64 (x7_2 + 1)) (wrap64 ((wrap64 ((wrap64 ((wrap64 ((rd x555003_3 (ji38)) - t557)) - t559)) - t560)) - t561))).bind fun t565 => (spec_DiffuseImage.l1 k3 a1 x7_2 (wrap64 (x8_3 + 1)) a0_0 a0_1 a0_2 l0_3 t548 t549 t550 t565)))))))))) else (none)) else (none)) = some (r1, r2, r3, r4, r5) := by first | (rw [hji38] at H; exact H) | (simp only [hji38] at H ⊢; exact H)
       have hji38w : (IntKind.i64.wrap ((wrap64 (x7_2 * a0_0)) + x8_3)) = ji38 := (i64_w _).trans hji38
       replace H := iD H
       obtain ⟨c39b0, H⟩ := H
       replace H := iD H
       obtain ⟨c40b0, H⟩ := H
       replace H := Option.bind_eq_some_iff.mp H
       obtain ⟨t556, A410, H⟩ := H
       replace H : ((spec_levelValue.f t556 a1).bind fun t557 => ((spec_floorDiv.f (wrap64 (7 * (wrap64 ((rd x555003_3 (ji38)) - t557)))) 16).bind fun t559 => ((spec_floorDiv.f (wrap64 (3 * (wrap64 ((rd x555003_3 (ji38)) - t557)))) 16).bind fun t560 => ((spec_floorDiv.f (wrap64 (5 * (wrap64 ((rd x555003_3 (ji38)) - t557)))) 16).bind fun t561 => ((spec_pass.f t548 t549 t550 (x555003_3.set ((ji38) : Int).toNat t557) (wrap64 (x8_3 + 1)) x7_2 t559).bind fun t562 => ((spec_pass.f t548 t549 t550 t562 (wrap64 (x8_3 - 1)) (wrap64 (x7_2 + 1)) t560).bind fun t563 => ((spec_pass.f t548 t549 t550 t563 x8_3 (wrap64 (x7_2 + 1)) t561).bind fun t564 => ((spec_pass.f t548 t549 t550 t564 (wrap64 (x8_3 + 1)) (wrap64 (x7_2 + 1)) (wrap64 ((wrap64 ((wrap64 ((wrap64 ((rd x555003_3 (ji38)) - t557)) - t559)) - t560)) - t561))).bind fun t565 => (spec_DiffuseImage.l1 k3 a1 x7_2 (wrap64 (x8_3 + 1)) a0_0 a0_1 a0_2 l0_3 t548 t549 t550 t565))))))))) = some (r1, r2, r3, r4, r5) := H
       have A41 := aM A410
       clear A410
       replace H := Option.bind_eq_some_iff.mp H
       obtain ⟨t557, A420, H⟩ := H
       replace H : ((spec_floorDiv.f (wrap64 (7 * (wrap64 ((rd x555003_3 (ji38)) - t557)))) 16).bind fun t559 => ((spec_floorDiv.f (wrap64 (3 * (wrap64 ((rd x555003_3 (ji38)) - t557)))) 16).bind fun t560 => ((spec_floorDiv.f (wrap64 (5 * (wrap64 ((rd x555003_3 (ji38)) - t557)))) 16).bind fun t561 => ((spec_pass.f t548 t549 t550 (x555003_3.set ((ji38) : Int).toNat t557) (wrap64 (x8_3 + 1)) x7_2 t559).bind fun t562 => ((spec_pass.f t548 t549 t550 t562 (wrap64 (x8_3 - 1)) (wrap64 (x7_2 + 1)) t560).bind fun t563 => ((spec_pass.f t548 t549 t550 t563 x8_3 (wrap64 (x7_2 + 1)) t561).bind fun t564 => ((spec_pass.f t548 t549 t550 t564 (wrap64 (x8_3 + 1)) (wrap64 (x7_2 + 1)) (wrap64 ((wrap64 ((wrap64 ((wrap64 ((rd x555003_3 (ji38)) - t557)) - t559)) - t560)) - t561))).bind fun t565 => (spec_DiffuseImage.l1 k3 a1 x7_2 (wrap64 (x8_3 + 1)) a0_0 a0_1 a0_2 l0_3 t548 t549 t550 t565)))))))) = some (r1, r2, r3, r4, r5) := H
       have A42 := aM A420
       clear A420
       obtain ⟨y558, hy558⟩ : ∃ y_ : List Int, y_ = (x555003_3.set ((ji38) : Int).toNat t557) := ⟨_, rfl⟩
       replace H : ((spec_floorDiv.f (wrap64 (7 * (wrap64 ((rd x555003_3 (ji38)) - t557)))) 16).bind fun t559 => ((spec_floorDiv.f (wrap64 (3 * (wrap64 ((rd x555003_3 (ji38)) - t557)))) 16).bind fun t560 => ((spec_floorDiv.f (wrap64 (5 * (wrap64 ((rd x555003_3 (ji38)) - t557)))) 16).bind fun t561 => ((spec_pass.f t548 t549 t550 y558 (wrap64 (x8_3 + 1)) x7_2 t559).bind fun t562 => ((spec_pass.f t548 t549 t550 t562 (wrap64 (x8_3 - 1)) (wrap64 (x7_2 + 1)) t560).bind fun t563 => ((spec_pass.f t548 t549 t550 t563 x8_3 (wrap64 (x7_2 + 1)) t561).bind fun t564 => ((spec_pass.f t548 t549 t550 t564 (wrap64 (x8_3 + 1)) (wrap64 (x7_2 + 1)) (wrap64 ((wrap64 ((wrap64 ((wrap64 ((rd x555003_3 (ji38)) - t557)) - t559)) - t560)) - t561))).bind fun t565 => (spec_DiffuseImage.l1 k3 a1 x7_2 (wrap64 (x8_3 + 1)) a0_0 a0_1 a0_2 l0_3 t548 t549 t550 t565)))))))) = some (r1, r2, r3, r4, r5) := rY hy558 H
       have Ny558 := aM hy558
       clear hy558
       replace H := Option.bind_eq_some_iff.mp H
       obtain ⟨t559, A440, H⟩ := H
       replace H : ((spec_floorDiv.f (wrap64 (3 * (wrap64 ((rd x555003_3 (ji38)) - t557)))) 16).bind fun t560 => ((spec_floorDiv.f (wrap64 (5 * (wrap64 ((rd x555003_3 (ji38)) - t557)))) 16).bind fun t561 => ((spec_pass.f t548 t549 t550 y558 (wrap64 (x8_3 + 1)) x7_2 t559).bind fun t562 => ((spec_pass.f t548 t549 t550 t562 (wrap64 (x8_3 - 1)) (wrap64 (x7_2 + 1)) t560).bind fun t563 => ((spec_pass.f t548 t549 t550 t563 x8_3 (wrap64 (x7_2 + 1)) t561).bind fun t564 => ((spec_pass.f t548 t549 t550 t564 (wrap64 (x8_3 + 1)) (wrap64 (x7_2 + 1)) (wrap64 ((wrap64 ((wrap64 ((wrap64 ((rd x555003_3 (ji38)) - t557)) - t559)) - t560)) - t561))).bind fun t565 => (spec_DiffuseImage.l1 k3 a1 x7_2 (wrap64 (x8_3 + 1)) a0_0 a0_1 a0_2 l0_3 t548 t549 t550 t565))))))) = some (r1, r2, r3, r4, r5) := H
       have A44 := aM A440
       clear A440
       replace H := Option.bind_eq_some_iff.mp H
       obtain ⟨t560, A450, H⟩ := H
       replace H : ((spec_floorDiv.f (wrap64 (5 * (wrap64 ((rd x555003_3 (ji38)) - t557)))) 16).bind fun t561 => ((spec_pass.f t548 t549 t550 y558 (wrap64 (x8_3 + 1)) x7_2 t559).bind fun t562 => ((spec_pass.f t548 t549 t550 t562 (wrap64 (x8_3 - 1)) (wrap64 (x7_2 + 1)) t560).bind fun t563 => ((spec_pass.f t548 t549 t550 t563 x8_3 (wrap64 (x7_2 + 1)) t561).bind fun t564 => ((spec_pass.f t548 t549 t550 t564 (wrap64 (x8_3 + 1)) (wrap64 (x7_2 + 1)) (wrap64 ((wrap64 ((wrap64 ((wrap64 ((rd x555003_3 (ji38)) - t557)) - t559)) - t560)) - t561))).bind fun t565 => (spec_DiffuseImage.l1 k3 a1 x7_2 (wrap64 (x8_3 + 1)) a0_0 a0_1 a0_2 l0_3 t548 t549 t550 t565)))))) = some (r1, r2, r3, r4, r5) := H
       have A45 := aM A450
       clear A450
       replace H := Option.bind_eq_some_iff.mp H
       obtain ⟨t561, A460, H⟩ := H
       replace H : ((spec_pass.f t548 t549 t550 y558 (wrap64 (x8_3 + 1)) x7_2 t559).bind fun t562 => ((spec_pass.f t548 t549 t550 t562 (wrap64 (x8_3 - 1)) (wrap64 (x7_2 + 1)) t560).bind fun t563 => ((spec_pass.f t548 t549 t550 t563 x8_3 (wrap64 (x7_2 + 1)) t561).bind fun t564 => ((spec_pass.f t548 t549 t550 t564 (wrap64 (x8_3 + 1)) (wrap64 (x7_2 + 1)) (wrap64 ((wrap64 ((wrap64 ((wrap64 ((rd x555003_3 (ji38)) - t557)) - t559)) - t560)) - t561))).bind fun t565 => (spec_DiffuseImage.l1 k3 a1 x7_2 (wrap64 (x8_3 + 1)) a0_0 a0_1 a0_2 l0_3 t548 t549 t550 t565))))) = some (r1, r2, r3, r4, r5) := H
       have A46 := aM A460
       clear A460
       replace H := Option.bind_eq_some_iff.mp H
       obtain ⟨t562, A470, H⟩ := H
       replace H : ((spec_pass.f t548 t549 t550 t562 (wrap64 (x8_3 - 1)) (wrap64 (x7_2 + 1)) t560).bind fun t563 => ((spec_pass.f t548 t549 t550 t563 x8_3 (wrap64 (x7_2 + 1)) t561).bind fun t564 => ((spec_pass.f t548 t549 t550 t564 (wrap64 (x8_3 + 1)) (wrap64 (x7_2 + 1)) (wrap64 ((wrap64 ((wrap64 ((wrap64 ((rd x555003_3 (ji38)) - t557)) - t559)) - t560)) - t561))).bind fun t565 => (spec_DiffuseImage.l1 k3 a1 x7_2 (wrap64 (x8_3 + 1)) a0_0 a0_1 a0_2 l0_3 t548 t549 t550 t565)))) = some (r1, r2, r3, r4, r5) := H
       have A47 := aM A470
       clear A470
       replace H := Option.bind_eq_some_iff.mp H
       obtain ⟨t563, A480, H⟩ := H
       replace H : ((spec_pass.f t548 t549 t550 t563 x8_3 (wrap64 (x7_2 + 1)) t561).bind fun t564 => ((spec_pass.f t548 t549 t550 t564 (wrap64 (x8_3 + 1)) (wrap64 (x7_2 + 1)) (wrap64 ((wrap64 ((wrap64 ((wrap64 ((rd x555003_3 (ji38)) - t557)) - t559)) - t560)) - t561))).bind fun t565 => (spec_DiffuseImage.l1 k3 a1 x7_2 (wrap64 (x8_3 + 1)) a0_0 a0_1 a0_2 l0_3 t548 t549 t550 t565))) = some (r1, r2, r3, r4, r5) := H
       have A48 := aM A480
       clear A480
       replace H := Option.bind_eq_some_iff.mp H
       obtain ⟨t564, A490, H⟩ := H
       replace H : ((spec_pass.f t548 t549 t550 t564 (wrap64 (x8_3 + 1)) (wrap64 (x7_2 + 1)) (wrap64 ((wrap64 ((wrap64 ((wrap64 ((rd x555003_3 (ji38)) - t557)) - t559)) - t560)) - t561))).bind fun t565 => (spec_DiffuseImage.l1 k3 a1 x7_2 (wrap64 (x8_3 + 1)) a0_0 a0_1 a0_2 l0_3 t548 t549 t550 t565)) = some (r1, r2, r3, r4, r5) := H
       have A49 := aM A490
       clear A490
       replace H := Option.bind_eq_some_iff.mp H
       obtain ⟨t565, A500, H⟩ := H
       replace H : (spec_DiffuseImage.l1 k3 a1 x7_2 (wrap64 (x8_3 + 1)) a0_0 a0_1 a0_2 l0_3 t548 t549 t550 t565) = some (r1, r2, r3, r4, r5) := H
       have A50 := aM A500
       clear A500
       have H' := aM H
       clear H
       have hnb51 := NB544_545.out
       have hnc51 := NB545_544.out
       have hnb52 := NB544_554.out
       have hnc52 := NB554_544.out
       obtain ⟨⟨hcz53_0, hcz53_1, hcz53_2, hcz53_3⟩, hfz53_0, hfz53_1, hfz53_2, hfz53_3⟩ := cf4 BK544
       have hnb54 := NB554_545.out
       have hnc54 := NB545_554.out
       obtain ⟨⟨hcz55_0, hcz55_1, hcz55_2, hcz55_3⟩, hfz55_0, hfz55_1, hfz55_2, hfz55_3⟩ := cf4 BK554
       obtain ⟨Ao56, co56, rfl⟩ := sL HO_555003
       obtain ⟨ad555, e555, hx555_0⟩ := Kd.at_int (Kd.R_reads' HO_555003.out).2.2 (ji38) oD oD
       cases e555
       have p555 := eq_true (oD : 0 ≤ ((ji38) : Int))
       have q555 := eq_true (oD : (ji38) < (x555003_3.length : Int))
       go_wp2_with (first | ((with_reducible refine gate_callee (f := 69) rfl ?_); refine goesL_ (some 55) rfl rfl Try.func69 (by kernel_rfl) rfl #[.int .i64 (rd x555003_3 (ji38)), .int .i64 a1] rfl (by (try simp only [List.map_toArray, List.map_cons, List.map_nil]); first | done | (simp only [hji38]; rfl) | rfl | (simp only [List.length_drop, List.length_take]; rfl)) ?_; (with_reducible refine (spec_nearestLevel.calls k3 (rd x555003_3 (ji38)) a1 t556 _ A41.out).mono ?_); rintro e w' ⟨rfl, ⟨nd, rfl⟩⟩; refine ⟨_, rfl, ?_⟩; (try (rw [drewN_self wr]; generalize hq_ : World.drewN wr _ = wr; replace HO_555003 : Aside0 (Kd.R (Kd.int .i64) 3 wr w.heap.size (fun _ => True) (.slice (some ad555) x555003_3.length co56) x555003_3) := ⟨by rw [← hq_]; exact (qR HO_555003.out)⟩; replace BK544 : Aside0 (wr.heap[gb544]? = some (.cells #[.int .i64 a0_0, .int .i64 a0_1, .int .i64 a0_2, .slice A0_3 l0_3.length c0_3] 27 (0, 0))) := ⟨by rw [← hq_]; exact (qB BK544.out)⟩; replace BK545 : Aside0 (wr.heap[gb545]? = some (.cells #[.int .i64 0, .int .i64 0, .int .i64 0, .slice none 0 0] 27 (0, 0))) := ⟨by rw [← hq_]; exact (qB BK545.out)⟩; replace BK554 : Aside0 (wr.heap[gb554]? = some (.cells #[.int .i64 t548, .int .i64 t549, .int .i64 t550, .slice (some ad555) x555003_3.length co56] 27 (0, 0))) := ⟨by rw [← hq_]; exact (qB BK554.out)⟩; replace HB : Aside0 (Below w.heap.size w wr) := ⟨by rw [← hq_]; exact (qW HB.out)⟩; clear hq_))) | ((with_reducible refine gate_callee (f := 59) rfl ?_); refine gL (some 57) Try.func59 #[.int .i64 t556, .int .i64 a1] ?_; (with_reducible refine (spec_levelValue.calls t556 a1 t557 _ A42.out).mono ?_); rintro e w' ⟨rfl, ⟨nd, rfl⟩⟩; refine ⟨_, rfl, ?_⟩; (try (rw [drewN_self wr]; generalize hq_ : World.drewN wr _ = wr; replace HO_555003 : Aside0 (Kd.R (Kd.int .i64) 3 wr w.heap.size (fun _ => True) (.slice (some ad555) x555003_3.length co56) x555003_3) := ⟨by rw [← hq_]; exact (qR HO_555003.out)⟩; replace BK544 : Aside0 (wr.heap[gb544]? = some (.cells #[.int .i64 a0_0, .int .i64 a0_1, .int .i64 a0_2, .slice A0_3 l0_3.length c0_3] 27 (0, 0))) := ⟨by rw [← hq_]; exact (qB BK544.out)⟩; replace BK545 : Aside0 (wr.heap[gb545]? = some (.cells #[.int .i64 0, .int .i64 0, .int .i64 0, .slice none 0 0] 27 (0, 0))) := ⟨by rw [← hq_]; exact (qB BK545.out)⟩; replace BK554 : Aside0 (wr.heap[gb554]? = some (.cells #[.int .i64 t548, .int .i64 t549, .int .i64 t550, .slice (some ad555) x555003_3.length co56] 27 (0, 0))) := ⟨by rw [← hq_]; exact (qB BK554.out)⟩; replace HB : Aside0 (Below w.heap.size w wr) := ⟨by rw [← hq_]; exact (qW HB.out)⟩; clear hq_)); have p43 : 0 ≤ ((ji38) : Int) := oD; have q43 : ((ji38) : Int) < ((x555003_3.length : Int) : Int) := oD; obtain ⟨go43, co43, eo43, gb43, gl43, cl43, HG43⟩ := Kd.R_form HO_555003.out (by omega); (first | cases eo43 | (injection eo43 with ea_ en_ ec_; (first | subst ea_ | (injection ea_ with ea_; subst ea_)); subst ec_; clear en_)); have GB43 := aM gb43; have GG43 := aM HG43; clear gb43 gl43 HG43; (first | simp only [add_plain] at hx555_0 | skip); obtain ⟨hx43_0, hf43_0⟩ := Kd.R_celln 0 HO_555003.out ((ji38) : Int) p43 q43; replace p43 := eq_true p43; replace q43 := eq_true q43; obtain ⟨hy57_, hz57_⟩ := Kd.R_celln 0 HO_555003.out ((ji38) : Int) oD oD; have HP57 := Kd.R_putg HO_555003.out ((ji38) : Int) t557; have hcy53_0 : wr.cell? ⟨gb544, 0, none⟩ = some (.int .i64 a0_0) := (blk_cell BK544.out 0).trans rfl; have hfy53_0 := blk_frozen BK544.out 0; have hcy53_1 : wr.cell? ⟨gb544, 1, none⟩ = some (.int .i64 a0_1) := (blk_cell BK544.out 1).trans rfl; have hfy53_1 := blk_frozen BK544.out 1; have hcy53_2 : wr.cell? ⟨gb544, 2, none⟩ = some (.int .i64 a0_2) := (blk_cell BK544.out 2).trans rfl; have hfy53_2 := blk_frozen BK544.out 2; have hcy53_3 : wr.cell? ⟨gb544, 3, none⟩ = some (.slice A0_3 l0_3.length c0_3) := (blk_cell BK544.out 3).trans rfl; have hfy53_3 := blk_frozen BK544.out 3; have hcy55_0 : wr.cell? ⟨gb554, 0, none⟩ = some (.int .i64 t548) := (blk_cell BK554.out 0).trans rfl; have hfy55_0 := blk_frozen BK554.out 0; have hcy55_1 : wr.cell? ⟨gb554, 1, none⟩ = some (.int .i64 t549) := (blk_cell BK554.out 1).trans rfl; have hfy55_1 := blk_frozen BK554.out 1; have hcy55_2 : wr.cell? ⟨gb554, 2, none⟩ = some (.int .i64 t550) := (blk_cell BK554.out 2).trans rfl; have hfy55_2 := blk_frozen BK554.out 2; have hcy55_3 : wr.cell? ⟨gb554, 3, none⟩ = some (.slice (some ⟨go43, 0, none⟩) x555003_3.length co56) := (blk_cell BK554.out 3).trans rfl; have hfy55_3 := blk_frozen BK554.out 3) | ((with_reducible refine gate_store (t := 3) (p := 67) rfl ?_); refine store_event (t := 3) (p := 67) (v := ?vo_w58) (w1 := (wr.setCell ⟨go43, ((ji38) : Int).toNat, none⟩ (.int .i64 t557))) ?hg ?ho ?hn ?hr ?_; (case ho => rfl); (case hg => rfl); (case hn => rfl); (case hr => first | (go_simp; done) | (go_simp; rfl)); intro w58 hw; have hg : wr.grownBy w58 (some go43) := (by rw [hw]; exact HP57.2); have hp_ : Kd.R (Kd.int .i64) 3 w58 w.heap.size (fun _ => True) (.slice (some ⟨go43, 0, none⟩) x555003_3.length co56) y558 := (by rw [hw, Ny558.out]; exact HP57.1); clear HP57; replace BK544 := gB BK544 hg (Kd.R_ne HO_555003.out BK544.out (by decide)); replace BK545 := gB BK545 hg (Kd.R_ne HO_555003.out BK545.out (by decide)); replace BK554 := gB BK554 hg (Kd.R_ne HO_555003.out BK554.out (by decide)); replace HO_555003 := aM (hp_); replace HB := aM ((by rw [hw]; exact below_set (HB.out) GB43.out : Below w.heap.size w w58)); clear hg hw hp_) | ((with_reducible refine gate_callee (f := 70) rfl ?_); refine goesL_ (some 73) rfl rfl Try.func70 (by kernel_rfl) rfl #[.int .i64 (wrap64 (7 * (wrap64 ((rd x555003_3 (ji38)) - t557)))), .int .i64 16] rfl (by (try simp only [List.map_toArray, List.map_cons, List.map_nil]); first | done | (simp only [hji38]; rfl) | rfl | (simp only [List.length_drop, List.length_take]; rfl)) ?_; (with_reducible refine (spec_floorDiv.calls (wrap64 (7 * (wrap64 ((rd x555003_3 (ji38)) - t557)))) 16 t559 _ A44.out).mono ?_); rintro e w' ⟨rfl, ⟨nd, rfl⟩⟩; refine ⟨_, rfl, ?_⟩) | ((with_reducible refine gate_callee (f := 70) rfl ?_); refine goesL_ (some 76) rfl rfl Try.func70 (by kernel_rfl) rfl #[.int .i64 (wrap64 (3 * (wrap64 ((rd x555003_3 (ji38)) - t557)))), .int .i64 16] rfl (by (try simp only [List.map_toArray, List.map_cons, List.map_nil]); first | done | (simp only [hji38]; rfl) | rfl | (simp only [List.length_drop, List.length_take]; rfl)) ?_; (with_reducible refine (spec_floorDiv.calls (wrap64 (3 * (wrap64 ((rd x555003_3 (ji38)) - t557)))) 16 t560 _ A45.out).mono ?_); rintro e w' ⟨rfl, ⟨nd, rfl⟩⟩; refine ⟨_, rfl, ?_⟩) | ((with_reducible refine gate_callee (f := 70) rfl ?_); refine goesL_ (some 79) rfl rfl Try.func70 (by kernel_rfl) rfl #[.int .i64 (wrap64 (5 * (wrap64 ((rd x555003_3 (ji38)) - t557)))), .int .i64 16] rfl (by (try simp only [List.map_toArray, List.map_cons, List.map_nil]); first | done | (simp only [hji38]; rfl) | rfl | (simp only [List.length_drop, List.length_take]; rfl)) ?_; (with_reducible refine (spec_floorDiv.calls (wrap64 (5 * (wrap64 ((rd x555003_3 (ji38)) - t557)))) 16 t561 _ A46.out).mono ?_); rintro e w' ⟨rfl, ⟨nd, rfl⟩⟩; refine ⟨_, rfl, ?_⟩; obtain ⟨⟨hcz59_0, hcz59_1, hcz59_2, hcz59_3⟩, hfz59_0, hfz59_1, hfz59_2, hfz59_3⟩ := cf4 BK554) | ((with_reducible refine gate_callee (f := 71) rfl ?_); refine gL (some 85) Try.func71 #[.agg #[.int .i64 t548, .int .i64 t549, .int .i64 t550, .slice (some ⟨go43, 0, none⟩) x555003_3.length co56], .int .i64 (wrap64 (x8_3 + 1)), .int .i64 x7_2, .int .i64 t559] ?_; (with_reducible refine (spec_pass.calls t548 t549 t550 (fun k_ => some k_ = (.slice (some ⟨go43, 0, none⟩) x555003_3.length co56 : Value).ownBlock) (.slice (some ⟨go43, 0, none⟩) x555003_3.length co56) y558 (wrap64 (x8_3 + 1)) x7_2 t559 t562 w _ ?side1 ?side2 A47.out).mono ?_); (case side1 => exact qW HB.out); (case side2 => exact Kd.R_tight rfl HO_555003.out); rintro e w60 ⟨rfl, hy0, hb, hkp⟩; refine ⟨_, rfl, ?_⟩; replace BK544 := aM (blk_kept BK544.out hkp (fun hs_ => (fun e_ => (Kd.R_ne HO_555003.out BK544.out (by decide)) e_) hs_)); replace BK545 := aM (blk_kept BK545.out hkp (fun hs_ => (fun e_ => (Kd.R_ne HO_555003.out BK545.out (by decide)) e_) hs_)); replace BK554 := aM (blk_kept BK554.out hkp (fun hs_ => (fun e_ => (Kd.R_ne HO_555003.out BK554.out (by decide)) e_) hs_)); replace HO_555003 := aM (Kd.R_reok rfl hy0 (fun k_ e_ => HO_555003.out.1 k_ e_)); replace HB := aM (hb); clear hb hkp hy0; obtain ⟨⟨hcz61_0, hcz61_1, hcz61_2, hcz61_3⟩, hfz61_0, hfz61_1, hfz61_2, hfz61_3⟩ := cf4 BK554) | ((with_reducible refine gate_callee (f := 71) rfl ?_); refine gL (some 92) Try.func71 #[.agg #[.int .i64 t548, .int .i64 t549, .int .i64 t550, .slice (some ⟨go43, 0, none⟩) x555003_3.length co56], .int .i64 (wrap64 (x8_3 - 1)), .int .i64 (wrap64 (x7_2 + 1)), .int .i64 t560] ?_; (with_reducible refine (spec_pass.calls t548 t549 t550 (fun k_ => some k_ = (.slice (some ⟨go43, 0, none⟩) x555003_3.length co56 : Value).ownBlock) (.slice (some ⟨go43, 0, none⟩) x555003_3.length co56) t562 (wrap64 (x8_3 - 1)) (wrap64 (x7_2 + 1)) t560 t563 w _ ?side1 ?side2 A48.out).mono ?_); (case side1 => exact qW HB.out); (case side2 => exact Kd.R_tight rfl HO_555003.out); rintro e w62 ⟨rfl, hy0, hb, hkp⟩; refine ⟨_, rfl, ?_⟩; replace BK544 := aM (blk_kept BK544.out hkp (fun hs_ => (fun e_ => (Kd.R_ne HO_555003.out BK544.out (by decide)) e_) hs_)); replace BK545 := aM (blk_kept BK545.out hkp (fun hs_ => (fun e_ => (Kd.R_ne HO_555003.out BK545.out (by decide)) e_) hs_)); replace BK554 := aM (blk_kept BK554.out hkp (fun hs_ => (fun e_ => (Kd.R_ne HO_555003.out BK554.out (by decide)) e_) hs_)); replace HO_555003 := aM (Kd.R_reok rfl hy0 (fun k_ e_ => HO_555003.out.1 k_ e_)); replace HB := aM (hb); clear hb hkp hy0; obtain ⟨⟨hcz63_0, hcz63_1, hcz63_2, hcz63_3⟩, hfz63_0, hfz63_1, hfz63_2, hfz63_3⟩ := cf4 BK554) | ((with_reducible refine gate_callee (f := 71) rfl ?_); refine gL (some 98) Try.func71 #[.agg #[.int .i64 t548, .int .i64 t549, .int .i64 t550, .slice (some ⟨go43, 0, none⟩) x555003_3.length co56], .int .i64 x8_3, .int .i64 (wrap64 (x7_2 + 1)), .int .i64 t561] ?_; (with_reducible refine (spec_pass.calls t548 t549 t550 (fun k_ => some k_ = (.slice (some ⟨go43, 0, none⟩) x555003_3.length co56 : Value).ownBlock) (.slice (some ⟨go43, 0, none⟩) x555003_3.length co56) t563 x8_3 (wrap64 (x7_2 + 1)) t561 t564 w _ ?side1 ?side2 A49.out).mono ?_); (case side1 => exact qW HB.out); (case side2 => exact Kd.R_tight rfl HO_555003.out); rintro e w64 ⟨rfl, hy0, hb, hkp⟩; refine ⟨_, rfl, ?_⟩; replace BK544 := aM (blk_kept BK544.out hkp (fun hs_ => (fun e_ => (Kd.R_ne HO_555003.out BK544.out (by decide)) e_) hs_)); replace BK545 := aM (blk_kept BK545.out hkp (fun hs_ => (fun e_ => (Kd.R_ne HO_555003.out BK545.out (by decide)) e_) hs_)); replace BK554 := aM (blk_kept BK554.out hkp (fun hs_ => (fun e_ => (Kd.R_ne HO_555003.out BK554.out (by decide)) e_) hs_)); replace HO_555003 := aM (Kd.R_reok rfl hy0 (fun k_ e_ => HO_555003.out.1 k_ e_)); replace HB := aM (hb); clear hb hkp hy0; obtain ⟨⟨hcz65_0, hcz65_1, hcz65_2, hcz65_3⟩, hfz65_0, hfz65_1, hfz65_2, hfz65_3⟩ := cf4 BK554) | ((with_reducible refine gate_callee (f := 71) rfl ?_); refine goesL_ (some 111) rfl rfl Try.func71 (by kernel_rfl) rfl #[.agg #[.int .i64 t548, .int .i64 t549, .int .i64 t550, .slice (some ⟨go43, 0, none⟩) x555003_3.length co56], .int .i64 (wrap64 (x8_3 + 1)), .int .i64 (wrap64 (x7_2 + 1)), .int .i64 (wrap64 ((wrap64 ((wrap64 ((wrap64 ((rd x555003_3 (ji38)) - t557)) - t559)) - t560)) - t561))] rfl (by (try simp only [List.map_toArray, List.map_cons, List.map_nil]); first | done | (simp only [hji38]; rfl) | rfl | (simp only [List.length_drop, List.length_take]; rfl)) ?_; (with_reducible refine (spec_pass.calls t548 t549 t550 (fun k_ => some k_ = (.slice (some ⟨go43, 0, none⟩) x555003_3.length co56 : Value).ownBlock) (.slice (some ⟨go43, 0, none⟩) x555003_3.length co56) t564 (wrap64 (x8_3 + 1)) (wrap64 (x7_2 + 1)) (wrap64 ((wrap64 ((wrap64 ((wrap64 ((rd x555003_3 (ji38)) - t557)) - t559)) - t560)) - t561)) t565 w _ ?side1 ?side2 A50.out).mono ?_); (case side1 => exact qW HB.out); (case side2 => exact Kd.R_tight rfl HO_555003.out); rintro e w66 ⟨rfl, hy0, hb, hkp⟩; refine ⟨_, rfl, ?_⟩; replace BK544 := aM (blk_kept BK544.out hkp (fun hs_ => (fun e_ => (Kd.R_ne HO_555003.out BK544.out (by decide)) e_) hs_)); replace BK545 := aM (blk_kept BK545.out hkp (fun hs_ => (fun e_ => (Kd.R_ne HO_555003.out BK545.out (by decide)) e_) hs_)); replace BK554 := aM (blk_kept BK554.out hkp (fun hs_ => (fun e_ => (Kd.R_ne HO_555003.out BK554.out (by decide)) e_) hs_)); replace HO_555003 := aM (Kd.R_reok rfl hy0 (fun k_ e_ => HO_555003.out.1 k_ e_)); replace HB := aM (hb); clear hb hkp hy0))
       go_roundg k3
       case measure => have := HJ2.out; have := HK2.out; have := HK3.out; omega
       case rel => exact ⟨(wrap64 (x8_3 + 1)), (t565), (.slice (some ⟨go43, 0, none⟩) x555003_3.length co56), qE, H', ⟨by have := HJ2.out; have := HK2.out; have := HK3.out; omega⟩, ⟨by refine qR ?_; exact HO_555003.out⟩, ⟨by refine qB ?_; exact BK544.out⟩, ⟨by refine qB ?_; exact BK545.out⟩, ⟨by refine qB ?_; exact BK554.out⟩, ⟨by exact qW HB.out⟩⟩
theorem wrap_nat (i : Nat) (h : i ≤ 100000) : wrap64 (i : Int) = i ∧ wrap64 ((i : Int) + 1) = (i : Int) + 1 := by
 constructor <;> (unfold wrap64; omega)
theorem wrap_succ (x : Nat) (h : x ≤ 1000) : wrap64 ((x : Int) + 1) = (x : Int) + 1 := by unfold wrap64; omega
theorem wrap_pred (x : Nat) (h : x ≤ 1000) : wrap64 ((x : Int) - 1) = (x : Int) - 1 := by unfold wrap64; omega
theorem wrap_sgn {z : Int} (h0 : -100000 ≤ z) (h1 : z ≤ 100000) : IntKind.i64.wrap z = z := (i64_w z).trans (by unfold wrap64; omega)
theorem wrap_mid {z : Int} (h0 : 0 ≤ z) (h1 : z ≤ 100000) : IntKind.i64.wrap z = z := (i64_w z).trans (by unfold wrap64; omega)
set_option maxHeartbeats 8000000 in
set_option maxRecDepth 100000 in
theorem impl_at.calls3 (a0 a1 : Int) (g n c : Nat) (x y : Int) (i : Nat) (w : World) (h0 : 0 ≤ a0) (h0' : a0 ≤ 16) (hx : 0 ≤ x) (hx' : x ≤ 1000) (hy : 0 ≤ y) (hy' : y ≤ 1000) (hi : y * a0 + x = (i : Int)) (hn : i < n) (hc : n ≤ c) (hcm : c ≤ 9223372036854775807) :
  Calls Try.prog 50 #[.agg #[.int .i64 a0, .int .i64 a1, .int .i64 1, .slice (some ⟨g, 0, none⟩) n c], .int .i64 x, .int .i64 y] w fun e w' => e = .returned (.slice (some ⟨g, i, none⟩) 1 (c - i)) ∧ Below w.heap.size w w' := by
 have hu26 := Try.underlying27
 have HB := aM (Below.refl w.heap.size w)
 have m1 : 0 ≤ y * a0 := Int.mul_nonneg hy h0
 have m1' : y * a0 ≤ 1000 * 16 := Int.mul_le_mul hy' h0' h0 (by omega)
 obtain ⟨i1, hi1, hsz1⟩ := Option.map_eq_some_iff.1 (show (Try.prog.info? 3).map (·.size) = some 1 by kernel_rfl)
 have hcut : ∀ W : World, (Instr.slice 25 (.slice (some ⟨g, 0, none⟩) n c) (some (.int .i64 (i : Int))) (some (.int .i64 ((i : Int) + 1))) none).run Try.prog W = .ok (.slice (some ⟨g, i, none⟩) 1 (c - i)) W := by
  intro W
  have hel : Try.prog.elem 25 = 3 := by simp [Program.elem, Try.underlying25]
  have hu : Try.prog.underlying 25 = some (.slice (Try.prog.elem 25)) := by rw [hel]; exact Try.underlying25
  rw [run_slice_lh W 25 (some ⟨g, 0, none⟩) n c hu .i64 .i64 (i : Int) ((i : Int) + 1) (by omega) (by omega) (by omega), hel]
  simp only [Int.toNat_natCast, show ((i : Int) + 1).toNat = i + 1 by omega]
  have e1 : (⟨g, 0, none⟩ : Addr).add i = ⟨g, i, none⟩ := add_plain g i
  simp [sizeOf, typeInfo, hi1, hsz1, sliced, Result.andThen, show ¬ c = i by omega, e1, show i + 1 - i = 1 by omega]
 clear hi1 hsz1
 have q2 : i ≤ 100000 := by omega
 have f1 : IntKind.i64.wrap (y * a0) = y * a0 := wrap_mid m1 (by omega)
 have f2 : IntKind.i64.wrap (y * a0 + x) = (i : Int) := (wrap_mid (by omega) (by omega)).trans hi
 have g3 := (wrap_nat i q2).1
 have g4 := (wrap_nat i q2).2
 have f4 : IntKind.i64.wrap ((i : Int) + 1) = (i : Int) + 1 := (i64_w _).trans g4
 clear hi m1 m1' q2 hn hc hcm h0 h0' hx hx' hy hy'
 go_enter Try.func50, Try.ntmps50
 go_wp2_with (first | ((with_reducible refine gate_dst (N := 3) rfl ?_); (try (refine gate_guard (by rfl) ?_; dsimp only)); refine bxE (N := 3) (cs := #[.int .i64 a0, .int .i64 a1, .int .i64 1, .slice (some ⟨g, 0, none⟩) n c]) (t := 27) ?_; intro gb hg w1 hbox hb; have n2 := bS HB hb; have n3 := aM hbox; have n4 := aM ((by rw [hg]; exact (below_size (qW HB.out))) : w.heap.size ≤ gb); clear HB; have HB := n2; have BKgb := n3; have GEgb := n4; clear n2 n3 n4; clear hb hbox hg; have hz5 : w1.cell? ⟨gb, 0, none⟩ = some (.int .i64 a0) := (blk_cell BKgb.out 0).trans rfl; have hz6 : w1.cell? ⟨gb, 1, none⟩ = some (.int .i64 a1) := (blk_cell BKgb.out 1).trans rfl; have hz7 : w1.cell? ⟨gb, 2, none⟩ = some (.int .i64 1) := (blk_cell BKgb.out 2).trans rfl; have hz8 : w1.cell? ⟨gb, 3, none⟩ = some (.slice (some ⟨g, 0, none⟩) n c) := (blk_cell BKgb.out 3).trans rfl; have hf9 := blk_frozen BKgb.out 0; have hf10 := blk_frozen BKgb.out 1; have hf11 := blk_frozen BKgb.out 2; have hf12 := blk_frozen BKgb.out 3))
 go_ret
 exact ⟨rfl, by exact qW HB.out⟩
theorem gate_value {P : Program} {ops : Array Oper} {rest : List Oper} {o : Oper} {a : Act} {Q : Exit → Act → World → Prop} {W : World} {t : Tmp} {az : Array Operand} {ts : Array TypeId} (_ho : o.op = .call { callee := .value (.tmp t), args := az, argTypes := ts }) (h : wpList P ops Q (o :: rest) a W) : wpList P ops Q (o :: rest) a W := h
theorem goesV_ {P : Program} {ops : Array Oper} {Q : Exit → Act → World → Prop} {rest : List Oper} {oi : Oper} {a : Act} {w : World} (N : Option Tmp) (hd : oi.dst = N) (hg : oi.guard = none) {f : FuncId} {fn : Func} (t : Tmp) {az : Array Operand} {ts : Array TypeId} (hf : P.funcs[f]? = some fn) (hname : (fn.name == "runtime.NumGoroutine") = false) (hb : fn.body.isSome = true) (args lb full : Array Value)
  (hop : oi.op = .call { callee := .value (.tmp t), args := az, argTypes := ts }) (hv : a.eval (.tmp t) = .func (.func f) #[] lb) (hargs : az.map a.eval = args) (hfull : args ++ lb = full)
  (h : Calls P f full w fun e w' => ∃ v, e = .returned v ∧ wpList P ops Q rest (a.put N v) w') : wpList P ops Q (oi :: rest) a w := by
 subst hfull
 refine wpList_plain hg fun K hK => ?_
 have he := enters_ hf hname hb (args ++ lb) w
 have hrun : (execOp a.eval oi).run P w = .ok (.enter f (args ++ lb)) w := by
  unfold execOp
  simp [hop, resolve, Deferred.ofValue, invoke, hargs, hv, he]
 unfold Oper.wp
 rw [hrun, Oper.upon_enter]
 refine h.mono fun e w'' hh => ?_
 obtain ⟨v, rfl, hk⟩ := hh
 subst hd
 exact hK _ _ hk
theorem R_cellOwn {W : World} {base g n c : Nat} {ok : Nat → Prop} {d : List Int} (h : Kd.R (Kd.int .i64) 3 W base ok (.slice (some ⟨g, 0, none⟩) n c) d) (i : Nat) (hi : i < n) : W.cell? ⟨g, i, none⟩ = some (.int .i64 (rd d (i : Int))) ∧ W.frozen? ⟨g, i, none⟩ = false := by
 have hn := (Kd.R_reads' h).1
 obtain ⟨ad, ea, hx⟩ := Kd.at_int (Kd.R_reads' h).2.2 (i : Int) (by omega) (by omega)
 cases ea
 rw [Int.toNat_natCast, add_plain] at hx
 refine ⟨hx, ?_⟩
 obtain ⟨hok, inner, hown, hr⟩ := h
 rcases hown.2 with ⟨hv, _⟩ | ⟨g', cap', cur, hv, hb, hh, hl, hcm, hcs, htake⟩
 ·cases hv
 injection hv with ha _ hc
 injection ha with ha
 injection ha with hg
 subst hg
 exact blk_frozen hh i
def dfGive (a b x y p : Int) (d : List Int) : List Int := if (0 ≤ x ∧ x < a) ∧ y < b then d.set (y * a + x).toNat (wrap64 (rd d (y * a + x) + p)) else d
theorem dfGive_len (a b x y p : Int) (d : List Int) : (dfGive a b x y p d).length = d.length := by
 unfold dfGive
 split
 rotate_left
 ·rfl
 rw [List.length_set]
set_option maxHeartbeats 8000000 in
set_option maxRecDepth 100000 in
theorem diffGive (w0 w : World) (base gm go : Nat) (ok : Nat → Prop) (a0 a1 : Int) (A : Option Addr) (c : Nat) (l : List Int) (g n co : Nat) (d : List Int) (x y p : Int)
  (hBm : w.heap[gm]? = some (.cells #[.int .i64 a0, .int .i64 a1, .int .i64 1, .slice A l.length c] 27 (0, 0))) (hBo : w.heap[go]? = some (.cells #[.int .i64 a0, .int .i64 a1, .int .i64 1, .slice (some ⟨g, 0, none⟩) n co] 27 (0, 0)))
  (HO : Kd.R (Kd.int .i64) 3 w base ok (.slice (some ⟨g, 0, none⟩) n co) d) (hB : Below base w0 w) (hw0 : base = w0.heap.size) (ha : 1 ≤ a0 ∧ a0 ≤ 16) (hb : 1 ≤ a1 ∧ a1 ≤ 16) (hn : (n : Int) = a1 * a0) (hx : -1 ≤ x) (hx' : x ≤ 16) (hy : 0 ≤ y) (hy' : y ≤ 16) :
  Calls Try.prog 73 #[.int .i64 x, .int .i64 y, .int .i64 p, .pointer (some ⟨gm, 0, none⟩), .pointer (some ⟨go, 0, none⟩)] w fun e w' => e = .returned (.tuple #[]) ∧ Kd.R (Kd.int .i64) 3 w' base ok (.slice (some ⟨g, 0, none⟩) n co) (dfGive a0 a1 x y p d) ∧ Below base w0 w' ∧ w'.heap[gm]? = some (.cells #[.int .i64 a0, .int .i64 a1, .int .i64 1, .slice A l.length c] 27 (0, 0)) ∧ w'.heap[go]? = some (.cells #[.int .i64 a0, .int .i64 a1, .int .i64 1, .slice (some ⟨g, 0, none⟩) n co] 27 (0, 0)) ∧ Kept w w' (fun k => k = g) := by
 have hu27 := Try.underlying27
 have BKgm := aM hBm
 have BKgo := aM hBo
 have HOO := aM HO
 have HB := aM hB
 have HSZ := aM (Kept.refl w (fun k => k = g))
 have HN := aM hn
 subst hw0
 clear hBm hBo HO hB hn
 have hz32 : w.cell? ⟨gm, 0, none⟩ = some (.int .i64 a0) := (blk_cell BKgm.out 0).trans rfl
 have hz33 : w.cell? ⟨gm, 1, none⟩ = some (.int .i64 a1) := (blk_cell BKgm.out 1).trans rfl
 have hz34 : w.cell? ⟨gm, 2, none⟩ = some (.int .i64 1) := (blk_cell BKgm.out 2).trans rfl
 have hz35 : w.cell? ⟨gm, 3, none⟩ = some (.slice A l.length c) := (blk_cell BKgm.out 3).trans rfl
 have hf36 := blk_frozen BKgm.out 0
 have hf37 := blk_frozen BKgm.out 1
 have hf38 := blk_frozen BKgm.out 2
 have hf39 := blk_frozen BKgm.out 3
 have hz40 : w.cell? ⟨go, 0, none⟩ = some (.int .i64 a0) := (blk_cell BKgo.out 0).trans rfl
 have hz41 : w.cell? ⟨go, 1, none⟩ = some (.int .i64 a1) := (blk_cell BKgo.out 1).trans rfl
 have hz42 : w.cell? ⟨go, 2, none⟩ = some (.int .i64 1) := (blk_cell BKgo.out 2).trans rfl
 have hz43 : w.cell? ⟨go, 3, none⟩ = some (.slice (some ⟨g, 0, none⟩) n co) := (blk_cell BKgo.out 3).trans rfl
 have hf44 := blk_frozen BKgo.out 0
 have hf45 := blk_frozen BKgo.out 1
 have hf46 := blk_frozen BKgo.out 2
 have hf47 := blk_frozen BKgo.out 3
 by_cases k1 : 0 ≤ x
 case neg =>
  unfold dfGive
  rw [if_neg (by omega)]
  go_enter Try.func73, Try.ntmps73
  go_wp2
  first | go_end0 | ((try simp only [Exit.inBlock, Exit.then]); refine bodyPost_ret (results_none rfl _ _ _) rfl ?_)
  exact ⟨rfl, by refine qR ?_; exact HOO.out, by exact qW HB.out, by refine qB ?_; exact BKgm.out, by refine qB ?_; exact BKgo.out, HSZ.out⟩
 by_cases k2 : x < a0
 case neg =>
  unfold dfGive
  rw [if_neg (by omega)]
  go_enter Try.func73, Try.ntmps73
  go_wp2
  first | go_end0 | ((try simp only [Exit.inBlock, Exit.then]); refine bodyPost_ret (results_none rfl _ _ _) rfl ?_)
  exact ⟨rfl, by refine qR ?_; exact HOO.out, by exact qW HB.out, by refine qB ?_; exact BKgm.out, by refine qB ?_; exact BKgo.out, HSZ.out⟩
 by_cases k3 : y < a1
 case neg =>
  unfold dfGive
  rw [if_neg (by omega)]
  go_enter Try.func73, Try.ntmps73
  go_wp2
  first | go_end0 | ((try simp only [Exit.inBlock, Exit.then]); refine bodyPost_ret (results_none rfl _ _ _) rfl ?_)
  exact ⟨rfl, by refine qR ?_; exact HOO.out, by exact qW HB.out, by refine qB ?_; exact BKgm.out, by refine qB ?_; exact BKgo.out, HSZ.out⟩
 unfold dfGive
 rw [if_pos ⟨⟨k1, k2⟩, k3⟩]
 have m1 : 0 ≤ y * a0 := Int.mul_nonneg hy (by omega)
 have m2 : (y + 1) * a0 ≤ a1 * a0 := Int.mul_le_mul_of_nonneg_right (by omega) (by omega)
 rw [Int.add_mul] at m2
 obtain ⟨i, hi⟩ : ∃ i : Nat, y * a0 + x = (i : Int) := ⟨(y * a0 + x).toNat, by omega⟩
 have hin : i < n := by have := HN.out; omega
 rw [hi, Int.toNat_natCast]
 have hcm : n ≤ co ∧ co ≤ 9223372036854775807 := by
  obtain ⟨_, inner, hown, _⟩ := HOO.out
  refine ⟨(Kd.R_reads' HOO.out).2.1, ?_⟩
  rcases hown.2 with ⟨hv, _⟩ | ⟨g', cap', cur, hv, hb, hh, hl, hcm, hcs, htake⟩
  ·cases hv
  injection hv with _ _ hc
  subst hc
  exact hcm
 have HAT := aM (fun W : World => impl_at.calls3 a0 a1 g n co x y i W (by omega) ha.2 k1 (by omega) hy (by omega) hi hin hcm.1 hcm.2)
 have HIN := aM hin
 clear m1 m2 hi hin hcm
 have k1b := decide_eq_true k1
 have k2b := decide_eq_true k2
 have k3b := decide_eq_true k3
 go_enter Try.func73, Try.ntmps73
 go_wp2_with (first | (go_at_call 50; refine (HAT.out _).mono ?_; rintro e w3 ⟨rfl, hb⟩; have q1_ := aM (Kd.R_below (qR HOO.out) hb); have q2_ := aM (Kept.below (show Kept w _ (fun k => k = g) from HSZ.out) hb); clear HOO HSZ; have HOO := q1_; have HSZ := q2_; clear q1_ q2_; have n13 := bB BKgm hb; have n14 := bB BKgo hb; have n15 := bS HB hb; clear HB BKgm BKgo; have BKgm := n13; have BKgo := n14; have HB := n15; clear n13 n14 n15 hb; have hz16 : w3.cell? ⟨gm, 0, none⟩ = some (.int .i64 a0) := (blk_cell BKgm.out 0).trans rfl; have hz17 : w3.cell? ⟨gm, 1, none⟩ = some (.int .i64 a1) := (blk_cell BKgm.out 1).trans rfl; have hz18 : w3.cell? ⟨gm, 2, none⟩ = some (.int .i64 1) := (blk_cell BKgm.out 2).trans rfl; have hz19 : w3.cell? ⟨gm, 3, none⟩ = some (.slice A l.length c) := (blk_cell BKgm.out 3).trans rfl; have hf20 := blk_frozen BKgm.out 0; have hf21 := blk_frozen BKgm.out 1; have hf22 := blk_frozen BKgm.out 2; have hf23 := blk_frozen BKgm.out 3; have hz24 : w3.cell? ⟨go, 0, none⟩ = some (.int .i64 a0) := (blk_cell BKgo.out 0).trans rfl; have hz25 : w3.cell? ⟨go, 1, none⟩ = some (.int .i64 a1) := (blk_cell BKgo.out 1).trans rfl; have hz26 : w3.cell? ⟨go, 2, none⟩ = some (.int .i64 1) := (blk_cell BKgo.out 2).trans rfl; have hz27 : w3.cell? ⟨go, 3, none⟩ = some (.slice (some ⟨g, 0, none⟩) n co) := (blk_cell BKgo.out 3).trans rfl; have hf28 := blk_frozen BKgo.out 0; have hf29 := blk_frozen BKgo.out 1; have hf30 := blk_frozen BKgo.out 2; have hf31 := blk_frozen BKgo.out 3; have hcx := (R_cellOwn HOO.out i HIN.out).1; have hcf := (R_cellOwn HOO.out i HIN.out).2) | ((with_reducible refine gate_store (t := 3) (p := 30) rfl ?_); refine store_event (t := 3) (p := 30) (v := ?vo_dg) (w1 := (w3.setCell ⟨g, i, none⟩ (.int .i64 (wrap64 (rd d (i : Int) + p))))) ?hg ?ho ?hn ?hr ?_; (case ho => rfl); (case hg => rfl); (case hn => rfl); (case hr => first | (go_simp; done) | (go_simp; rfl)); intro w9 hw))
 have h2 := Kd.R_putg (enc := Value.int .i64) (h1 := fun _ => rfl) HOO.out (i : Int) (wrap64 (rd d (i : Int) + p))
 rw [Int.toNat_natCast] at h2
 rw [← hw] at h2
 have hgb := Kd.R_base HOO.out g (by simp [Value.ownBlock])
 have n1_ := Kd.R_ne HOO.out BKgm.out (by decide)
 have n2_ := Kd.R_ne HOO.out BKgo.out (by decide)
 first | go_end0 | ((try simp only [Exit.inBlock, Exit.then]); refine bodyPost_ret (results_none rfl _ _ _) rfl ?_)
 exact ⟨rfl, by refine qR ?_; exact h2.1, by rw [hw]; exact below_set HB.out hgb, by rw [hw]; exact blk_far BKgm.out (fun e => n1_ (by rw [e]; simp [Value.ownBlock])) _, by rw [hw]; exact blk_far BKgo.out (fun e => n2_ (by rw [e]; simp [Value.ownBlock])) _, by rw [hw]; exact HSZ.out.setCell (.inl rfl) _⟩
def impl_copyImage.f (a0_0 : Int) (a0_1 : Int) (a0_2 : Int) (l0_3 : List Int) : Option (Int × Int × Int × List Int) := (some (([] : List Int) : List Int)).bind fun y568 => (if y568.length + l0_3.length < 17592186044416 then (some (a0_0, a0_1, a0_2, (y568 ++ l0_3))) else (none))
set_option maxHeartbeats 8000000 in
set_option maxRecDepth 100000 in
theorem impl_copyImage.calls (a0_0 : Int) (a0_1 : Int) (a0_2 : Int) (A0_3 : Option Addr) (c0_3 : Nat) (l0_3 : List Int) (r1 : Int) (r2 : Int) (r3 : Int) (r4 : List Int) (w : World) (hr0_3 : Kd.C (Kd.int .i64) w A0_3 l0_3.length l0_3) (hc0_3 : l0_3.length ≤ c0_3) (h : impl_copyImage.f a0_0 a0_1 a0_2 l0_3 = some (r1, r2, r3, r4)) :
  Calls Try.prog 72 #[.agg #[.int .i64 a0_0, .int .i64 a0_1, .int .i64 a0_2, .slice A0_3 l0_3.length c0_3]] w fun e w' => ∃ v3_ : Value, e = .returned (.agg #[.int .i64 r1, .int .i64 r2, .int .i64 r3, v3_]) ∧ Kd.R (Kd.int .i64) 3 w' w.heap.size (fun _ => True) v3_ r4 ∧ Below w.heap.size w w' := by
 have hu27 := Try.underlying27
 have HR0_3 := aM hr0_3
 have HC0_3 := aM hc0_3
 clear hr0_3 hc0_3
 have HB := aM (Below.refl w.heap.size w)
 unfold impl_copyImage.f at h
 have H := h
 clear h
 obtain ⟨y568, hy568⟩ : ∃ y_ : List Int, y_ = (([] : List Int)) := ⟨_, rfl⟩
 replace H : (if y568.length + l0_3.length < 17592186044416 then (some (a0_0, a0_1, a0_2, (y568 ++ l0_3))) else (none)) = some (r1, r2, r3, r4) := rY hy568 H
 have Ny568 := aM hy568
 clear hy568
 replace H := iS H
 obtain ⟨c2, H⟩ := H
 have LMc2 := aM c2
 clear c2
 obtain ⟨y571, hy571⟩ : ∃ y_ : List Int, y_ = (y568 ++ l0_3) := ⟨_, rfl⟩
 replace H : (some (a0_0, a0_1, a0_2, y571)) = some (r1, r2, r3, r4) := rY hy571 H
 have Ny571 := aM hy571
 clear hy571
 simp only [Option.some.injEq, Prod.mk.injEq] at H
 obtain ⟨rfl, rfl, rfl, rfl⟩ := H
 go_enter Try.func72, Try.ntmps72
 go_wp2_with (first | ((with_reducible refine gate_dst (N := 1) rfl ?_); refine bxE (N := 1) (cs := #[.int .i64 a0_0, .int .i64 a0_1, .int .i64 a0_2, .slice A0_3 l0_3.length c0_3]) (t := 27) ?_; intro gb566 hg w3 hbox hb; have BK566 := aM (hbox); have GW566 := gW hg HB; have GE566 := gW hg HB; replace HB := bS HB hb; clear hb hbox hg) | ((with_reducible refine gate_dst (N := 2) rfl ?_); refine bxE (N := 2) (cs := #[.int .i64 0, .int .i64 0, .int .i64 0, .slice none 0 0]) (t := 27) ?_; intro gb567 hg w4 hbox hb; have BK567 := aM (hbox); have GW567 := gW hg HB; have GE567 := gW hg HB; replace HB := bS HB hb; have NB566_567 := nL hg BK566; have NB567_566 := nG hg BK566; replace BK566 := bB BK566 hb; clear hb hbox hg) | ((with_reducible refine gate_dst (N := 3) rfl ?_); refine iL ([] : List Int) [] ?_; intro v569 w5 ho6 hb hg_ hnew_; clear hg_ hnew_; (first | rw [← Ny568.out] at ho6 | (simp only [Int.reduceToNat] at ho6; rw [← Ny568.out] at ho6)); have HO570 := oR ho6 HB; replace BK566 := bB BK566 hb; replace BK567 := bB BK567 hb; replace HB := bS HB hb; clear hb ho6; have hnb7 := NB566_567.out; have hnc7 := NB567_566.out; obtain ⟨⟨hcz8_0, hcz8_1, hcz8_2, hcz8_3⟩, hfz8_0, hfz8_1, hfz8_2, hfz8_3⟩ := cf4 BK566) | ((with_reducible refine gate_builtin (b := .append) (xs := #[.tmp 3, .tmp 5]) rfl ?_); at_builtin; refine Kd.R_append_rows (Kd.int .i64) (w0 := w) w.heap.size rfl (.tmp 3) (.tmp 5) 25 3 (.int .i64 0) 8 rfl Try.underlying25 info3 rfl (by decide) (by omega) v569 y568 l0_3 _ _ _ (fun _ => True) (fun _ => False) rfl rfl ?aO ?aR (fun _ _ h => h) (fun _ h => h.elim) ?aF ?aB ?aS ?aL ?_; (case aR => exact qC (Kd.C_below HR0_3.out HB.out)); (case aB => exact (qW HB.out)); (case aF => exact (fun _ _ => trivial)); (case aO => exact (qR HO570.out)); (case aS => exact (below_size (qW HB.out))); (case aL => have := LMc2.out; omega); intro v572 w9 ho hb hg hat; rw [← Ny571.out] at ho; replace BK566 := gB BK566 hg (Kd.R_ne HO570.out BK566.out (by decide)); replace BK567 := gB BK567 hg (Kd.R_ne HO570.out BK567.out (by decide)); replace HB := aM (hb); have HO573 := aM (ho); clear HO570; clear ho hb hg hat; obtain ⟨Ao10, co10, rfl⟩ := sL HO573; obtain ⟨⟨hcz11_0, hcz11_1, hcz11_2, hcz11_3⟩, hfz11_0, hfz11_1, hfz11_2, hfz11_3⟩ := cf4 BK566; obtain ⟨⟨hcz12_0, hcz12_1, hcz12_2, hcz12_3⟩, hfz12_0, hfz12_1, hfz12_2, hfz12_3⟩ := cf4 BK567))
 refine bodyPost_ret (results_cell_row rfl _ _ gb567 27 #[.int .i64 a0_0, .int .i64 a0_1, .int .i64 a0_2, .slice Ao10 y571.length co10] (0, 0) _ rfl (by refine qB ?_; refine blk_put (cs := #[.int .i64 a0_0, .int .i64 a0_1, .int .i64 a0_2, .slice none 0 0]) ?_ 3 _ rfl; refine qB ?_; refine blk_put (cs := #[.int .i64 a0_0, .int .i64 a0_1, .int .i64 0, .slice none 0 0]) ?_ 2 _ rfl; refine qB ?_; refine blk_put (cs := #[.int .i64 a0_0, .int .i64 0, .int .i64 0, .slice none 0 0]) ?_ 1 _ rfl; refine qB ?_; refine blk_put (cs := #[.int .i64 0, .int .i64 0, .int .i64 0, .slice none 0 0]) ?_ 0 _ rfl; refine qB ?_; refine blk_far ?_ NB567_566.out _; refine qB ?_; exact BK567.out) Try.underlying27 rfl (by kernel_rfl)) rfl ?_
 exact ⟨_, qX, by refine qR ?_; exact Kd.R_mono (Kd.R_far (p := ⟨gb567, 3, none⟩) (Kd.R_far (p := ⟨gb567, 2, none⟩) (Kd.R_far (p := ⟨gb567, 1, none⟩) (Kd.R_far (p := ⟨gb567, 0, none⟩) (Kd.R_far (p := ⟨gb566, 3, none⟩) (Kd.R_types (Kd.R_types HO573.out BK566.out (by decide)) BK567.out (by decide)) (fun _ hk => hk.1.2) (.slice Ao10 y571.length co10)) (fun _ hk => hk.2) (.int .i64 a0_0)) (fun _ hk => hk.2) (.int .i64 a0_1)) (fun _ hk => hk.2) (.int .i64 a0_2)) (fun _ hk => hk.2) (.slice Ao10 y571.length co10)) (fun _ hk => trivial), by exact qW HB.out⟩
end Go.Proofs.Yteeeedmmcdlhjaa.P
