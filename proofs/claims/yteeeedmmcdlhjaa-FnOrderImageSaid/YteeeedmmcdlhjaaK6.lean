/- Contracts and row, written by a program of this place out of the translation: the call answers true and its argument reads as before, for every input; no condition. -/
import Derived.Test.YteeeedmmcdlhjaaK0
import Derived.Test.YteeeedmmcdlhjaaK1
import Derived.Test.YteeeedmmcdlhjaaK2
import Derived.Test.YteeeedmmcdlhjaaK3
import Derived.Test.YteeeedmmcdlhjaaK5
namespace Go.Proofs.Yteeeedmmcdlhjaa.P
open Go.RowKit Go.Proofs.YteeeedmmcdlhjaaW.PrintWords Go.Proofs.YteeeedmmcdlhjaaW.PrintLast Go.Proofs.YteeeedmmcdlhjaaW.PrintMore
attribute [local go_sem] max2_int min2_int max_two min_two max_three min_three max_four min_four   -- for this text's walks alone
set_option linter.unusedVariables false
set_option linter.unusedSimpArgs false
mutual
def laws_FnOrderImage.j0 : Nat → Int → Bool → Bool → Bool → Int → Int → Int → List Int → Int → Int → Int → List Int → Int → Int → Int → List Int → Option (Bool)
 | 0, _, _, _, _, _, _, _, _, _, _, _, _, _, _, _, _ => none
 | k + 1, x4, x6, x8, x46, x462000, x462001, x462002, x462003, x470000, x470001, x470002, x470003, x478000, x478001, x478002, x478003 => if x46 = true then ((laws_equalImage.f k x470000 x470001 x470002 x470003 x478000 x478001 x478002 x478003).bind fun t479 => (if t479 = true then (some (x6 == x8)) else (some false))) else ((some (([] : List Int) : List Int)).bind fun y480 => (if y480.length + x462003.length < 17592186044416 then (laws_FnOrderImage.l0 k x4 (y480 ++ x462003) 0 x462000 x462001 x462002 x462003 x470000 x470001 x470002 x470003) else (none)))
def laws_FnOrderImage.l0 : Nat → Int → List Int → Int → Int → Int → Int → List Int → Int → Int → Int → List Int → Option (Bool)
 | 0, _, _, _, _, _, _, _, _, _, _, _ => none
 | k + 1, x4, x9, x10, x462000, x462001, x462002, x462003, x470000, x470001, x470002, x470003 => if x10 < (x462003.length : Int) then (if 0 ≤ x10 then (if x10 < (x470003.length : Int) then ((impl_LevelOf.f k (rd x470003 x10) x4).bind fun t488 => (if (wrap64 (x4 - 1)) = 0 then (none) else (if (rd x470003 x10) = (wrap64 (Int.tdiv (wrap64 (255 * t488)) (wrap64 (x4 - 1)))) then (if (rd x462003 x10) = 0 then (if (rd x470003 x10) = 0 then (if (rd x462003 x10) = 255 then (if (rd x470003 x10) = 255 then (if x10 < (x9.length : Int) then (laws_FnOrderImage.l0 k x4 (x9.set (x10 : Int).toNat (mn 255 (wrap64 ((rd x462003 x10) + 20)))) (wrap64 (x10 + 1)) x462000 x462001 x462002 x462003 x470000 x470001 x470002 x470003) else (none)) else (some false)) else (if x10 < (x9.length : Int) then (laws_FnOrderImage.l0 k x4 (x9.set (x10 : Int).toNat (mn 255 (wrap64 ((rd x462003 x10) + 20)))) (wrap64 (x10 + 1)) x462000 x462001 x462002 x462003 x470000 x470001 x470002 x470003) else (none))) else (some false)) else (if (rd x462003 x10) = 255 then (if (rd x470003 x10) = 255 then (if x10 < (x9.length : Int) then (laws_FnOrderImage.l0 k x4 (x9.set (x10 : Int).toNat (mn 255 (wrap64 ((rd x462003 x10) + 20)))) (wrap64 (x10 + 1)) x462000 x462001 x462002 x462003 x470000 x470001 x470002 x470003) else (none)) else (some false)) else (if x10 < (x9.length : Int) then (laws_FnOrderImage.l0 k x4 (x9.set (x10 : Int).toNat (mn 255 (wrap64 ((rd x462003 x10) + 20)))) (wrap64 (x10 + 1)) x462000 x462001 x462002 x462003 x470000 x470001 x470002 x470003) else (none)))) else (some false)))) else (none)) else (none)) else ((impl_OrderImage.f x462000 x462001 1 x9 x4).bind fun bt503 => (laws_FnOrderImage.l1 k bt503.2.2.2.2 0 x462000 x462001 x462002 x462003 x470000 x470001 x470002 x470003 bt503.1 bt503.2.1 bt503.2.2.1 bt503.2.2.2.1))
def laws_FnOrderImage.l1 : Nat → Bool → Int → Int → Int → Int → List Int → Int → Int → Int → List Int → Int → Int → Int → List Int → Option (Bool)
 | 0, _, _, _, _, _, _, _, _, _, _, _, _, _, _ => none
 | k + 1, x12, x13, x462000, x462001, x462002, x462003, x470000, x470001, x470002, x470003, x511000, x511001, x511002, x511003 => if x13 < (x462003.length : Int) then (if x12 = true then (if (x511003.length : Int) = (x470003.length : Int) then (if 0 ≤ x13 then (if x13 < (x511003.length : Int) then (if x13 < (x470003.length : Int) then (if (rd x511003 x13) < (rd x470003 x13) then (some false) else (laws_FnOrderImage.l1 k x12 (wrap64 (x13 + 1)) x462000 x462001 x462002 x462003 x470000 x470001 x470002 x470003 x511000 x511001 x511002 x511003)) else (none)) else (none)) else (none)) else (some false)) else (some false)) else (some true)
end
def laws_FnOrderImage.f (k : Nat) (l0 : List Int) : Option (Bool) := if (l0.length : Int) > 1048576 then (some true) else ((spec_DrawOrderImage.f k l0).bind fun bt454 => ((impl_OrderImage.f bt454.1 bt454.2.1 bt454.2.2.1 bt454.2.2.2.1 bt454.2.2.2.2).bind fun bt462 => ((spec_OrderImage.f k bt454.1 bt454.2.1 bt454.2.2.1 bt454.2.2.2.1 bt454.2.2.2.2).bind fun bt470 => ((laws_equalImage.f k bt462.1 bt462.2.1 bt462.2.2.1 bt462.2.2.2.1 bt470.1 bt470.2.1 bt470.2.2.1 bt470.2.2.2.1).bind fun t478 => (if t478 = true then (if (bt462.2.2.2.2 != bt470.2.2.2.2) = true then (laws_FnOrderImage.j0 k bt454.2.2.2.2 bt462.2.2.2.2 bt470.2.2.2.2 true bt454.1 bt454.2.1 bt454.2.2.1 bt454.2.2.2.1 bt462.1 bt462.2.1 bt462.2.2.1 bt462.2.2.2.1 bt470.1 bt470.2.1 bt470.2.2.1 bt470.2.2.2.1) else (laws_FnOrderImage.j0 k bt454.2.2.2.2 bt462.2.2.2.2 bt470.2.2.2.2 (!bt462.2.2.2.2) bt454.1 bt454.2.1 bt454.2.2.1 bt454.2.2.2.1 bt462.1 bt462.2.1 bt462.2.2.1 bt462.2.2.2.1 bt470.1 bt470.2.1 bt470.2.2.1 bt470.2.2.2.1)) else (laws_FnOrderImage.j0 k bt454.2.2.2.2 bt462.2.2.2.2 bt470.2.2.2.2 true bt454.1 bt454.2.1 bt454.2.2.1 bt454.2.2.2.1 bt462.1 bt462.2.1 bt462.2.2.1 bt462.2.2.2.1 bt470.1 bt470.2.1 bt470.2.2.1 bt470.2.2.2.1))))))
theorem laws_FnOrderImage.mono_l : ∀ k, (∀ y0 y1 y2 y3 y4 y5 y6 y7 y8 y9 y10 y11 y12 y13 y14 y15, LeO (laws_FnOrderImage.j0 k y0 y1 y2 y3 y4 y5 y6 y7 y8 y9 y10 y11 y12 y13 y14 y15) (laws_FnOrderImage.j0 (k + 1) y0 y1 y2 y3 y4 y5 y6 y7 y8 y9 y10 y11 y12 y13 y14 y15)) ∧ (∀ y0 y1 y2 y3 y4 y5 y6 y7 y8 y9 y10, LeO (laws_FnOrderImage.l0 k y0 y1 y2 y3 y4 y5 y6 y7 y8 y9 y10) (laws_FnOrderImage.l0 (k + 1) y0 y1 y2 y3 y4 y5 y6 y7 y8 y9 y10)) ∧ (∀ y0 y1 y2 y3 y4 y5 y6 y7 y8 y9 y10 y11 y12 y13, LeO (laws_FnOrderImage.l1 k y0 y1 y2 y3 y4 y5 y6 y7 y8 y9 y10 y11 y12 y13) (laws_FnOrderImage.l1 (k + 1) y0 y1 y2 y3 y4 y5 y6 y7 y8 y9 y10 y11 y12 y13))
 | 0 => ⟨fun _ _ _ _ _ _ _ _ _ _ _ _ _ _ _ _ r h => by simp [laws_FnOrderImage.j0] at h, fun _ _ _ _ _ _ _ _ _ _ _ r h => by simp [laws_FnOrderImage.l0] at h, fun _ _ _ _ _ _ _ _ _ _ _ _ _ _ r h => by simp [laws_FnOrderImage.l1] at h⟩
 | k + 1 => by
  obtain ⟨ih0, ih1, ih2⟩ := laws_FnOrderImage.mono_l k
  refine ⟨?_, ?_, ?_⟩
  all_goals intros
  all_goals first | unfold laws_FnOrderImage.j0 | unfold laws_FnOrderImage.l0 | unfold laws_FnOrderImage.l1
  all_goals repeat' first | (with_reducible first | exact ih0 _ _ _ _ _ _ _ _ _ _ _ _ _ _ _ _ | exact ih1 _ _ _ _ _ _ _ _ _ _ _ | exact ih2 _ _ _ _ _ _ _ _ _ _ _ _ _ _ | exact impl_LevelOf.mono _ _ _ | exact laws_equalImage.mono _ _ _ _ _ _ _ _ _ | exact spec_DrawOrderImage.mono _ _ | exact spec_OrderImage.mono _ _ _ _ _ _ | exact lR | exact lN | refine lI ?_ ?_ | refine lB ?_ fun _ => ?_) | exact ih0 _ _ _ _ _ _ _ _ _ _ _ _ _ _ _ _ | exact ih1 _ _ _ _ _ _ _ _ _ _ _ | exact ih2 _ _ _ _ _ _ _ _ _ _ _ _ _ _ | exact impl_LevelOf.mono _ _ _ | exact laws_equalImage.mono _ _ _ _ _ _ _ _ _ | exact spec_DrawOrderImage.mono _ _ | exact spec_OrderImage.mono _ _ _ _ _ _ | exact lN | refine lI ?_ ?_ | refine lB ?_ fun _ => ?_
theorem laws_FnOrderImage.mono : ∀ a0 k, LeO (laws_FnOrderImage.f k a0) (laws_FnOrderImage.f (k + 1) a0) := by
 intro a0 k
 obtain ⟨ih0, ih1, ih2⟩ := laws_FnOrderImage.mono_l k
 unfold laws_FnOrderImage.f
 repeat' first | (with_reducible first | exact ih0 _ _ _ _ _ _ _ _ _ _ _ _ _ _ _ _ | exact ih1 _ _ _ _ _ _ _ _ _ _ _ | exact ih2 _ _ _ _ _ _ _ _ _ _ _ _ _ _ | exact impl_LevelOf.mono _ _ _ | exact laws_equalImage.mono _ _ _ _ _ _ _ _ _ | exact spec_DrawOrderImage.mono _ _ | exact spec_OrderImage.mono _ _ _ _ _ _ | exact lR | exact lN | refine lI ?_ ?_ | refine lB ?_ fun _ => ?_) | exact ih0 _ _ _ _ _ _ _ _ _ _ _ _ _ _ _ _ | exact ih1 _ _ _ _ _ _ _ _ _ _ _ | exact ih2 _ _ _ _ _ _ _ _ _ _ _ _ _ _ | exact impl_LevelOf.mono _ _ _ | exact laws_equalImage.mono _ _ _ _ _ _ _ _ _ | exact spec_DrawOrderImage.mono _ _ | exact spec_OrderImage.mono _ _ _ _ _ _ | exact lN | refine lI ?_ ?_ | refine lB ?_ fun _ => ?_
def laws_FnOrderImage.T12 : Bool × List (List Nat × List Nat) := (true, [([], []), ([0], [0]), ([], []), ([1, 2], [1, 2]), ([3], [3]), ([], []), ([5], [5]), ([], []), ([6, 7], [6, 7]), ([8], [8]), ([], []), ([9, 10], [9, 10]), ([11], [11]), ([], []), ([13], [13]), ([12, 14], [12, 14]), ([4, 15], [4, 15]), ([16, 11], [16]), ([17], [17]), ([18, 17], [17, 18]), ([17], [17]), ([19, 20, 17], [17, 19, 20]), ([21, 17], [17, 21]), ([22, 17], [17, 22]), ([23, 17, 17], [17, 23]), ([24], [24]), ([25, 24], [24, 25]), ([24], [24]), ([26, 27, 24], [24, 26, 27]), ([28, 24], [24, 28]), ([29, 24], [24, 29]), ([24, 30, 17], [17, 24, 30]), ([17, 31], [17, 31]), ([32, 24], [32]), ([33], [33]), ([34, 33], [33, 34]), ([33], [33]), ([35, 36, 33], [33, 35, 36]), ([37, 33], [33, 37]), ([38, 33], [33, 38]), ([39, 33, 33], [33, 39]), ([40], [40]), ([41, 40], [40, 41]), ([40], [40]), ([42, 43, 40], [40, 42, 43]), ([44, 40], [40, 44]), ([45, 40], [40, 45]), ([40, 46, 33], [33, 40, 46]), ([33, 47], [33, 47])])
def laws_FnOrderImage.B12 : List Nat := [0, 1, 0, 7, 15, 0, 32, 0, 224, 480, 0, 2016, 4064, 0, 8192, 32736, 65535, 131071, 262143, 524287, 262143, 2097151, 4194303, 8388607, 16777215, 33554431, 67108863, 33554431, 268435455, 536870911, 1073741823, 2147483647, 4294967295, 8589934591, 17179869183, 34359738367, 17179869183, 137438953471, 274877906943, 549755813887, 1099511627775, 2199023255551, 4398046511103, 2199023255551, 17592186044415, 35184372088831, 70368744177663, 140737488355327, 281474976710655]
theorem laws_FnOrderImage.tab12 : rtab .any (opsOf Try.f5 12) = laws_FnOrderImage.T12 := by kernel_rfl
theorem laws_FnOrderImage.bits12 : waitsOk laws_FnOrderImage.T12.2 laws_FnOrderImage.B12 = true := by kernel_rfl
def laws_FnOrderImage.T19 : Bool × List (List Nat × List Nat) := (true, [([], []), ([0], [0]), ([1], [1]), ([2], [2]), ([3, 2], [2, 3]), ([4, 2], [2, 4]), ([2], [2]), ([6, 2], [2, 6]), ([7, 2], [2, 7]), ([5, 8, 2], [2, 5, 8]), ([2, 9], [2, 9]), ([10, 2], [10]), ([11], [11]), ([12, 11], [11, 12]), ([11], [11]), ([13, 14, 11], [11, 13, 14]), ([15, 11], [11, 15]), ([11], [11]), ([17, 11], [11, 17]), ([11], [11]), ([18, 19, 11], [11, 18, 19]), ([20, 11], [11, 20]), ([16, 21, 11], [11, 16, 21]), ([11, 22], [11, 22])])
def laws_FnOrderImage.B19 : List Nat := [0, 1, 3, 7, 15, 31, 7, 71, 199, 511, 1023, 2047, 4095, 8191, 4095, 32767, 65535, 4095, 135167, 4095, 921599, 1970175, 4194303, 8388607]
theorem laws_FnOrderImage.tab19 : rtab .any (opsOf Try.f5 19) = laws_FnOrderImage.T19 := by kernel_rfl
theorem laws_FnOrderImage.bits19 : waitsOk laws_FnOrderImage.T19.2 laws_FnOrderImage.B19 = true := by kernel_rfl
set_option maxHeartbeats 8000000 in
set_option maxRecDepth 100000 in
theorem laws_FnOrderImage.calls (k : Nat) (A0 : Option Addr) (c0 : Nat) (l0 : List Int) (r : Bool) (w : World) (hr0 : Kd.C (Kd.int .u8) w A0 l0.length l0) (hc0 : l0.length ≤ c0) (h : laws_FnOrderImage.f k l0 = some r) (hrt : r = true) :
  Calls Try.prog 5 #[.slice A0 l0.length c0] w fun e w' => e = .returned (.bool r) ∧ Below w.heap.size w w' := by
 have hu27 := Try.underlying27
 have HR0 := aM hr0
 have HC0 := aM hc0
 clear hr0 hc0
 have HB := aM (Below.refl w.heap.size w)
 unfold laws_FnOrderImage.f at h
 have H := h
 clear h
 by_cases c2 : (l0.length : Int) > 1048576
 ·rw [if_pos c2] at H
  have c2b0 : decide (1048576 < (l0.length : Int)) = true := decide_eq_true c2
  have c2b1 : decide (1048576 < l0.length) = true := decide_eq_true (by omega)
  clear c2
  obtain rfl := Option.some.inj H
  go_enter Try.func5, Try.ntmps5
  go_wp2
  go_ret
  exact ⟨qX, by exact qW HB.out⟩
 rw [if_neg c2] at H
 have c2b0 : decide (1048576 < (l0.length : Int)) = false := decide_eq_false c2
 have c2b1 : decide (1048576 < l0.length) = false := decide_eq_false (by omega)
 clear c2
 replace H := Option.bind_eq_some_iff.mp H
 obtain ⟨⟨t454, t455, t456, t457, t460⟩, A30, H⟩ := H
 replace H : ((impl_OrderImage.f t454 t455 t456 t457 t460).bind fun bt462 => ((spec_OrderImage.f k t454 t455 t456 t457 t460).bind fun bt470 => ((laws_equalImage.f k bt462.1 bt462.2.1 bt462.2.2.1 bt462.2.2.2.1 bt470.1 bt470.2.1 bt470.2.2.1 bt470.2.2.2.1).bind fun t478 => (if t478 = true then (if (bt462.2.2.2.2 != bt470.2.2.2.2) = true then (laws_FnOrderImage.j0 k t460 bt462.2.2.2.2 bt470.2.2.2.2 true t454 t455 t456 t457 bt462.1 bt462.2.1 bt462.2.2.1 bt462.2.2.2.1 bt470.1 bt470.2.1 bt470.2.2.1 bt470.2.2.2.1) else (laws_FnOrderImage.j0 k t460 bt462.2.2.2.2 bt470.2.2.2.2 (!bt462.2.2.2.2) t454 t455 t456 t457 bt462.1 bt462.2.1 bt462.2.2.1 bt462.2.2.2.1 bt470.1 bt470.2.1 bt470.2.2.1 bt470.2.2.2.1)) else (laws_FnOrderImage.j0 k t460 bt462.2.2.2.2 bt470.2.2.2.2 true t454 t455 t456 t457 bt462.1 bt462.2.1 bt462.2.2.1 bt462.2.2.2.1 bt470.1 bt470.2.1 bt470.2.2.1 bt470.2.2.2.1))))) = some r := H
 have A3 := aM A30
 clear A30
 replace H := Option.bind_eq_some_iff.mp H
 obtain ⟨⟨t462, t463, t464, t465, t468⟩, A40, H⟩ := H
 replace H : ((spec_OrderImage.f k t454 t455 t456 t457 t460).bind fun bt470 => ((laws_equalImage.f k t462 t463 t464 t465 bt470.1 bt470.2.1 bt470.2.2.1 bt470.2.2.2.1).bind fun t478 => (if t478 = true then (if (t468 != bt470.2.2.2.2) = true then (laws_FnOrderImage.j0 k t460 t468 bt470.2.2.2.2 true t454 t455 t456 t457 t462 t463 t464 t465 bt470.1 bt470.2.1 bt470.2.2.1 bt470.2.2.2.1) else (laws_FnOrderImage.j0 k t460 t468 bt470.2.2.2.2 (!t468) t454 t455 t456 t457 t462 t463 t464 t465 bt470.1 bt470.2.1 bt470.2.2.1 bt470.2.2.2.1)) else (laws_FnOrderImage.j0 k t460 t468 bt470.2.2.2.2 true t454 t455 t456 t457 t462 t463 t464 t465 bt470.1 bt470.2.1 bt470.2.2.1 bt470.2.2.2.1)))) = some r := H
 have A4 := aM A40
 clear A40
 replace H := Option.bind_eq_some_iff.mp H
 obtain ⟨⟨t470, t471, t472, t473, t476⟩, A50, H⟩ := H
 replace H : ((laws_equalImage.f k t462 t463 t464 t465 t470 t471 t472 t473).bind fun t478 => (if t478 = true then (if (t468 != t476) = true then (laws_FnOrderImage.j0 k t460 t468 t476 true t454 t455 t456 t457 t462 t463 t464 t465 t470 t471 t472 t473) else (laws_FnOrderImage.j0 k t460 t468 t476 (!t468) t454 t455 t456 t457 t462 t463 t464 t465 t470 t471 t472 t473)) else (laws_FnOrderImage.j0 k t460 t468 t476 true t454 t455 t456 t457 t462 t463 t464 t465 t470 t471 t472 t473))) = some r := H
 have A5 := aM A50
 clear A50
 have HC6 := aM H
 clear H
 go_enter Try.func5, Try.ntmps5
 go_upto_region 6 with (first | ((with_reducible refine gate_callee (f := 25) rfl ?_); refine gL (some 19) Try.func25 #[.slice A0 l0.length c0] ?_; (with_reducible refine (spec_DrawOrderImage.calls k _ _ l0 t454 t455 t456 t457 t460 _ ?side1 ?side2 A3.out).mono ?_); (case side1 => exact qC HR0.out); (case side2 => exact HC0.out); rintro e w7 ⟨v458, rfl, ho0, hb⟩; refine ⟨_, rfl, ?_⟩; have HO459 := aM (Kd.Q_lower ho0 (below_size (qW HB.out))); replace HB := bS HB hb; clear hb ho0) | ((with_reducible refine gate_dst (N := 3) rfl ?_); (try (refine gate_guard (by rfl) ?_; dsimp only)); refine bxE (N := 3) (cs := #[.int .i64 0, .int .i64 0, .int .i64 0, .slice none 0 0]) (t := 27) ?_; intro gb461 hg w8 hbox hb; replace HO459 := aM (Kd.Q_below (qQ HO459.out) hb); have BK461 := aM (hbox); have GW461 := gW hg HB; have GE461 := gW hg HB; replace HB := bS HB hb; clear hb hbox hg; obtain ⟨⟨hcz9_0, hcz9_1, hcz9_2, hcz9_3⟩, hfz9_0, hfz9_1, hfz9_2, hfz9_3⟩ := cf4 BK461; obtain ⟨Ao10, co10, eo10, _⟩ := Kd.Q_slice HO459.out; subst eo10) | ((with_reducible refine gate_callee (f := 21) rfl ?_); refine gL (some 25) Try.func21 #[.agg #[.int .i64 t454, .int .i64 t455, .int .i64 t456, .slice Ao10 t457.length co10], .int .i64 t460] ?_; (with_reducible refine (impl_OrderImage.calls t454 t455 t456 _ _ t457 t460 t462 t463 t464 t465 t468 _ ?side1 ?side2 A4.out).mono ?_); (case side1 => refine (Kd.Q_reads' (e := 3) (base := w.heap.size) (ok := fun k_ => True) (n := t457.length) (c := co10) ?_).2.2; exact (by (with_reducible repeat (first | apply Kd.Q_alloc | apply Kd.Q_drewN | apply Kd.Q_drew)); exact (Kd.Q_mono (qT HO459 BK461) (fun _ h_ => h_.1)))); (case side2 => exact (Kd.Q_reads' HO459.out).2.1); rintro e w11 ⟨v466, rfl, ho0, hb⟩; refine ⟨_, rfl, ?_⟩; have HO467 := aM (Kd.R_lower (Kd.R_new' ho0 (Kd.Q_lt (by (with_reducible repeat (first | apply Kd.Q_alloc | apply Kd.Q_drewN | apply Kd.Q_drew)); exact (Kd.Q_mono (qT HO459 BK461) (fun _ h_ => h_.1))))) (below_size (qW HB.out))); replace HO459 := aM (Kd.Q_elder' (by (with_reducible repeat (first | apply Kd.Q_alloc | apply Kd.Q_drewN | apply Kd.Q_drew)); exact (Kd.Q_mono (qT HO459 BK461) (fun _ h_ => h_.1))) (Kd.R_base ho0) hb); replace BK461 := aM (blk_below (g := gb461) (o := .cells #[.int .i64 t454, .int .i64 t455, .int .i64 t456, .slice Ao10 t457.length co10] 27 (0, 0)) (by exact bP BK461.out) hb); replace HB := bS HB hb; clear hb ho0) | ((with_reducible refine gate_dst (N := 5) rfl ?_); (try (refine gate_guard (by rfl) ?_; dsimp only)); refine bxE (N := 5) (cs := #[.int .i64 0, .int .i64 0, .int .i64 0, .slice none 0 0]) (t := 27) ?_; intro gb469 hg w12 hbox hb; replace HO459 := aM (Kd.Q_below (qQ HO459.out) hb); replace HO467 := aM (Kd.R_below (qR HO467.out) hb); have BK469 := aM (hbox); have GW469 := gW hg HB; have GE469 := gW hg HB; replace HB := bS HB hb; have NB461_469 := nL hg BK461; have NB469_461 := nG hg BK461; replace BK461 := bB BK461 hb; clear hb hbox hg; have hnb13 := NB469_461.out; have hnc13 := NB461_469.out; obtain ⟨⟨hcz14_0, hcz14_1, hcz14_2, hcz14_3⟩, hfz14_0, hfz14_1, hfz14_2, hfz14_3⟩ := cf4 BK469; obtain ⟨Ao15, co15, rfl⟩ := sL HO467; obtain ⟨⟨hcz16_0, hcz16_1, hcz16_2, hcz16_3⟩, hfz16_0, hfz16_1, hfz16_2, hfz16_3⟩ := cf4 BK461) | ((with_reducible refine gate_callee (f := 19) rfl ?_); refine gL (some 31) Try.func19 #[.agg #[.int .i64 t454, .int .i64 t455, .int .i64 t456, .slice Ao10 t457.length co10], .int .i64 t460] ?_; (with_reducible refine (spec_OrderImage.calls k t454 t455 t456 _ _ t457 t460 t470 t471 t472 t473 t476 _ ?side1 ?side2 A5.out).mono ?_); (case side1 => refine (Kd.Q_reads' (e := 3) (base := w.heap.size) (ok := fun k_ => (True ∧ some k_ ≠ (.slice Ao15 t465.length co15 : Value).ownBlock)) (n := t457.length) (c := co10) ?_).2.2; exact (by (with_reducible repeat (first | apply Kd.Q_alloc | apply Kd.Q_drewN | apply Kd.Q_drew)); exact (Kd.Q_mono (qT HO459 BK469) (fun _ h_ => h_.1)))); (case side2 => exact (Kd.Q_reads' HO459.out).2.1); rintro e w17 ⟨v474, rfl, ho0, hb⟩; refine ⟨_, rfl, ?_⟩; have HO475 := aM (Kd.R_lower (Kd.R_new' (Kd.R_new' ho0 (Kd.Q_lt (by (with_reducible repeat (first | apply Kd.Q_alloc | apply Kd.Q_drewN | apply Kd.Q_drew)); exact (Kd.Q_mono (qT HO459 BK469) (fun _ h_ => h_.1))))) (Kd.R_lt (by refine qR ?_; exact (fr4 HO467 BK469)))) (below_size (qW HB.out))); replace HO459 := aM (Kd.Q_elder' (by (with_reducible repeat (first | apply Kd.Q_alloc | apply Kd.Q_drewN | apply Kd.Q_drew)); exact (Kd.Q_mono (qT HO459 BK469) (fun _ h_ => h_.1))) (Kd.R_base ho0) hb); replace HO467 := aM (Kd.R_elder' (by refine qR ?_; exact (fr4 HO467 BK469)) (Kd.R_base ho0) hb); replace BK461 := aM (blk_below (g := gb461) (o := .cells #[.int .i64 t454, .int .i64 t455, .int .i64 t456, .slice Ao10 t457.length co10] 27 (0, 0)) (by refine qB ?_; refine blk_far ?_ NB461_469.out _; refine qB ?_; refine blk_far ?_ NB461_469.out _; refine qB ?_; refine blk_far ?_ NB461_469.out _; refine qB ?_; refine blk_far ?_ NB461_469.out _; refine qB ?_; exact BK461.out) hb); replace BK469 := aM (blk_below (g := gb469) (o := .cells #[.int .i64 t462, .int .i64 t463, .int .i64 t464, .slice Ao15 t465.length co15] 27 (0, 0)) (by exact bP BK469.out) hb); replace HB := bS HB hb; clear hb ho0) | ((with_reducible refine gate_dst (N := 7) rfl ?_); (try (refine gate_guard (by rfl) ?_; dsimp only)); refine bxE (N := 7) (cs := #[.int .i64 0, .int .i64 0, .int .i64 0, .slice none 0 0]) (t := 27) ?_; intro gb477 hg w18 hbox hb; replace HO459 := aM (Kd.Q_below (qQ HO459.out) hb); replace HO467 := aM (Kd.R_below (qR HO467.out) hb); replace HO475 := aM (Kd.R_below (qR HO475.out) hb); have BK477 := aM (hbox); have GW477 := gW hg HB; have GE477 := gW hg HB; replace HB := bS HB hb; have NB461_477 := nL hg BK461; have NB477_461 := nG hg BK461; replace BK461 := bB BK461 hb; have NB469_477 := nL hg BK469; have NB477_469 := nG hg BK469; replace BK469 := bB BK469 hb; clear hb hbox hg; have hnb19 := NB477_461.out; have hnc19 := NB461_477.out; have hnb20 := NB477_469.out; have hnc20 := NB469_477.out; obtain ⟨⟨hcz21_0, hcz21_1, hcz21_2, hcz21_3⟩, hfz21_0, hfz21_1, hfz21_2, hfz21_3⟩ := cf4 BK477; obtain ⟨Ao22, co22, rfl⟩ := sL HO475))
 (try simp only [Act.put, List.setIfInBounds_toArray, List.set_cons_zero, List.set_cons_succ])
 go_cut [46] (fun v46 wc => ∃ (kq : Nat) (x46_5 : Bool), v46 = .bool x46_5 ∧ Aside0 (laws_FnOrderImage.j0 kq t460 t468 t476 x46_5 t454 t455 t456 t457 t462 t463 t464 t465 t470 t471 t472 t473 = some r) ∧ Aside0 (kq ≤ k) ∧ Aside0 (Kd.Q (Kd.int .i64) 3 wc w.heap.size (fun k_ => some k_ ≠ ((.slice Ao15 t465.length co15) : Value).ownBlock ∧ some k_ ≠ ((.slice Ao22 t473.length co22) : Value).ownBlock) (.slice Ao10 t457.length co10) t457) ∧ Aside0 (Kd.Q (Kd.int .i64) 3 wc w.heap.size (fun k_ => some k_ ≠ ((.slice Ao10 t457.length co10) : Value).ownBlock ∧ some k_ ≠ ((.slice Ao22 t473.length co22) : Value).ownBlock) (.slice Ao15 t465.length co15) t465) ∧ Aside0 (Kd.Q (Kd.int .i64) 3 wc w.heap.size (fun k_ => some k_ ≠ ((.slice Ao10 t457.length co10) : Value).ownBlock ∧ some k_ ≠ ((.slice Ao15 t465.length co15) : Value).ownBlock) (.slice Ao22 t473.length co22) t473) ∧ Aside0 (wc.heap[gb461]? = some (.cells #[.int .i64 t454, .int .i64 t455, .int .i64 t456, (.slice Ao10 t457.length co10)] 27 (0, 0))) ∧ Aside0 (wc.heap[gb469]? = some (.cells #[.int .i64 t462, .int .i64 t463, .int .i64 t464, (.slice Ao15 t465.length co15)] 27 (0, 0))) ∧ Aside0 (wc.heap[gb477]? = some (.cells #[.int .i64 t470, .int .i64 t471, .int .i64 t472, (.slice Ao22 t473.length co22)] 27 (0, 0))) ∧ Aside0 (Below w.heap.size w wc))
 case first =>
  have H := HC6.out
  clear HC6
  replace H := Option.bind_eq_some_iff.mp H
  obtain ⟨t478, A230, H⟩ := H
  replace H : (if t478 = true then (if (t468 != t476) = true then (laws_FnOrderImage.j0 k t460 t468 t476 true t454 t455 t456 t457 t462 t463 t464 t465 t470 t471 t472 t473) else (laws_FnOrderImage.j0 k t460 t468 t476 (!t468) t454 t455 t456 t457 t462 t463 t464 t465 t470 t471 t472 t473)) else (laws_FnOrderImage.j0 k t460 t468 t476 true t454 t455 t456 t457 t462 t463 t464 t465 t470 t471 t472 t473)) = some r := H
  have A23 := aM A230
  clear A230
  by_cases c24 : t478 = true
  rotate_left
  ·replace c24 := Bool.eq_false_iff.mpr c24
   subst c24
   have H1 : (laws_FnOrderImage.j0 k t460 t468 t476 true t454 t455 t456 t457 t462 t463 t464 t465 t470 t471 t472 t473) = some r := by rw [if_neg (show ¬ (false = true) by decide)] at H; exact H
   clear H
   have H := H1
   clear H1
   have H' := aM H
   clear H
   have hnb38 := NB469_461.out
   have hnc38 := NB461_469.out
   have hnb39 := NB469_477.out
   have hnc39 := NB477_469.out
   obtain ⟨⟨hcz40_0, hcz40_1, hcz40_2, hcz40_3⟩, hfz40_0, hfz40_1, hfz40_2, hfz40_3⟩ := cf4 BK469
   have hnb41 := NB477_461.out
   have hnc41 := NB461_477.out
   obtain ⟨⟨hcz42_0, hcz42_1, hcz42_2, hcz42_3⟩, hfz42_0, hfz42_1, hfz42_2, hfz42_3⟩ := cf4 BK477
   go_wp2_with (first | ((with_reducible refine gate_callee (f := 15) rfl ?_); refine gL (some 36) Try.func15 #[.agg #[.int .i64 t462, .int .i64 t463, .int .i64 t464, .slice Ao15 t465.length co15], .agg #[.int .i64 t470, .int .i64 t471, .int .i64 t472, .slice Ao22 t473.length co22]] ?_; (with_reducible refine (laws_equalImage.calls k t462 t463 t464 _ _ t465 t470 t471 t472 _ _ t473 false _ ?side1 ?side2 ?side3 ?side4 A23.out).mono ?_); (case side1 => refine (Kd.R_reads' (e := 3) (base := w.heap.size) (ok := fun k_ => ((True ∧ some k_ ≠ (.slice Ao10 t457.length co10 : Value).ownBlock) ∧ some k_ ≠ (.slice Ao22 t473.length co22 : Value).ownBlock)) (n := t465.length) (c := co15) ?_).2.2; exact (by refine qR ?_; exact (fr4 HO467 BK477))); (case side2 => exact (Kd.R_reads' HO467.out).2.1); (case side3 => refine (Kd.R_reads' (e := 3) (base := w.heap.size) (ok := fun k_ => ((True ∧ some k_ ≠ (.slice Ao10 t457.length co10 : Value).ownBlock) ∧ some k_ ≠ (.slice Ao15 t465.length co15 : Value).ownBlock)) (n := t473.length) (c := co22) ?_).2.2; exact (by refine qR ?_; exact (fr4 HO475 BK477))); (case side4 => exact (Kd.R_reads' HO475.out).2.1); rintro e w43 ⟨rfl, hb⟩; refine ⟨_, rfl, ?_⟩; replace HO459 := aM (Kd.Q_below (by (with_reducible repeat (first | apply Kd.Q_alloc | apply Kd.Q_drewN | apply Kd.Q_drew)); exact (Kd.Q_mono (qT HO459 BK477) (fun _ h_ => h_.1))) hb); replace HO467 := aM (Kd.R_below (by refine qR ?_; exact (fr4 HO467 BK477)) hb); replace HO475 := aM (Kd.R_below (by refine qR ?_; exact (fr4 HO475 BK477)) hb); replace BK461 := aM (blk_below (g := gb461) (o := .cells #[.int .i64 t454, .int .i64 t455, .int .i64 t456, .slice Ao10 t457.length co10] 27 (0, 0)) (by refine qB ?_; refine blk_far ?_ NB461_477.out _; refine qB ?_; refine blk_far ?_ NB461_477.out _; refine qB ?_; refine blk_far ?_ NB461_477.out _; refine qB ?_; refine blk_far ?_ NB461_477.out _; refine qB ?_; exact BK461.out) hb); replace BK469 := aM (blk_below (g := gb469) (o := .cells #[.int .i64 t462, .int .i64 t463, .int .i64 t464, .slice Ao15 t465.length co15] 27 (0, 0)) (by refine qB ?_; refine blk_far ?_ NB469_477.out _; refine qB ?_; refine blk_far ?_ NB469_477.out _; refine qB ?_; refine blk_far ?_ NB469_477.out _; refine qB ?_; refine blk_far ?_ NB469_477.out _; refine qB ?_; exact BK469.out) hb); replace BK477 := aM (blk_below (g := gb477) (o := .cells #[.int .i64 t470, .int .i64 t471, .int .i64 t472, .slice Ao22 t473.length co22] 27 (0, 0)) (by exact bP BK477.out) hb); replace HB := bS HB hb; clear hb))
   go_meet
   case rel => exact ⟨_, (true), qE, H', ⟨by first | omega | exact Nat.le_refl _⟩, ⟨by (with_reducible repeat (first | apply Kd.Q_alloc | apply Kd.Q_drewN | apply Kd.Q_drew)); exact Kd.Q_mono HO459.out (fun _ hk => ⟨hk.1.2, hk.2⟩)⟩, ⟨Kd.Q_of_R (by refine qR ?_; exact Kd.R_mono HO467.out (fun _ hk => ⟨hk.1.2, hk.2⟩))⟩, ⟨Kd.Q_of_R (by refine qR ?_; exact Kd.R_mono HO475.out (fun _ hk => ⟨hk.1.2, hk.2⟩))⟩, ⟨by refine qB ?_; exact BK461.out⟩, ⟨by refine qB ?_; exact BK469.out⟩, ⟨by refine qB ?_; exact BK477.out⟩, ⟨by exact qW HB.out⟩⟩
  subst c24
  have H1 : (if (t468 != t476) = true then (laws_FnOrderImage.j0 k t460 t468 t476 true t454 t455 t456 t457 t462 t463 t464 t465 t470 t471 t472 t473) else (laws_FnOrderImage.j0 k t460 t468 t476 (!t468) t454 t455 t456 t457 t462 t463 t464 t465 t470 t471 t472 t473)) = some r := by rw [if_pos rfl] at H; exact H
  clear H
  have H := H1
  clear H1
  by_cases c25 : (t468 != t476) = true
  rotate_left
  ·rw [if_neg c25] at H
   have c25b0 : (t468 != t476) = false := by simpa using c25
   (try (have c25b1 : decide (t468 = t476) = true := by simpa using c25))
   (try (have c25b2 : (t468 == t476) = true := by simpa using c25))
   clear c25
   (first | rw [c25b0] | (simp only [i64_w, i32_w]; rw [c25b0]) | skip)
   have H' := aM H
   clear H
   have hnb32 := NB469_461.out
   have hnc32 := NB461_469.out
   have hnb33 := NB469_477.out
   have hnc33 := NB477_469.out
   obtain ⟨⟨hcz34_0, hcz34_1, hcz34_2, hcz34_3⟩, hfz34_0, hfz34_1, hfz34_2, hfz34_3⟩ := cf4 BK469
   have hnb35 := NB477_461.out
   have hnc35 := NB461_477.out
   obtain ⟨⟨hcz36_0, hcz36_1, hcz36_2, hcz36_3⟩, hfz36_0, hfz36_1, hfz36_2, hfz36_3⟩ := cf4 BK477
   go_wp2_with (first | ((with_reducible refine gate_callee (f := 15) rfl ?_); refine gL (some 36) Try.func15 #[.agg #[.int .i64 t462, .int .i64 t463, .int .i64 t464, .slice Ao15 t465.length co15], .agg #[.int .i64 t470, .int .i64 t471, .int .i64 t472, .slice Ao22 t473.length co22]] ?_; (with_reducible refine (laws_equalImage.calls k t462 t463 t464 _ _ t465 t470 t471 t472 _ _ t473 true _ ?side1 ?side2 ?side3 ?side4 A23.out).mono ?_); (case side1 => refine (Kd.R_reads' (e := 3) (base := w.heap.size) (ok := fun k_ => ((True ∧ some k_ ≠ (.slice Ao10 t457.length co10 : Value).ownBlock) ∧ some k_ ≠ (.slice Ao22 t473.length co22 : Value).ownBlock)) (n := t465.length) (c := co15) ?_).2.2; exact (by refine qR ?_; exact (fr4 HO467 BK477))); (case side2 => exact (Kd.R_reads' HO467.out).2.1); (case side3 => refine (Kd.R_reads' (e := 3) (base := w.heap.size) (ok := fun k_ => ((True ∧ some k_ ≠ (.slice Ao10 t457.length co10 : Value).ownBlock) ∧ some k_ ≠ (.slice Ao15 t465.length co15 : Value).ownBlock)) (n := t473.length) (c := co22) ?_).2.2; exact (by refine qR ?_; exact (fr4 HO475 BK477))); (case side4 => exact (Kd.R_reads' HO475.out).2.1); rintro e w37 ⟨rfl, hb⟩; refine ⟨_, rfl, ?_⟩; replace HO459 := aM (Kd.Q_below (by (with_reducible repeat (first | apply Kd.Q_alloc | apply Kd.Q_drewN | apply Kd.Q_drew)); exact (Kd.Q_mono (qT HO459 BK477) (fun _ h_ => h_.1))) hb); replace HO467 := aM (Kd.R_below (by refine qR ?_; exact (fr4 HO467 BK477)) hb); replace HO475 := aM (Kd.R_below (by refine qR ?_; exact (fr4 HO475 BK477)) hb); replace BK461 := aM (blk_below (g := gb461) (o := .cells #[.int .i64 t454, .int .i64 t455, .int .i64 t456, .slice Ao10 t457.length co10] 27 (0, 0)) (by refine qB ?_; refine blk_far ?_ NB461_477.out _; refine qB ?_; refine blk_far ?_ NB461_477.out _; refine qB ?_; refine blk_far ?_ NB461_477.out _; refine qB ?_; refine blk_far ?_ NB461_477.out _; refine qB ?_; exact BK461.out) hb); replace BK469 := aM (blk_below (g := gb469) (o := .cells #[.int .i64 t462, .int .i64 t463, .int .i64 t464, .slice Ao15 t465.length co15] 27 (0, 0)) (by refine qB ?_; refine blk_far ?_ NB469_477.out _; refine qB ?_; refine blk_far ?_ NB469_477.out _; refine qB ?_; refine blk_far ?_ NB469_477.out _; refine qB ?_; refine blk_far ?_ NB469_477.out _; refine qB ?_; exact BK469.out) hb); replace BK477 := aM (blk_below (g := gb477) (o := .cells #[.int .i64 t470, .int .i64 t471, .int .i64 t472, .slice Ao22 t473.length co22] 27 (0, 0)) (by exact bP BK477.out) hb); replace HB := bS HB hb; clear hb))
   go_meet
   case rel => exact ⟨_, (!t468), qE, H', ⟨by first | omega | exact Nat.le_refl _⟩, ⟨by (with_reducible repeat (first | apply Kd.Q_alloc | apply Kd.Q_drewN | apply Kd.Q_drew)); exact Kd.Q_mono HO459.out (fun _ hk => ⟨hk.1.2, hk.2⟩)⟩, ⟨Kd.Q_of_R (by refine qR ?_; exact Kd.R_mono HO467.out (fun _ hk => ⟨hk.1.2, hk.2⟩))⟩, ⟨Kd.Q_of_R (by refine qR ?_; exact Kd.R_mono HO475.out (fun _ hk => ⟨hk.1.2, hk.2⟩))⟩, ⟨by refine qB ?_; exact BK461.out⟩, ⟨by refine qB ?_; exact BK469.out⟩, ⟨by refine qB ?_; exact BK477.out⟩, ⟨by exact qW HB.out⟩⟩
  rw [if_pos c25] at H
  have c25b0 : (t468 != t476) = true := c25
  (try (have c25b1 : decide (t468 = t476) = false := by simpa using c25))
  (try (have c25b2 : (t468 == t476) = false := by simpa using c25))
  (try (have c25b3 : ¬ (t468 = t476) := by simpa using c25))
  clear c25
  (first | rw [c25b0] | (simp only [i64_w, i32_w]; rw [c25b0]) | skip)
  have H' := aM H
  clear H
  have hnb26 := NB469_461.out
  have hnc26 := NB461_469.out
  have hnb27 := NB469_477.out
  have hnc27 := NB477_469.out
  obtain ⟨⟨hcz28_0, hcz28_1, hcz28_2, hcz28_3⟩, hfz28_0, hfz28_1, hfz28_2, hfz28_3⟩ := cf4 BK469
  have hnb29 := NB477_461.out
  have hnc29 := NB461_477.out
  obtain ⟨⟨hcz30_0, hcz30_1, hcz30_2, hcz30_3⟩, hfz30_0, hfz30_1, hfz30_2, hfz30_3⟩ := cf4 BK477
  go_wp2_with (first | ((with_reducible refine gate_callee (f := 15) rfl ?_); refine gL (some 36) Try.func15 #[.agg #[.int .i64 t462, .int .i64 t463, .int .i64 t464, .slice Ao15 t465.length co15], .agg #[.int .i64 t470, .int .i64 t471, .int .i64 t472, .slice Ao22 t473.length co22]] ?_; (with_reducible refine (laws_equalImage.calls k t462 t463 t464 _ _ t465 t470 t471 t472 _ _ t473 true _ ?side1 ?side2 ?side3 ?side4 A23.out).mono ?_); (case side1 => refine (Kd.R_reads' (e := 3) (base := w.heap.size) (ok := fun k_ => ((True ∧ some k_ ≠ (.slice Ao10 t457.length co10 : Value).ownBlock) ∧ some k_ ≠ (.slice Ao22 t473.length co22 : Value).ownBlock)) (n := t465.length) (c := co15) ?_).2.2; exact (by refine qR ?_; exact (fr4 HO467 BK477))); (case side2 => exact (Kd.R_reads' HO467.out).2.1); (case side3 => refine (Kd.R_reads' (e := 3) (base := w.heap.size) (ok := fun k_ => ((True ∧ some k_ ≠ (.slice Ao10 t457.length co10 : Value).ownBlock) ∧ some k_ ≠ (.slice Ao15 t465.length co15 : Value).ownBlock)) (n := t473.length) (c := co22) ?_).2.2; exact (by refine qR ?_; exact (fr4 HO475 BK477))); (case side4 => exact (Kd.R_reads' HO475.out).2.1); rintro e w31 ⟨rfl, hb⟩; refine ⟨_, rfl, ?_⟩; replace HO459 := aM (Kd.Q_below (by (with_reducible repeat (first | apply Kd.Q_alloc | apply Kd.Q_drewN | apply Kd.Q_drew)); exact (Kd.Q_mono (qT HO459 BK477) (fun _ h_ => h_.1))) hb); replace HO467 := aM (Kd.R_below (by refine qR ?_; exact (fr4 HO467 BK477)) hb); replace HO475 := aM (Kd.R_below (by refine qR ?_; exact (fr4 HO475 BK477)) hb); replace BK461 := aM (blk_below (g := gb461) (o := .cells #[.int .i64 t454, .int .i64 t455, .int .i64 t456, .slice Ao10 t457.length co10] 27 (0, 0)) (by refine qB ?_; refine blk_far ?_ NB461_477.out _; refine qB ?_; refine blk_far ?_ NB461_477.out _; refine qB ?_; refine blk_far ?_ NB461_477.out _; refine qB ?_; refine blk_far ?_ NB461_477.out _; refine qB ?_; exact BK461.out) hb); replace BK469 := aM (blk_below (g := gb469) (o := .cells #[.int .i64 t462, .int .i64 t463, .int .i64 t464, .slice Ao15 t465.length co15] 27 (0, 0)) (by refine qB ?_; refine blk_far ?_ NB469_477.out _; refine qB ?_; refine blk_far ?_ NB469_477.out _; refine qB ?_; refine blk_far ?_ NB469_477.out _; refine qB ?_; refine blk_far ?_ NB469_477.out _; refine qB ?_; exact BK469.out) hb); replace BK477 := aM (blk_below (g := gb477) (o := .cells #[.int .i64 t470, .int .i64 t471, .int .i64 t472, .slice Ao22 t473.length co22] 27 (0, 0)) (by exact bP BK477.out) hb); replace HB := bS HB hb; clear hb))
  go_meet
  case rel => exact ⟨_, (true), qE, H', ⟨by first | omega | exact Nat.le_refl _⟩, ⟨by (with_reducible repeat (first | apply Kd.Q_alloc | apply Kd.Q_drewN | apply Kd.Q_drew)); exact Kd.Q_mono HO459.out (fun _ hk => ⟨hk.1.2, hk.2⟩)⟩, ⟨Kd.Q_of_R (by refine qR ?_; exact Kd.R_mono HO467.out (fun _ hk => ⟨hk.1.2, hk.2⟩))⟩, ⟨Kd.Q_of_R (by refine qR ?_; exact Kd.R_mono HO475.out (fun _ hk => ⟨hk.1.2, hk.2⟩))⟩, ⟨by refine qB ?_; exact BK461.out⟩, ⟨by refine qB ?_; exact BK469.out⟩, ⟨by refine qB ?_; exact BK477.out⟩, ⟨by exact qW HB.out⟩⟩
 case rest =>
  clear HC6
  try clear c2
  try clear c2b0
  try clear c2b1
  try clear c24
  try clear c25
  try clear c25b0
  try clear c25b1
  try clear c25b2
  try clear hcz14_0 hcz14_1 hcz14_2 hcz14_3 hfz14_0 hfz14_1 hfz14_2 hfz14_3
  try clear hcz16_0 hcz16_1 hcz16_2 hcz16_3 hfz16_0 hfz16_1 hfz16_2 hfz16_3
  try clear hcz21_0 hcz21_1 hcz21_2 hcz21_3 hfz21_0 hfz21_1 hfz21_2 hfz21_3
  try clear hcz28_0 hcz28_1 hcz28_2 hcz28_3 hfz28_0 hfz28_1 hfz28_2 hfz28_3
  try clear hcz30_0 hcz30_1 hcz30_2 hcz30_3 hfz30_0 hfz30_1 hfz30_2 hfz30_3
  try clear hcz34_0 hcz34_1 hcz34_2 hcz34_3 hfz34_0 hfz34_1 hfz34_2 hfz34_3
  try clear hcz36_0 hcz36_1 hcz36_2 hcz36_3 hfz36_0 hfz36_1 hfz36_2 hfz36_3
  try clear hcz40_0 hcz40_1 hcz40_2 hcz40_3 hfz40_0 hfz40_1 hfz40_2 hfz40_3
  try clear hcz42_0 hcz42_1 hcz42_2 hcz42_3 hfz42_0 hfz42_1 hfz42_2 hfz42_3
  try clear hcz9_0 hcz9_1 hcz9_2 hcz9_3 hfz9_0 hfz9_1 hfz9_2 hfz9_3
  obtain ⟨kq, x46_5, rfl, HA, HJ5, HO_462003, HO_470003, HO_478003, BK461, BK469, BK477, HB⟩ := hcut
  cases kq with
  | zero => exact absurd HA.out (by simp [laws_FnOrderImage.j0])
  | succ kj5 =>
   have H := HA.out
   clear HA
   simp only [laws_FnOrderImage.j0] at H
   by_cases c44 : x46_5 = true
   ·subst c44
    have H1 : ((laws_equalImage.f kj5 t462 t463 t464 t465 t470 t471 t472 t473).bind fun t479 => (if t479 = true then (some (t468 == t476)) else (some false))) = some r := by rw [if_pos rfl] at H; exact H
    clear H
    have H := H1
    clear H1
    replace H := Option.bind_eq_some_iff.mp H
    obtain ⟨t479, A450, H⟩ := H
    replace H : (if t479 = true then (some (t468 == t476)) else (some false)) = some r := H
    have A45 := aM A450
    clear A450
    by_cases c46 : t479 = true
    rotate_left
    ·replace c46 := Bool.eq_false_iff.mpr c46
     subst c46
     have H1 : (some false) = some r := by rw [if_neg (show ¬ (false = true) by decide)] at H; exact H
     clear H
     have H := H1
     clear H1
     obtain rfl := Option.some.inj H
     exact absurd hrt (by decide)
    subst c46
    have H1 : (some (t468 == t476)) = some r := by rw [if_pos rfl] at H; exact H
    clear H
    have H := H1
    clear H1
    obtain rfl := Option.some.inj H
    have hnb47 := NB469_461.out
    have hnc47 := NB461_469.out
    have hnb48 := NB469_477.out
    have hnc48 := NB477_469.out
    obtain ⟨⟨hcz49_0, hcz49_1, hcz49_2, hcz49_3⟩, hfz49_0, hfz49_1, hfz49_2, hfz49_3⟩ := cf4 BK469
    have hnb50 := NB477_461.out
    have hnc50 := NB461_477.out
    obtain ⟨⟨hcz51_0, hcz51_1, hcz51_2, hcz51_3⟩, hfz51_0, hfz51_1, hfz51_2, hfz51_3⟩ := cf4 BK477
    go_wp2_with (first | ((with_reducible refine gate_callee (f := 15) rfl ?_); refine gL (some 49) Try.func15 #[.agg #[.int .i64 t462, .int .i64 t463, .int .i64 t464, .slice Ao15 t465.length co15], .agg #[.int .i64 t470, .int .i64 t471, .int .i64 t472, .slice Ao22 t473.length co22]] ?_; (with_reducible refine (laws_equalImage.calls kj5 t462 t463 t464 _ _ t465 t470 t471 t472 _ _ t473 true _ ?side1 ?side2 ?side3 ?side4 A45.out).mono ?_); (case side1 => exact qC (Kd.Q_reads' HO_470003.out).2.2); (case side2 => exact (Kd.Q_reads' HO_470003.out).2.1); (case side3 => exact qC (Kd.Q_reads' HO_478003.out).2.2); (case side4 => exact (Kd.Q_reads' HO_478003.out).2.1); rintro e w52 ⟨rfl, hb⟩; refine ⟨_, rfl, ?_⟩; replace HO_462003 := aM (Kd.Q_below (qQ HO_462003.out) hb); replace HO_470003 := aM (Kd.Q_below (qQ HO_470003.out) hb); replace HO_478003 := aM (Kd.Q_below (qQ HO_478003.out) hb); replace BK461 := bB BK461 hb; replace BK469 := bB BK469 hb; replace BK477 := bB BK477 hb; replace HB := bS HB hb; clear hb))
    go_ret
    exact ⟨qX, by exact qW HB.out⟩
   replace c44 := Bool.eq_false_iff.mpr c44
   subst c44
   have H1 : ((some (([] : List Int) : List Int)).bind fun y480 => (if y480.length + t457.length < 17592186044416 then (laws_FnOrderImage.l0 kj5 t460 (y480 ++ t457) 0 t454 t455 t456 t457 t462 t463 t464 t465) else (none))) = some r := by rw [if_neg (show ¬ (false = true) by decide)] at H; exact H
   clear H
   have H := H1
   clear H1
   obtain ⟨y480, hy480⟩ : ∃ y_ : List Int, y_ = (([] : List Int)) := ⟨_, rfl⟩
   replace H : (if y480.length + t457.length < 17592186044416 then (laws_FnOrderImage.l0 kj5 t460 (y480 ++ t457) 0 t454 t455 t456 t457 t462 t463 t464 t465) else (none)) = some r := rY hy480 H
   have Ny480 := aM hy480
   clear hy480
   replace H := iS H
   obtain ⟨c59, H⟩ := H
   have LMc59 := aM c59
   clear c59
   obtain ⟨y483, hy483⟩ : ∃ y_ : List Int, y_ = (y480 ++ t457) := ⟨_, rfl⟩
   replace H : (laws_FnOrderImage.l0 kj5 t460 y483 0 t454 t455 t456 t457 t462 t463 t464 t465) = some r := rY hy483 H
   have Ny483 := aM hy483
   clear hy483
   have H' := aM H
   clear H
   go_wp2_with (first | ((with_reducible refine gate_dst (N := 55) rfl ?_); (try (refine gate_guard (by rfl) ?_; dsimp only)); refine iL ([] : List Int) [] ?_; intro v481 w60 ho61 hb hg_ hnew_; clear hg_ hnew_; (first | rw [← Ny480.out] at ho61 | (simp only [Int.reduceToNat] at ho61; rw [← Ny480.out] at ho61)); have HO482 := aM (Kd.R_lower (Kd.R_new' (Kd.R_new' (Kd.R_new' ho61 (Kd.Q_lt (qQ HO_462003.out))) (Kd.Q_lt (qQ HO_470003.out))) (Kd.Q_lt (qQ HO_478003.out))) (below_size (qW HB.out))); replace HO_462003 := aM (Kd.Q_elder' (qQ HO_462003.out) (Kd.R_base ho61) hb); replace HO_470003 := aM (Kd.Q_elder' (qQ HO_470003.out) (Kd.R_base ho61) hb); replace HO_478003 := aM (Kd.Q_elder' (qQ HO_478003.out) (Kd.R_base ho61) hb); replace BK461 := bB BK461 hb; replace BK469 := bB BK469 hb; replace BK477 := bB BK477 hb; replace HB := bS HB hb; clear hb ho61; have hnb62 := NB461_469.out; have hnc62 := NB469_461.out; have hnb63 := NB461_477.out; have hnc63 := NB477_461.out; obtain ⟨⟨hcz64_0, hcz64_1, hcz64_2, hcz64_3⟩, hfz64_0, hfz64_1, hfz64_2, hfz64_3⟩ := cf4 BK461) | ((with_reducible refine gate_builtin (b := .append) (xs := #[.tmp 55, .tmp 57]) rfl ?_); (try (refine gate_guard (by rfl) ?_; dsimp only)); at_builtin; refine Kd.R_append_rows (Kd.int .i64) (w0 := w) w.heap.size rfl (.tmp 55) (.tmp 57) 25 3 (.int .i64 0) 8 rfl Try.underlying25 info3 rfl (by decide) (by omega) v481 y480 t457 _ _ _ (fun k_ => some k_ ≠ (.slice Ao10 t457.length co10 : Value).ownBlock ∧ some k_ ≠ (.slice Ao15 t465.length co15 : Value).ownBlock ∧ some k_ ≠ (.slice Ao22 t473.length co22 : Value).ownBlock) (fun _ => False) rfl rfl ?aO ?aR (fun _ _ h => h) (fun _ h => h.elim) ?aF ?aB ?aS ?aL ?_; (case aR => exact qC (Kd.Q_reads' HO_462003.out).2.2); (case aB => exact (qW HB.out)); (case aF => exact (fun k_ hk => ⟨Kd.fresh' (Kd.Q_lt (qQ HO_462003.out)) k_ hk, Kd.fresh' (Kd.Q_lt (qQ HO_470003.out)) k_ hk, Kd.fresh' (Kd.Q_lt (qQ HO_478003.out)) k_ hk⟩)); (case aO => exact (by refine qR ?_; exact Kd.R_mono HO482.out (fun _ hk => ⟨hk.1.1.2, ⟨hk.1.2, hk.2⟩⟩))); (case aS => exact (below_size (qW HB.out))); (case aL => have := LMc59.out; omega); intro v484 w65 ho hb hg hat; rw [← Ny483.out] at ho; replace HO_462003 := aM (Kd.Q_after (ok := (fun k_ => some k_ ≠ (.slice Ao15 t465.length co15 : Value).ownBlock ∧ some k_ ≠ (.slice Ao22 t473.length co22 : Value).ownBlock)) (qQ HO_462003.out) hg hat); replace HO_470003 := aM (Kd.Q_after (ok := (fun k_ => some k_ ≠ (.slice Ao10 t457.length co10 : Value).ownBlock ∧ some k_ ≠ (.slice Ao22 t473.length co22 : Value).ownBlock)) (qQ HO_470003.out) hg hat); replace HO_478003 := aM (Kd.Q_after (ok := (fun k_ => some k_ ≠ (.slice Ao10 t457.length co10 : Value).ownBlock ∧ some k_ ≠ (.slice Ao15 t465.length co15 : Value).ownBlock)) (qQ HO_478003.out) hg hat); replace BK461 := gB BK461 hg (Kd.R_ne HO482.out BK461.out (by decide)); replace BK469 := gB BK469 hg (Kd.R_ne HO482.out BK469.out (by decide)); replace BK477 := gB BK477 hg (Kd.R_ne HO482.out BK477.out (by decide)); replace HB := aM (hb); have HO485 := aM (ho); clear HO482; clear ho hb hg hat))
   go_loopg [10] kj5 (fun kq v10 w' => ∃ (x9_2 : List Int) (x10_2 : Int), v10 = .int .i64 x10_2 ∧ Aside0 (laws_FnOrderImage.l0 kq t460 x9_2 x10_2 t454 t455 t456 t457 t462 t463 t464 t465 = some r) ∧ Aside0 (kq ≤ kj5) ∧ Aside0 (Kd.R (Kd.int .i64) 3 w' w.heap.size (fun k_ => some k_ ≠ ((.slice Ao10 t457.length co10) : Value).ownBlock ∧ some k_ ≠ ((.slice Ao15 t465.length co15) : Value).ownBlock ∧ some k_ ≠ ((.slice Ao22 t473.length co22) : Value).ownBlock) v484 x9_2) ∧ Aside0 (Kd.Q (Kd.int .i64) 3 w' w.heap.size (fun k_ => some k_ ≠ (v484 : Value).ownBlock ∧ some k_ ≠ ((.slice Ao15 t465.length co15) : Value).ownBlock ∧ some k_ ≠ ((.slice Ao22 t473.length co22) : Value).ownBlock) (.slice Ao10 t457.length co10) t457) ∧ Aside0 (Kd.Q (Kd.int .i64) 3 w' w.heap.size (fun k_ => some k_ ≠ (v484 : Value).ownBlock ∧ some k_ ≠ ((.slice Ao10 t457.length co10) : Value).ownBlock ∧ some k_ ≠ ((.slice Ao22 t473.length co22) : Value).ownBlock) (.slice Ao15 t465.length co15) t465) ∧ Aside0 (Kd.Q (Kd.int .i64) 3 w' w.heap.size (fun k_ => some k_ ≠ (v484 : Value).ownBlock ∧ some k_ ≠ ((.slice Ao10 t457.length co10) : Value).ownBlock ∧ some k_ ≠ ((.slice Ao15 t465.length co15) : Value).ownBlock) (.slice Ao22 t473.length co22) t473) ∧ Aside0 (w'.heap[gb461]? = some (.cells #[.int .i64 t454, .int .i64 t455, .int .i64 t456, (.slice Ao10 t457.length co10)] 27 (0, 0))) ∧ Aside0 (w'.heap[gb469]? = some (.cells #[.int .i64 t462, .int .i64 t463, .int .i64 t464, (.slice Ao15 t465.length co15)] 27 (0, 0))) ∧ Aside0 (w'.heap[gb477]? = some (.cells #[.int .i64 t470, .int .i64 t471, .int .i64 t472, (.slice Ao22 t473.length co22)] 27 (0, 0))) ∧ Aside0 (Below w.heap.size w w'))
   case atStart => exact ⟨(y483), (0), qE, H', ⟨Nat.le_refl _⟩, ⟨by refine qR ?_; exact HO485.out⟩, ⟨by (with_reducible repeat (first | apply Kd.Q_alloc | apply Kd.Q_drewN | apply Kd.Q_drew)); exact Kd.Q_mono HO_462003.out (fun _ hk => ⟨hk.2, ⟨hk.1.1, hk.1.2⟩⟩)⟩, ⟨by (with_reducible repeat (first | apply Kd.Q_alloc | apply Kd.Q_drewN | apply Kd.Q_drew)); exact Kd.Q_mono HO_470003.out (fun _ hk => ⟨hk.2, ⟨hk.1.1, hk.1.2⟩⟩)⟩, ⟨by (with_reducible repeat (first | apply Kd.Q_alloc | apply Kd.Q_drewN | apply Kd.Q_drew)); exact Kd.Q_mono HO_478003.out (fun _ hk => ⟨hk.2, ⟨hk.1.1, hk.1.2⟩⟩)⟩, ⟨by refine qB ?_; exact BK461.out⟩, ⟨by refine qB ?_; exact BK469.out⟩, ⟨by refine qB ?_; exact BK477.out⟩, ⟨by exact qW HB.out⟩⟩
   case round =>
    clear H'
    try clear c2
    try clear c2b0
    try clear c2b1
    try clear c24
    try clear c25
    try clear c25b0
    try clear c25b1
    try clear c25b2
    try clear c44
    try clear c46
    try clear c59
    try clear hcz14_0 hcz14_1 hcz14_2 hcz14_3 hfz14_0 hfz14_1 hfz14_2 hfz14_3
    try clear hcz16_0 hcz16_1 hcz16_2 hcz16_3 hfz16_0 hfz16_1 hfz16_2 hfz16_3
    try clear hcz21_0 hcz21_1 hcz21_2 hcz21_3 hfz21_0 hfz21_1 hfz21_2 hfz21_3
    try clear hcz28_0 hcz28_1 hcz28_2 hcz28_3 hfz28_0 hfz28_1 hfz28_2 hfz28_3
    try clear hcz30_0 hcz30_1 hcz30_2 hcz30_3 hfz30_0 hfz30_1 hfz30_2 hfz30_3
    try clear hcz34_0 hcz34_1 hcz34_2 hcz34_3 hfz34_0 hfz34_1 hfz34_2 hfz34_3
    try clear hcz36_0 hcz36_1 hcz36_2 hcz36_3 hfz36_0 hfz36_1 hfz36_2 hfz36_3
    try clear hcz40_0 hcz40_1 hcz40_2 hcz40_3 hfz40_0 hfz40_1 hfz40_2 hfz40_3
    try clear hcz42_0 hcz42_1 hcz42_2 hcz42_3 hfz42_0 hfz42_1 hfz42_2 hfz42_3
    try clear hcz49_0 hcz49_1 hcz49_2 hcz49_3 hfz49_0 hfz49_1 hfz49_2 hfz49_3
    try clear hcz51_0 hcz51_1 hcz51_2 hcz51_3 hfz51_0 hfz51_1 hfz51_2 hfz51_3
    try clear hcz64_0 hcz64_1 hcz64_2 hcz64_3 hfz64_0 hfz64_1 hfz64_2 hfz64_3
    try clear hcz9_0 hcz9_1 hcz9_2 hcz9_3 hfz9_0 hfz9_1 hfz9_2 hfz9_3
    obtain ⟨x9_2, x10_2, rfl, HA, HK2, HO_9, HO_462003, HO_470003, HO_478003, BK461, BK469, BK477, HB⟩ := hrel
    cases gk with
    | zero => exact absurd HA.out (by simp [laws_FnOrderImage.l0])
    | succ k2 =>
     have H := HA.out
     clear HA
     simp only [laws_FnOrderImage.l0] at H
     by_cases c66 : x10_2 < (t457.length : Int)
     rotate_left
     ·rw [if_neg c66] at H
      have c66b0 : decide (x10_2 < (t457.length : Int)) = false := decide_eq_false c66
      clear c66
      replace H := Option.bind_eq_some_iff.mp H
      obtain ⟨⟨t503, t504, t505, t506, t509⟩, A1420, H⟩ := H
      replace H : (laws_FnOrderImage.l1 k2 t509 0 t454 t455 t456 t457 t462 t463 t464 t465 t503 t504 t505 t506) = some r := H
      have A142 := aM A1420
      clear A1420
      have H' := aM H
      clear H
      have hnb143 := NB461_469.out
      have hnc143 := NB469_461.out
      have hnb144 := NB461_477.out
      have hnc144 := NB477_461.out
      obtain ⟨⟨hcz145_0, hcz145_1, hcz145_2, hcz145_3⟩, hfz145_0, hfz145_1, hfz145_2, hfz145_3⟩ := cf4 BK461
      obtain ⟨Ao146, co146, rfl⟩ := sL HO_9
      go_wp2_with (first | ((with_reducible refine gate_callee (f := 21) rfl ?_); refine gL (some 133) Try.func21 #[.agg #[.int .i64 t454, .int .i64 t455, .int .i64 1, .slice Ao146 x9_2.length co146], .int .i64 t460] ?_; (with_reducible refine (impl_OrderImage.calls t454 t455 1 _ _ x9_2 t460 t503 t504 t505 t506 t509 _ ?side1 ?side2 A142.out).mono ?_); (case side1 => exact qC (Kd.R_reads' HO_9.out).2.2); (case side2 => exact (Kd.R_reads' HO_9.out).2.1); rintro e w147 ⟨v507, rfl, ho0, hb⟩; refine ⟨_, rfl, ?_⟩; have HO508 := aM (Kd.R_lower (Kd.R_new' (Kd.R_new' (Kd.R_new' (Kd.R_new' ho0 (Kd.R_lt (qR HO_9.out))) (Kd.Q_lt (qQ HO_462003.out))) (Kd.Q_lt (qQ HO_470003.out))) (Kd.Q_lt (qQ HO_478003.out))) (below_size (qW HB.out))); replace HO_9 := aM (Kd.R_elder' (qR HO_9.out) (Kd.R_base ho0) hb); replace HO_462003 := aM (Kd.Q_elder' (qQ HO_462003.out) (Kd.R_base ho0) hb); replace HO_470003 := aM (Kd.Q_elder' (qQ HO_470003.out) (Kd.R_base ho0) hb); replace HO_478003 := aM (Kd.Q_elder' (qQ HO_478003.out) (Kd.R_base ho0) hb); replace BK461 := bB BK461 hb; replace BK469 := bB BK469 hb; replace BK477 := bB BK477 hb; replace HB := bS HB hb; clear hb ho0) | ((with_reducible refine gate_dst (N := 11) rfl ?_); (try (refine gate_guard (by rfl) ?_; dsimp only)); refine bxE (N := 11) (cs := #[.int .i64 0, .int .i64 0, .int .i64 0, .slice none 0 0]) (t := 27) ?_; intro gb510 hg w148 hbox hb; replace HO_9 := aM (Kd.R_below (qR HO_9.out) hb); replace HO_462003 := aM (Kd.Q_below (qQ HO_462003.out) hb); replace HO_470003 := aM (Kd.Q_below (qQ HO_470003.out) hb); replace HO_478003 := aM (Kd.Q_below (qQ HO_478003.out) hb); replace HO508 := aM (Kd.R_below (qR HO508.out) hb); have BK510 := aM (hbox); have GW510 := gW hg HB; have GE510 := gW hg HB; replace HB := bS HB hb; have NB461_510 := nL hg BK461; have NB510_461 := nG hg BK461; replace BK461 := bB BK461 hb; have NB469_510 := nL hg BK469; have NB510_469 := nG hg BK469; replace BK469 := bB BK469 hb; have NB477_510 := nL hg BK477; have NB510_477 := nG hg BK477; replace BK477 := bB BK477 hb; clear hb hbox hg; have hnb149 := NB510_461.out; have hnc149 := NB461_510.out; have hnb150 := NB510_469.out; have hnc150 := NB469_510.out; have hnb151 := NB510_477.out; have hnc151 := NB477_510.out; obtain ⟨⟨hcz152_0, hcz152_1, hcz152_2, hcz152_3⟩, hfz152_0, hfz152_1, hfz152_2, hfz152_3⟩ := cf4 BK510; obtain ⟨Ao153, co153, rfl⟩ := sL HO508))
      go_loopg [13] k2 (fun kq v13 w' => ∃ (x13_3 : Int), v13 = .int .i64 x13_3 ∧ Aside0 (laws_FnOrderImage.l1 kq t509 x13_3 t454 t455 t456 t457 t462 t463 t464 t465 t503 t504 t505 t506 = some r) ∧ Aside0 (kq ≤ k2) ∧ Aside0 (Kd.Q (Kd.int .i64) 3 w' w.heap.size (fun k_ => some k_ ≠ ((.slice Ao15 t465.length co15) : Value).ownBlock ∧ some k_ ≠ ((.slice Ao22 t473.length co22) : Value).ownBlock ∧ some k_ ≠ ((.slice Ao153 t506.length co153) : Value).ownBlock) (.slice Ao10 t457.length co10) t457) ∧ Aside0 (Kd.Q (Kd.int .i64) 3 w' w.heap.size (fun k_ => some k_ ≠ ((.slice Ao10 t457.length co10) : Value).ownBlock ∧ some k_ ≠ ((.slice Ao22 t473.length co22) : Value).ownBlock ∧ some k_ ≠ ((.slice Ao153 t506.length co153) : Value).ownBlock) (.slice Ao15 t465.length co15) t465) ∧ Aside0 (Kd.Q (Kd.int .i64) 3 w' w.heap.size (fun k_ => some k_ ≠ ((.slice Ao10 t457.length co10) : Value).ownBlock ∧ some k_ ≠ ((.slice Ao15 t465.length co15) : Value).ownBlock ∧ some k_ ≠ ((.slice Ao153 t506.length co153) : Value).ownBlock) (.slice Ao22 t473.length co22) t473) ∧ Aside0 (Kd.Q (Kd.int .i64) 3 w' w.heap.size (fun k_ => some k_ ≠ ((.slice Ao10 t457.length co10) : Value).ownBlock ∧ some k_ ≠ ((.slice Ao15 t465.length co15) : Value).ownBlock ∧ some k_ ≠ ((.slice Ao22 t473.length co22) : Value).ownBlock) (.slice Ao153 t506.length co153) t506) ∧ Aside0 (w'.heap[gb461]? = some (.cells #[.int .i64 t454, .int .i64 t455, .int .i64 t456, (.slice Ao10 t457.length co10)] 27 (0, 0))) ∧ Aside0 (w'.heap[gb469]? = some (.cells #[.int .i64 t462, .int .i64 t463, .int .i64 t464, (.slice Ao15 t465.length co15)] 27 (0, 0))) ∧ Aside0 (w'.heap[gb477]? = some (.cells #[.int .i64 t470, .int .i64 t471, .int .i64 t472, (.slice Ao22 t473.length co22)] 27 (0, 0))) ∧ Aside0 (w'.heap[gb510]? = some (.cells #[.int .i64 t503, .int .i64 t504, .int .i64 t505, (.slice Ao153 t506.length co153)] 27 (0, 0))) ∧ Aside0 (Below w.heap.size w w'))
      case atStart => exact ⟨(0), qE, H', ⟨Nat.le_refl _⟩, ⟨by (with_reducible repeat (first | apply Kd.Q_alloc | apply Kd.Q_drewN | apply Kd.Q_drew)); exact Kd.Q_mono (qT HO_462003 BK510) (fun _ hk => ⟨hk.1.1.2.1, ⟨hk.1.1.2.2, hk.1.2⟩⟩)⟩, ⟨by (with_reducible repeat (first | apply Kd.Q_alloc | apply Kd.Q_drewN | apply Kd.Q_drew)); exact Kd.Q_mono (qT HO_470003 BK510) (fun _ hk => ⟨hk.1.1.2.1, ⟨hk.1.1.2.2, hk.1.2⟩⟩)⟩, ⟨by (with_reducible repeat (first | apply Kd.Q_alloc | apply Kd.Q_drewN | apply Kd.Q_drew)); exact Kd.Q_mono (qT HO_478003 BK510) (fun _ hk => ⟨hk.1.1.2.1, ⟨hk.1.1.2.2, hk.1.2⟩⟩)⟩, ⟨Kd.Q_of_R (by refine qR ?_; exact Kd.R_mono (rT HO508 BK510) (fun _ hk => ⟨hk.1.1.1.2, ⟨hk.1.1.2, hk.1.2⟩⟩))⟩, ⟨by refine qB ?_; refine blk_far ?_ NB461_510.out _; refine qB ?_; refine blk_far ?_ NB461_510.out _; refine qB ?_; refine blk_far ?_ NB461_510.out _; refine qB ?_; refine blk_far ?_ NB461_510.out _; refine qB ?_; exact BK461.out⟩, ⟨by refine qB ?_; refine blk_far ?_ NB469_510.out _; refine qB ?_; refine blk_far ?_ NB469_510.out _; refine qB ?_; refine blk_far ?_ NB469_510.out _; refine qB ?_; refine blk_far ?_ NB469_510.out _; refine qB ?_; exact BK469.out⟩, ⟨by refine qB ?_; refine blk_far ?_ NB477_510.out _; refine qB ?_; refine blk_far ?_ NB477_510.out _; refine qB ?_; refine blk_far ?_ NB477_510.out _; refine qB ?_; refine blk_far ?_ NB477_510.out _; refine qB ?_; exact BK477.out⟩, ⟨by exact bP BK510.out⟩, ⟨by exact qW HB.out⟩⟩
      case round =>
       clear H'
       try clear c2
       try clear c66
       try clear c66b0
       try clear hcz145_0 hcz145_1 hcz145_2 hcz145_3 hfz145_0 hfz145_1 hfz145_2 hfz145_3
       try clear hcz152_0 hcz152_1 hcz152_2 hcz152_3 hfz152_0 hfz152_1 hfz152_2 hfz152_3
       obtain ⟨x13_3, rfl, HA, HK3, HO_462003, HO_470003, HO_478003, HO_511003, BK461, BK469, BK477, BK510, HB⟩ := hrel
       cases gk with
       | zero => exact absurd HA.out (by simp [laws_FnOrderImage.l1])
       | succ k3 =>
        have H := HA.out
        clear HA
        simp only [laws_FnOrderImage.l1] at H
        by_cases c154 : x13_3 < (t457.length : Int)
        rotate_left
        ·rw [if_neg c154] at H
         have c154b0 : decide (x13_3 < (t457.length : Int)) = false := decide_eq_false c154
         clear c154
         obtain rfl := Option.some.inj H
         have hnb181 := NB461_469.out
         have hnc181 := NB469_461.out
         have hnb182 := NB461_477.out
         have hnc182 := NB477_461.out
         have hnb183 := NB461_510.out
         have hnc183 := NB510_461.out
         obtain ⟨⟨hcz184_0, hcz184_1, hcz184_2, hcz184_3⟩, hfz184_0, hfz184_1, hfz184_2, hfz184_3⟩ := cf4 BK461
         go_wp2
         go_ret
         exact ⟨qX, by exact qW HB.out⟩
        rw [if_pos c154] at H
        have c154b0 : decide (x13_3 < (t457.length : Int)) = true := decide_eq_true c154
        clear c154
        by_cases c155 : t509 = true
        rotate_left
        ·replace c155 := Bool.eq_false_iff.mpr c155
         subst c155
         have H1 : (some false) = some r := by rw [if_neg (show ¬ (false = true) by decide)] at H; exact H
         clear H
         have H := H1
         clear H1
         obtain rfl := Option.some.inj H
         exact absurd hrt (by decide)
        subst c155
        have H1 : (if (t506.length : Int) = (t465.length : Int) then (if 0 ≤ x13_3 then (if x13_3 < (t506.length : Int) then (if x13_3 < (t465.length : Int) then (if (rd t506 x13_3) < (rd t465 x13_3) then (some false) else (laws_FnOrderImage.l1 k3 true (wrap64 (x13_3 + 1)) t454 t455 t456 t457 t462 t463 t464 t465 t503 t504 t505 t506)) else (none)) else (none)) else (none)) else (some false)) = some r := by rw [if_pos rfl] at H; exact H
        clear H
        have H := H1
        clear H1
        by_cases c156 : (t506.length : Int) = (t465.length : Int)
        rotate_left
        ·rw [if_neg c156] at H
         have c156b0 : ((t506.length : Int) == (t465.length : Int)) = false := beq_eq_false_iff_ne.mpr c156
         have c156b1 : ((t506.length : Int) != (t465.length : Int)) = true := bne_iff_ne.mpr c156
         have c156b2 : (t506.length == t465.length) = false := by first | simpa using c156 | (simp at c156 ⊢; omega)
         obtain rfl := Option.some.inj H
         exact absurd hrt (by decide)
        rw [if_pos c156] at H
        have c156b0 : ((t506.length : Int) == (t465.length : Int)) = true := beq_iff_eq.mpr c156
        have c156b1 : ((t506.length : Int) != (t465.length : Int)) = false := bne_eq_false_iff_eq.mpr c156
        have c156b2 : (t506.length == t465.length) = true := by first | simpa using c156 | (simp at c156 ⊢; omega)
        clear c156
        replace H := iD H
        obtain ⟨c157b0, H⟩ := H
        replace H := iD H
        obtain ⟨c158b0, H⟩ := H
        replace H := iD H
        obtain ⟨c159b0, H⟩ := H
        by_cases c160 : (rd t506 x13_3) < (rd t465 x13_3)
        ·rw [if_pos c160] at H
         have c160b0 : decide ((rd t506 x13_3) < (rd t465 x13_3)) = true := decide_eq_true c160
         clear c160
         obtain rfl := Option.some.inj H
         exact absurd hrt (by decide)
        rw [if_neg c160] at H
        have c160b0 : decide ((rd t506 x13_3) < (rd t465 x13_3)) = false := decide_eq_false c160
        clear c160
        have H' := aM H
        clear H
        have hnb166 := NB461_469.out
        have hnc166 := NB469_461.out
        have hnb167 := NB461_477.out
        have hnc167 := NB477_461.out
        have hnb168 := NB461_510.out
        have hnc168 := NB510_461.out
        obtain ⟨⟨hcz169_0, hcz169_1, hcz169_2, hcz169_3⟩, hfz169_0, hfz169_1, hfz169_2, hfz169_3⟩ := cf4 BK461
        try go_wp2
        replace HO_462003 := aM (Kd.Q_drew HO_462003.out)
        replace HO_470003 := aM (Kd.Q_drew HO_470003.out)
        replace HO_478003 := aM (Kd.Q_drew HO_478003.out)
        replace HO_511003 := aM (Kd.Q_drew HO_511003.out)
        replace BK461 := aM (blk_drew BK461.out)
        replace BK469 := aM (blk_drew BK469.out)
        replace BK477 := aM (blk_drew BK477.out)
        replace BK510 := aM (blk_drew BK510.out)
        replace HB := aM (below_drew1 HB.out)
        obtain ⟨ad511, e511, hx511_0⟩ := Kd.at_int (Kd.Q_reads' HO_511003.out).2.2 x13_3 oD oD
        cases e511
        have p511 := eq_true (oD : 0 ≤ (x13_3 : Int))
        have q511 := eq_true (oD : x13_3 < (t506.length : Int))
        obtain ⟨ad512, e512, hx512_0⟩ := Kd.at_int (Kd.Q_reads' HO_470003.out).2.2 x13_3 oD oD
        cases e512
        have p512 := eq_true (oD : 0 ≤ (x13_3 : Int))
        have q512 := eq_true (oD : x13_3 < (t465.length : Int))
        refine start_ (n := 24) (S := fun w' => w'.cell? ⟨gb510, 0, none⟩ = some (.int .i64 t503) ∧ w'.cell? ⟨gb510, 1, none⟩ = some (.int .i64 t504) ∧ w'.cell? ⟨gb510, 2, none⟩ = some (.int .i64 t505) ∧ w'.cell? ⟨gb510, 3, none⟩ = some (.slice (some ad511) t506.length co153) ∧ w'.cell? ⟨gb469, 0, none⟩ = some (.int .i64 t462) ∧ w'.cell? ⟨gb469, 1, none⟩ = some (.int .i64 t463) ∧ w'.cell? ⟨gb469, 2, none⟩ = some (.int .i64 t464) ∧ w'.cell? ⟨gb469, 3, none⟩ = some (.slice (some ad512) t465.length co15) ∧ w'.cell? (ad511.add (x13_3).toNat) = some (.int .i64 (rd t506 x13_3)) ∧ w'.cell? (ad512.add (x13_3).toNat) = some (.int .i64 (rd t465 x13_3))) (ds := []) (bA 24 0) (by kernel_rfl) rfl rfl ⟨(blk_cell BK510.out 0).trans rfl, (blk_cell BK510.out 1).trans rfl, (blk_cell BK510.out 2).trans rfl, (blk_cell BK510.out 3).trans rfl, (blk_cell BK469.out 0).trans rfl, (blk_cell BK469.out 1).trans rfl, (blk_cell BK469.out 2).trans rfl, (blk_cell BK469.out 3).trans rfl, hx511_0, hx512_0⟩ (fun hHeld => ?_); refine with_tabW laws_FnOrderImage.tab19 laws_FnOrderImage.bits19 (fun HT_ HW_ => ?_)
        generalize wr.drew = w170 at HO_462003 HO_470003 HO_478003 HO_511003 BK461 BK469 BK477 BK510 HB hx511_0 hx512_0 hHeld ⊢
        refine pQ 0 143 HT_ (bA 24 1) ?_
        refine pQ 1 144 HT_ (bA 24 3) ?_
        refine pQ 2 145 HT_ (bA 24 7) ?_
        refine pQ 3 146 HT_ (bA 24 15) ?_
        refine pQ 6 149 HT_ (bA 24 79) ?_
        refine take_ (i := 4) (N := some 147) (v := ?_) (a' := ?_) (bA 24 95) rfl rfl (take_ofW HT_.out HW_.out (by kernel_rfl)) (fun _ _ _ h => h) (Or.inl ⟨by rfl, ?_⟩) hHeld ?_ ?_
        rotate_left
        ·rintro w' ⟨s0, s1, s2, s3, s4, s5, s6, s7, s8, s9⟩
         go_simp
         with_reducible rfl
        rotate_left
        ·refine pZ ?_
         rfl
        refine pQ 5 148 HT_ (bA 24 127) ?_
        refine take_ (i := 7) (N := some 150) (v := ?_) (a' := ?_) (bA 24 255) rfl rfl (take_ofW HT_.out HW_.out (by kernel_rfl)) (fun _ _ _ h => h) (Or.inl ⟨by rfl, ?_⟩) hHeld ?_ ?_
        rotate_left
        ·rintro w' ⟨s0, s1, s2, s3, s4, s5, s6, s7, s8, s9⟩
         go_simp
         with_reducible rfl
        rotate_left
        ·refine pZ ?_
         rfl
        refine pQ 8 151 HT_ (bA 24 511) ?_
        refine pQ 9 152 HT_ (bA 24 1023) ?_
        refine pQ 10 153 HT_ (bA 24 2047) ?_
        refine pQ 11 154 HT_ (bA 24 4095) ?_
        refine pQ 12 155 HT_ (bA 24 8191) ?_
        refine pQ 14 157 HT_ (bA 24 24575) ?_
        refine pQ 17 160 HT_ (bA 24 155647) ?_
        refine pQ 19 162 HT_ (bA 24 679935) ?_
        refine take_ (i := 13) (N := some 156) (v := ?_) (a' := ?_) (bA 24 688127) rfl rfl (take_ofW HT_.out HW_.out (by kernel_rfl)) (fun _ _ _ h => h) (Or.inl ⟨by rfl, ?_⟩) hHeld ?_ ?_
        rotate_left
        ·rintro w' ⟨s0, s1, s2, s3, s4, s5, s6, s7, s8, s9⟩
         go_simp
         with_reducible rfl
        rotate_left
        ·refine pZ ?_
         rfl
        refine pQ 15 158 HT_ (bA 24 720895) ?_
        refine take_ (i := 16) (N := some 159) (v := ?_) (a' := ?_) (bA 24 786431) rfl rfl (take_ofW HT_.out HW_.out (by kernel_rfl)) (fun _ _ _ h => h) (Or.inl ⟨by rfl, ?_⟩) hHeld ?_ ?_
        rotate_left
        ·rintro w' ⟨s0, s1, s2, s3, s4, s5, s6, s7, s8, s9⟩
         go_simp
         with_reducible rfl
        rotate_left
        ·refine pZ ?_
         rfl
        refine take_ (i := 18) (N := some 161) (v := ?_) (a' := ?_) (bA 24 1048575) rfl rfl (take_ofW HT_.out HW_.out (by kernel_rfl)) (fun _ _ _ h => h) (Or.inl ⟨by rfl, ?_⟩) hHeld ?_ ?_
        rotate_left
        ·rintro w' ⟨s0, s1, s2, s3, s4, s5, s6, s7, s8, s9⟩
         go_simp
         with_reducible rfl
        rotate_left
        ·refine pZ ?_
         rfl
        refine pQ 20 163 HT_ (bA 24 2097151) ?_
        refine take_ (i := 21) (N := some 164) (v := ?_) (a' := ?_) (bA 24 4194303) rfl rfl (take_ofW HT_.out HW_.out (by kernel_rfl)) (fun _ _ _ h => h) (Or.inl ⟨by rfl, ?_⟩) hHeld ?_ ?_
        rotate_left
        ·rintro w' ⟨s0, s1, s2, s3, s4, s5, s6, s7, s8, s9⟩
         go_simp
         with_reducible rfl
        rotate_left
        ·refine pZ ?_
         rfl
        refine pQ 22 165 HT_ (bA 24 8388607) ?_
        refine pQ 23 166 HT_ (bA 24 16777215) ?_
        refine done_ (done_of HT_.out (by kernel_rfl)) ?_
        try go_wp2
        go_roundg k3
        case measure => have := HJ5.out; have := HK2.out; have := HK3.out; omega
        case rel => exact ⟨(wrap64 (x13_3 + 1)), qE, H', ⟨by have := HJ5.out; have := HK2.out; have := HK3.out; omega⟩, ⟨by (with_reducible repeat (first | apply Kd.Q_alloc | apply Kd.Q_drewN | apply Kd.Q_drew)); exact HO_462003.out⟩, ⟨by (with_reducible repeat (first | apply Kd.Q_alloc | apply Kd.Q_drewN | apply Kd.Q_drew)); exact HO_470003.out⟩, ⟨by (with_reducible repeat (first | apply Kd.Q_alloc | apply Kd.Q_drewN | apply Kd.Q_drew)); exact HO_478003.out⟩, ⟨by (with_reducible repeat (first | apply Kd.Q_alloc | apply Kd.Q_drewN | apply Kd.Q_drew)); exact HO_511003.out⟩, ⟨by refine qB ?_; exact BK461.out⟩, ⟨by refine qB ?_; exact BK469.out⟩, ⟨by refine qB ?_; exact BK477.out⟩, ⟨by refine qB ?_; exact BK510.out⟩, ⟨by exact qW HB.out⟩⟩
     rw [if_pos c66] at H
     have c66b0 : decide (x10_2 < (t457.length : Int)) = true := decide_eq_true c66
     clear c66
     replace H := iD H
     obtain ⟨c67b0, H⟩ := H
     replace H := iD H
     obtain ⟨c68b0, H⟩ := H
     replace H := Option.bind_eq_some_iff.mp H
     obtain ⟨t488, A690, H⟩ := H
     replace H : (if (wrap64 (t460 - 1)) = 0 then (none) else (if (rd t465 x10_2) = (wrap64 (Int.tdiv (wrap64 (255 * t488)) (wrap64 (t460 - 1)))) then (if (rd t457 x10_2) = 0 then (if (rd t465 x10_2) = 0 then (if (rd t457 x10_2) = 255 then (if (rd t465 x10_2) = 255 then (if x10_2 < (x9_2.length : Int) then (laws_FnOrderImage.l0 k2 t460 (x9_2.set (x10_2 : Int).toNat (mn 255 (wrap64 ((rd t457 x10_2) + 20)))) (wrap64 (x10_2 + 1)) t454 t455 t456 t457 t462 t463 t464 t465) else (none)) else (some false)) else (if x10_2 < (x9_2.length : Int) then (laws_FnOrderImage.l0 k2 t460 (x9_2.set (x10_2 : Int).toNat (mn 255 (wrap64 ((rd t457 x10_2) + 20)))) (wrap64 (x10_2 + 1)) t454 t455 t456 t457 t462 t463 t464 t465) else (none))) else (some false)) else (if (rd t457 x10_2) = 255 then (if (rd t465 x10_2) = 255 then (if x10_2 < (x9_2.length : Int) then (laws_FnOrderImage.l0 k2 t460 (x9_2.set (x10_2 : Int).toNat (mn 255 (wrap64 ((rd t457 x10_2) + 20)))) (wrap64 (x10_2 + 1)) t454 t455 t456 t457 t462 t463 t464 t465) else (none)) else (some false)) else (if x10_2 < (x9_2.length : Int) then (laws_FnOrderImage.l0 k2 t460 (x9_2.set (x10_2 : Int).toNat (mn 255 (wrap64 ((rd t457 x10_2) + 20)))) (wrap64 (x10_2 + 1)) t454 t455 t456 t457 t462 t463 t464 t465) else (none)))) else (some false))) = some r := H
     have A69 := aM A690
     clear A690
     by_cases c70 : (wrap64 (t460 - 1)) = 0
     ·rw [if_pos c70] at H
      exact absurd H (by simp)
     rw [if_neg c70] at H
     have c70b0 : ((wrap64 (t460 - 1)) == 0) = false := beq_eq_false_iff_ne.mpr c70
     have c70b1 : ((wrap64 (t460 - 1)) != 0) = true := bne_iff_ne.mpr c70
     by_cases c71 : (rd t465 x10_2) = (wrap64 (Int.tdiv (wrap64 (255 * t488)) (wrap64 (t460 - 1))))
     rotate_left
     ·rw [if_neg c71] at H
      have c71b0 : ((rd t465 x10_2) == (wrap64 (Int.tdiv (wrap64 (255 * t488)) (wrap64 (t460 - 1))))) = false := beq_eq_false_iff_ne.mpr c71
      have c71b1 : ((rd t465 x10_2) != (wrap64 (Int.tdiv (wrap64 (255 * t488)) (wrap64 (t460 - 1))))) = true := bne_iff_ne.mpr c71
      obtain rfl := Option.some.inj H
      exact absurd hrt (by decide)
     rw [if_pos c71] at H
     have c71b0 : ((rd t465 x10_2) == (wrap64 (Int.tdiv (wrap64 (255 * t488)) (wrap64 (t460 - 1))))) = true := beq_iff_eq.mpr c71
     have c71b1 : ((rd t465 x10_2) != (wrap64 (Int.tdiv (wrap64 (255 * t488)) (wrap64 (t460 - 1))))) = false := bne_eq_false_iff_eq.mpr c71
     clear c71
     by_cases c72 : (rd t457 x10_2) = 0
     rotate_left
     ·rw [if_neg c72] at H
      have c72b0 : ((rd t457 x10_2) == 0) = false := beq_eq_false_iff_ne.mpr c72
      have c72b1 : ((rd t457 x10_2) != 0) = true := bne_iff_ne.mpr c72
      by_cases c108 : (rd t457 x10_2) = 255
      rotate_left
      ·rw [if_neg c108] at H
       have c108b0 : ((rd t457 x10_2) == 255) = false := beq_eq_false_iff_ne.mpr c108
       have c108b1 : ((rd t457 x10_2) != 255) = true := bne_iff_ne.mpr c108
       obtain ⟨ji126, hji126⟩ : ∃ j_ : Int, (mn 255 (wrap64 ((rd t457 x10_2) + 20))) = j_ := ⟨_, rfl⟩
       replace H : (if x10_2 < (x9_2.length : Int) then (laws_FnOrderImage.l0 k2 t460 (x9_2.set (x10_2 : Int).toNat (ji126)) (wrap64 (x10_2 + 1)) t454 t455 t456 t457 t462 t463 t464 t465) else (none)) = some r := by first | (rw [hji126] at H; exact H) | (simp only [hji126] at H ⊢; exact H)
       (try rw [hji126] at A69)
       have hji126_ : (if (wrap64 ((rd t457 x10_2) + 20)) < 255 then (wrap64 ((rd t457 x10_2) + 20)) else 255) = ji126 := hji126
       replace H := iD H
       obtain ⟨c127b0, H⟩ := H
       obtain ⟨y502, hy502⟩ : ∃ y_ : List Int, y_ = (x9_2.set (x10_2 : Int).toNat (ji126)) := ⟨_, rfl⟩
       replace H : (laws_FnOrderImage.l0 k2 t460 y502 (wrap64 (x10_2 + 1)) t454 t455 t456 t457 t462 t463 t464 t465) = some r := rY hy502 H
       have Ny502 := aM hy502
       clear hy502
       have H' := aM H
       clear H
       have hnb129 := NB461_469.out
       have hnc129 := NB469_461.out
       have hnb130 := NB461_477.out
       have hnc130 := NB477_461.out
       obtain ⟨⟨hcz131_0, hcz131_1, hcz131_2, hcz131_3⟩, hfz131_0, hfz131_1, hfz131_2, hfz131_3⟩ := cf4 BK461
       try go_wp2
       replace HO_9 := aM (Kd.R_drew HO_9.out)
       replace HO_462003 := aM (Kd.Q_drew HO_462003.out)
       replace HO_470003 := aM (Kd.Q_drew HO_470003.out)
       replace HO_478003 := aM (Kd.Q_drew HO_478003.out)
       replace BK461 := aM (blk_drew BK461.out)
       replace BK469 := aM (blk_drew BK469.out)
       replace BK477 := aM (blk_drew BK477.out)
       replace HB := aM (below_drew1 HB.out)
       obtain ⟨ad486, e486, hx486_0⟩ := Kd.at_int (Kd.Q_reads' HO_470003.out).2.2 x10_2 oD oD
       cases e486
       have p486 := eq_true (oD : 0 ≤ (x10_2 : Int))
       have q486 := eq_true (oD : x10_2 < (t465.length : Int))
       obtain ⟨ad487, e487, hx487_0⟩ := Kd.at_int (Kd.Q_reads' HO_470003.out).2.2 x10_2 oD oD
       obtain rfl : ad486 = ad487 := (by injection e487)
       have p487 := eq_true (oD : 0 ≤ (x10_2 : Int))
       have q487 := eq_true (oD : x10_2 < (t465.length : Int))
       obtain ⟨ad489, e489, hx489_0⟩ := Kd.at_int (Kd.Q_reads' HO_462003.out).2.2 x10_2 oD oD
       cases e489
       have p489 := eq_true (oD : 0 ≤ (x10_2 : Int))
       have q489 := eq_true (oD : x10_2 < (t457.length : Int))
       obtain ⟨ad497, e497, hx497_0⟩ := Kd.at_int (Kd.Q_reads' HO_462003.out).2.2 x10_2 oD oD
       obtain rfl : ad489 = ad497 := (by injection e497)
       have p497 := eq_true (oD : 0 ≤ (x10_2 : Int))
       have q497 := eq_true (oD : x10_2 < (t457.length : Int))
       refine start_ (n := 49) (S := fun w' => w'.cell? ⟨gb469, 0, none⟩ = some (.int .i64 t462) ∧ w'.cell? ⟨gb469, 1, none⟩ = some (.int .i64 t463) ∧ w'.cell? ⟨gb469, 2, none⟩ = some (.int .i64 t464) ∧ w'.cell? ⟨gb469, 3, none⟩ = some (.slice (some ad486) t465.length co15) ∧ w'.cell? ⟨gb461, 0, none⟩ = some (.int .i64 t454) ∧ w'.cell? ⟨gb461, 1, none⟩ = some (.int .i64 t455) ∧ w'.cell? ⟨gb461, 2, none⟩ = some (.int .i64 t456) ∧ w'.cell? ⟨gb461, 3, none⟩ = some (.slice (some ad489) t457.length co10) ∧ w'.cell? (ad486.add (x10_2).toNat) = some (.int .i64 (rd t465 x10_2)) ∧ w'.cell? (ad486.add (x10_2).toNat) = some (.int .i64 (rd t465 x10_2)) ∧ w'.cell? (ad489.add (x10_2).toNat) = some (.int .i64 (rd t457 x10_2)) ∧ w'.cell? (ad489.add (x10_2).toNat) = some (.int .i64 (rd t457 x10_2))) (ds := []) (bA 49 0) (by kernel_rfl) rfl rfl ⟨(blk_cell BK469.out 0).trans rfl, (blk_cell BK469.out 1).trans rfl, (blk_cell BK469.out 2).trans rfl, (blk_cell BK469.out 3).trans rfl, (blk_cell BK461.out 0).trans rfl, (blk_cell BK461.out 1).trans rfl, (blk_cell BK461.out 2).trans rfl, (blk_cell BK461.out 3).trans rfl, hx486_0, hx487_0, hx489_0, hx497_0⟩ (fun hHeld => ?_); refine with_tabW laws_FnOrderImage.tab12 laws_FnOrderImage.bits12 (fun HT_ HW_ => ?_)
       generalize wr.drew = w132 at HO_9 HO_462003 HO_470003 HO_478003 BK461 BK469 BK477 HB hx486_0 hx487_0 hx489_0 hx497_0 hHeld ⊢
       refine pQ 0 66 HT_ (bA 49 1) ?_
       refine pQ 2 68 HT_ (bA 49 5) ?_
       refine pQ 5 71 HT_ (bA 49 37) ?_
       refine pQ 7 73 HT_ (bA 49 165) ?_
       refine pQ 10 76 HT_ (bA 49 1189) ?_
       refine pQ 13 79 HT_ (bA 49 9381) ?_
       refine pQ 14 80 HT_ (bA 49 25765) ?_
       refine take_ (i := 1) (N := some 67) (v := ?_) (a' := ?_) (bA 49 25767) rfl rfl (take_ofW HT_.out HW_.out (by kernel_rfl)) (fun _ _ _ h => h) (Or.inl ⟨by rfl, ?_⟩) hHeld ?_ ?_
       rotate_left
       ·rintro w' ⟨s0, s1, s2, s3, s4, s5, s6, s7, s8, s9, s10, s11⟩
        go_simp
        with_reducible rfl
       rotate_left
       ·refine pZ ?_
        rfl
       refine pQ 3 69 HT_ (bA 49 25775) ?_
       refine take_ (i := 4) (N := some 70) (v := ?_) (a' := ?_) (bA 49 25791) rfl rfl (take_ofW HT_.out HW_.out (by kernel_rfl)) (fun _ _ _ h => h) (Or.inl ⟨by rfl, ?_⟩) hHeld ?_ ?_
       rotate_left
       ·rintro w' ⟨s0, s1, s2, s3, s4, s5, s6, s7, s8, s9, s10, s11⟩
        go_simp
        with_reducible rfl
       rotate_left
       ·refine pZ ?_
        rfl
       refine take_ (i := 6) (N := some 72) (v := ?_) (a' := ?_) (bA 49 25855) rfl rfl (take_ofW HT_.out HW_.out (by kernel_rfl)) (fun _ _ _ h => h) (Or.inl ⟨by rfl, ?_⟩) hHeld ?_ ?_
       rotate_left
       ·rintro w' ⟨s0, s1, s2, s3, s4, s5, s6, s7, s8, s9, s10, s11⟩
        go_simp
        with_reducible rfl
       rotate_left
       ·refine pZ ?_
        rfl
       refine pQ 8 74 HT_ (bA 49 26111) ?_
       refine take_ (i := 9) (N := some 75) (v := ?_) (a' := ?_) (bA 49 26623) rfl rfl (take_ofW HT_.out HW_.out (by kernel_rfl)) (fun _ _ _ h => h) (Or.inl ⟨by rfl, ?_⟩) hHeld ?_ ?_
       rotate_left
       ·rintro w' ⟨s0, s1, s2, s3, s4, s5, s6, s7, s8, s9, s10, s11⟩
        go_simp
        with_reducible rfl
       rotate_left
       ·refine pZ ?_
        rfl
       refine one_ (i := 11) (N := some 77) (bA 49 28671) rfl rfl (one_of HT_.out (by kernel_rfl)) (by decide) (fun K hK => ?_)
       refine goes_ Try.func26 (by kernel_rfl) rfl #[.int .i64 (rd t465 x10_2), .int .i64 t460] (by rfl) rfl rfl qM ?_
       with_reducible refine (impl_LevelOf.calls k2 (rd t465 x10_2) t460 t488 _ A69.out).mono ?_
       rintro e w133 ⟨rfl, hb⟩
       have HS8_ := (hb.cell (World.block_lt_of_cell? _ _ (hHeld.2.2.2.2.2.2.2.2.1))).trans (hHeld.2.2.2.2.2.2.2.2.1)
       have HS9_ := (hb.cell (World.block_lt_of_cell? _ _ (hHeld.2.2.2.2.2.2.2.2.2.1))).trans (hHeld.2.2.2.2.2.2.2.2.2.1)
       have HS10_ := (hb.cell (World.block_lt_of_cell? _ _ (hHeld.2.2.2.2.2.2.2.2.2.2.1))).trans (hHeld.2.2.2.2.2.2.2.2.2.2.1)
       have HS11_ := (hb.cell (World.block_lt_of_cell? _ _ (hHeld.2.2.2.2.2.2.2.2.2.2.2))).trans (hHeld.2.2.2.2.2.2.2.2.2.2.2)
       refine ⟨_, rfl, ?_⟩
       replace HO_9 := aM (Kd.R_below (qR HO_9.out) hb)
       replace HO_462003 := aM (Kd.Q_below (qQ HO_462003.out) hb)
       replace HO_470003 := aM (Kd.Q_below (qQ HO_470003.out) hb)
       replace HO_478003 := aM (Kd.Q_below (qQ HO_478003.out) hb)
       replace BK461 := bB BK461 hb
       replace BK469 := bB BK469 hb
       replace BK477 := bB BK477 hb
       replace HB := bS HB hb
       (try clear hb)
       (try clear hb2)
       (try clear hk)
       (try clear hi)
       refine hK.out _ _ ⟨(blk_cell BK469.out 0).trans rfl, (blk_cell BK469.out 1).trans rfl, (blk_cell BK469.out 2).trans rfl, (blk_cell BK469.out 3).trans rfl, (blk_cell BK461.out 0).trans rfl, (blk_cell BK461.out 1).trans rfl, (blk_cell BK461.out 2).trans rfl, (blk_cell BK461.out 3).trans rfl, HS8_, HS9_, HS10_, HS11_⟩ (fun hHeld => ?_)
       clear hK K
       refine norm_ (a' := ?_) ?_ ?_
       rotate_left
       ·show Act.put _ (some 77) _ = _
        refine pZ ?_
        rfl
       refine pQ 12 78 HT_ (bA 49 32767) ?_
       refine pQ 15 81 HT_ (bA 49 65535) ?_
       refine pQ 16 82 HT_ (bA 49 131071) ?_
       refine pQ 17 83 HT_ (bA 49 262143) ?_
       refine pQ 18 84 HT_ (bA 49 524287) ?_
       refine pQ 20 86 HT_ (bA 49 1572863) ?_
       refine take_ (i := 19) (N := some 85) (v := ?_) (a' := ?_) (bA 49 2097151) rfl rfl (take_ofW HT_.out HW_.out (by kernel_rfl)) (fun _ _ _ h => h) (Or.inl ⟨by rfl, ?_⟩) hHeld ?_ ?_
       rotate_left
       ·rintro w' ⟨s0, s1, s2, s3, s4, s5, s6, s7, s8, s9, s10, s11⟩
        go_simp
        with_reducible rfl
       rotate_left
       ·refine pZ ?_
        rfl
       refine pQ 21 87 HT_ (bA 49 4194303) ?_
       refine take_ (i := 22) (N := some 88) (v := ?_) (a' := ?_) (bA 49 8388607) rfl rfl (take_ofW HT_.out HW_.out (by kernel_rfl)) (fun _ _ _ h => h) (Or.inl ⟨by rfl, ?_⟩) hHeld ?_ ?_
       rotate_left
       ·rintro w' ⟨s0, s1, s2, s3, s4, s5, s6, s7, s8, s9, s10, s11⟩
        go_simp
        with_reducible rfl
       rotate_left
       ·refine pZ ?_
        rfl
       refine pQ 23 89 HT_ (bA 49 16777215) ?_
       refine pQ 24 90 HT_ (bA 49 33554431) ?_
       refine pure_ (i := 25) (N := some 91) (v := undef) (a' := ?_) (bA 49 67108863) rfl rfl (any_of HT_.out (by kernel_rfl)) (fun _ _ _ h => h) (Or.inr ⟨by rfl, rfl⟩) ?_ ?_
       rotate_left
       ·refine pZ ?_
        rfl
       refine pure_ (i := 26) (N := some 92) (v := undef) (a' := ?_) (bA 49 134217727) rfl rfl (any_of HT_.out (by kernel_rfl)) (fun _ _ _ h => h) (Or.inr ⟨by rfl, rfl⟩) ?_ ?_
       rotate_left
       ·refine pZ ?_
        rfl
       refine pure_ (i := 27) (N := some 93) (v := undef) (a' := ?_) (bA 49 268435455) rfl rfl (any_of HT_.out (by kernel_rfl)) (fun _ _ _ h => h) (Or.inr ⟨by rfl, rfl⟩) ?_ ?_
       rotate_left
       ·refine pZ ?_
        rfl
       refine pure_ (i := 28) (N := some 94) (v := undef) (a' := ?_) (bA 49 536870911) rfl rfl (any_of HT_.out (by kernel_rfl)) (fun _ _ _ h => h) (Or.inr ⟨by rfl, rfl⟩) ?_ ?_
       rotate_left
       ·refine pZ ?_
        rfl
       refine pure_ (i := 29) (N := some 95) (v := undef) (a' := ?_) (bA 49 1073741823) rfl rfl (any_of HT_.out (by kernel_rfl)) (fun _ _ _ h => h) (Or.inr ⟨by rfl, rfl⟩) ?_ ?_
       rotate_left
       ·refine pZ ?_
        rfl
       refine pure_ (i := 30) (N := some 96) (v := undef) (a' := ?_) (bA 49 2147483647) rfl rfl (any_of HT_.out (by kernel_rfl)) (fun _ _ _ h => h) (Or.inr ⟨by rfl, rfl⟩) ?_ ?_
       rotate_left
       ·refine pZ ?_
        rfl
       refine pQ 31 97 HT_ (bA 49 4294967295) ?_
       refine pQ 32 98 HT_ (bA 49 8589934591) ?_
       refine pQ 33 99 HT_ (bA 49 17179869183) ?_
       refine pQ 34 100 HT_ (bA 49 34359738367) ?_
       refine pQ 36 102 HT_ (bA 49 103079215103) ?_
       refine take_ (i := 35) (N := some 101) (v := ?_) (a' := ?_) (bA 49 137438953471) rfl rfl (take_ofW HT_.out HW_.out (by kernel_rfl)) (fun _ _ _ h => h) (Or.inl ⟨by rfl, ?_⟩) hHeld ?_ ?_
       rotate_left
       ·rintro w' ⟨s0, s1, s2, s3, s4, s5, s6, s7, s8, s9, s10, s11⟩
        go_simp
        with_reducible rfl
       rotate_left
       ·refine pZ ?_
        rfl
       refine pQ 37 103 HT_ (bA 49 274877906943) ?_
       refine take_ (i := 38) (N := some 104) (v := ?_) (a' := ?_) (bA 49 549755813887) rfl rfl (take_ofW HT_.out HW_.out (by kernel_rfl)) (fun _ _ _ h => h) (Or.inl ⟨by rfl, ?_⟩) hHeld ?_ ?_
       rotate_left
       ·rintro w' ⟨s0, s1, s2, s3, s4, s5, s6, s7, s8, s9, s10, s11⟩
        go_simp
        with_reducible rfl
       rotate_left
       ·refine pZ ?_
        rfl
       refine pQ 39 105 HT_ (bA 49 1099511627775) ?_
       refine pQ 40 106 HT_ (bA 49 2199023255551) ?_
       refine pure_ (i := 41) (N := some 107) (v := undef) (a' := ?_) (bA 49 4398046511103) rfl rfl (any_of HT_.out (by kernel_rfl)) (fun _ _ _ h => h) (Or.inr ⟨by rfl, rfl⟩) ?_ ?_
       rotate_left
       ·refine pZ ?_
        rfl
       refine pure_ (i := 42) (N := some 108) (v := undef) (a' := ?_) (bA 49 8796093022207) rfl rfl (any_of HT_.out (by kernel_rfl)) (fun _ _ _ h => h) (Or.inr ⟨by rfl, rfl⟩) ?_ ?_
       rotate_left
       ·refine pZ ?_
        rfl
       refine pure_ (i := 43) (N := some 109) (v := undef) (a' := ?_) (bA 49 17592186044415) rfl rfl (any_of HT_.out (by kernel_rfl)) (fun _ _ _ h => h) (Or.inr ⟨by rfl, rfl⟩) ?_ ?_
       rotate_left
       ·refine pZ ?_
        rfl
       refine pure_ (i := 44) (N := some 110) (v := undef) (a' := ?_) (bA 49 35184372088831) rfl rfl (any_of HT_.out (by kernel_rfl)) (fun _ _ _ h => h) (Or.inr ⟨by rfl, rfl⟩) ?_ ?_
       rotate_left
       ·refine pZ ?_
        rfl
       refine pure_ (i := 45) (N := some 111) (v := undef) (a' := ?_) (bA 49 70368744177663) rfl rfl (any_of HT_.out (by kernel_rfl)) (fun _ _ _ h => h) (Or.inr ⟨by rfl, rfl⟩) ?_ ?_
       rotate_left
       ·refine pZ ?_
        rfl
       refine pure_ (i := 46) (N := some 112) (v := undef) (a' := ?_) (bA 49 140737488355327) rfl rfl (any_of HT_.out (by kernel_rfl)) (fun _ _ _ h => h) (Or.inr ⟨by rfl, rfl⟩) ?_ ?_
       rotate_left
       ·refine pZ ?_
        rfl
       refine pQ 47 113 HT_ (bA 49 281474976710655) ?_
       refine pQ 48 114 HT_ (bA 49 562949953421311) ?_
       refine done_ (done_of HT_.out (by kernel_rfl)) ?_
       obtain ⟨⟨hcz134_0, hcz134_1, hcz134_2, hcz134_3⟩, hfz134_0, hfz134_1, hfz134_2, hfz134_3⟩ := cf4 BK461
       obtain ⟨ad501, e501, hx501_0⟩ := Kd.at_int (Kd.Q_reads' HO_462003.out).2.2 x10_2 oD oD
       obtain rfl : ad489 = ad501 := (by injection e501)
       have p501 := eq_true (oD : 0 ≤ (x10_2 : Int))
       have q501 := eq_true (oD : x10_2 < (t457.length : Int))
       have p128 : 0 ≤ (x10_2 : Int) := oD
       have q128 : (x10_2 : Int) < ((x9_2.length : Int) : Int) := oD
       obtain ⟨go128, co128, eo128, gb128, gl128, cl128, HG128⟩ := Kd.R_form HO_9.out (by omega)
       (first | cases eo128 | (injection eo128 with ea_ en_ ec_; (first | subst ea_ | (injection ea_ with ea_; subst ea_)); subst ec_; clear en_))
       have GB128 := aM gb128
       have GG128 := aM HG128
       clear gb128 gl128 HG128
       obtain ⟨hx128_0, hf128_0⟩ := Kd.R_celln 0 HO_9.out (x10_2 : Int) p128 q128
       replace p128 := eq_true p128
       replace q128 := eq_true q128
       obtain ⟨hy135_, hz135_⟩ := Kd.R_celln 0 HO_9.out (x10_2 : Int) oD oD
       have HP135 := Kd.R_putg HO_9.out (x10_2 : Int) ji126
       try go_wp2_with (first | ((with_reducible refine gate_store (t := 3) (p := 124) rfl ?_); refine store_event (t := 3) (p := 124) (v := ?vo_w136) (w1 := (w133.setCell ⟨go128, (x10_2 : Int).toNat, none⟩ (.int .i64 ji126))) ?hg ?ho ?hn ?hr ?_; (case ho => rfl); (case hg => rfl); (case hn => rfl); (case hr => first | (go_simp; done) | (go_simp; rfl)); intro w136 hw; have hg : w133.grownBy w136 (some go128) := (by rw [hw]; exact HP135.2); have hp_ : Kd.R (Kd.int .i64) 3 w136 w.heap.size (fun k_ => some k_ ≠ (.slice (some ad489) t457.length co10 : Value).ownBlock ∧ some k_ ≠ (.slice (some ad486) t465.length co15 : Value).ownBlock ∧ some k_ ≠ (.slice Ao22 t473.length co22 : Value).ownBlock) (.slice (some ⟨go128, 0, none⟩) x9_2.length co128) y502 := (by rw [hw, Ny502.out]; exact HP135.1); clear HP135; replace HO_462003 := aM (Kd.Q_after (v := (.slice (some ⟨go128, 0, none⟩) x9_2.length co128)) (v1 := (.slice (some ⟨go128, 0, none⟩) x9_2.length co128)) (ok := (fun k_ => some k_ ≠ (.slice (some ad486) t465.length co15 : Value).ownBlock ∧ some k_ ≠ (.slice Ao22 t473.length co22 : Value).ownBlock)) (by (with_reducible repeat (first | apply Kd.Q_alloc | apply Kd.Q_drewN | apply Kd.Q_drew)); exact Kd.Q_mono HO_462003.out (fun _ hk => ⟨⟨hk.2.1, hk.2.2⟩, hk.1⟩)) hg (.inl rfl)); replace HO_470003 := aM (Kd.Q_after (v := (.slice (some ⟨go128, 0, none⟩) x9_2.length co128)) (v1 := (.slice (some ⟨go128, 0, none⟩) x9_2.length co128)) (ok := (fun k_ => some k_ ≠ (.slice (some ad489) t457.length co10 : Value).ownBlock ∧ some k_ ≠ (.slice Ao22 t473.length co22 : Value).ownBlock)) (by (with_reducible repeat (first | apply Kd.Q_alloc | apply Kd.Q_drewN | apply Kd.Q_drew)); exact Kd.Q_mono HO_470003.out (fun _ hk => ⟨⟨hk.2.1, hk.2.2⟩, hk.1⟩)) hg (.inl rfl)); replace HO_478003 := aM (Kd.Q_after (v := (.slice (some ⟨go128, 0, none⟩) x9_2.length co128)) (v1 := (.slice (some ⟨go128, 0, none⟩) x9_2.length co128)) (ok := (fun k_ => some k_ ≠ (.slice (some ad489) t457.length co10 : Value).ownBlock ∧ some k_ ≠ (.slice (some ad486) t465.length co15 : Value).ownBlock)) (by (with_reducible repeat (first | apply Kd.Q_alloc | apply Kd.Q_drewN | apply Kd.Q_drew)); exact Kd.Q_mono HO_478003.out (fun _ hk => ⟨⟨hk.2.1, hk.2.2⟩, hk.1⟩)) hg (.inl rfl)); replace BK461 := gB BK461 hg (Kd.R_ne HO_9.out BK461.out (by decide)); replace BK469 := gB BK469 hg (Kd.R_ne HO_9.out BK469.out (by decide)); replace BK477 := gB BK477 hg (Kd.R_ne HO_9.out BK477.out (by decide)); replace HO_9 := aM (hp_); replace HB := aM ((by rw [hw]; exact below_set (HB.out) GB128.out : Below w.heap.size w w136)); clear hg hw hp_))
       go_roundg k2
       case measure => have := HJ5.out; have := HK2.out; omega
       case rel => exact ⟨(y502), (wrap64 (x10_2 + 1)), qE, H', ⟨by have := HJ5.out; have := HK2.out; omega⟩, ⟨by refine qR ?_; exact HO_9.out⟩, ⟨by (with_reducible repeat (first | apply Kd.Q_alloc | apply Kd.Q_drewN | apply Kd.Q_drew)); exact Kd.Q_mono HO_462003.out (fun _ hk => ⟨hk.2, ⟨hk.1.1, hk.1.2⟩⟩)⟩, ⟨by (with_reducible repeat (first | apply Kd.Q_alloc | apply Kd.Q_drewN | apply Kd.Q_drew)); exact Kd.Q_mono HO_470003.out (fun _ hk => ⟨hk.2, ⟨hk.1.1, hk.1.2⟩⟩)⟩, ⟨by (with_reducible repeat (first | apply Kd.Q_alloc | apply Kd.Q_drewN | apply Kd.Q_drew)); exact Kd.Q_mono HO_478003.out (fun _ hk => ⟨hk.2, ⟨hk.1.1, hk.1.2⟩⟩)⟩, ⟨by refine qB ?_; exact BK461.out⟩, ⟨by refine qB ?_; exact BK469.out⟩, ⟨by refine qB ?_; exact BK477.out⟩, ⟨by exact qW HB.out⟩⟩
      rw [if_pos c108] at H
      have c108b0 : ((rd t457 x10_2) == 255) = true := beq_iff_eq.mpr c108
      have c108b1 : ((rd t457 x10_2) != 255) = false := bne_eq_false_iff_eq.mpr c108
      clear c108
      by_cases c109 : (rd t465 x10_2) = 255
      rotate_left
      ·rw [if_neg c109] at H
       have c109b0 : ((rd t465 x10_2) == 255) = false := beq_eq_false_iff_ne.mpr c109
       have c109b1 : ((rd t465 x10_2) != 255) = true := bne_iff_ne.mpr c109
       obtain rfl := Option.some.inj H
       exact absurd hrt (by decide)
      rw [if_pos c109] at H
      have c109b0 : ((rd t465 x10_2) == 255) = true := beq_iff_eq.mpr c109
      have c109b1 : ((rd t465 x10_2) != 255) = false := bne_eq_false_iff_eq.mpr c109
      clear c109
      obtain ⟨ji110, hji110⟩ : ∃ j_ : Int, (mn 255 (wrap64 ((rd t457 x10_2) + 20))) = j_ := ⟨_, rfl⟩
      replace H : (if x10_2 < (x9_2.length : Int) then (laws_FnOrderImage.l0 k2 t460 (x9_2.set (x10_2 : Int).toNat (ji110)) (wrap64 (x10_2 + 1)) t454 t455 t456 t457 t462 t463 t464 t465) else (none)) = some r := by first | (rw [hji110] at H; exact H) | (simp only [hji110] at H ⊢; exact H)
      (try rw [hji110] at A69)
      have hji110_ : (if (wrap64 ((rd t457 x10_2) + 20)) < 255 then (wrap64 ((rd t457 x10_2) + 20)) else 255) = ji110 := hji110
      replace H := iD H
      obtain ⟨c111b0, H⟩ := H
      obtain ⟨y500, hy500⟩ : ∃ y_ : List Int, y_ = (x9_2.set (x10_2 : Int).toNat (ji110)) := ⟨_, rfl⟩
      replace H : (laws_FnOrderImage.l0 k2 t460 y500 (wrap64 (x10_2 + 1)) t454 t455 t456 t457 t462 t463 t464 t465) = some r := rY hy500 H
      have Ny500 := aM hy500
      clear hy500
      have H' := aM H
      clear H
      have hnb113 := NB461_469.out
      have hnc113 := NB469_461.out
      have hnb114 := NB461_477.out
      have hnc114 := NB477_461.out
      obtain ⟨⟨hcz115_0, hcz115_1, hcz115_2, hcz115_3⟩, hfz115_0, hfz115_1, hfz115_2, hfz115_3⟩ := cf4 BK461
      try go_wp2
      replace HO_9 := aM (Kd.R_drew HO_9.out)
      replace HO_462003 := aM (Kd.Q_drew HO_462003.out)
      replace HO_470003 := aM (Kd.Q_drew HO_470003.out)
      replace HO_478003 := aM (Kd.Q_drew HO_478003.out)
      replace BK461 := aM (blk_drew BK461.out)
      replace BK469 := aM (blk_drew BK469.out)
      replace BK477 := aM (blk_drew BK477.out)
      replace HB := aM (below_drew1 HB.out)
      obtain ⟨ad486, e486, hx486_0⟩ := Kd.at_int (Kd.Q_reads' HO_470003.out).2.2 x10_2 oD oD
      cases e486
      have p486 := eq_true (oD : 0 ≤ (x10_2 : Int))
      have q486 := eq_true (oD : x10_2 < (t465.length : Int))
      obtain ⟨ad487, e487, hx487_0⟩ := Kd.at_int (Kd.Q_reads' HO_470003.out).2.2 x10_2 oD oD
      obtain rfl : ad486 = ad487 := (by injection e487)
      have p487 := eq_true (oD : 0 ≤ (x10_2 : Int))
      have q487 := eq_true (oD : x10_2 < (t465.length : Int))
      obtain ⟨ad489, e489, hx489_0⟩ := Kd.at_int (Kd.Q_reads' HO_462003.out).2.2 x10_2 oD oD
      cases e489
      have p489 := eq_true (oD : 0 ≤ (x10_2 : Int))
      have q489 := eq_true (oD : x10_2 < (t457.length : Int))
      obtain ⟨ad497, e497, hx497_0⟩ := Kd.at_int (Kd.Q_reads' HO_462003.out).2.2 x10_2 oD oD
      obtain rfl : ad489 = ad497 := (by injection e497)
      have p497 := eq_true (oD : 0 ≤ (x10_2 : Int))
      have q497 := eq_true (oD : x10_2 < (t457.length : Int))
      obtain ⟨ad498, e498, hx498_0⟩ := Kd.at_int (Kd.Q_reads' HO_470003.out).2.2 x10_2 oD oD
      obtain rfl : ad486 = ad498 := (by injection e498)
      have p498 := eq_true (oD : 0 ≤ (x10_2 : Int))
      have q498 := eq_true (oD : x10_2 < (t465.length : Int))
      refine start_ (n := 49) (S := fun w' => w'.cell? ⟨gb469, 0, none⟩ = some (.int .i64 t462) ∧ w'.cell? ⟨gb469, 1, none⟩ = some (.int .i64 t463) ∧ w'.cell? ⟨gb469, 2, none⟩ = some (.int .i64 t464) ∧ w'.cell? ⟨gb469, 3, none⟩ = some (.slice (some ad486) t465.length co15) ∧ w'.cell? ⟨gb461, 0, none⟩ = some (.int .i64 t454) ∧ w'.cell? ⟨gb461, 1, none⟩ = some (.int .i64 t455) ∧ w'.cell? ⟨gb461, 2, none⟩ = some (.int .i64 t456) ∧ w'.cell? ⟨gb461, 3, none⟩ = some (.slice (some ad489) t457.length co10) ∧ w'.cell? (ad486.add (x10_2).toNat) = some (.int .i64 (rd t465 x10_2)) ∧ w'.cell? (ad486.add (x10_2).toNat) = some (.int .i64 (rd t465 x10_2)) ∧ w'.cell? (ad489.add (x10_2).toNat) = some (.int .i64 (rd t457 x10_2)) ∧ w'.cell? (ad489.add (x10_2).toNat) = some (.int .i64 (rd t457 x10_2)) ∧ w'.cell? (ad486.add (x10_2).toNat) = some (.int .i64 (rd t465 x10_2))) (ds := []) (bA 49 0) (by kernel_rfl) rfl rfl ⟨(blk_cell BK469.out 0).trans rfl, (blk_cell BK469.out 1).trans rfl, (blk_cell BK469.out 2).trans rfl, (blk_cell BK469.out 3).trans rfl, (blk_cell BK461.out 0).trans rfl, (blk_cell BK461.out 1).trans rfl, (blk_cell BK461.out 2).trans rfl, (blk_cell BK461.out 3).trans rfl, hx486_0, hx487_0, hx489_0, hx497_0, hx498_0⟩ (fun hHeld => ?_); refine with_tabW laws_FnOrderImage.tab12 laws_FnOrderImage.bits12 (fun HT_ HW_ => ?_)
      generalize wr.drew = w116 at HO_9 HO_462003 HO_470003 HO_478003 BK461 BK469 BK477 HB hx486_0 hx487_0 hx489_0 hx497_0 hx498_0 hHeld ⊢
      refine pQ 0 66 HT_ (bA 49 1) ?_
      refine pQ 2 68 HT_ (bA 49 5) ?_
      refine pQ 5 71 HT_ (bA 49 37) ?_
      refine pQ 7 73 HT_ (bA 49 165) ?_
      refine pQ 10 76 HT_ (bA 49 1189) ?_
      refine pQ 13 79 HT_ (bA 49 9381) ?_
      refine pQ 14 80 HT_ (bA 49 25765) ?_
      refine take_ (i := 1) (N := some 67) (v := ?_) (a' := ?_) (bA 49 25767) rfl rfl (take_ofW HT_.out HW_.out (by kernel_rfl)) (fun _ _ _ h => h) (Or.inl ⟨by rfl, ?_⟩) hHeld ?_ ?_
      rotate_left
      ·rintro w' ⟨s0, s1, s2, s3, s4, s5, s6, s7, s8, s9, s10, s11, s12⟩
       go_simp
       with_reducible rfl
      rotate_left
      ·refine pZ ?_
       rfl
      refine pQ 3 69 HT_ (bA 49 25775) ?_
      refine take_ (i := 4) (N := some 70) (v := ?_) (a' := ?_) (bA 49 25791) rfl rfl (take_ofW HT_.out HW_.out (by kernel_rfl)) (fun _ _ _ h => h) (Or.inl ⟨by rfl, ?_⟩) hHeld ?_ ?_
      rotate_left
      ·rintro w' ⟨s0, s1, s2, s3, s4, s5, s6, s7, s8, s9, s10, s11, s12⟩
       go_simp
       with_reducible rfl
      rotate_left
      ·refine pZ ?_
       rfl
      refine take_ (i := 6) (N := some 72) (v := ?_) (a' := ?_) (bA 49 25855) rfl rfl (take_ofW HT_.out HW_.out (by kernel_rfl)) (fun _ _ _ h => h) (Or.inl ⟨by rfl, ?_⟩) hHeld ?_ ?_
      rotate_left
      ·rintro w' ⟨s0, s1, s2, s3, s4, s5, s6, s7, s8, s9, s10, s11, s12⟩
       go_simp
       with_reducible rfl
      rotate_left
      ·refine pZ ?_
       rfl
      refine pQ 8 74 HT_ (bA 49 26111) ?_
      refine take_ (i := 9) (N := some 75) (v := ?_) (a' := ?_) (bA 49 26623) rfl rfl (take_ofW HT_.out HW_.out (by kernel_rfl)) (fun _ _ _ h => h) (Or.inl ⟨by rfl, ?_⟩) hHeld ?_ ?_
      rotate_left
      ·rintro w' ⟨s0, s1, s2, s3, s4, s5, s6, s7, s8, s9, s10, s11, s12⟩
       go_simp
       with_reducible rfl
      rotate_left
      ·refine pZ ?_
       rfl
      refine one_ (i := 11) (N := some 77) (bA 49 28671) rfl rfl (one_of HT_.out (by kernel_rfl)) (by decide) (fun K hK => ?_)
      refine goes_ Try.func26 (by kernel_rfl) rfl #[.int .i64 (rd t465 x10_2), .int .i64 t460] (by rfl) rfl rfl qM ?_
      with_reducible refine (impl_LevelOf.calls k2 (rd t465 x10_2) t460 t488 _ A69.out).mono ?_
      rintro e w117 ⟨rfl, hb⟩
      have HS8_ := (hb.cell (World.block_lt_of_cell? _ _ (hHeld.2.2.2.2.2.2.2.2.1))).trans (hHeld.2.2.2.2.2.2.2.2.1)
      have HS9_ := (hb.cell (World.block_lt_of_cell? _ _ (hHeld.2.2.2.2.2.2.2.2.2.1))).trans (hHeld.2.2.2.2.2.2.2.2.2.1)
      have HS10_ := (hb.cell (World.block_lt_of_cell? _ _ (hHeld.2.2.2.2.2.2.2.2.2.2.1))).trans (hHeld.2.2.2.2.2.2.2.2.2.2.1)
      have HS11_ := (hb.cell (World.block_lt_of_cell? _ _ (hHeld.2.2.2.2.2.2.2.2.2.2.2.1))).trans (hHeld.2.2.2.2.2.2.2.2.2.2.2.1)
      have HS12_ := (hb.cell (World.block_lt_of_cell? _ _ (hHeld.2.2.2.2.2.2.2.2.2.2.2.2))).trans (hHeld.2.2.2.2.2.2.2.2.2.2.2.2)
      refine ⟨_, rfl, ?_⟩
      replace HO_9 := aM (Kd.R_below (qR HO_9.out) hb)
      replace HO_462003 := aM (Kd.Q_below (qQ HO_462003.out) hb)
      replace HO_470003 := aM (Kd.Q_below (qQ HO_470003.out) hb)
      replace HO_478003 := aM (Kd.Q_below (qQ HO_478003.out) hb)
      replace BK461 := bB BK461 hb
      replace BK469 := bB BK469 hb
      replace BK477 := bB BK477 hb
      replace HB := bS HB hb
      (try clear hb)
      (try clear hb2)
      (try clear hk)
      (try clear hi)
      refine hK.out _ _ ⟨(blk_cell BK469.out 0).trans rfl, (blk_cell BK469.out 1).trans rfl, (blk_cell BK469.out 2).trans rfl, (blk_cell BK469.out 3).trans rfl, (blk_cell BK461.out 0).trans rfl, (blk_cell BK461.out 1).trans rfl, (blk_cell BK461.out 2).trans rfl, (blk_cell BK461.out 3).trans rfl, HS8_, HS9_, HS10_, HS11_, HS12_⟩ (fun hHeld => ?_)
      clear hK K
      refine norm_ (a' := ?_) ?_ ?_
      rotate_left
      ·show Act.put _ (some 77) _ = _
       refine pZ ?_
       rfl
      refine pQ 12 78 HT_ (bA 49 32767) ?_
      refine pQ 15 81 HT_ (bA 49 65535) ?_
      refine pQ 16 82 HT_ (bA 49 131071) ?_
      refine pQ 17 83 HT_ (bA 49 262143) ?_
      refine pQ 18 84 HT_ (bA 49 524287) ?_
      refine pQ 20 86 HT_ (bA 49 1572863) ?_
      refine take_ (i := 19) (N := some 85) (v := ?_) (a' := ?_) (bA 49 2097151) rfl rfl (take_ofW HT_.out HW_.out (by kernel_rfl)) (fun _ _ _ h => h) (Or.inl ⟨by rfl, ?_⟩) hHeld ?_ ?_
      rotate_left
      ·rintro w' ⟨s0, s1, s2, s3, s4, s5, s6, s7, s8, s9, s10, s11, s12⟩
       go_simp
       with_reducible rfl
      rotate_left
      ·refine pZ ?_
       rfl
      refine pQ 21 87 HT_ (bA 49 4194303) ?_
      refine take_ (i := 22) (N := some 88) (v := ?_) (a' := ?_) (bA 49 8388607) rfl rfl (take_ofW HT_.out HW_.out (by kernel_rfl)) (fun _ _ _ h => h) (Or.inl ⟨by rfl, ?_⟩) hHeld ?_ ?_
      rotate_left
      ·rintro w' ⟨s0, s1, s2, s3, s4, s5, s6, s7, s8, s9, s10, s11, s12⟩
       go_simp
       with_reducible rfl
      rotate_left
      ·refine pZ ?_
       rfl
      refine pQ 23 89 HT_ (bA 49 16777215) ?_
      refine pQ 24 90 HT_ (bA 49 33554431) ?_
      refine pure_ (i := 25) (N := some 91) (v := undef) (a' := ?_) (bA 49 67108863) rfl rfl (any_of HT_.out (by kernel_rfl)) (fun _ _ _ h => h) (Or.inr ⟨by rfl, rfl⟩) ?_ ?_
      rotate_left
      ·refine pZ ?_
       rfl
      refine pure_ (i := 26) (N := some 92) (v := undef) (a' := ?_) (bA 49 134217727) rfl rfl (any_of HT_.out (by kernel_rfl)) (fun _ _ _ h => h) (Or.inr ⟨by rfl, rfl⟩) ?_ ?_
      rotate_left
      ·refine pZ ?_
       rfl
      refine pure_ (i := 27) (N := some 93) (v := undef) (a' := ?_) (bA 49 268435455) rfl rfl (any_of HT_.out (by kernel_rfl)) (fun _ _ _ h => h) (Or.inr ⟨by rfl, rfl⟩) ?_ ?_
      rotate_left
      ·refine pZ ?_
       rfl
      refine pure_ (i := 28) (N := some 94) (v := undef) (a' := ?_) (bA 49 536870911) rfl rfl (any_of HT_.out (by kernel_rfl)) (fun _ _ _ h => h) (Or.inr ⟨by rfl, rfl⟩) ?_ ?_
      rotate_left
      ·refine pZ ?_
       rfl
      refine pure_ (i := 29) (N := some 95) (v := undef) (a' := ?_) (bA 49 1073741823) rfl rfl (any_of HT_.out (by kernel_rfl)) (fun _ _ _ h => h) (Or.inr ⟨by rfl, rfl⟩) ?_ ?_
      rotate_left
      ·refine pZ ?_
       rfl
      refine pure_ (i := 30) (N := some 96) (v := undef) (a' := ?_) (bA 49 2147483647) rfl rfl (any_of HT_.out (by kernel_rfl)) (fun _ _ _ h => h) (Or.inr ⟨by rfl, rfl⟩) ?_ ?_
      rotate_left
      ·refine pZ ?_
       rfl
      refine pQ 31 97 HT_ (bA 49 4294967295) ?_
      refine pQ 32 98 HT_ (bA 49 8589934591) ?_
      refine pQ 33 99 HT_ (bA 49 17179869183) ?_
      refine pQ 34 100 HT_ (bA 49 34359738367) ?_
      refine pQ 36 102 HT_ (bA 49 103079215103) ?_
      refine take_ (i := 35) (N := some 101) (v := ?_) (a' := ?_) (bA 49 137438953471) rfl rfl (take_ofW HT_.out HW_.out (by kernel_rfl)) (fun _ _ _ h => h) (Or.inl ⟨by rfl, ?_⟩) hHeld ?_ ?_
      rotate_left
      ·rintro w' ⟨s0, s1, s2, s3, s4, s5, s6, s7, s8, s9, s10, s11, s12⟩
       go_simp
       with_reducible rfl
      rotate_left
      ·refine pZ ?_
       rfl
      refine pQ 37 103 HT_ (bA 49 274877906943) ?_
      refine take_ (i := 38) (N := some 104) (v := ?_) (a' := ?_) (bA 49 549755813887) rfl rfl (take_ofW HT_.out HW_.out (by kernel_rfl)) (fun _ _ _ h => h) (Or.inl ⟨by rfl, ?_⟩) hHeld ?_ ?_
      rotate_left
      ·rintro w' ⟨s0, s1, s2, s3, s4, s5, s6, s7, s8, s9, s10, s11, s12⟩
       go_simp
       with_reducible rfl
      rotate_left
      ·refine pZ ?_
       rfl
      refine pQ 39 105 HT_ (bA 49 1099511627775) ?_
      refine pQ 40 106 HT_ (bA 49 2199023255551) ?_
      refine pQ 41 107 HT_ (bA 49 4398046511103) ?_
      refine pQ 43 109 HT_ (bA 49 13194139533311) ?_
      refine take_ (i := 42) (N := some 108) (v := ?_) (a' := ?_) (bA 49 17592186044415) rfl rfl (take_ofW HT_.out HW_.out (by kernel_rfl)) (fun _ _ _ h => h) (Or.inl ⟨by rfl, ?_⟩) hHeld ?_ ?_
      rotate_left
      ·rintro w' ⟨s0, s1, s2, s3, s4, s5, s6, s7, s8, s9, s10, s11, s12⟩
       go_simp
       with_reducible rfl
      rotate_left
      ·refine pZ ?_
       rfl
      refine pQ 44 110 HT_ (bA 49 35184372088831) ?_
      refine take_ (i := 45) (N := some 111) (v := ?_) (a' := ?_) (bA 49 70368744177663) rfl rfl (take_ofW HT_.out HW_.out (by kernel_rfl)) (fun _ _ _ h => h) (Or.inl ⟨by rfl, ?_⟩) hHeld ?_ ?_
      rotate_left
      ·rintro w' ⟨s0, s1, s2, s3, s4, s5, s6, s7, s8, s9, s10, s11, s12⟩
       go_simp
       with_reducible rfl
      rotate_left
      ·refine pZ ?_
       rfl
      refine pQ 46 112 HT_ (bA 49 140737488355327) ?_
      refine pQ 47 113 HT_ (bA 49 281474976710655) ?_
      refine pQ 48 114 HT_ (bA 49 562949953421311) ?_
      refine done_ (done_of HT_.out (by kernel_rfl)) ?_
      obtain ⟨⟨hcz118_0, hcz118_1, hcz118_2, hcz118_3⟩, hfz118_0, hfz118_1, hfz118_2, hfz118_3⟩ := cf4 BK461
      obtain ⟨ad499, e499, hx499_0⟩ := Kd.at_int (Kd.Q_reads' HO_462003.out).2.2 x10_2 oD oD
      obtain rfl : ad489 = ad499 := (by injection e499)
      have p499 := eq_true (oD : 0 ≤ (x10_2 : Int))
      have q499 := eq_true (oD : x10_2 < (t457.length : Int))
      have p112 : 0 ≤ (x10_2 : Int) := oD
      have q112 : (x10_2 : Int) < ((x9_2.length : Int) : Int) := oD
      obtain ⟨go112, co112, eo112, gb112, gl112, cl112, HG112⟩ := Kd.R_form HO_9.out (by omega)
      (first | cases eo112 | (injection eo112 with ea_ en_ ec_; (first | subst ea_ | (injection ea_ with ea_; subst ea_)); subst ec_; clear en_))
      have GB112 := aM gb112
      have GG112 := aM HG112
      clear gb112 gl112 HG112
      obtain ⟨hx112_0, hf112_0⟩ := Kd.R_celln 0 HO_9.out (x10_2 : Int) p112 q112
      replace p112 := eq_true p112
      replace q112 := eq_true q112
      obtain ⟨hy119_, hz119_⟩ := Kd.R_celln 0 HO_9.out (x10_2 : Int) oD oD
      have HP119 := Kd.R_putg HO_9.out (x10_2 : Int) ji110
      try go_wp2_with (first | ((with_reducible refine gate_store (t := 3) (p := 124) rfl ?_); refine store_event (t := 3) (p := 124) (v := ?vo_w120) (w1 := (w117.setCell ⟨go112, (x10_2 : Int).toNat, none⟩ (.int .i64 ji110))) ?hg ?ho ?hn ?hr ?_; (case ho => rfl); (case hg => rfl); (case hn => rfl); (case hr => first | (go_simp; done) | (go_simp; rfl)); intro w120 hw; have hg : w117.grownBy w120 (some go112) := (by rw [hw]; exact HP119.2); have hp_ : Kd.R (Kd.int .i64) 3 w120 w.heap.size (fun k_ => some k_ ≠ (.slice (some ad489) t457.length co10 : Value).ownBlock ∧ some k_ ≠ (.slice (some ad486) t465.length co15 : Value).ownBlock ∧ some k_ ≠ (.slice Ao22 t473.length co22 : Value).ownBlock) (.slice (some ⟨go112, 0, none⟩) x9_2.length co112) y500 := (by rw [hw, Ny500.out]; exact HP119.1); clear HP119; replace HO_462003 := aM (Kd.Q_after (v := (.slice (some ⟨go112, 0, none⟩) x9_2.length co112)) (v1 := (.slice (some ⟨go112, 0, none⟩) x9_2.length co112)) (ok := (fun k_ => some k_ ≠ (.slice (some ad486) t465.length co15 : Value).ownBlock ∧ some k_ ≠ (.slice Ao22 t473.length co22 : Value).ownBlock)) (by (with_reducible repeat (first | apply Kd.Q_alloc | apply Kd.Q_drewN | apply Kd.Q_drew)); exact Kd.Q_mono HO_462003.out (fun _ hk => ⟨⟨hk.2.1, hk.2.2⟩, hk.1⟩)) hg (.inl rfl)); replace HO_470003 := aM (Kd.Q_after (v := (.slice (some ⟨go112, 0, none⟩) x9_2.length co112)) (v1 := (.slice (some ⟨go112, 0, none⟩) x9_2.length co112)) (ok := (fun k_ => some k_ ≠ (.slice (some ad489) t457.length co10 : Value).ownBlock ∧ some k_ ≠ (.slice Ao22 t473.length co22 : Value).ownBlock)) (by (with_reducible repeat (first | apply Kd.Q_alloc | apply Kd.Q_drewN | apply Kd.Q_drew)); exact Kd.Q_mono HO_470003.out (fun _ hk => ⟨⟨hk.2.1, hk.2.2⟩, hk.1⟩)) hg (.inl rfl)); replace HO_478003 := aM (Kd.Q_after (v := (.slice (some ⟨go112, 0, none⟩) x9_2.length co112)) (v1 := (.slice (some ⟨go112, 0, none⟩) x9_2.length co112)) (ok := (fun k_ => some k_ ≠ (.slice (some ad489) t457.length co10 : Value).ownBlock ∧ some k_ ≠ (.slice (some ad486) t465.length co15 : Value).ownBlock)) (by (with_reducible repeat (first | apply Kd.Q_alloc | apply Kd.Q_drewN | apply Kd.Q_drew)); exact Kd.Q_mono HO_478003.out (fun _ hk => ⟨⟨hk.2.1, hk.2.2⟩, hk.1⟩)) hg (.inl rfl)); replace BK461 := gB BK461 hg (Kd.R_ne HO_9.out BK461.out (by decide)); replace BK469 := gB BK469 hg (Kd.R_ne HO_9.out BK469.out (by decide)); replace BK477 := gB BK477 hg (Kd.R_ne HO_9.out BK477.out (by decide)); replace HO_9 := aM (hp_); replace HB := aM ((by rw [hw]; exact below_set (HB.out) GB112.out : Below w.heap.size w w120)); clear hg hw hp_))
      go_roundg k2
      case measure => have := HJ5.out; have := HK2.out; omega
      case rel => exact ⟨(y500), (wrap64 (x10_2 + 1)), qE, H', ⟨by have := HJ5.out; have := HK2.out; omega⟩, ⟨by refine qR ?_; exact HO_9.out⟩, ⟨by (with_reducible repeat (first | apply Kd.Q_alloc | apply Kd.Q_drewN | apply Kd.Q_drew)); exact Kd.Q_mono HO_462003.out (fun _ hk => ⟨hk.2, ⟨hk.1.1, hk.1.2⟩⟩)⟩, ⟨by (with_reducible repeat (first | apply Kd.Q_alloc | apply Kd.Q_drewN | apply Kd.Q_drew)); exact Kd.Q_mono HO_470003.out (fun _ hk => ⟨hk.2, ⟨hk.1.1, hk.1.2⟩⟩)⟩, ⟨by (with_reducible repeat (first | apply Kd.Q_alloc | apply Kd.Q_drewN | apply Kd.Q_drew)); exact Kd.Q_mono HO_478003.out (fun _ hk => ⟨hk.2, ⟨hk.1.1, hk.1.2⟩⟩)⟩, ⟨by refine qB ?_; exact BK461.out⟩, ⟨by refine qB ?_; exact BK469.out⟩, ⟨by refine qB ?_; exact BK477.out⟩, ⟨by exact qW HB.out⟩⟩
     rw [if_pos c72] at H
     have c72b0 : ((rd t457 x10_2) == 0) = true := beq_iff_eq.mpr c72
     have c72b1 : ((rd t457 x10_2) != 0) = false := bne_eq_false_iff_eq.mpr c72
     clear c72
     by_cases c73 : (rd t465 x10_2) = 0
     rotate_left
     ·rw [if_neg c73] at H
      have c73b0 : ((rd t465 x10_2) == 0) = false := beq_eq_false_iff_ne.mpr c73
      have c73b1 : ((rd t465 x10_2) != 0) = true := bne_iff_ne.mpr c73
      obtain rfl := Option.some.inj H
      exact absurd hrt (by decide)
     rw [if_pos c73] at H
     have c73b0 : ((rd t465 x10_2) == 0) = true := beq_iff_eq.mpr c73
     have c73b1 : ((rd t465 x10_2) != 0) = false := bne_eq_false_iff_eq.mpr c73
     clear c73
     by_cases c74 : (rd t457 x10_2) = 255
     rotate_left
     ·rw [if_neg c74] at H
      have c74b0 : ((rd t457 x10_2) == 255) = false := beq_eq_false_iff_ne.mpr c74
      have c74b1 : ((rd t457 x10_2) != 255) = true := bne_iff_ne.mpr c74
      obtain ⟨ji92, hji92⟩ : ∃ j_ : Int, (mn 255 (wrap64 ((rd t457 x10_2) + 20))) = j_ := ⟨_, rfl⟩
      replace H : (if x10_2 < (x9_2.length : Int) then (laws_FnOrderImage.l0 k2 t460 (x9_2.set (x10_2 : Int).toNat (ji92)) (wrap64 (x10_2 + 1)) t454 t455 t456 t457 t462 t463 t464 t465) else (none)) = some r := by first | (rw [hji92] at H; exact H) | (simp only [hji92] at H ⊢; exact H)
      (try rw [hji92] at A69)
      have hji92_ : (if (wrap64 ((rd t457 x10_2) + 20)) < 255 then (wrap64 ((rd t457 x10_2) + 20)) else 255) = ji92 := hji92
      replace H := iD H
      obtain ⟨c93b0, H⟩ := H
      obtain ⟨y496, hy496⟩ : ∃ y_ : List Int, y_ = (x9_2.set (x10_2 : Int).toNat (ji92)) := ⟨_, rfl⟩
      replace H : (laws_FnOrderImage.l0 k2 t460 y496 (wrap64 (x10_2 + 1)) t454 t455 t456 t457 t462 t463 t464 t465) = some r := rY hy496 H
      have Ny496 := aM hy496
      clear hy496
      have H' := aM H
      clear H
      have hnb95 := NB461_469.out
      have hnc95 := NB469_461.out
      have hnb96 := NB461_477.out
      have hnc96 := NB477_461.out
      obtain ⟨⟨hcz97_0, hcz97_1, hcz97_2, hcz97_3⟩, hfz97_0, hfz97_1, hfz97_2, hfz97_3⟩ := cf4 BK461
      try go_wp2
      replace HO_9 := aM (Kd.R_drew HO_9.out)
      replace HO_462003 := aM (Kd.Q_drew HO_462003.out)
      replace HO_470003 := aM (Kd.Q_drew HO_470003.out)
      replace HO_478003 := aM (Kd.Q_drew HO_478003.out)
      replace BK461 := aM (blk_drew BK461.out)
      replace BK469 := aM (blk_drew BK469.out)
      replace BK477 := aM (blk_drew BK477.out)
      replace HB := aM (below_drew1 HB.out)
      obtain ⟨ad486, e486, hx486_0⟩ := Kd.at_int (Kd.Q_reads' HO_470003.out).2.2 x10_2 oD oD
      cases e486
      have p486 := eq_true (oD : 0 ≤ (x10_2 : Int))
      have q486 := eq_true (oD : x10_2 < (t465.length : Int))
      obtain ⟨ad487, e487, hx487_0⟩ := Kd.at_int (Kd.Q_reads' HO_470003.out).2.2 x10_2 oD oD
      obtain rfl : ad486 = ad487 := (by injection e487)
      have p487 := eq_true (oD : 0 ≤ (x10_2 : Int))
      have q487 := eq_true (oD : x10_2 < (t465.length : Int))
      obtain ⟨ad489, e489, hx489_0⟩ := Kd.at_int (Kd.Q_reads' HO_462003.out).2.2 x10_2 oD oD
      cases e489
      have p489 := eq_true (oD : 0 ≤ (x10_2 : Int))
      have q489 := eq_true (oD : x10_2 < (t457.length : Int))
      obtain ⟨ad490, e490, hx490_0⟩ := Kd.at_int (Kd.Q_reads' HO_470003.out).2.2 x10_2 oD oD
      obtain rfl : ad486 = ad490 := (by injection e490)
      have p490 := eq_true (oD : 0 ≤ (x10_2 : Int))
      have q490 := eq_true (oD : x10_2 < (t465.length : Int))
      obtain ⟨ad491, e491, hx491_0⟩ := Kd.at_int (Kd.Q_reads' HO_462003.out).2.2 x10_2 oD oD
      obtain rfl : ad489 = ad491 := (by injection e491)
      have p491 := eq_true (oD : 0 ≤ (x10_2 : Int))
      have q491 := eq_true (oD : x10_2 < (t457.length : Int))
      refine start_ (n := 49) (S := fun w' => w'.cell? ⟨gb469, 0, none⟩ = some (.int .i64 t462) ∧ w'.cell? ⟨gb469, 1, none⟩ = some (.int .i64 t463) ∧ w'.cell? ⟨gb469, 2, none⟩ = some (.int .i64 t464) ∧ w'.cell? ⟨gb469, 3, none⟩ = some (.slice (some ad486) t465.length co15) ∧ w'.cell? ⟨gb461, 0, none⟩ = some (.int .i64 t454) ∧ w'.cell? ⟨gb461, 1, none⟩ = some (.int .i64 t455) ∧ w'.cell? ⟨gb461, 2, none⟩ = some (.int .i64 t456) ∧ w'.cell? ⟨gb461, 3, none⟩ = some (.slice (some ad489) t457.length co10) ∧ w'.cell? (ad486.add (x10_2).toNat) = some (.int .i64 (rd t465 x10_2)) ∧ w'.cell? (ad486.add (x10_2).toNat) = some (.int .i64 (rd t465 x10_2)) ∧ w'.cell? (ad489.add (x10_2).toNat) = some (.int .i64 (rd t457 x10_2)) ∧ w'.cell? (ad486.add (x10_2).toNat) = some (.int .i64 (rd t465 x10_2)) ∧ w'.cell? (ad489.add (x10_2).toNat) = some (.int .i64 (rd t457 x10_2))) (ds := []) (bA 49 0) (by kernel_rfl) rfl rfl ⟨(blk_cell BK469.out 0).trans rfl, (blk_cell BK469.out 1).trans rfl, (blk_cell BK469.out 2).trans rfl, (blk_cell BK469.out 3).trans rfl, (blk_cell BK461.out 0).trans rfl, (blk_cell BK461.out 1).trans rfl, (blk_cell BK461.out 2).trans rfl, (blk_cell BK461.out 3).trans rfl, hx486_0, hx487_0, hx489_0, hx490_0, hx491_0⟩ (fun hHeld => ?_); refine with_tabW laws_FnOrderImage.tab12 laws_FnOrderImage.bits12 (fun HT_ HW_ => ?_)
      generalize wr.drew = w98 at HO_9 HO_462003 HO_470003 HO_478003 BK461 BK469 BK477 HB hx486_0 hx487_0 hx489_0 hx490_0 hx491_0 hHeld ⊢
      refine pQ 0 66 HT_ (bA 49 1) ?_
      refine pQ 2 68 HT_ (bA 49 5) ?_
      refine pQ 5 71 HT_ (bA 49 37) ?_
      refine pQ 7 73 HT_ (bA 49 165) ?_
      refine pQ 10 76 HT_ (bA 49 1189) ?_
      refine pQ 13 79 HT_ (bA 49 9381) ?_
      refine pQ 14 80 HT_ (bA 49 25765) ?_
      refine take_ (i := 1) (N := some 67) (v := ?_) (a' := ?_) (bA 49 25767) rfl rfl (take_ofW HT_.out HW_.out (by kernel_rfl)) (fun _ _ _ h => h) (Or.inl ⟨by rfl, ?_⟩) hHeld ?_ ?_
      rotate_left
      ·rintro w' ⟨s0, s1, s2, s3, s4, s5, s6, s7, s8, s9, s10, s11, s12⟩
       go_simp
       with_reducible rfl
      rotate_left
      ·refine pZ ?_
       rfl
      refine pQ 3 69 HT_ (bA 49 25775) ?_
      refine take_ (i := 4) (N := some 70) (v := ?_) (a' := ?_) (bA 49 25791) rfl rfl (take_ofW HT_.out HW_.out (by kernel_rfl)) (fun _ _ _ h => h) (Or.inl ⟨by rfl, ?_⟩) hHeld ?_ ?_
      rotate_left
      ·rintro w' ⟨s0, s1, s2, s3, s4, s5, s6, s7, s8, s9, s10, s11, s12⟩
       go_simp
       with_reducible rfl
      rotate_left
      ·refine pZ ?_
       rfl
      refine take_ (i := 6) (N := some 72) (v := ?_) (a' := ?_) (bA 49 25855) rfl rfl (take_ofW HT_.out HW_.out (by kernel_rfl)) (fun _ _ _ h => h) (Or.inl ⟨by rfl, ?_⟩) hHeld ?_ ?_
      rotate_left
      ·rintro w' ⟨s0, s1, s2, s3, s4, s5, s6, s7, s8, s9, s10, s11, s12⟩
       go_simp
       with_reducible rfl
      rotate_left
      ·refine pZ ?_
       rfl
      refine pQ 8 74 HT_ (bA 49 26111) ?_
      refine take_ (i := 9) (N := some 75) (v := ?_) (a' := ?_) (bA 49 26623) rfl rfl (take_ofW HT_.out HW_.out (by kernel_rfl)) (fun _ _ _ h => h) (Or.inl ⟨by rfl, ?_⟩) hHeld ?_ ?_
      rotate_left
      ·rintro w' ⟨s0, s1, s2, s3, s4, s5, s6, s7, s8, s9, s10, s11, s12⟩
       go_simp
       with_reducible rfl
      rotate_left
      ·refine pZ ?_
       rfl
      refine one_ (i := 11) (N := some 77) (bA 49 28671) rfl rfl (one_of HT_.out (by kernel_rfl)) (by decide) (fun K hK => ?_)
      refine goes_ Try.func26 (by kernel_rfl) rfl #[.int .i64 (rd t465 x10_2), .int .i64 t460] (by rfl) rfl rfl qM ?_
      with_reducible refine (impl_LevelOf.calls k2 (rd t465 x10_2) t460 t488 _ A69.out).mono ?_
      rintro e w99 ⟨rfl, hb⟩
      have HS8_ := (hb.cell (World.block_lt_of_cell? _ _ (hHeld.2.2.2.2.2.2.2.2.1))).trans (hHeld.2.2.2.2.2.2.2.2.1)
      have HS9_ := (hb.cell (World.block_lt_of_cell? _ _ (hHeld.2.2.2.2.2.2.2.2.2.1))).trans (hHeld.2.2.2.2.2.2.2.2.2.1)
      have HS10_ := (hb.cell (World.block_lt_of_cell? _ _ (hHeld.2.2.2.2.2.2.2.2.2.2.1))).trans (hHeld.2.2.2.2.2.2.2.2.2.2.1)
      have HS11_ := (hb.cell (World.block_lt_of_cell? _ _ (hHeld.2.2.2.2.2.2.2.2.2.2.2.1))).trans (hHeld.2.2.2.2.2.2.2.2.2.2.2.1)
      have HS12_ := (hb.cell (World.block_lt_of_cell? _ _ (hHeld.2.2.2.2.2.2.2.2.2.2.2.2))).trans (hHeld.2.2.2.2.2.2.2.2.2.2.2.2)
      refine ⟨_, rfl, ?_⟩
      replace HO_9 := aM (Kd.R_below (qR HO_9.out) hb)
      replace HO_462003 := aM (Kd.Q_below (qQ HO_462003.out) hb)
      replace HO_470003 := aM (Kd.Q_below (qQ HO_470003.out) hb)
      replace HO_478003 := aM (Kd.Q_below (qQ HO_478003.out) hb)
      replace BK461 := bB BK461 hb
      replace BK469 := bB BK469 hb
      replace BK477 := bB BK477 hb
      replace HB := bS HB hb
      (try clear hb)
      (try clear hb2)
      (try clear hk)
      (try clear hi)
      refine hK.out _ _ ⟨(blk_cell BK469.out 0).trans rfl, (blk_cell BK469.out 1).trans rfl, (blk_cell BK469.out 2).trans rfl, (blk_cell BK469.out 3).trans rfl, (blk_cell BK461.out 0).trans rfl, (blk_cell BK461.out 1).trans rfl, (blk_cell BK461.out 2).trans rfl, (blk_cell BK461.out 3).trans rfl, HS8_, HS9_, HS10_, HS11_, HS12_⟩ (fun hHeld => ?_)
      clear hK K
      refine norm_ (a' := ?_) ?_ ?_
      rotate_left
      ·show Act.put _ (some 77) _ = _
       refine pZ ?_
       rfl
      refine pQ 12 78 HT_ (bA 49 32767) ?_
      refine pQ 15 81 HT_ (bA 49 65535) ?_
      refine pQ 16 82 HT_ (bA 49 131071) ?_
      refine pQ 17 83 HT_ (bA 49 262143) ?_
      refine pQ 18 84 HT_ (bA 49 524287) ?_
      refine pQ 20 86 HT_ (bA 49 1572863) ?_
      refine take_ (i := 19) (N := some 85) (v := ?_) (a' := ?_) (bA 49 2097151) rfl rfl (take_ofW HT_.out HW_.out (by kernel_rfl)) (fun _ _ _ h => h) (Or.inl ⟨by rfl, ?_⟩) hHeld ?_ ?_
      rotate_left
      ·rintro w' ⟨s0, s1, s2, s3, s4, s5, s6, s7, s8, s9, s10, s11, s12⟩
       go_simp
       with_reducible rfl
      rotate_left
      ·refine pZ ?_
       rfl
      refine pQ 21 87 HT_ (bA 49 4194303) ?_
      refine take_ (i := 22) (N := some 88) (v := ?_) (a' := ?_) (bA 49 8388607) rfl rfl (take_ofW HT_.out HW_.out (by kernel_rfl)) (fun _ _ _ h => h) (Or.inl ⟨by rfl, ?_⟩) hHeld ?_ ?_
      rotate_left
      ·rintro w' ⟨s0, s1, s2, s3, s4, s5, s6, s7, s8, s9, s10, s11, s12⟩
       go_simp
       with_reducible rfl
      rotate_left
      ·refine pZ ?_
       rfl
      refine pQ 23 89 HT_ (bA 49 16777215) ?_
      refine pQ 24 90 HT_ (bA 49 33554431) ?_
      refine pQ 25 91 HT_ (bA 49 67108863) ?_
      refine pQ 27 93 HT_ (bA 49 201326591) ?_
      refine take_ (i := 26) (N := some 92) (v := ?_) (a' := ?_) (bA 49 268435455) rfl rfl (take_ofW HT_.out HW_.out (by kernel_rfl)) (fun _ _ _ h => h) (Or.inl ⟨by rfl, ?_⟩) hHeld ?_ ?_
      rotate_left
      ·rintro w' ⟨s0, s1, s2, s3, s4, s5, s6, s7, s8, s9, s10, s11, s12⟩
       go_simp
       with_reducible rfl
      rotate_left
      ·refine pZ ?_
       rfl
      refine pQ 28 94 HT_ (bA 49 536870911) ?_
      refine take_ (i := 29) (N := some 95) (v := ?_) (a' := ?_) (bA 49 1073741823) rfl rfl (take_ofW HT_.out HW_.out (by kernel_rfl)) (fun _ _ _ h => h) (Or.inl ⟨by rfl, ?_⟩) hHeld ?_ ?_
      rotate_left
      ·rintro w' ⟨s0, s1, s2, s3, s4, s5, s6, s7, s8, s9, s10, s11, s12⟩
       go_simp
       with_reducible rfl
      rotate_left
      ·refine pZ ?_
       rfl
      refine pQ 30 96 HT_ (bA 49 2147483647) ?_
      refine pQ 31 97 HT_ (bA 49 4294967295) ?_
      refine pQ 32 98 HT_ (bA 49 8589934591) ?_
      refine pQ 33 99 HT_ (bA 49 17179869183) ?_
      refine pQ 34 100 HT_ (bA 49 34359738367) ?_
      refine pQ 36 102 HT_ (bA 49 103079215103) ?_
      refine take_ (i := 35) (N := some 101) (v := ?_) (a' := ?_) (bA 49 137438953471) rfl rfl (take_ofW HT_.out HW_.out (by kernel_rfl)) (fun _ _ _ h => h) (Or.inl ⟨by rfl, ?_⟩) hHeld ?_ ?_
      rotate_left
      ·rintro w' ⟨s0, s1, s2, s3, s4, s5, s6, s7, s8, s9, s10, s11, s12⟩
       go_simp
       with_reducible rfl
      rotate_left
      ·refine pZ ?_
       rfl
      refine pQ 37 103 HT_ (bA 49 274877906943) ?_
      refine take_ (i := 38) (N := some 104) (v := ?_) (a' := ?_) (bA 49 549755813887) rfl rfl (take_ofW HT_.out HW_.out (by kernel_rfl)) (fun _ _ _ h => h) (Or.inl ⟨by rfl, ?_⟩) hHeld ?_ ?_
      rotate_left
      ·rintro w' ⟨s0, s1, s2, s3, s4, s5, s6, s7, s8, s9, s10, s11, s12⟩
       go_simp
       with_reducible rfl
      rotate_left
      ·refine pZ ?_
       rfl
      refine pQ 39 105 HT_ (bA 49 1099511627775) ?_
      refine pQ 40 106 HT_ (bA 49 2199023255551) ?_
      refine pure_ (i := 41) (N := some 107) (v := undef) (a' := ?_) (bA 49 4398046511103) rfl rfl (any_of HT_.out (by kernel_rfl)) (fun _ _ _ h => h) (Or.inr ⟨by rfl, rfl⟩) ?_ ?_
      rotate_left
      ·refine pZ ?_
       rfl
      refine pure_ (i := 42) (N := some 108) (v := undef) (a' := ?_) (bA 49 8796093022207) rfl rfl (any_of HT_.out (by kernel_rfl)) (fun _ _ _ h => h) (Or.inr ⟨by rfl, rfl⟩) ?_ ?_
      rotate_left
      ·refine pZ ?_
       rfl
      refine pure_ (i := 43) (N := some 109) (v := undef) (a' := ?_) (bA 49 17592186044415) rfl rfl (any_of HT_.out (by kernel_rfl)) (fun _ _ _ h => h) (Or.inr ⟨by rfl, rfl⟩) ?_ ?_
      rotate_left
      ·refine pZ ?_
       rfl
      refine pure_ (i := 44) (N := some 110) (v := undef) (a' := ?_) (bA 49 35184372088831) rfl rfl (any_of HT_.out (by kernel_rfl)) (fun _ _ _ h => h) (Or.inr ⟨by rfl, rfl⟩) ?_ ?_
      rotate_left
      ·refine pZ ?_
       rfl
      refine pure_ (i := 45) (N := some 111) (v := undef) (a' := ?_) (bA 49 70368744177663) rfl rfl (any_of HT_.out (by kernel_rfl)) (fun _ _ _ h => h) (Or.inr ⟨by rfl, rfl⟩) ?_ ?_
      rotate_left
      ·refine pZ ?_
       rfl
      refine pure_ (i := 46) (N := some 112) (v := undef) (a' := ?_) (bA 49 140737488355327) rfl rfl (any_of HT_.out (by kernel_rfl)) (fun _ _ _ h => h) (Or.inr ⟨by rfl, rfl⟩) ?_ ?_
      rotate_left
      ·refine pZ ?_
       rfl
      refine pQ 47 113 HT_ (bA 49 281474976710655) ?_
      refine pQ 48 114 HT_ (bA 49 562949953421311) ?_
      refine done_ (done_of HT_.out (by kernel_rfl)) ?_
      obtain ⟨⟨hcz100_0, hcz100_1, hcz100_2, hcz100_3⟩, hfz100_0, hfz100_1, hfz100_2, hfz100_3⟩ := cf4 BK461
      obtain ⟨ad495, e495, hx495_0⟩ := Kd.at_int (Kd.Q_reads' HO_462003.out).2.2 x10_2 oD oD
      obtain rfl : ad489 = ad495 := (by injection e495)
      have p495 := eq_true (oD : 0 ≤ (x10_2 : Int))
      have q495 := eq_true (oD : x10_2 < (t457.length : Int))
      have p94 : 0 ≤ (x10_2 : Int) := oD
      have q94 : (x10_2 : Int) < ((x9_2.length : Int) : Int) := oD
      obtain ⟨go94, co94, eo94, gb94, gl94, cl94, HG94⟩ := Kd.R_form HO_9.out (by omega)
      (first | cases eo94 | (injection eo94 with ea_ en_ ec_; (first | subst ea_ | (injection ea_ with ea_; subst ea_)); subst ec_; clear en_))
      have GB94 := aM gb94
      have GG94 := aM HG94
      clear gb94 gl94 HG94
      obtain ⟨hx94_0, hf94_0⟩ := Kd.R_celln 0 HO_9.out (x10_2 : Int) p94 q94
      replace p94 := eq_true p94
      replace q94 := eq_true q94
      obtain ⟨hy101_, hz101_⟩ := Kd.R_celln 0 HO_9.out (x10_2 : Int) oD oD
      have HP101 := Kd.R_putg HO_9.out (x10_2 : Int) ji92
      try go_wp2_with (first | ((with_reducible refine gate_store (t := 3) (p := 124) rfl ?_); refine store_event (t := 3) (p := 124) (v := ?vo_w102) (w1 := (w99.setCell ⟨go94, (x10_2 : Int).toNat, none⟩ (.int .i64 ji92))) ?hg ?ho ?hn ?hr ?_; (case ho => rfl); (case hg => rfl); (case hn => rfl); (case hr => first | (go_simp; done) | (go_simp; rfl)); intro w102 hw; have hg : w99.grownBy w102 (some go94) := (by rw [hw]; exact HP101.2); have hp_ : Kd.R (Kd.int .i64) 3 w102 w.heap.size (fun k_ => some k_ ≠ (.slice (some ad489) t457.length co10 : Value).ownBlock ∧ some k_ ≠ (.slice (some ad486) t465.length co15 : Value).ownBlock ∧ some k_ ≠ (.slice Ao22 t473.length co22 : Value).ownBlock) (.slice (some ⟨go94, 0, none⟩) x9_2.length co94) y496 := (by rw [hw, Ny496.out]; exact HP101.1); clear HP101; replace HO_462003 := aM (Kd.Q_after (v := (.slice (some ⟨go94, 0, none⟩) x9_2.length co94)) (v1 := (.slice (some ⟨go94, 0, none⟩) x9_2.length co94)) (ok := (fun k_ => some k_ ≠ (.slice (some ad486) t465.length co15 : Value).ownBlock ∧ some k_ ≠ (.slice Ao22 t473.length co22 : Value).ownBlock)) (by (with_reducible repeat (first | apply Kd.Q_alloc | apply Kd.Q_drewN | apply Kd.Q_drew)); exact Kd.Q_mono HO_462003.out (fun _ hk => ⟨⟨hk.2.1, hk.2.2⟩, hk.1⟩)) hg (.inl rfl)); replace HO_470003 := aM (Kd.Q_after (v := (.slice (some ⟨go94, 0, none⟩) x9_2.length co94)) (v1 := (.slice (some ⟨go94, 0, none⟩) x9_2.length co94)) (ok := (fun k_ => some k_ ≠ (.slice (some ad489) t457.length co10 : Value).ownBlock ∧ some k_ ≠ (.slice Ao22 t473.length co22 : Value).ownBlock)) (by (with_reducible repeat (first | apply Kd.Q_alloc | apply Kd.Q_drewN | apply Kd.Q_drew)); exact Kd.Q_mono HO_470003.out (fun _ hk => ⟨⟨hk.2.1, hk.2.2⟩, hk.1⟩)) hg (.inl rfl)); replace HO_478003 := aM (Kd.Q_after (v := (.slice (some ⟨go94, 0, none⟩) x9_2.length co94)) (v1 := (.slice (some ⟨go94, 0, none⟩) x9_2.length co94)) (ok := (fun k_ => some k_ ≠ (.slice (some ad489) t457.length co10 : Value).ownBlock ∧ some k_ ≠ (.slice (some ad486) t465.length co15 : Value).ownBlock)) (by (with_reducible repeat (first | apply Kd.Q_alloc | apply Kd.Q_drewN | apply Kd.Q_drew)); exact Kd.Q_mono HO_478003.out (fun _ hk => ⟨⟨hk.2.1, hk.2.2⟩, hk.1⟩)) hg (.inl rfl)); replace BK461 := gB BK461 hg (Kd.R_ne HO_9.out BK461.out (by decide)); replace BK469 := gB BK469 hg (Kd.R_ne HO_9.out BK469.out (by decide)); replace BK477 := gB BK477 hg (Kd.R_ne HO_9.out BK477.out (by decide)); replace HO_9 := aM (hp_); replace HB := aM ((by rw [hw]; exact below_set (HB.out) GB94.out : Below w.heap.size w w102)); clear hg hw hp_))
      go_roundg k2
      case measure => have := HJ5.out; have := HK2.out; omega
      case rel => exact ⟨(y496), (wrap64 (x10_2 + 1)), qE, H', ⟨by have := HJ5.out; have := HK2.out; omega⟩, ⟨by refine qR ?_; exact HO_9.out⟩, ⟨by (with_reducible repeat (first | apply Kd.Q_alloc | apply Kd.Q_drewN | apply Kd.Q_drew)); exact Kd.Q_mono HO_462003.out (fun _ hk => ⟨hk.2, ⟨hk.1.1, hk.1.2⟩⟩)⟩, ⟨by (with_reducible repeat (first | apply Kd.Q_alloc | apply Kd.Q_drewN | apply Kd.Q_drew)); exact Kd.Q_mono HO_470003.out (fun _ hk => ⟨hk.2, ⟨hk.1.1, hk.1.2⟩⟩)⟩, ⟨by (with_reducible repeat (first | apply Kd.Q_alloc | apply Kd.Q_drewN | apply Kd.Q_drew)); exact Kd.Q_mono HO_478003.out (fun _ hk => ⟨hk.2, ⟨hk.1.1, hk.1.2⟩⟩)⟩, ⟨by refine qB ?_; exact BK461.out⟩, ⟨by refine qB ?_; exact BK469.out⟩, ⟨by refine qB ?_; exact BK477.out⟩, ⟨by exact qW HB.out⟩⟩
     rw [if_pos c74] at H
     have c74b0 : ((rd t457 x10_2) == 255) = true := beq_iff_eq.mpr c74
     have c74b1 : ((rd t457 x10_2) != 255) = false := bne_eq_false_iff_eq.mpr c74
     clear c74
     by_cases c75 : (rd t465 x10_2) = 255
     rotate_left
     ·rw [if_neg c75] at H
      have c75b0 : ((rd t465 x10_2) == 255) = false := beq_eq_false_iff_ne.mpr c75
      have c75b1 : ((rd t465 x10_2) != 255) = true := bne_iff_ne.mpr c75
      obtain rfl := Option.some.inj H
      exact absurd hrt (by decide)
     rw [if_pos c75] at H
     have c75b0 : ((rd t465 x10_2) == 255) = true := beq_iff_eq.mpr c75
     have c75b1 : ((rd t465 x10_2) != 255) = false := bne_eq_false_iff_eq.mpr c75
     clear c75
     obtain ⟨ji76, hji76⟩ : ∃ j_ : Int, (mn 255 (wrap64 ((rd t457 x10_2) + 20))) = j_ := ⟨_, rfl⟩
     replace H : (if x10_2 < (x9_2.length : Int) then (laws_FnOrderImage.l0 k2 t460 (x9_2.set (x10_2 : Int).toNat (ji76)) (wrap64 (x10_2 + 1)) t454 t455 t456 t457 t462 t463 t464 t465) else (none)) = some r := by first | (rw [hji76] at H; exact H) | (simp only [hji76] at H ⊢; exact H)
     (try rw [hji76] at A69)
     have hji76_ : (if (wrap64 ((rd t457 x10_2) + 20)) < 255 then (wrap64 ((rd t457 x10_2) + 20)) else 255) = ji76 := hji76
     replace H := iD H
     obtain ⟨c77b0, H⟩ := H
     obtain ⟨y494, hy494⟩ : ∃ y_ : List Int, y_ = (x9_2.set (x10_2 : Int).toNat (ji76)) := ⟨_, rfl⟩
     replace H : (laws_FnOrderImage.l0 k2 t460 y494 (wrap64 (x10_2 + 1)) t454 t455 t456 t457 t462 t463 t464 t465) = some r := rY hy494 H
     have Ny494 := aM hy494
     clear hy494
     have H' := aM H
     clear H
     have hnb79 := NB461_469.out
     have hnc79 := NB469_461.out
     have hnb80 := NB461_477.out
     have hnc80 := NB477_461.out
     obtain ⟨⟨hcz81_0, hcz81_1, hcz81_2, hcz81_3⟩, hfz81_0, hfz81_1, hfz81_2, hfz81_3⟩ := cf4 BK461
     try go_wp2
     replace HO_9 := aM (Kd.R_drew HO_9.out)
     replace HO_462003 := aM (Kd.Q_drew HO_462003.out)
     replace HO_470003 := aM (Kd.Q_drew HO_470003.out)
     replace HO_478003 := aM (Kd.Q_drew HO_478003.out)
     replace BK461 := aM (blk_drew BK461.out)
     replace BK469 := aM (blk_drew BK469.out)
     replace BK477 := aM (blk_drew BK477.out)
     replace HB := aM (below_drew1 HB.out)
     obtain ⟨ad486, e486, hx486_0⟩ := Kd.at_int (Kd.Q_reads' HO_470003.out).2.2 x10_2 oD oD
     cases e486
     have p486 := eq_true (oD : 0 ≤ (x10_2 : Int))
     have q486 := eq_true (oD : x10_2 < (t465.length : Int))
     obtain ⟨ad487, e487, hx487_0⟩ := Kd.at_int (Kd.Q_reads' HO_470003.out).2.2 x10_2 oD oD
     obtain rfl : ad486 = ad487 := (by injection e487)
     have p487 := eq_true (oD : 0 ≤ (x10_2 : Int))
     have q487 := eq_true (oD : x10_2 < (t465.length : Int))
     obtain ⟨ad489, e489, hx489_0⟩ := Kd.at_int (Kd.Q_reads' HO_462003.out).2.2 x10_2 oD oD
     cases e489
     have p489 := eq_true (oD : 0 ≤ (x10_2 : Int))
     have q489 := eq_true (oD : x10_2 < (t457.length : Int))
     obtain ⟨ad490, e490, hx490_0⟩ := Kd.at_int (Kd.Q_reads' HO_470003.out).2.2 x10_2 oD oD
     obtain rfl : ad486 = ad490 := (by injection e490)
     have p490 := eq_true (oD : 0 ≤ (x10_2 : Int))
     have q490 := eq_true (oD : x10_2 < (t465.length : Int))
     obtain ⟨ad491, e491, hx491_0⟩ := Kd.at_int (Kd.Q_reads' HO_462003.out).2.2 x10_2 oD oD
     obtain rfl : ad489 = ad491 := (by injection e491)
     have p491 := eq_true (oD : 0 ≤ (x10_2 : Int))
     have q491 := eq_true (oD : x10_2 < (t457.length : Int))
     obtain ⟨ad492, e492, hx492_0⟩ := Kd.at_int (Kd.Q_reads' HO_470003.out).2.2 x10_2 oD oD
     obtain rfl : ad486 = ad492 := (by injection e492)
     have p492 := eq_true (oD : 0 ≤ (x10_2 : Int))
     have q492 := eq_true (oD : x10_2 < (t465.length : Int))
     refine start_ (n := 49) (S := fun w' => w'.cell? ⟨gb469, 0, none⟩ = some (.int .i64 t462) ∧ w'.cell? ⟨gb469, 1, none⟩ = some (.int .i64 t463) ∧ w'.cell? ⟨gb469, 2, none⟩ = some (.int .i64 t464) ∧ w'.cell? ⟨gb469, 3, none⟩ = some (.slice (some ad486) t465.length co15) ∧ w'.cell? ⟨gb461, 0, none⟩ = some (.int .i64 t454) ∧ w'.cell? ⟨gb461, 1, none⟩ = some (.int .i64 t455) ∧ w'.cell? ⟨gb461, 2, none⟩ = some (.int .i64 t456) ∧ w'.cell? ⟨gb461, 3, none⟩ = some (.slice (some ad489) t457.length co10) ∧ w'.cell? (ad486.add (x10_2).toNat) = some (.int .i64 (rd t465 x10_2)) ∧ w'.cell? (ad486.add (x10_2).toNat) = some (.int .i64 (rd t465 x10_2)) ∧ w'.cell? (ad489.add (x10_2).toNat) = some (.int .i64 (rd t457 x10_2)) ∧ w'.cell? (ad486.add (x10_2).toNat) = some (.int .i64 (rd t465 x10_2)) ∧ w'.cell? (ad489.add (x10_2).toNat) = some (.int .i64 (rd t457 x10_2)) ∧ w'.cell? (ad486.add (x10_2).toNat) = some (.int .i64 (rd t465 x10_2))) (ds := []) (bA 49 0) (by kernel_rfl) rfl rfl ⟨(blk_cell BK469.out 0).trans rfl, (blk_cell BK469.out 1).trans rfl, (blk_cell BK469.out 2).trans rfl, (blk_cell BK469.out 3).trans rfl, (blk_cell BK461.out 0).trans rfl, (blk_cell BK461.out 1).trans rfl, (blk_cell BK461.out 2).trans rfl, (blk_cell BK461.out 3).trans rfl, hx486_0, hx487_0, hx489_0, hx490_0, hx491_0, hx492_0⟩ (fun hHeld => ?_); refine with_tabW laws_FnOrderImage.tab12 laws_FnOrderImage.bits12 (fun HT_ HW_ => ?_)
     generalize wr.drew = w82 at HO_9 HO_462003 HO_470003 HO_478003 BK461 BK469 BK477 HB hx486_0 hx487_0 hx489_0 hx490_0 hx491_0 hx492_0 hHeld ⊢
     refine pQ 0 66 HT_ (bA 49 1) ?_
     refine pQ 2 68 HT_ (bA 49 5) ?_
     refine pQ 5 71 HT_ (bA 49 37) ?_
     refine pQ 7 73 HT_ (bA 49 165) ?_
     refine pQ 10 76 HT_ (bA 49 1189) ?_
     refine pQ 13 79 HT_ (bA 49 9381) ?_
     refine pQ 14 80 HT_ (bA 49 25765) ?_
     refine take_ (i := 1) (N := some 67) (v := ?_) (a' := ?_) (bA 49 25767) rfl rfl (take_ofW HT_.out HW_.out (by kernel_rfl)) (fun _ _ _ h => h) (Or.inl ⟨by rfl, ?_⟩) hHeld ?_ ?_
     rotate_left
     ·rintro w' ⟨s0, s1, s2, s3, s4, s5, s6, s7, s8, s9, s10, s11, s12, s13⟩
      go_simp
      with_reducible rfl
     rotate_left
     ·refine pZ ?_
      rfl
     refine pQ 3 69 HT_ (bA 49 25775) ?_
     refine take_ (i := 4) (N := some 70) (v := ?_) (a' := ?_) (bA 49 25791) rfl rfl (take_ofW HT_.out HW_.out (by kernel_rfl)) (fun _ _ _ h => h) (Or.inl ⟨by rfl, ?_⟩) hHeld ?_ ?_
     rotate_left
     ·rintro w' ⟨s0, s1, s2, s3, s4, s5, s6, s7, s8, s9, s10, s11, s12, s13⟩
      go_simp
      with_reducible rfl
     rotate_left
     ·refine pZ ?_
      rfl
     refine take_ (i := 6) (N := some 72) (v := ?_) (a' := ?_) (bA 49 25855) rfl rfl (take_ofW HT_.out HW_.out (by kernel_rfl)) (fun _ _ _ h => h) (Or.inl ⟨by rfl, ?_⟩) hHeld ?_ ?_
     rotate_left
     ·rintro w' ⟨s0, s1, s2, s3, s4, s5, s6, s7, s8, s9, s10, s11, s12, s13⟩
      go_simp
      with_reducible rfl
     rotate_left
     ·refine pZ ?_
      rfl
     refine pQ 8 74 HT_ (bA 49 26111) ?_
     refine take_ (i := 9) (N := some 75) (v := ?_) (a' := ?_) (bA 49 26623) rfl rfl (take_ofW HT_.out HW_.out (by kernel_rfl)) (fun _ _ _ h => h) (Or.inl ⟨by rfl, ?_⟩) hHeld ?_ ?_
     rotate_left
     ·rintro w' ⟨s0, s1, s2, s3, s4, s5, s6, s7, s8, s9, s10, s11, s12, s13⟩
      go_simp
      with_reducible rfl
     rotate_left
     ·refine pZ ?_
      rfl
     refine one_ (i := 11) (N := some 77) (bA 49 28671) rfl rfl (one_of HT_.out (by kernel_rfl)) (by decide) (fun K hK => ?_)
     refine goes_ Try.func26 (by kernel_rfl) rfl #[.int .i64 (rd t465 x10_2), .int .i64 t460] (by rfl) rfl rfl qM ?_
     with_reducible refine (impl_LevelOf.calls k2 (rd t465 x10_2) t460 t488 _ A69.out).mono ?_
     rintro e w83 ⟨rfl, hb⟩
     have HS8_ := (hb.cell (World.block_lt_of_cell? _ _ (hHeld.2.2.2.2.2.2.2.2.1))).trans (hHeld.2.2.2.2.2.2.2.2.1)
     have HS9_ := (hb.cell (World.block_lt_of_cell? _ _ (hHeld.2.2.2.2.2.2.2.2.2.1))).trans (hHeld.2.2.2.2.2.2.2.2.2.1)
     have HS10_ := (hb.cell (World.block_lt_of_cell? _ _ (hHeld.2.2.2.2.2.2.2.2.2.2.1))).trans (hHeld.2.2.2.2.2.2.2.2.2.2.1)
     have HS11_ := (hb.cell (World.block_lt_of_cell? _ _ (hHeld.2.2.2.2.2.2.2.2.2.2.2.1))).trans (hHeld.2.2.2.2.2.2.2.2.2.2.2.1)
     have HS12_ := (hb.cell (World.block_lt_of_cell? _ _ (hHeld.2.2.2.2.2.2.2.2.2.2.2.2.1))).trans (hHeld.2.2.2.2.2.2.2.2.2.2.2.2.1)
     have HS13_ := (hb.cell (World.block_lt_of_cell? _ _ (hHeld.2.2.2.2.2.2.2.2.2.2.2.2.2))).trans (hHeld.2.2.2.2.2.2.2.2.2.2.2.2.2)
     refine ⟨_, rfl, ?_⟩
     replace HO_9 := aM (Kd.R_below (qR HO_9.out) hb)
     replace HO_462003 := aM (Kd.Q_below (qQ HO_462003.out) hb)
     replace HO_470003 := aM (Kd.Q_below (qQ HO_470003.out) hb)
     replace HO_478003 := aM (Kd.Q_below (qQ HO_478003.out) hb)
     replace BK461 := bB BK461 hb
     replace BK469 := bB BK469 hb
     replace BK477 := bB BK477 hb
     replace HB := bS HB hb
     (try clear hb)
     (try clear hb2)
     (try clear hk)
     (try clear hi)
     refine hK.out _ _ ⟨(blk_cell BK469.out 0).trans rfl, (blk_cell BK469.out 1).trans rfl, (blk_cell BK469.out 2).trans rfl, (blk_cell BK469.out 3).trans rfl, (blk_cell BK461.out 0).trans rfl, (blk_cell BK461.out 1).trans rfl, (blk_cell BK461.out 2).trans rfl, (blk_cell BK461.out 3).trans rfl, HS8_, HS9_, HS10_, HS11_, HS12_, HS13_⟩ (fun hHeld => ?_)
     clear hK K
     refine norm_ (a' := ?_) ?_ ?_
     rotate_left
     ·show Act.put _ (some 77) _ = _
      refine pZ ?_
      rfl
     refine pQ 12 78 HT_ (bA 49 32767) ?_
     refine pQ 15 81 HT_ (bA 49 65535) ?_
     refine pQ 16 82 HT_ (bA 49 131071) ?_
     refine pQ 17 83 HT_ (bA 49 262143) ?_
     refine pQ 18 84 HT_ (bA 49 524287) ?_
     refine pQ 20 86 HT_ (bA 49 1572863) ?_
     refine take_ (i := 19) (N := some 85) (v := ?_) (a' := ?_) (bA 49 2097151) rfl rfl (take_ofW HT_.out HW_.out (by kernel_rfl)) (fun _ _ _ h => h) (Or.inl ⟨by rfl, ?_⟩) hHeld ?_ ?_
     rotate_left
     ·rintro w' ⟨s0, s1, s2, s3, s4, s5, s6, s7, s8, s9, s10, s11, s12, s13⟩
      go_simp
      with_reducible rfl
     rotate_left
     ·refine pZ ?_
      rfl
     refine pQ 21 87 HT_ (bA 49 4194303) ?_
     refine take_ (i := 22) (N := some 88) (v := ?_) (a' := ?_) (bA 49 8388607) rfl rfl (take_ofW HT_.out HW_.out (by kernel_rfl)) (fun _ _ _ h => h) (Or.inl ⟨by rfl, ?_⟩) hHeld ?_ ?_
     rotate_left
     ·rintro w' ⟨s0, s1, s2, s3, s4, s5, s6, s7, s8, s9, s10, s11, s12, s13⟩
      go_simp
      with_reducible rfl
     rotate_left
     ·refine pZ ?_
      rfl
     refine pQ 23 89 HT_ (bA 49 16777215) ?_
     refine pQ 24 90 HT_ (bA 49 33554431) ?_
     refine pQ 25 91 HT_ (bA 49 67108863) ?_
     refine pQ 27 93 HT_ (bA 49 201326591) ?_
     refine take_ (i := 26) (N := some 92) (v := ?_) (a' := ?_) (bA 49 268435455) rfl rfl (take_ofW HT_.out HW_.out (by kernel_rfl)) (fun _ _ _ h => h) (Or.inl ⟨by rfl, ?_⟩) hHeld ?_ ?_
     rotate_left
     ·rintro w' ⟨s0, s1, s2, s3, s4, s5, s6, s7, s8, s9, s10, s11, s12, s13⟩
      go_simp
      with_reducible rfl
     rotate_left
     ·refine pZ ?_
      rfl
     refine pQ 28 94 HT_ (bA 49 536870911) ?_
     refine take_ (i := 29) (N := some 95) (v := ?_) (a' := ?_) (bA 49 1073741823) rfl rfl (take_ofW HT_.out HW_.out (by kernel_rfl)) (fun _ _ _ h => h) (Or.inl ⟨by rfl, ?_⟩) hHeld ?_ ?_
     rotate_left
     ·rintro w' ⟨s0, s1, s2, s3, s4, s5, s6, s7, s8, s9, s10, s11, s12, s13⟩
      go_simp
      with_reducible rfl
     rotate_left
     ·refine pZ ?_
      rfl
     refine pQ 30 96 HT_ (bA 49 2147483647) ?_
     refine pQ 31 97 HT_ (bA 49 4294967295) ?_
     refine pQ 32 98 HT_ (bA 49 8589934591) ?_
     refine pQ 33 99 HT_ (bA 49 17179869183) ?_
     refine pQ 34 100 HT_ (bA 49 34359738367) ?_
     refine pQ 36 102 HT_ (bA 49 103079215103) ?_
     refine take_ (i := 35) (N := some 101) (v := ?_) (a' := ?_) (bA 49 137438953471) rfl rfl (take_ofW HT_.out HW_.out (by kernel_rfl)) (fun _ _ _ h => h) (Or.inl ⟨by rfl, ?_⟩) hHeld ?_ ?_
     rotate_left
     ·rintro w' ⟨s0, s1, s2, s3, s4, s5, s6, s7, s8, s9, s10, s11, s12, s13⟩
      go_simp
      with_reducible rfl
     rotate_left
     ·refine pZ ?_
      rfl
     refine pQ 37 103 HT_ (bA 49 274877906943) ?_
     refine take_ (i := 38) (N := some 104) (v := ?_) (a' := ?_) (bA 49 549755813887) rfl rfl (take_ofW HT_.out HW_.out (by kernel_rfl)) (fun _ _ _ h => h) (Or.inl ⟨by rfl, ?_⟩) hHeld ?_ ?_
     rotate_left
     ·rintro w' ⟨s0, s1, s2, s3, s4, s5, s6, s7, s8, s9, s10, s11, s12, s13⟩
      go_simp
      with_reducible rfl
     rotate_left
     ·refine pZ ?_
      rfl
     refine pQ 39 105 HT_ (bA 49 1099511627775) ?_
     refine pQ 40 106 HT_ (bA 49 2199023255551) ?_
     refine pQ 41 107 HT_ (bA 49 4398046511103) ?_
     refine pQ 43 109 HT_ (bA 49 13194139533311) ?_
     refine take_ (i := 42) (N := some 108) (v := ?_) (a' := ?_) (bA 49 17592186044415) rfl rfl (take_ofW HT_.out HW_.out (by kernel_rfl)) (fun _ _ _ h => h) (Or.inl ⟨by rfl, ?_⟩) hHeld ?_ ?_
     rotate_left
     ·rintro w' ⟨s0, s1, s2, s3, s4, s5, s6, s7, s8, s9, s10, s11, s12, s13⟩
      go_simp
      with_reducible rfl
     rotate_left
     ·refine pZ ?_
      rfl
     refine pQ 44 110 HT_ (bA 49 35184372088831) ?_
     refine take_ (i := 45) (N := some 111) (v := ?_) (a' := ?_) (bA 49 70368744177663) rfl rfl (take_ofW HT_.out HW_.out (by kernel_rfl)) (fun _ _ _ h => h) (Or.inl ⟨by rfl, ?_⟩) hHeld ?_ ?_
     rotate_left
     ·rintro w' ⟨s0, s1, s2, s3, s4, s5, s6, s7, s8, s9, s10, s11, s12, s13⟩
      go_simp
      with_reducible rfl
     rotate_left
     ·refine pZ ?_
      rfl
     refine pQ 46 112 HT_ (bA 49 140737488355327) ?_
     refine pQ 47 113 HT_ (bA 49 281474976710655) ?_
     refine pQ 48 114 HT_ (bA 49 562949953421311) ?_
     refine done_ (done_of HT_.out (by kernel_rfl)) ?_
     obtain ⟨⟨hcz84_0, hcz84_1, hcz84_2, hcz84_3⟩, hfz84_0, hfz84_1, hfz84_2, hfz84_3⟩ := cf4 BK461
     obtain ⟨ad493, e493, hx493_0⟩ := Kd.at_int (Kd.Q_reads' HO_462003.out).2.2 x10_2 oD oD
     obtain rfl : ad489 = ad493 := (by injection e493)
     have p493 := eq_true (oD : 0 ≤ (x10_2 : Int))
     have q493 := eq_true (oD : x10_2 < (t457.length : Int))
     have p78 : 0 ≤ (x10_2 : Int) := oD
     have q78 : (x10_2 : Int) < ((x9_2.length : Int) : Int) := oD
     obtain ⟨go78, co78, eo78, gb78, gl78, cl78, HG78⟩ := Kd.R_form HO_9.out (by omega)
     (first | cases eo78 | (injection eo78 with ea_ en_ ec_; (first | subst ea_ | (injection ea_ with ea_; subst ea_)); subst ec_; clear en_))
     have GB78 := aM gb78
     have GG78 := aM HG78
     clear gb78 gl78 HG78
     obtain ⟨hx78_0, hf78_0⟩ := Kd.R_celln 0 HO_9.out (x10_2 : Int) p78 q78
     replace p78 := eq_true p78
     replace q78 := eq_true q78
     obtain ⟨hy85_, hz85_⟩ := Kd.R_celln 0 HO_9.out (x10_2 : Int) oD oD
     have HP85 := Kd.R_putg HO_9.out (x10_2 : Int) ji76
     try go_wp2_with (first | ((with_reducible refine gate_store (t := 3) (p := 124) rfl ?_); refine store_event (t := 3) (p := 124) (v := ?vo_w86) (w1 := (w83.setCell ⟨go78, (x10_2 : Int).toNat, none⟩ (.int .i64 ji76))) ?hg ?ho ?hn ?hr ?_; (case ho => rfl); (case hg => rfl); (case hn => rfl); (case hr => first | (go_simp; done) | (go_simp; rfl)); intro w86 hw; have hg : w83.grownBy w86 (some go78) := (by rw [hw]; exact HP85.2); have hp_ : Kd.R (Kd.int .i64) 3 w86 w.heap.size (fun k_ => some k_ ≠ (.slice (some ad489) t457.length co10 : Value).ownBlock ∧ some k_ ≠ (.slice (some ad486) t465.length co15 : Value).ownBlock ∧ some k_ ≠ (.slice Ao22 t473.length co22 : Value).ownBlock) (.slice (some ⟨go78, 0, none⟩) x9_2.length co78) y494 := (by rw [hw, Ny494.out]; exact HP85.1); clear HP85; replace HO_462003 := aM (Kd.Q_after (v := (.slice (some ⟨go78, 0, none⟩) x9_2.length co78)) (v1 := (.slice (some ⟨go78, 0, none⟩) x9_2.length co78)) (ok := (fun k_ => some k_ ≠ (.slice (some ad486) t465.length co15 : Value).ownBlock ∧ some k_ ≠ (.slice Ao22 t473.length co22 : Value).ownBlock)) (by (with_reducible repeat (first | apply Kd.Q_alloc | apply Kd.Q_drewN | apply Kd.Q_drew)); exact Kd.Q_mono HO_462003.out (fun _ hk => ⟨⟨hk.2.1, hk.2.2⟩, hk.1⟩)) hg (.inl rfl)); replace HO_470003 := aM (Kd.Q_after (v := (.slice (some ⟨go78, 0, none⟩) x9_2.length co78)) (v1 := (.slice (some ⟨go78, 0, none⟩) x9_2.length co78)) (ok := (fun k_ => some k_ ≠ (.slice (some ad489) t457.length co10 : Value).ownBlock ∧ some k_ ≠ (.slice Ao22 t473.length co22 : Value).ownBlock)) (by (with_reducible repeat (first | apply Kd.Q_alloc | apply Kd.Q_drewN | apply Kd.Q_drew)); exact Kd.Q_mono HO_470003.out (fun _ hk => ⟨⟨hk.2.1, hk.2.2⟩, hk.1⟩)) hg (.inl rfl)); replace HO_478003 := aM (Kd.Q_after (v := (.slice (some ⟨go78, 0, none⟩) x9_2.length co78)) (v1 := (.slice (some ⟨go78, 0, none⟩) x9_2.length co78)) (ok := (fun k_ => some k_ ≠ (.slice (some ad489) t457.length co10 : Value).ownBlock ∧ some k_ ≠ (.slice (some ad486) t465.length co15 : Value).ownBlock)) (by (with_reducible repeat (first | apply Kd.Q_alloc | apply Kd.Q_drewN | apply Kd.Q_drew)); exact Kd.Q_mono HO_478003.out (fun _ hk => ⟨⟨hk.2.1, hk.2.2⟩, hk.1⟩)) hg (.inl rfl)); replace BK461 := gB BK461 hg (Kd.R_ne HO_9.out BK461.out (by decide)); replace BK469 := gB BK469 hg (Kd.R_ne HO_9.out BK469.out (by decide)); replace BK477 := gB BK477 hg (Kd.R_ne HO_9.out BK477.out (by decide)); replace HO_9 := aM (hp_); replace HB := aM ((by rw [hw]; exact below_set (HB.out) GB78.out : Below w.heap.size w w86)); clear hg hw hp_))
     go_roundg k2
     case measure => have := HJ5.out; have := HK2.out; omega
     case rel => exact ⟨(y494), (wrap64 (x10_2 + 1)), qE, H', ⟨by have := HJ5.out; have := HK2.out; omega⟩, ⟨by refine qR ?_; exact HO_9.out⟩, ⟨by (with_reducible repeat (first | apply Kd.Q_alloc | apply Kd.Q_drewN | apply Kd.Q_drew)); exact Kd.Q_mono HO_462003.out (fun _ hk => ⟨hk.2, ⟨hk.1.1, hk.1.2⟩⟩)⟩, ⟨by (with_reducible repeat (first | apply Kd.Q_alloc | apply Kd.Q_drewN | apply Kd.Q_drew)); exact Kd.Q_mono HO_470003.out (fun _ hk => ⟨hk.2, ⟨hk.1.1, hk.1.2⟩⟩)⟩, ⟨by (with_reducible repeat (first | apply Kd.Q_alloc | apply Kd.Q_drewN | apply Kd.Q_drew)); exact Kd.Q_mono HO_478003.out (fun _ hk => ⟨hk.2, ⟨hk.1.1, hk.1.2⟩⟩)⟩, ⟨by refine qB ?_; exact BK461.out⟩, ⟨by refine qB ?_; exact BK469.out⟩, ⟨by refine qB ?_; exact BK477.out⟩, ⟨by exact qW HB.out⟩⟩
def laws_FnOrderImage.Pure : Prop := ∀ (l0 : List Int), l0.length ≤ maxLen → l0.length * 1 ≤ 140737488351232 → (∀ x ∈ l0, (Lit.int .u8 x).wf = true) → ∃ k, laws_FnOrderImage.f k l0 = some true
theorem laws_FnOrderImage.walk (P : laws_FnOrderImage.Pure) (a0 : Option Addr) (len0 cap0 : Nat) (z0 : List Int) (w : World) (w0 : (a0 = none ∧ len0 = 0 ∧ cap0 = 0 ∧ z0 = []) ∨ ∃ x, a0 = some x ∧ len0 ≤ cap0 ∧ cap0 ≤ maxLen ∧ z0.length = cap0 ∧ (∀ i, i < z0.length → w.cell? (x.add i) = some (.int .u8 (z0.getD i 0))) ∧ ∀ n ∈ z0, (Lit.int .u8 n).wf = true) (y0 : len0 * 1 ≤ 140737488351232) :
  Calls Try.prog 5 #[.slice a0 len0 cap0] w fun e w' => e = .returned (.bool true) ∧ Below w.heap.size w w' := by
 obtain ⟨l0, rfl, hr0, hm0, hw0, hc0⟩ := ReadsInt.ofRowC w0
 obtain ⟨k, h⟩ := P l0 hm0 y0 hw0
 refine (laws_FnOrderImage.calls k _ _ l0 true w (Kd.C_of_reads (d := (0 : Int)) (h1 := fun _ => rfl) hr0) hc0 h rfl).mono ?_
 rintro e w' ⟨rfl, hd⟩
 exact ⟨rfl, hd⟩
end Go.Proofs.Yteeeedmmcdlhjaa.P
