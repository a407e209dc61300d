/- Contracts and row, written by a program of this place out of the translation: the call answers true and its argument reads as before, for every input; no condition. -/
import Derived.Test.YteeeedmmcdlhjaaK0
import Derived.Test.YteeeedmmcdlhjaaK1
namespace Go.Proofs.Yteeeedmmcdlhjaa.P
open Go.RowKit Go.Proofs.YteeeedmmcdlhjaaW.PrintWords Go.Proofs.YteeeedmmcdlhjaaW.PrintLast Go.Proofs.YteeeedmmcdlhjaaW.PrintMore
attribute [local go_sem] max2_int min2_int max_two min_two max_three min_three max_four min_four   -- for this text's walks alone
set_option linter.unusedVariables false
set_option linter.unusedSimpArgs false
def spec_nearestLevel.l0 : Nat → Int → Int → Int → Int → Option (Int)
 | 0, _, _, _, _ => none
 | k + 1, x0, x1, x5, x6 => if x6 < x1 then ((spec_levelValue.f x6 x1).bind fun t513 => ((spec_distance.f (wrap64 (t513 - x0))).bind fun t514 => ((spec_levelValue.f x5 x1).bind fun t515 => ((spec_distance.f (wrap64 (t515 - x0))).bind fun t516 => (if t514 < t516 then (spec_nearestLevel.l0 k x0 x1 x6 (wrap64 (x6 + 1))) else (spec_nearestLevel.l0 k x0 x1 x5 (wrap64 (x6 + 1)))))))) else (some x5)
def spec_nearestLevel.f (k : Nat) (a0 : Int) (a1 : Int) : Option (Int) := spec_nearestLevel.l0 k a0 a1 0 1
theorem spec_nearestLevel.mono_l : ∀ k, (∀ y0 y1 y2 y3, LeO (spec_nearestLevel.l0 k y0 y1 y2 y3) (spec_nearestLevel.l0 (k + 1) y0 y1 y2 y3))
 | 0 => fun _ _ _ _ r h => by simp [spec_nearestLevel.l0] at h
 | k + 1 => by
  have ih0 := spec_nearestLevel.mono_l k
  ·intro y0 y1 y2 y3
   unfold spec_nearestLevel.l0
   repeat' first | (with_reducible first | exact ih0 _ _ _ _ | exact lR | exact lN | refine lI ?_ ?_ | refine lB ?_ fun _ => ?_) | exact ih0 _ _ _ _ | exact lN | refine lI ?_ ?_ | refine lB ?_ fun _ => ?_
theorem spec_nearestLevel.mono : ∀ a0 a1 k, LeO (spec_nearestLevel.f k a0 a1) (spec_nearestLevel.f (k + 1) a0 a1) := by
 intro a0 a1 k
 have ih0 := spec_nearestLevel.mono_l k
 unfold spec_nearestLevel.f
 repeat' first | (with_reducible first | exact ih0 _ _ _ _ | exact lR | exact lN | refine lI ?_ ?_ | refine lB ?_ fun _ => ?_) | exact ih0 _ _ _ _ | exact lN | refine lI ?_ ?_ | refine lB ?_ fun _ => ?_
set_option maxHeartbeats 8000000 in
set_option maxRecDepth 100000 in
theorem spec_nearestLevel.calls (k : Nat) (a0 : Int) (a1 : Int) (r : Int) (w : World) (h : spec_nearestLevel.f k a0 a1 = some r) :
  Calls Try.prog 69 #[.int .i64 a0, .int .i64 a1] w fun e w' => e = .returned (.int .i64 r) ∧ Drawn0 w w' := by
 unfold spec_nearestLevel.f at h
 have H := h
 clear h
 have H' := aM H
 clear H
 go_enter Try.func69, Try.ntmps69
 go_wp2
 go_loopg [5, 6] k (fun kq v5 v6 w' => ∃ (x5_1 : Int) (x6_1 : Int), v5 = .int .i64 x5_1 ∧ v6 = .int .i64 x6_1 ∧ Aside0 (spec_nearestLevel.l0 kq a0 a1 x5_1 x6_1 = some r) ∧ Aside0 (kq ≤ k) ∧ Drawn0 w w')
 case atStart => exact ⟨(0), (1), qE, qE, H', ⟨Nat.le_refl _⟩, qD⟩
 case round =>
  clear H'
  obtain ⟨x5_1, x6_1, rfl, rfl, HA, HK1, ⟨m1, rfl⟩⟩ := hrel
  cases gk with
  | zero => exact absurd HA.out (by simp [spec_nearestLevel.l0])
  | succ k1 =>
   have H := HA.out
   clear HA
   simp only [spec_nearestLevel.l0] at H
   by_cases c3 : x6_1 < a1
   rotate_left
   ·rw [if_neg c3] at H
    have c3b0 : decide (x6_1 < a1) = false := decide_eq_false c3
    clear c3
    obtain rfl := Option.some.inj H
    go_wp2
    go_ret
    exact ⟨qE, qD⟩
   rw [if_pos c3] at H
   have c3b0 : decide (x6_1 < a1) = true := decide_eq_true c3
   clear c3
   replace H := Option.bind_eq_some_iff.mp H
   obtain ⟨t513, A40, H⟩ := H
   replace H : ((spec_distance.f (wrap64 (t513 - a0))).bind fun t514 => ((spec_levelValue.f x5_1 a1).bind fun t515 => ((spec_distance.f (wrap64 (t515 - a0))).bind fun t516 => (if t514 < t516 then (spec_nearestLevel.l0 k1 a0 a1 x6_1 (wrap64 (x6_1 + 1))) else (spec_nearestLevel.l0 k1 a0 a1 x5_1 (wrap64 (x6_1 + 1))))))) = some r := H
   have A4 := aM A40
   clear A40
   replace H := Option.bind_eq_some_iff.mp H
   obtain ⟨t514, A50, H⟩ := H
   replace H : ((spec_levelValue.f x5_1 a1).bind fun t515 => ((spec_distance.f (wrap64 (t515 - a0))).bind fun t516 => (if t514 < t516 then (spec_nearestLevel.l0 k1 a0 a1 x6_1 (wrap64 (x6_1 + 1))) else (spec_nearestLevel.l0 k1 a0 a1 x5_1 (wrap64 (x6_1 + 1)))))) = some r := H
   have A5 := aM A50
   clear A50
   replace H := Option.bind_eq_some_iff.mp H
   obtain ⟨t515, A60, H⟩ := H
   replace H : ((spec_distance.f (wrap64 (t515 - a0))).bind fun t516 => (if t514 < t516 then (spec_nearestLevel.l0 k1 a0 a1 x6_1 (wrap64 (x6_1 + 1))) else (spec_nearestLevel.l0 k1 a0 a1 x5_1 (wrap64 (x6_1 + 1))))) = some r := H
   have A6 := aM A60
   clear A60
   replace H := Option.bind_eq_some_iff.mp H
   obtain ⟨t516, A70, H⟩ := H
   replace H : (if t514 < t516 then (spec_nearestLevel.l0 k1 a0 a1 x6_1 (wrap64 (x6_1 + 1))) else (spec_nearestLevel.l0 k1 a0 a1 x5_1 (wrap64 (x6_1 + 1)))) = some r := H
   have A7 := aM A70
   clear A70
   by_cases c8 : t514 < t516
   ·rw [if_pos c8] at H
    have c8b0 : decide (t514 < t516) = true := decide_eq_true c8
    clear c8
    have H' := aM H
    clear H
    go_wp2_with (first | ((with_reducible refine gate_callee (f := 59) rfl ?_); refine gL (some 14) Try.func59 #[.int .i64 x6_1, .int .i64 a1] ?_; (with_reducible refine (spec_levelValue.calls x6_1 a1 t513 _ A4.out).mono ?_); rintro e w' ⟨rfl, ⟨nd, rfl⟩⟩; refine ⟨_, rfl, ?_⟩) | ((with_reducible refine gate_callee (f := 96) rfl ?_); refine gL (some 17) Try.func96 #[.int .i64 (wrap64 (t513 - a0))] ?_; (with_reducible refine (spec_distance.calls (wrap64 (t513 - a0)) t514 _ A5.out).mono ?_); rintro e w' ⟨rfl, ⟨nd, rfl⟩⟩; refine ⟨_, rfl, ?_⟩) | ((with_reducible refine gate_callee (f := 59) rfl ?_); refine gL (some 20) Try.func59 #[.int .i64 x5_1, .int .i64 a1] ?_; (with_reducible refine (spec_levelValue.calls x5_1 a1 t515 _ A6.out).mono ?_); rintro e w' ⟨rfl, ⟨nd, rfl⟩⟩; refine ⟨_, rfl, ?_⟩) | ((with_reducible refine gate_callee (f := 96) rfl ?_); refine gL (some 23) Try.func96 #[.int .i64 (wrap64 (t515 - a0))] ?_; (with_reducible refine (spec_distance.calls (wrap64 (t515 - a0)) t516 _ A7.out).mono ?_); rintro e w' ⟨rfl, ⟨nd, rfl⟩⟩; refine ⟨_, rfl, ?_⟩))
    go_roundg k1
    case measure => have := HK1.out; omega
    case rel => exact ⟨(x6_1), (wrap64 (x6_1 + 1)), qE, qE, H', ⟨by have := HK1.out; omega⟩, qD⟩
   rw [if_neg c8] at H
   have c8b0 : decide (t514 < t516) = false := decide_eq_false c8
   clear c8
   have H' := aM H
   clear H
   go_wp2_with (first | ((with_reducible refine gate_callee (f := 59) rfl ?_); refine gL (some 14) Try.func59 #[.int .i64 x6_1, .int .i64 a1] ?_; (with_reducible refine (spec_levelValue.calls x6_1 a1 t513 _ A4.out).mono ?_); rintro e w' ⟨rfl, ⟨nd, rfl⟩⟩; refine ⟨_, rfl, ?_⟩) | ((with_reducible refine gate_callee (f := 96) rfl ?_); refine gL (some 17) Try.func96 #[.int .i64 (wrap64 (t513 - a0))] ?_; (with_reducible refine (spec_distance.calls (wrap64 (t513 - a0)) t514 _ A5.out).mono ?_); rintro e w' ⟨rfl, ⟨nd, rfl⟩⟩; refine ⟨_, rfl, ?_⟩) | ((with_reducible refine gate_callee (f := 59) rfl ?_); refine gL (some 20) Try.func59 #[.int .i64 x5_1, .int .i64 a1] ?_; (with_reducible refine (spec_levelValue.calls x5_1 a1 t515 _ A6.out).mono ?_); rintro e w' ⟨rfl, ⟨nd, rfl⟩⟩; refine ⟨_, rfl, ?_⟩) | ((with_reducible refine gate_callee (f := 96) rfl ?_); refine gL (some 23) Try.func96 #[.int .i64 (wrap64 (t515 - a0))] ?_; (with_reducible refine (spec_distance.calls (wrap64 (t515 - a0)) t516 _ A7.out).mono ?_); rintro e w' ⟨rfl, ⟨nd, rfl⟩⟩; refine ⟨_, rfl, ?_⟩))
   go_roundg k1
   case measure => have := HK1.out; omega
   case rel => exact ⟨(x5_1), (wrap64 (x6_1 + 1)), qE, qE, H', ⟨by have := HK1.out; omega⟩, qD⟩
def spec_copyImage.f (a0_0 : Int) (a0_1 : Int) (a0_2 : Int) (l0_3 : List Int) : Option (Int × Int × Int × List Int) := (spec_copyInts.f l0_3).bind fun t315 => (some (a0_0, a0_1, a0_2, t315))
def spec_copyImage.T1 : Bool × List (List Nat × List Nat) := (true, [([], []), ([0], [0]), ([], []), ([2], [2]), ([], []), ([4], [4]), ([], []), ([6], [6]), ([7], [7]), ([1, 3, 5, 8], [1, 3, 5, 8]), ([9, 8, 0, 1, 2, 3, 4, 5, 6, 7, 8, 9], [9])])
def spec_copyImage.B1 : List Nat := [0, 1, 0, 4, 0, 16, 0, 64, 192, 511, 1023]
theorem spec_copyImage.tab1 : rtab .any (opsOf Try.f58 1) = spec_copyImage.T1 := by kernel_rfl
theorem spec_copyImage.bits1 : waitsOk spec_copyImage.T1.2 spec_copyImage.B1 = true := by kernel_rfl
set_option maxHeartbeats 8000000 in
set_option maxRecDepth 100000 in
theorem spec_copyImage.calls (a0_0 : Int) (a0_1 : Int) (a0_2 : Int) (A0_3 : Option Addr) (c0_3 : Nat) (l0_3 : List Int) (r1 : Int) (r2 : Int) (r3 : Int) (r4 : List Int) (w : World) (hr0_3 : Kd.C (Kd.int .i64) w A0_3 l0_3.length l0_3) (hc0_3 : l0_3.length ≤ c0_3) (h : spec_copyImage.f a0_0 a0_1 a0_2 l0_3 = some (r1, r2, r3, r4)) :
  Calls Try.prog 58 #[.agg #[.int .i64 a0_0, .int .i64 a0_1, .int .i64 a0_2, .slice A0_3 l0_3.length c0_3]] w fun e w' => ∃ v3_ : Value, e = .returned (.agg #[.int .i64 r1, .int .i64 r2, .int .i64 r3, v3_]) ∧ Kd.R (Kd.int .i64) 3 w' w.heap.size (fun _ => True) v3_ r4 ∧ Below w.heap.size w w' := by
 have hu27 := Try.underlying27
 have HR0_3 := aM hr0_3
 have HC0_3 := aM hc0_3
 clear hr0_3 hc0_3
 have HB := aM (Below.refl w.heap.size w)
 unfold spec_copyImage.f at h
 have H := h
 clear h
 replace H := Option.bind_eq_some_iff.mp H
 obtain ⟨t315, A20, H⟩ := H
 replace H : (some (a0_0, a0_1, a0_2, t315)) = some (r1, r2, r3, r4) := H
 have A2 := aM A20
 clear A20
 simp only [Option.some.injEq, Prod.mk.injEq] at H
 obtain ⟨rfl, rfl, rfl, rfl⟩ := H
 go_enter Try.func58, Try.ntmps58
 try go_wp2_with (first | ((with_reducible refine gate_dst (N := 1) rfl ?_); refine bxE (N := 1) (cs := #[.int .i64 a0_0, .int .i64 a0_1, .int .i64 a0_2, .slice A0_3 l0_3.length c0_3]) (t := 27) ?_; intro gb313 hg w3 hbox hb; have BK313 := aM (hbox); have GW313 := gW hg HB; have GE313 := gW hg HB; replace HB := bS HB hb; clear hb hbox hg) | ((with_reducible refine gate_dst (N := 2) rfl ?_); refine bxE (N := 2) (cs := #[.int .i64 0, .int .i64 0, .int .i64 0, .slice none 0 0]) (t := 27) ?_; intro gb314 hg w4 hbox hb; have BK314 := aM (hbox); have GW314 := gW hg HB; have GE314 := gW hg HB; replace HB := bS HB hb; have NB313_314 := nL hg BK313; have NB314_313 := nG hg BK313; replace BK313 := bB BK313 hb; clear hb hbox hg))
 replace BK313 := aM (blk_drew BK313.out)
 replace BK314 := aM (blk_drew BK314.out)
 replace HB := aM (below_drew1 HB.out)
 refine start_ (n := 11) (S := fun w' => w'.cell? ⟨gb313, 0, none⟩ = some (.int .i64 a0_0) ∧ w'.cell? ⟨gb313, 1, none⟩ = some (.int .i64 a0_1) ∧ w'.cell? ⟨gb313, 2, none⟩ = some (.int .i64 a0_2) ∧ w'.cell? ⟨gb313, 3, none⟩ = some (.slice A0_3 l0_3.length c0_3)) (ds := []) (bA 11 0) (by kernel_rfl) rfl rfl ⟨(blk_cell BK313.out 0).trans rfl, (blk_cell BK313.out 1).trans rfl, (blk_cell BK313.out 2).trans rfl, (blk_cell BK313.out 3).trans rfl⟩ (fun hHeld => ?_); refine with_tabW spec_copyImage.tab1 spec_copyImage.bits1 (fun HT_ HW_ => ?_)
 generalize w4.drew = w5 at BK313 BK314 HB hHeld ⊢
 refine pQ 0 3 HT_ (bA 11 1) ?_
 refine pQ 2 5 HT_ (bA 11 5) ?_
 refine pQ 4 7 HT_ (bA 11 21) ?_
 refine pQ 6 9 HT_ (bA 11 85) ?_
 refine take_ (i := 1) (N := some 4) (v := ?_) (a' := ?_) (bA 11 87) rfl rfl (take_ofW HT_.out HW_.out (by kernel_rfl)) (fun _ _ _ h => h) (Or.inl ⟨by rfl, ?_⟩) hHeld ?_ ?_
 rotate_left
 ·rintro w' ⟨s0, s1, s2, s3⟩
  go_simp
  with_reducible rfl
 rotate_left
 ·refine pZ ?_
  rfl
 refine take_ (i := 3) (N := some 6) (v := ?_) (a' := ?_) (bA 11 95) rfl rfl (take_ofW HT_.out HW_.out (by kernel_rfl)) (fun _ _ _ h => h) (Or.inl ⟨by rfl, ?_⟩) hHeld ?_ ?_
 rotate_left
 ·rintro w' ⟨s0, s1, s2, s3⟩
  go_simp
  with_reducible rfl
 rotate_left
 ·refine pZ ?_
  rfl
 refine take_ (i := 5) (N := some 8) (v := ?_) (a' := ?_) (bA 11 127) rfl rfl (take_ofW HT_.out HW_.out (by kernel_rfl)) (fun _ _ _ h => h) (Or.inl ⟨by rfl, ?_⟩) hHeld ?_ ?_
 rotate_left
 ·rintro w' ⟨s0, s1, s2, s3⟩
  go_simp
  with_reducible rfl
 rotate_left
 ·refine pZ ?_
  rfl
 refine take_ (i := 7) (N := some 10) (v := ?_) (a' := ?_) (bA 11 255) rfl rfl (take_ofW HT_.out HW_.out (by kernel_rfl)) (fun _ _ _ h => h) (Or.inl ⟨by rfl, ?_⟩) hHeld ?_ ?_
 rotate_left
 ·rintro w' ⟨s0, s1, s2, s3⟩
  go_simp
  with_reducible rfl
 rotate_left
 ·refine pZ ?_
  rfl
 refine one_ (i := 8) (N := some 11) (bA 11 511) rfl rfl (one_of HT_.out (by kernel_rfl)) (by decide) (fun K hK => ?_)
 refine goes_ Try.func94 (by kernel_rfl) rfl #[.slice A0_3 l0_3.length c0_3] (by rfl) rfl rfl qM ?_
 with_reducible refine (spec_copyInts.calls _ _ l0_3 t315 _ ?side1 ?side2 A2.out).mono ?_
 (case side1 => exact qC (Kd.C_below HR0_3.out HB.out))
 (case side2 => exact HC0_3.out)
 rintro e w6 ⟨v316, rfl, ho0, hb⟩
 refine ⟨_, rfl, ?_⟩
 have HO317 := oR ho0 HB
 replace BK313 := bB BK313 hb
 replace BK314 := bB BK314 hb
 replace HB := bS HB hb
 (try clear hb)
 (try clear hb2)
 (try clear hk)
 (try clear hi)
 (try clear ho0)
 obtain ⟨Ao7, co7, eo7⟩ := Kd.R_slice HO317.out
 (first | subst eo7 | (injection eo7 with f1_ f2_ f3_; have f4_ := f1_.symm; have f5_ := f3_.symm; clear f1_ f2_ f3_; subst f4_; subst f5_))
 refine hK.out _ _ ⟨(blk_cell BK313.out 0).trans rfl, (blk_cell BK313.out 1).trans rfl, (blk_cell BK313.out 2).trans rfl, (blk_cell BK313.out 3).trans rfl⟩ (fun hHeld => ?_)
 clear hK K
 refine norm_ (a' := ?_) ?_ ?_
 rotate_left
 ·show Act.put _ (some 11) _ = _
  refine pZ ?_
  rfl
 refine pQ 9 12 HT_ (bA 11 1023) ?_
 refine one_ (i := 10) (N := none) (bA 11 2047) rfl rfl (one_of HT_.out (by kernel_rfl)) (by decide) (fun K hK => ?_)
 have hs8 : w6.cell? ⟨gb314, 0, none⟩ = some (.int .i64 0) := (blk_cell BK314.out 0).trans rfl
 have hfs8 := blk_frozen BK314.out 0
 have hns8_0 := NB313_314.out
 have hms8_0 := NB314_313.out
 have hs9 : w6.cell? ⟨gb314, 1, none⟩ = some (.int .i64 0) := (blk_cell BK314.out 1).trans rfl
 have hfs9 := blk_frozen BK314.out 1
 have hns9_0 := NB313_314.out
 have hms9_0 := NB314_313.out
 have hs10 : w6.cell? ⟨gb314, 2, none⟩ = some (.int .i64 0) := (blk_cell BK314.out 2).trans rfl
 have hfs10 := blk_frozen BK314.out 2
 have hns10_0 := NB313_314.out
 have hms10_0 := NB314_313.out
 have hs11 : w6.cell? ⟨gb314, 3, none⟩ = some (.slice none 0 0) := (blk_cell BK314.out 3).trans rfl
 have hfs11 := blk_frozen BK314.out 3
 have hns11_0 := NB313_314.out
 have hms11_0 := NB314_313.out
 refine skip_ (w1 := ?_) (by rfl) rfl ?_ ?_
 rotate_left
 ·go_simp
  rfl
 refine hK.out _ _ ⟨((cell_far (p := ⟨gb314, _, none⟩) NB313_314.out _).trans (((cell_far (p := ⟨gb314, _, none⟩) NB313_314.out _).trans (((cell_far (p := ⟨gb314, _, none⟩) NB313_314.out _).trans (((cell_far (p := ⟨gb314, _, none⟩) NB313_314.out _).trans (hHeld.1)))))))), ((cell_far (p := ⟨gb314, _, none⟩) NB313_314.out _).trans (((cell_far (p := ⟨gb314, _, none⟩) NB313_314.out _).trans (((cell_far (p := ⟨gb314, _, none⟩) NB313_314.out _).trans (((cell_far (p := ⟨gb314, _, none⟩) NB313_314.out _).trans (hHeld.2.1)))))))), ((cell_far (p := ⟨gb314, _, none⟩) NB313_314.out _).trans (((cell_far (p := ⟨gb314, _, none⟩) NB313_314.out _).trans (((cell_far (p := ⟨gb314, _, none⟩) NB313_314.out _).trans (((cell_far (p := ⟨gb314, _, none⟩) NB313_314.out _).trans (hHeld.2.2.1)))))))), ((cell_far (p := ⟨gb314, _, none⟩) NB313_314.out _).trans (((cell_far (p := ⟨gb314, _, none⟩) NB313_314.out _).trans (((cell_far (p := ⟨gb314, _, none⟩) NB313_314.out _).trans (((cell_far (p := ⟨gb314, _, none⟩) NB313_314.out _).trans (hHeld.2.2.2))))))))⟩ (fun hHeld => ?_)
 clear hK K
 refine done_ (done_of HT_.out (by kernel_rfl)) ?_
 try go_wp2
 refine bodyPost_ret (results_cell_row rfl _ _ gb314 27 #[.int .i64 a0_0, .int .i64 a0_1, .int .i64 a0_2, .slice Ao7 t315.length co7] (0, 0) _ rfl (by exact bP BK314.out) Try.underlying27 rfl (by kernel_rfl)) rfl ?_
 exact ⟨_, qX, by refine qR ?_; exact Kd.R_mono (rT HO317 BK314) (fun _ hk => trivial), by exact qW HB.out⟩
def spec_bayer.f (a0 : Int) (a1 : Int) : Option (Int) := (some (([0, 8, 2, 10, 12, 4, 14, 6, 3, 11, 1, 9, 15, 7, 13, 5] : List Int) : List Int)).bind fun y318 => (if 0 ≤ (wrap64 ((wrap64 ((Int.tmod a1 4) * 4)) + (Int.tmod a0 4))) then (if (wrap64 ((wrap64 ((Int.tmod a1 4) * 4)) + (Int.tmod a0 4))) < (y318.length : Int) then (some (rd y318 (wrap64 ((wrap64 ((Int.tmod a1 4) * 4)) + (Int.tmod a0 4))))) else (none)) else (none))
set_option maxHeartbeats 8000000 in
set_option maxRecDepth 100000 in
theorem spec_bayer.calls (a0 : Int) (a1 : Int) (r : Int) (w : World) (h : spec_bayer.f a0 a1 = some r) :
  Calls Try.prog 60 #[.int .i64 a0, .int .i64 a1] w fun e w' => e = .returned (.int .i64 r) ∧ Below w.heap.size w w' := by
 have HB := aM (Below.refl w.heap.size w)
 unfold spec_bayer.f at h
 have H := h
 clear h
 obtain ⟨y318, hy318⟩ : ∃ y_ : List Int, y_ = (([0, 8, 2, 10, 12, 4, 14, 6, 3, 11, 1, 9, 15, 7, 13, 5] : List Int)) := ⟨_, rfl⟩
 replace H : (if 0 ≤ (wrap64 ((wrap64 ((Int.tmod a1 4) * 4)) + (Int.tmod a0 4))) then (if (wrap64 ((wrap64 ((Int.tmod a1 4) * 4)) + (Int.tmod a0 4))) < (y318.length : Int) then (some (rd y318 (wrap64 ((wrap64 ((Int.tmod a1 4) * 4)) + (Int.tmod a0 4))))) else (none)) else (none)) = some r := rY hy318 H
 have Ny318 := aM hy318
 clear hy318
 obtain ⟨ji3, hji3⟩ : ∃ j_ : Int, (wrap64 ((wrap64 ((Int.tmod a1 4) * 4)) + (Int.tmod a0 4))) = j_ := ⟨_, rfl⟩
 replace H : (if 0 ≤ (ji3) then (if (ji3) < (y318.length : Int) then (some (rd y318 (ji3))) else (none)) else (none)) = some r := by first | (rw [hji3] at H; exact H) | (simp only [hji3] at H ⊢; exact H)
 have hji3w : (IntKind.i64.wrap ((wrap64 ((Int.tmod a1 4) * 4)) + (Int.tmod a0 4))) = ji3 := (i64_w _).trans hji3
 replace H := iD H
 obtain ⟨c4b0, H⟩ := H
 replace H := iD H
 obtain ⟨c5b0, H⟩ := H
 obtain rfl := Option.some.inj H
 go_enter Try.func60, Try.ntmps60
 go_wp2_with (first | ((with_reducible refine gate_dst (N := 5) rfl ?_); refine iL ([0, 8, 2, 10, 12, 4, 14, 6, 3, 11, 1, 9, 15, 7, 13, 5] : List Int) [.int .i64 0, .int .i64 8, .int .i64 2, .int .i64 10, .int .i64 12, .int .i64 4, .int .i64 14, .int .i64 6, .int .i64 3, .int .i64 11, .int .i64 1, .int .i64 9, .int .i64 15, .int .i64 7, .int .i64 13, .int .i64 5] ?_; intro v319 w6 ho7 hb hg_ hnew_; clear hg_ hnew_; (first | rw [← Ny318.out] at ho7 | (simp only [Int.reduceToNat] at ho7; rw [← Ny318.out] at ho7)); have HO320 := oR ho7 HB; replace HB := bS HB hb; clear hb ho7; obtain ⟨Ao8, co8, rfl⟩ := sL HO320; have p321 : 0 ≤ ((ji3) : Int) := oD; have q321 : (ji3) < (y318.length : Int) := oD; obtain ⟨ad321, e321, hx321_0⟩ := Kd.at_int (Kd.R_reads' HO320.out).2.2 (ji3) p321 q321; cases e321; replace p321 := eq_true p321; replace q321 := eq_true q321))
 go_ret
 exact ⟨by first | rfl | (simp [errW_none, errW_some] <;> rfl) | (simp only [← hji3]; first | rfl | (simp [errW_none, errW_some] <;> rfl)) | (simp [*, errW_none, errW_some] <;> rfl), by exact qW HB.out⟩
mutual
def spec_OrderImage.j0 : Nat → Int → Bool → Int → Int → Int → List Int → Option (Int × Int × Int × List Int × Bool)
 | 0, _, _, _, _, _, _ => none
 | k + 1, x1, x22, x323000, x323001, x323002, x323003 => if x22 = true then (some (0, 0, 0, ([] : List Int), false)) else ((spec_copyImage.f x323000 x323001 x323002 x323003).bind fun bt326 => (spec_OrderImage.l0 k x1 0 x323000 x323001 x323002 x323003 bt326.1 bt326.2.1 bt326.2.2.1 bt326.2.2.2))
def spec_OrderImage.l0 : Nat → Int → Int → Int → Int → Int → List Int → Int → Int → Int → List Int → Option (Int × Int × Int × List Int × Bool)
 | 0, _, _, _, _, _, _, _, _, _, _ => none
 | k + 1, x1, x7, x323000, x323001, x323002, x323003, x333000, x333001, x333002, x333003 => if x7 < x323001 then (spec_OrderImage.l1 k x1 x7 0 x323000 x323001 x323002 x323003 x333000 x333001 x333002 x333003) else (some (x333000, x333001, x333002, x333003, true))
def spec_OrderImage.l1 : Nat → Int → Int → Int → Int → Int → Int → List Int → Int → Int → Int → List Int → Option (Int × Int × Int × List Int × Bool)
 | 0, _, _, _, _, _, _, _, _, _, _, _ => none
 | k + 1, x1, x7, x8, x323000, x323001, x323002, x323003, x333000, x333001, x333002, x333003 => if x8 < x323000 then (if 0 ≤ (wrap64 ((wrap64 (x7 * x323000)) + x8)) then (if (wrap64 ((wrap64 (x7 * x323000)) + x8)) < (x323003.length : Int) then ((spec_bayer.f x8 x7).bind fun t334 => ((spec_levelValue.f (wrap64 (Int.tdiv (wrap64 ((wrap64 ((wrap64 (16 * (rd x323003 (wrap64 ((wrap64 (x7 * x323000)) + x8))))) * (wrap64 (x1 - 1)))) + (wrap64 (255 * t334)))) 4080)) x1).bind fun t335 => (if (wrap64 ((wrap64 (x7 * x323000)) + x8)) < (x333003.length : Int) then (spec_OrderImage.l1 k x1 x7 (wrap64 (x8 + 1)) x323000 x323001 x323002 x323003 x333000 x333001 x333002 (x333003.set ((wrap64 ((wrap64 (x7 * x323000)) + x8)) : Int).toNat t335)) else (none)))) else (none)) else (none)) else (spec_OrderImage.l0 k x1 (wrap64 (x7 + 1)) x323000 x323001 x323002 x323003 x333000 x333001 x333002 x333003)
end
def spec_OrderImage.f (k : Nat) (a0_0 : Int) (a0_1 : Int) (a0_2 : Int) (l0_3 : List Int) (a1 : Int) : Option (Int × Int × Int × List Int × Bool) := (spec_validImage.f k a0_0 a0_1 a0_2 l0_3).bind fun t324 => (if t324 = true then (if a0_2 = 1 then ((spec_validLevels.f a1).bind fun t325 => (spec_OrderImage.j0 k a1 (!t325) a0_0 a0_1 a0_2 l0_3)) else (spec_OrderImage.j0 k a1 true a0_0 a0_1 a0_2 l0_3)) else (spec_OrderImage.j0 k a1 true a0_0 a0_1 a0_2 l0_3))
theorem spec_OrderImage.mono_l : ∀ k, (∀ y0 y1 y2 y3 y4 y5, LeO (spec_OrderImage.j0 k y0 y1 y2 y3 y4 y5) (spec_OrderImage.j0 (k + 1) y0 y1 y2 y3 y4 y5)) ∧ (∀ y0 y1 y2 y3 y4 y5 y6 y7 y8 y9, LeO (spec_OrderImage.l0 k y0 y1 y2 y3 y4 y5 y6 y7 y8 y9) (spec_OrderImage.l0 (k + 1) y0 y1 y2 y3 y4 y5 y6 y7 y8 y9)) ∧ (∀ y0 y1 y2 y3 y4 y5 y6 y7 y8 y9 y10, LeO (spec_OrderImage.l1 k y0 y1 y2 y3 y4 y5 y6 y7 y8 y9 y10) (spec_OrderImage.l1 (k + 1) y0 y1 y2 y3 y4 y5 y6 y7 y8 y9 y10))
 | 0 => ⟨fun _ _ _ _ _ _ r h => by simp [spec_OrderImage.j0] at h, fun _ _ _ _ _ _ _ _ _ _ r h => by simp [spec_OrderImage.l0] at h, fun _ _ _ _ _ _ _ _ _ _ _ r h => by simp [spec_OrderImage.l1] at h⟩
 | k + 1 => by
  obtain ⟨ih0, ih1, ih2⟩ := spec_OrderImage.mono_l k
  refine ⟨?_, ?_, ?_⟩
  all_goals intros
  all_goals first | unfold spec_OrderImage.j0 | unfold spec_OrderImage.l0 | unfold spec_OrderImage.l1
  all_goals repeat' first | (with_reducible first | exact ih0 _ _ _ _ _ _ | exact ih1 _ _ _ _ _ _ _ _ _ _ | exact ih2 _ _ _ _ _ _ _ _ _ _ _ | exact spec_validImage.mono _ _ _ _ _ | exact lR | exact lN | refine lI ?_ ?_ | refine lB ?_ fun _ => ?_) | exact ih0 _ _ _ _ _ _ | exact ih1 _ _ _ _ _ _ _ _ _ _ | exact ih2 _ _ _ _ _ _ _ _ _ _ _ | exact spec_validImage.mono _ _ _ _ _ | exact lN | refine lI ?_ ?_ | refine lB ?_ fun _ => ?_
theorem spec_OrderImage.mono : ∀ a0 a1 a2 a3 a4 k, LeO (spec_OrderImage.f k a0 a1 a2 a3 a4) (spec_OrderImage.f (k + 1) a0 a1 a2 a3 a4) := by
 intro a0 a1 a2 a3 a4 k
 obtain ⟨ih0, ih1, ih2⟩ := spec_OrderImage.mono_l k
 unfold spec_OrderImage.f
 repeat' first | (with_reducible first | exact ih0 _ _ _ _ _ _ | exact ih1 _ _ _ _ _ _ _ _ _ _ | exact ih2 _ _ _ _ _ _ _ _ _ _ _ | exact spec_validImage.mono _ _ _ _ _ | exact lR | exact lN | refine lI ?_ ?_ | refine lB ?_ fun _ => ?_) | exact ih0 _ _ _ _ _ _ | exact ih1 _ _ _ _ _ _ _ _ _ _ | exact ih2 _ _ _ _ _ _ _ _ _ _ _ | exact spec_validImage.mono _ _ _ _ _ | exact lN | refine lI ?_ ?_ | refine lB ?_ fun _ => ?_
def spec_OrderImage.T11 : Bool × List (List Nat × List Nat) := (true, [([], []), ([0], [0]), ([], []), ([], []), ([3], [3]), ([2, 4], [2, 4]), ([], []), ([5, 6], [5, 6]), ([], []), ([8], [8]), ([], []), ([10], [10]), ([9, 11], [9, 11]), ([], []), ([], []), ([13, 14], [13, 14]), ([15], [15]), ([12, 16], [12, 16]), ([17], [17]), ([], []), ([18, 19, 15], [18, 19]), ([1, 7, 0, 1, 2, 3, 4, 5, 6, 7, 8, 9, 10, 11, 12, 13, 14, 15, 16, 17, 18, 19, 20], [1, 7]), ([21, 20, 20, 0, 1, 2, 3, 4, 5, 6, 7, 8, 9, 10, 11, 12, 13, 14, 15, 16, 17, 18, 19, 20], [20, 21])])
def spec_OrderImage.B11 : List Nat := [0, 1, 0, 0, 8, 28, 0, 124, 0, 256, 0, 1024, 3840, 0, 0, 24576, 57344, 130816, 261888, 0, 1048320, 2097151, 4194303]
theorem spec_OrderImage.tab11 : rtab .any (opsOf Try.f19 11) = spec_OrderImage.T11 := by kernel_rfl
theorem spec_OrderImage.bits11 : waitsOk spec_OrderImage.T11.2 spec_OrderImage.B11 = true := by kernel_rfl
set_option maxHeartbeats 8000000 in
set_option maxRecDepth 100000 in
theorem spec_OrderImage.calls (k : Nat) (a0_0 : Int) (a0_1 : Int) (a0_2 : Int) (A0_3 : Option Addr) (c0_3 : Nat) (l0_3 : List Int) (a1 : Int) (r1 : Int) (r2 : Int) (r3 : Int) (r4 : List Int) (r5 : Bool) (w : World) (hr0_3 : Kd.C (Kd.int .i64) w A0_3 l0_3.length l0_3) (hc0_3 : l0_3.length ≤ c0_3) (h : spec_OrderImage.f k a0_0 a0_1 a0_2 l0_3 a1 = some (r1, r2, r3, r4, r5)) :
  Calls Try.prog 19 #[.agg #[.int .i64 a0_0, .int .i64 a0_1, .int .i64 a0_2, .slice A0_3 l0_3.length c0_3], .int .i64 a1] w fun e w' => ∃ v3_ : Value, e = .returned (.tuple #[.agg #[.int .i64 r1, .int .i64 r2, .int .i64 r3, v3_], .bool r5]) ∧ Kd.R (Kd.int .i64) 3 w' w.heap.size (fun _ => True) v3_ r4 ∧ Below w.heap.size w w' := by
 have hu27 := Try.underlying27
 have HR0_3 := aM hr0_3
 have HC0_3 := aM hc0_3
 clear hr0_3 hc0_3
 have HB := aM (Below.refl w.heap.size w)
 unfold spec_OrderImage.f at h
 have H := h
 clear h
 have HC3 := aM H
 clear H
 go_enter Try.func19, Try.ntmps19
 go_upto_region 1 with (first | ((with_reducible refine gate_dst (N := 2) rfl ?_); refine bxE (N := 2) (cs := #[.int .i64 a0_0, .int .i64 a0_1, .int .i64 a0_2, .slice A0_3 l0_3.length c0_3]) (t := 27) ?_; intro gb322 hg w4 hbox hb; have BK322 := aM (hbox); have GW322 := gW hg HB; have GE322 := gW hg HB; replace HB := bS HB hb; clear hb hbox hg) | ((with_reducible refine gate_dst (N := 4) rfl ?_); refine bxE (N := 4) (cs := #[.int .i64 0, .int .i64 0, .int .i64 0, .slice none 0 0]) (t := 27) ?_; intro gb323 hg w5 hbox hb; have BK323 := aM (hbox); have GW323 := gW hg HB; have GE323 := gW hg HB; replace HB := bS HB hb; have NB322_323 := nL hg BK322; have NB323_322 := nG hg BK322; replace BK322 := bB BK322 hb; clear hb hbox hg))
 (try simp only [Act.put, List.setIfInBounds_toArray, List.set_cons_zero, List.set_cons_succ])
 go_cut [22] (fun v22 wc => ∃ (kq : Nat) (x22_2 : Bool), v22 = .bool x22_2 ∧ Aside0 (spec_OrderImage.j0 kq a1 x22_2 a0_0 a0_1 a0_2 l0_3 = some (r1, r2, r3, r4, r5)) ∧ Aside0 (kq ≤ k) ∧ Aside0 (wc.heap[gb322]? = some (.cells #[.int .i64 a0_0, .int .i64 a0_1, .int .i64 a0_2, (.slice A0_3 l0_3.length c0_3)] 27 (0, 0))) ∧ Aside0 (wc.heap[gb323]? = some (.cells #[.int .i64 0, .int .i64 0, .int .i64 0, (.slice none 0 0)] 27 (0, 0))) ∧ Aside0 (Below w.heap.size w wc))
 case first =>
  have H := HC3.out
  clear HC3
  replace H := Option.bind_eq_some_iff.mp H
  obtain ⟨t324, A60, H⟩ := H
  replace H : (if t324 = true then (if a0_2 = 1 then ((spec_validLevels.f a1).bind fun t325 => (spec_OrderImage.j0 k a1 (!t325) a0_0 a0_1 a0_2 l0_3)) else (spec_OrderImage.j0 k a1 true a0_0 a0_1 a0_2 l0_3)) else (spec_OrderImage.j0 k a1 true a0_0 a0_1 a0_2 l0_3)) = some (r1, r2, r3, r4, r5) := H
  have A6 := aM A60
  clear A60
  by_cases c7 : t324 = true
  rotate_left
  ·replace c7 := Bool.eq_false_iff.mpr c7
   subst c7
   have H1 : (spec_OrderImage.j0 k a1 true a0_0 a0_1 a0_2 l0_3) = some (r1, r2, r3, r4, r5) := by rw [if_neg (show ¬ (false = true) by decide)] at H; exact H
   clear H
   have H := H1
   clear H1
   have H' := aM H
   clear H
   have hnb18 := NB322_323.out
   have hnc18 := NB323_322.out
   obtain ⟨⟨hcz19_0, hcz19_1, hcz19_2, hcz19_3⟩, hfz19_0, hfz19_1, hfz19_2, hfz19_3⟩ := cf4 BK322
   go_wp2_with (first | ((with_reducible refine gate_callee (f := 52) rfl ?_); refine gL (some 11) Try.func52 #[.agg #[.int .i64 a0_0, .int .i64 a0_1, .int .i64 a0_2, .slice A0_3 l0_3.length c0_3]] ?_; (with_reducible refine (spec_validImage.calls k a0_0 a0_1 a0_2 _ _ l0_3 false _ ?side1 ?side2 A6.out).mono ?_); (case side1 => exact qC (Kd.C_below HR0_3.out HB.out)); (case side2 => exact HC0_3.out); rintro e w20 ⟨rfl, hb⟩; refine ⟨_, rfl, ?_⟩; replace BK322 := bB BK322 hb; replace BK323 := bB BK323 hb; replace HB := bS HB hb; clear hb))
   go_meet
   case rel => exact ⟨_, (true), qE, H', ⟨by first | omega | exact Nat.le_refl _⟩, ⟨by refine qB ?_; exact BK322.out⟩, ⟨by refine qB ?_; exact BK323.out⟩, ⟨by exact qW HB.out⟩⟩
  subst c7
  have H1 : (if a0_2 = 1 then ((spec_validLevels.f a1).bind fun t325 => (spec_OrderImage.j0 k a1 (!t325) a0_0 a0_1 a0_2 l0_3)) else (spec_OrderImage.j0 k a1 true a0_0 a0_1 a0_2 l0_3)) = some (r1, r2, r3, r4, r5) := by rw [if_pos rfl] at H; exact H
  clear H
  have H := H1
  clear H1
  by_cases c8 : a0_2 = 1
  rotate_left
  ·rw [if_neg c8] at H
   have c8b0 : (a0_2 == 1) = false := beq_eq_false_iff_ne.mpr c8
   have c8b1 : (a0_2 != 1) = true := bne_iff_ne.mpr c8
   (first | rw [c8b0] | (simp only [i64_w, i32_w]; rw [c8b0]) | skip)
   have H' := aM H
   clear H
   have hnb14 := NB322_323.out
   have hnc14 := NB323_322.out
   obtain ⟨⟨hcz15_0, hcz15_1, hcz15_2, hcz15_3⟩, hfz15_0, hfz15_1, hfz15_2, hfz15_3⟩ := cf4 BK322
   go_wp2_with (first | ((with_reducible refine gate_callee (f := 52) rfl ?_); refine gL (some 11) Try.func52 #[.agg #[.int .i64 a0_0, .int .i64 a0_1, .int .i64 a0_2, .slice A0_3 l0_3.length c0_3]] ?_; (with_reducible refine (spec_validImage.calls k a0_0 a0_1 a0_2 _ _ l0_3 true _ ?side1 ?side2 A6.out).mono ?_); (case side1 => exact qC (Kd.C_below HR0_3.out HB.out)); (case side2 => exact HC0_3.out); rintro e w16 ⟨rfl, hb⟩; refine ⟨_, rfl, ?_⟩; replace BK322 := bB BK322 hb; replace BK323 := bB BK323 hb; replace HB := bS HB hb; clear hb; obtain ⟨⟨hcz17_0, hcz17_1, hcz17_2, hcz17_3⟩, hfz17_0, hfz17_1, hfz17_2, hfz17_3⟩ := cf4 BK322))
   go_meet
   case rel => exact ⟨_, (true), qE, H', ⟨by first | omega | exact Nat.le_refl _⟩, ⟨by refine qB ?_; exact BK322.out⟩, ⟨by refine qB ?_; exact BK323.out⟩, ⟨by exact qW HB.out⟩⟩
  rw [if_pos c8] at H
  have c8b0 : (a0_2 == 1) = true := beq_iff_eq.mpr c8
  have c8b1 : (a0_2 != 1) = false := bne_eq_false_iff_eq.mpr c8
  clear c8
  (first | rw [c8b0] | (simp only [i64_w, i32_w]; rw [c8b0]) | skip)
  replace H := Option.bind_eq_some_iff.mp H
  obtain ⟨t325, A90, H⟩ := H
  replace H : (spec_OrderImage.j0 k a1 (!t325) a0_0 a0_1 a0_2 l0_3) = some (r1, r2, r3, r4, r5) := H
  have A9 := aM A90
  clear A90
  have H' := aM H
  clear H
  have hnb10 := NB322_323.out
  have hnc10 := NB323_322.out
  obtain ⟨⟨hcz11_0, hcz11_1, hcz11_2, hcz11_3⟩, hfz11_0, hfz11_1, hfz11_2, hfz11_3⟩ := cf4 BK322
  go_wp2_with (first | ((with_reducible refine gate_callee (f := 52) rfl ?_); refine gL (some 11) Try.func52 #[.agg #[.int .i64 a0_0, .int .i64 a0_1, .int .i64 a0_2, .slice A0_3 l0_3.length c0_3]] ?_; (with_reducible refine (spec_validImage.calls k a0_0 a0_1 a0_2 _ _ l0_3 true _ ?side1 ?side2 A6.out).mono ?_); (case side1 => exact qC (Kd.C_below HR0_3.out HB.out)); (case side2 => exact HC0_3.out); rintro e w12 ⟨rfl, hb⟩; refine ⟨_, rfl, ?_⟩; replace BK322 := bB BK322 hb; replace BK323 := bB BK323 hb; replace HB := bS HB hb; clear hb; obtain ⟨⟨hcz13_0, hcz13_1, hcz13_2, hcz13_3⟩, hfz13_0, hfz13_1, hfz13_2, hfz13_3⟩ := cf4 BK322) | (go_at_call 57; (with_reducible refine (spec_validLevels.calls a1 t325 _ A9.out).mono ?_); rintro e w' ⟨rfl, ⟨nd, rfl⟩⟩))
  go_meet
  case rel => exact ⟨_, (!t325), qE, H', ⟨by first | omega | exact Nat.le_refl _⟩, ⟨by refine qB ?_; exact BK322.out⟩, ⟨by refine qB ?_; exact BK323.out⟩, ⟨by exact qW HB.out⟩⟩
 case rest =>
  clear HC3
  try clear c7
  try clear c8
  try clear c8b0
  try clear c8b1
  try clear hcz11_0 hcz11_1 hcz11_2 hcz11_3 hfz11_0 hfz11_1 hfz11_2 hfz11_3
  try clear hcz13_0 hcz13_1 hcz13_2 hcz13_3 hfz13_0 hfz13_1 hfz13_2 hfz13_3
  try clear hcz15_0 hcz15_1 hcz15_2 hcz15_3 hfz15_0 hfz15_1 hfz15_2 hfz15_3
  try clear hcz17_0 hcz17_1 hcz17_2 hcz17_3 hfz17_0 hfz17_1 hfz17_2 hfz17_3
  try clear hcz19_0 hcz19_1 hcz19_2 hcz19_3 hfz19_0 hfz19_1 hfz19_2 hfz19_3
  obtain ⟨kq, x22_2, rfl, HA, HJ2, BK322, BK323, HB⟩ := hcut
  cases kq with
  | zero => exact absurd HA.out (by simp [spec_OrderImage.j0])
  | succ kj2 =>
   have H := HA.out
   clear HA
   simp only [spec_OrderImage.j0] at H
   by_cases c21 : x22_2 = true
   ·subst c21
    have H1 : (some (0, 0, 0, ([] : List Int), false)) = some (r1, r2, r3, r4, r5) := by rw [if_pos rfl] at H; exact H
    clear H
    have H := H1
    clear H1
    simp only [Option.some.injEq, Prod.mk.injEq] at H
    obtain ⟨rfl, rfl, rfl, rfl, rfl⟩ := H
    have hnb22 := NB323_322.out
    have hnc22 := NB322_323.out
    obtain ⟨⟨hcz23_0, hcz23_1, hcz23_2, hcz23_3⟩, hfz23_0, hfz23_1, hfz23_2, hfz23_3⟩ := cf4 BK323
    go_wp2
    refine bodyPost_ret (results_ct rfl _ _ gb323 27 #[.int .i64 0, .int .i64 0, .int .i64 0, .slice none 0 0] (0, 0) _ rfl (by exact bP BK323.out) Try.underlying27 rfl (by kernel_rfl)) rfl ?_
    exact ⟨_, qX, qN, by exact qW HB.out⟩
   replace c21 := Bool.eq_false_iff.mpr c21
   subst c21
   have H1 : ((spec_copyImage.f a0_0 a0_1 a0_2 l0_3).bind fun bt326 => (spec_OrderImage.l0 kj2 a1 0 a0_0 a0_1 a0_2 l0_3 bt326.1 bt326.2.1 bt326.2.2.1 bt326.2.2.2)) = some (r1, r2, r3, r4, r5) := by rw [if_neg (show ¬ (false = true) by decide)] at H; exact H
   clear H
   have H := H1
   clear H1
   replace H := Option.bind_eq_some_iff.mp H
   obtain ⟨⟨t326, t327, t328, t329⟩, A240, H⟩ := H
   replace H : (spec_OrderImage.l0 kj2 a1 0 a0_0 a0_1 a0_2 l0_3 t326 t327 t328 t329) = some (r1, r2, r3, r4, r5) := H
   have A24 := aM A240
   clear A240
   have H' := aM H
   clear H
   have hnb25 := NB322_323.out
   have hnc25 := NB323_322.out
   obtain ⟨⟨hcz26_0, hcz26_1, hcz26_2, hcz26_3⟩, hfz26_0, hfz26_1, hfz26_2, hfz26_3⟩ := cf4 BK322
   go_wp2_with (first | ((with_reducible refine gate_callee (f := 58) rfl ?_); refine gL (some 25) Try.func58 #[.agg #[.int .i64 a0_0, .int .i64 a0_1, .int .i64 a0_2, .slice A0_3 l0_3.length c0_3]] ?_; (with_reducible refine (spec_copyImage.calls a0_0 a0_1 a0_2 _ _ l0_3 t326 t327 t328 t329 _ ?side1 ?side2 A24.out).mono ?_); (case side1 => exact qC (Kd.C_below HR0_3.out HB.out)); (case side2 => exact HC0_3.out); rintro e w27 ⟨v330, rfl, ho0, hb⟩; refine ⟨_, rfl, ?_⟩; have HO331 := oR ho0 HB; replace BK322 := bB BK322 hb; replace BK323 := bB BK323 hb; replace HB := bS HB hb; clear hb ho0) | ((with_reducible refine gate_dst (N := 6) rfl ?_); refine bxE (N := 6) (cs := #[.int .i64 0, .int .i64 0, .int .i64 0, .slice none 0 0]) (t := 27) ?_; intro gb332 hg w28 hbox hb; replace HO331 := aM (Kd.R_below (qR HO331.out) hb); have BK332 := aM (hbox); have GW332 := gW hg HB; have GE332 := gW hg HB; replace HB := bS HB hb; have NB322_332 := nL hg BK322; have NB332_322 := nG hg BK322; replace BK322 := bB BK322 hb; have NB323_332 := nL hg BK323; have NB332_323 := nG hg BK323; replace BK323 := bB BK323 hb; clear hb hbox hg; have hnb29 := NB332_322.out; have hnc29 := NB322_332.out; have hnb30 := NB332_323.out; have hnc30 := NB323_332.out; obtain ⟨⟨hcz31_0, hcz31_1, hcz31_2, hcz31_3⟩, hfz31_0, hfz31_1, hfz31_2, hfz31_3⟩ := cf4 BK332; obtain ⟨Ao32, co32, rfl⟩ := sL HO331))
   go_loopg [7] kj2 (fun kq v7 w' => ∃ (x7_2 : Int) (x333003_2 : List Int) (u333003 : Value), v7 = .int .i64 x7_2 ∧ Aside0 (spec_OrderImage.l0 kq a1 x7_2 a0_0 a0_1 a0_2 l0_3 t326 t327 t328 x333003_2 = some (r1, r2, r3, r4, r5)) ∧ Aside0 (kq ≤ kj2) ∧ Aside0 (Kd.R (Kd.int .i64) 3 w' w.heap.size (fun _ => True) u333003 x333003_2) ∧ Aside0 (w'.heap[gb322]? = some (.cells #[.int .i64 a0_0, .int .i64 a0_1, .int .i64 a0_2, (.slice A0_3 l0_3.length c0_3)] 27 (0, 0))) ∧ Aside0 (w'.heap[gb323]? = some (.cells #[.int .i64 0, .int .i64 0, .int .i64 0, (.slice none 0 0)] 27 (0, 0))) ∧ Aside0 (w'.heap[gb332]? = some (.cells #[.int .i64 t326, .int .i64 t327, .int .i64 t328, u333003] 27 (0, 0))) ∧ Aside0 (Below w.heap.size w w'))
   case atStart => exact ⟨(0), (t329), (.slice Ao32 t329.length co32), qE, H', ⟨Nat.le_refl _⟩, ⟨by refine qR ?_; exact Kd.R_mono (rT HO331 BK332) (fun _ hk => trivial)⟩, ⟨by refine qB ?_; refine blk_far ?_ NB322_332.out _; refine qB ?_; refine blk_far ?_ NB322_332.out _; refine qB ?_; refine blk_far ?_ NB322_332.out _; refine qB ?_; refine blk_far ?_ NB322_332.out _; refine qB ?_; exact BK322.out⟩, ⟨by refine qB ?_; refine blk_far ?_ NB323_332.out _; refine qB ?_; refine blk_far ?_ NB323_332.out _; refine qB ?_; refine blk_far ?_ NB323_332.out _; refine qB ?_; refine blk_far ?_ NB323_332.out _; refine qB ?_; exact BK323.out⟩, ⟨by exact bP BK332.out⟩, ⟨by exact qW HB.out⟩⟩
   case round =>
    clear H'
    try clear c7
    try clear c8
    try clear c8b0
    try clear c8b1
    try clear c21
    try clear hcz11_0 hcz11_1 hcz11_2 hcz11_3 hfz11_0 hfz11_1 hfz11_2 hfz11_3
    try clear hcz13_0 hcz13_1 hcz13_2 hcz13_3 hfz13_0 hfz13_1 hfz13_2 hfz13_3
    try clear hcz15_0 hcz15_1 hcz15_2 hcz15_3 hfz15_0 hfz15_1 hfz15_2 hfz15_3
    try clear hcz17_0 hcz17_1 hcz17_2 hcz17_3 hfz17_0 hfz17_1 hfz17_2 hfz17_3
    try clear hcz19_0 hcz19_1 hcz19_2 hcz19_3 hfz19_0 hfz19_1 hfz19_2 hfz19_3
    try clear hcz23_0 hcz23_1 hcz23_2 hcz23_3 hfz23_0 hfz23_1 hfz23_2 hfz23_3
    try clear hcz26_0 hcz26_1 hcz26_2 hcz26_3 hfz26_0 hfz26_1 hfz26_2 hfz26_3
    try clear hcz31_0 hcz31_1 hcz31_2 hcz31_3 hfz31_0 hfz31_1 hfz31_2 hfz31_3
    obtain ⟨x7_2, x333003_2, u333003, rfl, HA, HK2, HO_333003, BK322, BK323, BK332, HB⟩ := hrel
    cases gk with
    | zero => exact absurd HA.out (by simp [spec_OrderImage.l0])
    | succ k2 =>
     have H := HA.out
     clear HA
     simp only [spec_OrderImage.l0] at H
     by_cases c33 : x7_2 < a0_1
     rotate_left
     ·rw [if_neg c33] at H
      have c33b0 : decide (x7_2 < a0_1) = false := decide_eq_false c33
      clear c33
      simp only [Option.some.injEq, Prod.mk.injEq] at H
      obtain ⟨rfl, rfl, rfl, rfl, rfl⟩ := H
      have hnb54 := NB322_323.out
      have hnc54 := NB323_322.out
      have hnb55 := NB322_332.out
      have hnc55 := NB332_322.out
      obtain ⟨⟨hcz56_0, hcz56_1, hcz56_2, hcz56_3⟩, hfz56_0, hfz56_1, hfz56_2, hfz56_3⟩ := cf4 BK322
      have hnb57 := NB332_323.out
      have hnc57 := NB323_332.out
      obtain ⟨⟨hcz58_0, hcz58_1, hcz58_2, hcz58_3⟩, hfz58_0, hfz58_1, hfz58_2, hfz58_3⟩ := cf4 BK332
      obtain ⟨⟨hcz59_0, hcz59_1, hcz59_2, hcz59_3⟩, hfz59_0, hfz59_1, hfz59_2, hfz59_3⟩ := cf4 BK323
      obtain ⟨Ao60, co60, rfl⟩ := sL HO_333003
      go_wp2
      refine bodyPost_ret (results_ct rfl _ _ gb323 27 #[.int .i64 t326, .int .i64 t327, .int .i64 t328, .slice Ao60 x333003_2.length co60] (0, 0) _ rfl (by exact bP BK323.out) Try.underlying27 rfl (by kernel_rfl)) rfl ?_
      exact ⟨_, qX, by refine qR ?_; exact Kd.R_mono (rT HO_333003 BK323) (fun _ hk => trivial), by exact qW HB.out⟩
     rw [if_pos c33] at H
     have c33b0 : decide (x7_2 < a0_1) = true := decide_eq_true c33
     clear c33
     have H' := aM H
     clear H
     have hnb34 := NB322_323.out
     have hnc34 := NB323_322.out
     have hnb35 := NB322_332.out
     have hnc35 := NB332_322.out
     obtain ⟨⟨hcz36_0, hcz36_1, hcz36_2, hcz36_3⟩, hfz36_0, hfz36_1, hfz36_2, hfz36_3⟩ := cf4 BK322
     go_wp2
     go_loopg [8] k2 (fun kq v8 w' => ∃ (x8_3 : Int) (x333003_3 : List Int) (u333003 : Value), v8 = .int .i64 x8_3 ∧ Aside0 (spec_OrderImage.l1 kq a1 x7_2 x8_3 a0_0 a0_1 a0_2 l0_3 t326 t327 t328 x333003_3 = some (r1, r2, r3, r4, r5)) ∧ Aside0 (kq ≤ k2) ∧ Aside0 (Kd.R (Kd.int .i64) 3 w' w.heap.size (fun _ => True) u333003 x333003_3) ∧ Aside0 (w'.heap[gb322]? = some (.cells #[.int .i64 a0_0, .int .i64 a0_1, .int .i64 a0_2, (.slice A0_3 l0_3.length c0_3)] 27 (0, 0))) ∧ Aside0 (w'.heap[gb323]? = some (.cells #[.int .i64 0, .int .i64 0, .int .i64 0, (.slice none 0 0)] 27 (0, 0))) ∧ Aside0 (w'.heap[gb332]? = some (.cells #[.int .i64 t326, .int .i64 t327, .int .i64 t328, u333003] 27 (0, 0))) ∧ Aside0 (Below w.heap.size w w'))
     case atStart => exact ⟨(0), (x333003_2), (u333003), qE, H', ⟨Nat.le_refl _⟩, ⟨by refine qR ?_; exact HO_333003.out⟩, ⟨by refine qB ?_; exact BK322.out⟩, ⟨by refine qB ?_; exact BK323.out⟩, ⟨by refine qB ?_; exact BK332.out⟩, ⟨by exact qW HB.out⟩⟩
     case round =>
      clear H'
      try clear c7
      try clear c8
      try clear c8b0
      try clear c8b1
      try clear c21
      try clear c33
      try clear c33b0
      try clear hcz11_0 hcz11_1 hcz11_2 hcz11_3 hfz11_0 hfz11_1 hfz11_2 hfz11_3
      try clear hcz13_0 hcz13_1 hcz13_2 hcz13_3 hfz13_0 hfz13_1 hfz13_2 hfz13_3
      try clear hcz15_0 hcz15_1 hcz15_2 hcz15_3 hfz15_0 hfz15_1 hfz15_2 hfz15_3
      try clear hcz17_0 hcz17_1 hcz17_2 hcz17_3 hfz17_0 hfz17_1 hfz17_2 hfz17_3
      try clear hcz19_0 hcz19_1 hcz19_2 hcz19_3 hfz19_0 hfz19_1 hfz19_2 hfz19_3
      try clear hcz23_0 hcz23_1 hcz23_2 hcz23_3 hfz23_0 hfz23_1 hfz23_2 hfz23_3
      try clear hcz26_0 hcz26_1 hcz26_2 hcz26_3 hfz26_0 hfz26_1 hfz26_2 hfz26_3
      try clear hcz31_0 hcz31_1 hcz31_2 hcz31_3 hfz31_0 hfz31_1 hfz31_2 hfz31_3
      try clear hcz36_0 hcz36_1 hcz36_2 hcz36_3 hfz36_0 hfz36_1 hfz36_2 hfz36_3
      obtain ⟨x8_3, x333003_3, u333003, rfl, HA, HK3, HO_333003, BK322, BK323, BK332, HB⟩ := hrel
      cases gk with
      | zero => exact absurd HA.out (by simp [spec_OrderImage.l1])
      | succ k3 =>
       have H := HA.out
       clear HA
       simp only [spec_OrderImage.l1] at H
       by_cases c37 : x8_3 < a0_0
       rotate_left
       ·rw [if_neg c37] at H
        have c37b0 : decide (x8_3 < a0_0) = false := decide_eq_false c37
        clear c37
        have H' := aM H
        clear H
        have hnb51 := NB322_323.out
        have hnc51 := NB323_322.out
        have hnb52 := NB322_332.out
        have hnc52 := NB332_322.out
        obtain ⟨⟨hcz53_0, hcz53_1, hcz53_2, hcz53_3⟩, hfz53_0, hfz53_1, hfz53_2, hfz53_3⟩ := cf4 BK322
        go_wp2
        go_roundg k3
        case measure => have := HJ2.out; have := HK2.out; have := HK3.out; omega
        case rel => exact ⟨(wrap64 (x7_2 + 1)), (x333003_3), (u333003), qE, H', ⟨by have := HJ2.out; have := HK2.out; have := HK3.out; omega⟩, ⟨by refine qR ?_; exact HO_333003.out⟩, ⟨by refine qB ?_; exact BK322.out⟩, ⟨by refine qB ?_; exact BK323.out⟩, ⟨by refine qB ?_; exact BK332.out⟩, ⟨by exact qW HB.out⟩⟩
       rw [if_pos c37] at H
       have c37b0 : decide (x8_3 < a0_0) = true := decide_eq_true c37
       clear c37
       obtain ⟨ji38, hji38⟩ : ∃ j_ : Int, (wrap64 ((wrap64 (x7_2 * a0_0)) + x8_3)) = j_ := ⟨_, rfl⟩
       replace H : (if 0 ≤ (ji38) then (if (ji38) < (l0_3.length : Int) then ((spec_bayer.f x8_3 x7_2).bind fun t334 => ((spec_levelValue.f (wrap64 (Int.tdiv (wrap64 ((wrap64 ((wrap64 (16 * (rd l0_3 (ji38)))) * (wrap64 (a1 - 1)))) + (wrap64 (255 * t334)))) 4080)) a1).bind fun t335 => (if (ji38) < (x333003_3.length : Int) then (spec_OrderImage.l1 k3 a1 x7_2 (wrap64 (x8_3 + 1)) a0_0 a0_1 a0_2 l0_3 t326 t327 t328 (x333003_3.set ((ji38) : Int).toNat t335)) else (none)))) else (none)) else (none)) = some (r1, r2, r3, r4, r5) := by first | (rw [hji38] at H; exact H) | (simp only [hji38] at H ⊢; exact H)
       have hji38w : (IntKind.i64.wrap ((wrap64 (x7_2 * a0_0)) + x8_3)) = ji38 := (i64_w _).trans hji38
       replace H := iD H
       obtain ⟨c39b0, H⟩ := H
       replace H := iD H
       obtain ⟨c40b0, H⟩ := H
       replace H := Option.bind_eq_some_iff.mp H
       obtain ⟨t334, A410, H⟩ := H
       replace H : ((spec_levelValue.f (wrap64 (Int.tdiv (wrap64 ((wrap64 ((wrap64 (16 * (rd l0_3 (ji38)))) * (wrap64 (a1 - 1)))) + (wrap64 (255 * t334)))) 4080)) a1).bind fun t335 => (if (ji38) < (x333003_3.length : Int) then (spec_OrderImage.l1 k3 a1 x7_2 (wrap64 (x8_3 + 1)) a0_0 a0_1 a0_2 l0_3 t326 t327 t328 (x333003_3.set ((ji38) : Int).toNat t335)) else (none))) = some (r1, r2, r3, r4, r5) := H
       have A41 := aM A410
       clear A410
       replace H := Option.bind_eq_some_iff.mp H
       obtain ⟨t335, A420, H⟩ := H
       replace H : (if (ji38) < (x333003_3.length : Int) then (spec_OrderImage.l1 k3 a1 x7_2 (wrap64 (x8_3 + 1)) a0_0 a0_1 a0_2 l0_3 t326 t327 t328 (x333003_3.set ((ji38) : Int).toNat t335)) else (none)) = some (r1, r2, r3, r4, r5) := H
       have A42 := aM A420
       clear A420
       replace H := iD H
       obtain ⟨c43b0, H⟩ := H
       obtain ⟨y336, hy336⟩ : ∃ y_ : List Int, y_ = (x333003_3.set ((ji38) : Int).toNat t335) := ⟨_, rfl⟩
       replace H : (spec_OrderImage.l1 k3 a1 x7_2 (wrap64 (x8_3 + 1)) a0_0 a0_1 a0_2 l0_3 t326 t327 t328 y336) = some (r1, r2, r3, r4, r5) := rY hy336 H
       have Ny336 := aM hy336
       clear hy336
       have H' := aM H
       clear H
       have hnb45 := NB322_323.out
       have hnc45 := NB323_322.out
       have hnb46 := NB322_332.out
       have hnc46 := NB332_322.out
       obtain ⟨⟨hcz47_0, hcz47_1, hcz47_2, hcz47_3⟩, hfz47_0, hfz47_1, hfz47_2, hfz47_3⟩ := cf4 BK322
       obtain ⟨ad333, e333, hx333_0⟩ := Kd.at_int HR0_3.out (ji38) oD oD
       cases e333
       replace hx333_0 := bD HB hx333_0
       have p333 := eq_true (oD : 0 ≤ ((ji38) : Int))
       have q333 := eq_true (oD : (ji38) < (l0_3.length : Int))
       try go_wp2
       replace HO_333003 := aM (Kd.R_drew HO_333003.out)
       replace BK322 := aM (blk_drew BK322.out)
       replace BK323 := aM (blk_drew BK323.out)
       replace BK332 := aM (blk_drew BK332.out)
       replace HB := aM (below_drew1 HB.out)
       refine start_ (n := 23) (S := fun w' => w'.cell? ⟨gb332, 0, none⟩ = some (.int .i64 t326) ∧ w'.cell? ⟨gb332, 1, none⟩ = some (.int .i64 t327) ∧ w'.cell? ⟨gb332, 2, none⟩ = some (.int .i64 t328) ∧ w'.cell? ⟨gb332, 3, none⟩ = some (u333003) ∧ w'.cell? ⟨gb322, 0, none⟩ = some (.int .i64 a0_0) ∧ w'.cell? ⟨gb322, 1, none⟩ = some (.int .i64 a0_1) ∧ w'.cell? ⟨gb322, 2, none⟩ = some (.int .i64 a0_2) ∧ w'.cell? ⟨gb322, 3, none⟩ = some (.slice (some ad333) l0_3.length c0_3)) (ds := [22]) (bA 23 0) (by kernel_rfl) rfl rfl ⟨(blk_cell BK332.out 0).trans rfl, (blk_cell BK332.out 1).trans rfl, (blk_cell BK332.out 2).trans rfl, (blk_cell BK332.out 3).trans rfl, (blk_cell BK322.out 0).trans rfl, (blk_cell BK322.out 1).trans rfl, (blk_cell BK322.out 2).trans rfl, (blk_cell BK322.out 3).trans rfl⟩ (fun hHeld => ?_); refine with_tabW spec_OrderImage.tab11 spec_OrderImage.bits11 (fun HT_ HW_ => ?_)
       generalize wr.drew = w48 at HO_333003 BK322 BK323 BK332 HB hHeld ⊢
       refine pQ 0 48 HT_ (bA 23 1) ?_
       refine pQ 2 50 HT_ (bA 23 5) ?_
       refine pQ 3 51 HT_ (bA 23 13) ?_
       refine pQ 6 54 HT_ (bA 23 77) ?_
       refine pQ 8 56 HT_ (bA 23 333) ?_
       refine pQ 9 57 HT_ (bA 23 845) ?_
       refine pQ 10 58 HT_ (bA 23 1869) ?_
       refine pQ 11 59 HT_ (bA 23 3917) ?_
       refine pQ 12 60 HT_ (bA 23 8013) ?_
       refine pQ 13 61 HT_ (bA 23 16205) ?_
       refine pQ 14 62 HT_ (bA 23 32589) ?_
       refine pQ 19 67 HT_ (bA 23 556877) ?_
       refine take_ (i := 1) (N := some 49) (v := ?_) (a' := ?_) (bA 23 556879) rfl rfl (take_ofW HT_.out HW_.out (by kernel_rfl)) (fun _ _ _ h => h) (Or.inl ⟨by rfl, ?_⟩) hHeld ?_ ?_
       rotate_left
       ·rintro w' ⟨s0, s1, s2, s3, s4, s5, s6, s7⟩
        go_simp
        with_reducible rfl
       rotate_left
       ·refine pZ ?_
        rfl
       refine take_ (i := 4) (N := some 52) (v := ?_) (a' := ?_) (bA 23 556895) rfl rfl (take_ofW HT_.out HW_.out (by kernel_rfl)) (fun _ _ _ h => h) (Or.inl ⟨by rfl, ?_⟩) hHeld ?_ ?_
       rotate_left
       ·rintro w' ⟨s0, s1, s2, s3, s4, s5, s6, s7⟩
        go_simp
        with_reducible rfl
       rotate_left
       ·refine pZ ?_
        rfl
       refine pQ 5 53 HT_ (bA 23 556927) ?_
       refine pQ 7 55 HT_ (bA 23 557055) ?_
       refine one_ (i := 15) (N := some 63) (bA 23 589823) rfl rfl (one_of HT_.out (by kernel_rfl)) (by decide) (fun K hK => ?_)
       refine goes_ Try.func60 (by kernel_rfl) rfl #[.int .i64 x8_3, .int .i64 x7_2] (by rfl) rfl rfl qM ?_
       with_reducible refine (spec_bayer.calls x8_3 x7_2 t334 _ A41.out).mono ?_
       rintro e w49 ⟨rfl, hb⟩
       refine ⟨_, rfl, ?_⟩
       replace HO_333003 := aM (Kd.R_below (qR HO_333003.out) hb)
       replace BK322 := bB BK322 hb
       replace BK323 := bB BK323 hb
       replace BK332 := bB BK332 hb
       replace HB := bS HB hb
       (try clear hb)
       (try clear hb2)
       (try clear hk)
       (try clear hi)
       refine hK.out _ _ ⟨(blk_cell BK332.out 0).trans rfl, (blk_cell BK332.out 1).trans rfl, (blk_cell BK332.out 2).trans rfl, (blk_cell BK332.out 3).trans rfl, (blk_cell BK322.out 0).trans rfl, (blk_cell BK322.out 1).trans rfl, (blk_cell BK322.out 2).trans rfl, (blk_cell BK322.out 3).trans rfl⟩ (fun hHeld => ?_)
       clear hK K
       refine norm_ (a' := ?_) ?_ ?_
       rotate_left
       ·show Act.put _ (some 63) _ = _
        refine pZ ?_
        rfl
       refine pQ 16 64 HT_ (bA 23 655359) ?_
       refine pQ 17 65 HT_ (bA 23 786431) ?_
       refine pQ 18 66 HT_ (bA 23 1048575) ?_
       refine one_ (i := 20) (N := some 68) (bA 23 2097151) rfl rfl (one_of HT_.out (by kernel_rfl)) (by decide) (fun K hK => ?_)
       refine goes_ Try.func59 (by kernel_rfl) rfl #[.int .i64 (wrap64 (Int.tdiv (wrap64 ((wrap64 ((wrap64 (16 * (rd l0_3 (ji38)))) * (wrap64 (a1 - 1)))) + (wrap64 (255 * t334)))) 4080)), .int .i64 a1] (by rfl) rfl rfl (by (try simp only [List.map_toArray, List.map_cons, List.map_nil]); first | done | (simp only [hji38]; rfl) | rfl | (simp only [List.length_drop, List.length_take]; rfl)) ?_
       with_reducible refine (spec_levelValue.calls (wrap64 (Int.tdiv (wrap64 ((wrap64 ((wrap64 (16 * (rd l0_3 (ji38)))) * (wrap64 (a1 - 1)))) + (wrap64 (255 * t334)))) 4080)) a1 t335 _ A42.out).mono ?_
       rintro e w' ⟨rfl, ⟨nd, rfl⟩⟩
       refine ⟨_, rfl, ?_⟩
       have p44 : 0 ≤ ((ji38) : Int) := oD
       have q44 : ((ji38) : Int) < ((x333003_3.length : Int) : Int) := oD
       obtain ⟨go44, co44, eo44, gb44, gl44, cl44, HG44⟩ := Kd.R_form HO_333003.out (by omega)
       (first | cases eo44 | (injection eo44 with ea_ en_ ec_; (first | subst ea_ | (injection ea_ with ea_; subst ea_)); subst ec_; clear en_))
       have GB44 := aM gb44
       have GG44 := aM HG44
       clear gb44 gl44 HG44
       obtain ⟨hx44_0, hf44_0⟩ := Kd.R_celln 0 HO_333003.out ((ji38) : Int) p44 q44
       replace p44 := eq_true p44
       replace q44 := eq_true q44
       have HP50 := Kd.R_putn HO_333003.out ((ji38) : Int) t335
       rw [← Ny336.out] at HP50
       have HQ50 := aM HP50
       clear HP50
       refine hK.out _ _ ⟨(blk_cell BK332.out 0).trans rfl, (blk_cell BK332.out 1).trans rfl, (blk_cell BK332.out 2).trans rfl, (blk_cell BK332.out 3).trans rfl, (blk_cell BK322.out 0).trans rfl, (blk_cell BK322.out 1).trans rfl, (blk_cell BK322.out 2).trans rfl, (blk_cell BK322.out 3).trans rfl⟩ (fun hHeld => ?_)
       clear hK K
       refine norm_ (a' := ?_) ?_ ?_
       rotate_left
       ·show Act.put _ (some 68) _ = _
        refine pZ ?_
        rfl
       refine pQ 21 69 HT_ (bA 23 4194303) ?_
       refine last_ (i := 22) (N := none) (bA 23 8388607) rfl rfl (one_of HT_.out (by kernel_rfl)) (by decide) (fun K hK => ?_)
       refine skip_ (w1 := ?_) (by rfl) rfl ?_ ?_
       rotate_left
       ·go_simp
        rfl
       refine hK.out _ _ ?_
       clear hK K
       refine done_ (done_of HT_.out (by kernel_rfl)) ?_
       try go_wp2
       go_roundg k3
       case measure => have := HJ2.out; have := HK2.out; have := HK3.out; omega
       case rel => exact ⟨(wrap64 (x8_3 + 1)), (y336), (.slice (some ⟨go44, 0, none⟩) x333003_3.length co44), qE, H', ⟨by have := HJ2.out; have := HK2.out; have := HK3.out; omega⟩, ⟨by refine qR ?_; exact HQ50.out⟩, ⟨by refine qB ?_; refine blk_far ?_ (by have h_ := Kd.R_ne HO_333003.out BK322.out (by decide); intro e_; exact h_ (by rw [e_]; rfl)) _; refine qB ?_; exact BK322.out⟩, ⟨by refine qB ?_; refine blk_far ?_ (by have h_ := Kd.R_ne HO_333003.out BK323.out (by decide); intro e_; exact h_ (by rw [e_]; rfl)) _; refine qB ?_; exact BK323.out⟩, ⟨by refine qB ?_; refine blk_far ?_ (by have h_ := Kd.R_ne HO_333003.out BK332.out (by decide); intro e_; exact h_ (by rw [e_]; rfl)) _; refine qB ?_; exact BK332.out⟩, ⟨by exact qW HB.out⟩⟩
def bayM : List Int := [0, 8, 2, 10, 12, 4, 14, 6, 3, 11, 1, 9, 15, 7, 13, 5]
def ordL (n lv x y : Int) : Int := (n * (lv - 1) * 16 + 255 * rd bayM (y % 4 * 4 + x % 4)) / 4080
def ordPix (l : List Int) (a0 a2 lv x y : Int) : List Int := [(impl_valueOf.f (ordL (rd (pixOf l a0 a2 x y) 0) lv x y) lv).getD 0]
theorem bayM_at (i : Nat) (h : i < 16) : 0 ≤ rd bayM (i : Int) ∧ rd bayM (i : Int) ≤ 15 := by
 have : ∀ i, i < 16 → 0 ≤ rd bayM ((i : Nat) : Int) ∧ rd bayM ((i : Nat) : Int) ≤ 15 := by decide
 exact this i h
theorem bay_cell {w : World} {B t : Nat} (h : w.heap[B]? = some (.cells #[.int .i64 0, .int .i64 8, .int .i64 2, .int .i64 10, .int .i64 12, .int .i64 4, .int .i64 14, .int .i64 6, .int .i64 3, .int .i64 11, .int .i64 1, .int .i64 9, .int .i64 15, .int .i64 7, .int .i64 13, .int .i64 5] t (0, 0))) (i : Nat) (hi : i < 16) : w.cell? ⟨B, i, none⟩ = some (.int .i64 (rd bayM (i : Int))) := by
 refine (blk_cell h i).trans ?_
 have : ∀ i : Nat, i < 16 → (#[.int .i64 0, .int .i64 8, .int .i64 2, .int .i64 10, .int .i64 12, .int .i64 4, .int .i64 14, .int .i64 6, .int .i64 3, .int .i64 11, .int .i64 1, .int .i64 9, .int .i64 15, .int .i64 7, .int .i64 13, .int .i64 5] : Array Value)[i]? = some (.int .i64 (rd bayM (i : Int))) := fun i hi => by
  rcases (show i = 0 ∨ i = 1 ∨ i = 2 ∨ i = 3 ∨ i = 4 ∨ i = 5 ∨ i = 6 ∨ i = 7 ∨ i = 8 ∨ i = 9 ∨ i = 10 ∨ i = 11 ∨ i = 12 ∨ i = 13 ∨ i = 14 ∨ i = 15 by omega) with rfl | rfl | rfl | rfl | rfl | rfl | rfl | rfl | rfl | rfl | rfl | rfl | rfl | rfl | rfl | rfl <;> rfl
 exact this i hi
set_option maxHeartbeats 8000000 in
set_option maxRecDepth 100000 in
theorem orderImagePix (w : World) (B1 B2 B3 : Nat) (a0 a1 a2 : Int) (A : Option Addr) (c : Nat) (l : List Int) (lv : Int)
  (hB1 : w.heap[B1]? = some (.cells #[.int .i64 a0, .int .i64 a1, .int .i64 a2, .slice A l.length c] 27 (0, 0))) (hB2 : w.heap[B2]? = some (.cells #[.int .i64 lv] 3 (0, 0)))
  (hB3 : w.heap[B3]? = some (.cells #[.int .i64 0, .int .i64 8, .int .i64 2, .int .i64 10, .int .i64 12, .int .i64 4, .int .i64 14, .int .i64 6, .int .i64 3, .int .i64 11, .int .i64 1, .int .i64 9, .int .i64 15, .int .i64 7, .int .i64 13, .int .i64 5] 75 (0, 0)))
  (hr : Kd.C (Kd.int .i64) w A l.length l) (hc : l.length ≤ c) (V : ImgOk a0 a1 a2 l) (h1 : a2 = 1) (hv : 2 ≤ lv) (hv' : lv ≤ 16) :
  PixAt 63 #[.pointer (some ⟨B1, 0, none⟩), .pointer (some ⟨B2, 0, none⟩), .pointer (some ⟨B3, 0, none⟩)] (fun x y => ordPix l a0 a2 lv x y) a0 a1 w := fun W x y hb hx hx' hy hy' => by
 obtain ⟨⟨v0, v0'⟩, ⟨v1, v1'⟩, ⟨v2, v2'⟩, hlen, hby⟩ := V
 have hfit := pix_fits (a0 := a0) (a1 := a1) (a2 := a2) (x := x) (y := y) (by omega) (by omega) (by omega) (by omega) (by omega)
 rw [← hlen] at hfit
 have m1 : 0 ≤ y * a0 := Int.mul_nonneg hy (by omega)
 have m2 : 0 ≤ (y * a0 + x) * a2 := Int.mul_nonneg (by omega) (by omega)
 have hpl := pixOf_length (l := l) (n := a0) (p := a2) (x := x) (y := y) m2 (by omega) hfit
 have hpm : ∀ v ∈ pixOf l a0 a2 x y, 0 ≤ v ∧ v ≤ 255 := fun v hv => hby v (pixOf_mem hv)
 have HR0 := aM (Kd.C_below hr hb)
 have KB1 := aM (blk_below hB1 hb)
 have KB2 := aM (blk_below hB2 hb)
 have KB3 := aM (blk_below hB3 hb)
 have HC := aM (fun (W' : World) (hb' : Below W.heap.size W W') => impl_at.calls2 a0 a1 a2 A c l x y W' (Kd.C_below HR0.out hb') hc (by omega) v0' (by omega) (by omega) (by omega) (by omega) (by omega) (by omega) hfit)
 clear hfit hlen hr hc hB1 hB2 hB3 hb m1 m2 hby
 dsimp only
 unfold ordPix
 generalize pixOf l a0 a2 x y = px at HC hpl hpm ⊢
 rw [h1] at hpl
 clear h1
 have r0 : 0 ≤ rd px 0 ∧ rd px 0 ≤ 255 := hpm _ (by
  unfold rd
  rw [List.getD_eq_getElem?_getD, List.getElem?_eq_getElem (by omega)]
  exact List.getElem_mem _)
 have HL := aM hpl
 clear hpm hpl
 obtain ⟨xm, hxm⟩ : ∃ z : Nat, x % 4 = z := ⟨(x % 4).toNat, by omega⟩
 obtain ⟨ym, hym⟩ : ∃ z : Nat, y % 4 = z := ⟨(y % 4).toNat, by omega⟩
 have tx : Int.tmod x 4 = xm := (Int.tmod_eq_emod_of_nonneg hx).trans hxm
 have ty : Int.tmod y 4 = ym := (Int.tmod_eq_emod_of_nonneg hy).trans hym
 have lx : xm < 4 := by omega
 have ly : ym < 4 := by omega
 have lxz : (xm : Int) < 4 := by omega
 have lyz : (ym : Int) < 4 := by omega
 unfold ordL
 rw [hxm, hym]
 have HXM := aM hxm
 have HYM := aM hym
 clear hxm hym
 obtain ⟨n0, hn0⟩ : ∃ z : Int, rd px 0 = z := ⟨_, rfl⟩
 rw [hn0] at r0 ⊢
 have HN0 := aM hn0
 clear hn0
 obtain ⟨bm, hbm⟩ : ∃ z : Int, rd bayM ((ym : Int) * 4 + xm) = z := ⟨_, rfl⟩
 have bb := bayM_at (ym * 4 + xm) (by omega)
 rw [show ((ym * 4 + xm : Nat) : Int) = (ym : Int) * 4 + xm by omega, hbm] at bb
 have HCB := aM (fun (w' : World) (h : Below W.heap.size W w') => (bay_cell (blk_below KB3.out h) (ym * 4 + xm) (by omega)).trans (congrArg (fun z => some (Value.int IntKind.i64 z)) ((congrArg (rd bayM) (show ((ym * 4 + xm : Nat) : Int) = (ym : Int) * 4 + xm by omega)).trans hbm)))
 rw [hbm]
 clear hbm
 have p1 : 0 ≤ n0 * (lv - 1) := Int.mul_nonneg r0.1 (by omega)
 have p2 : n0 * (lv - 1) ≤ 255 * 15 := Int.mul_le_mul r0.2 (by omega) (by omega) (by omega)
 have f1 : IntKind.i64.wrap (lv - 1) = lv - 1 := (i64_w _).trans (wrap_small (by omega) (by omega))
 obtain ⟨pr, hpr⟩ : ∃ z : Int, n0 * (lv - 1) = z := ⟨_, rfl⟩
 rw [hpr] at p1 p2 ⊢
 have f2 : IntKind.i64.wrap (n0 * (lv - 1)) = pr := (i64_w _).trans ((wrap_small (by omega) (by omega)).trans hpr)
 have f3 : IntKind.i64.wrap (pr * 16) = pr * 16 := (i64_w _).trans (wrap_small (by omega) (by omega))
 have f4 : IntKind.i64.wrap (255 * bm) = 255 * bm := (i64_w _).trans (wrap_small (by omega) (by omega))
 have f5 : IntKind.i64.wrap (pr * 16 + 255 * bm) = pr * 16 + 255 * bm := (i64_w _).trans (wrap_small (by omega) (by omega))
 have f6 : Int.tdiv (pr * 16 + 255 * bm) 4080 = (pr * 16 + 255 * bm) / 4080 := Int.tdiv_eq_ediv_of_nonneg (by omega)
 have f7 : IntKind.i64.wrap ((pr * 16 + 255 * bm) / 4080) = (pr * 16 + 255 * bm) / 4080 := (i64_w _).trans (wrap_small (by omega) (by omega))
 obtain ⟨lev, hlev⟩ : ∃ z : Int, (pr * 16 + 255 * bm) / 4080 = z := ⟨_, rfl⟩
 rw [hlev] at f6 f7 ⊢
 have hV : ∃ vv, impl_valueOf.f lev lv = some vv := by
  unfold impl_valueOf.f
  rw [if_neg (by rw [wrap_small (by omega) (by omega)]; omega)]
  exact ⟨_, rfl⟩
 obtain ⟨vv, hvv⟩ := hV
 rw [hvv]
 have HVV := aM hvv
 clear hpr hlev hvv
 show Calls Try.prog 63 _ W fun e w' => ∃ (A : Option Addr) (c : Nat), e = .returned (.slice A [vv].length c) ∧ Kd.C (Kd.int .i64) w' A [vv].length [vv] ∧ [vv].length ≤ c ∧ Below W.heap.size W w'
 go_enter Try.func63, Try.ntmps63
 go_wp2
 refine start_ (n := 21) (S := fun w' => Below W.heap.size W w') (ds := []) (bA 21 0) (by kernel_rfl) rfl rfl (below_drew (Below.refl _ _)) (fun hHeld => ?_)
 have HB := aM hHeld
 clear hHeld
 generalize W.drew = w2 at HB ⊢
 refine pure_ (i := 1) (N := some 10) (v := ?_) (a' := ?_) (bA 21 2) rfl rfl (by kernel_rfl) (fun _ _ _ h => h) (Or.inl ⟨by rfl, ?_⟩) ?_ ?_
 rotate_left
 ·intro w'
  go_simp
  with_reducible rfl
 rotate_left
 ·refine pZ ?_
  rfl
 refine pure_ (i := 2) (N := some 11) (v := ?_) (a' := ?_) (bA 21 6) rfl rfl (by kernel_rfl) (fun _ _ _ h => h) (Or.inl ⟨by rfl, ?_⟩) ?_ ?_
 rotate_left
 ·intro w'
  go_simp
  with_reducible rfl
 rotate_left
 ·refine pZ ?_
  rfl
 refine pure_ (i := 10) (N := some 19) (v := ?_) (a' := ?_) (bA 21 1030) rfl rfl (by kernel_rfl) (fun _ _ _ h => h) (Or.inl ⟨by rfl, ?_⟩) ?_ ?_
 rotate_left
 ·intro w'
  go_simp
  with_reducible rfl
 rotate_left
 ·refine pZ ?_
  rfl
 refine pure_ (i := 11) (N := some 20) (v := ?_) (a' := ?_) (bA 21 3078) rfl rfl (by kernel_rfl) (fun _ _ _ h => h) (Or.inl ⟨by rfl, ?_⟩) ?_ ?_
 rotate_left
 ·intro w'
  go_simp
  with_reducible rfl
 rotate_left
 ·refine pZ ?_
  rfl
 refine pure_ (i := 12) (N := some 21) (v := ?_) (a' := ?_) (bA 21 7174) rfl rfl (by kernel_rfl) (fun _ _ _ h => h) (Or.inl ⟨by rfl, ?_⟩) ?_ ?_
 rotate_left
 ·intro w'
  go_simp
  with_reducible rfl
 rotate_left
 ·refine pZ ?_
  rfl
 refine pure_ (i := 13) (N := some 22) (v := ?_) (a' := ?_) (bA 21 15366) rfl rfl (by kernel_rfl) (fun _ _ _ h => h) (Or.inl ⟨by rfl, ?_⟩) ?_ ?_
 rotate_left
 ·intro w'
  go_simp
  with_reducible rfl
 rotate_left
 ·refine pZ ?_
  rfl
 refine pure_ (i := 14) (N := some 23) (v := ?_) (a' := ?_) (bA 21 31750) rfl rfl (by kernel_rfl) (fun _ _ _ h => h) (Or.inl ⟨by rfl, ?_⟩) ?_ ?_
 rotate_left
 ·intro w'
  go_simp
  with_reducible rfl
 rotate_left
 ·refine pZ ?_
  rfl
 refine pure_ (i := 15) (N := some 24) (v := ?_) (a' := ?_) (bA 21 64518) rfl rfl (by kernel_rfl) (fun _ _ _ h => h) (Or.inl ⟨by rfl, ?_⟩) ?_ ?_
 rotate_left
 ·intro w'
  go_simp
  with_reducible rfl
 rotate_left
 ·refine pZ ?_
  rfl
 refine take_ (i := 0) (N := some 9) (v := ?_) (a' := ?_) (bA 21 64519) rfl rfl (by kernel_rfl) (fun _ _ _ h => h) (Or.inl ⟨by rfl, ?_⟩) HB.out ?_ ?_
 rotate_left
 ·intro w' s0
  have z0 : w'.cell? ⟨B1, 0, none⟩ = some (.int .i64 a0) := (blk_cell (blk_below KB1.out s0) 0).trans rfl
  have z1 : w'.cell? ⟨B1, 1, none⟩ = some (.int .i64 a1) := (blk_cell (blk_below KB1.out s0) 1).trans rfl
  have z2 : w'.cell? ⟨B1, 2, none⟩ = some (.int .i64 a2) := (blk_cell (blk_below KB1.out s0) 2).trans rfl
  have z3 : w'.cell? ⟨B1, 3, none⟩ = some (.slice A l.length c) := (blk_cell (blk_below KB1.out s0) 3).trans rfl
  go_simp
  with_reducible rfl
 rotate_left
 ·refine pZ ?_
  rfl
 refine take_ (i := 6) (N := some 15) (v := ?_) (a' := ?_) (bA 21 64583) rfl rfl (by kernel_rfl) (fun _ _ _ h => h) (Or.inl ⟨by rfl, ?_⟩) HB.out ?_ ?_
 rotate_left
 ·intro w' s0
  have z : w'.cell? ⟨B2, 0, none⟩ = some (.int .i64 lv) := (blk_cell (blk_below KB2.out s0) 0).trans rfl
  go_simp
  with_reducible rfl
 rotate_left
 ·refine pZ ?_
  rfl
 refine pure_ (i := 7) (N := some 16) (v := ?_) (a' := ?_) (bA 21 64711) rfl rfl (by kernel_rfl) (fun _ _ _ h => h) (Or.inl ⟨by rfl, ?_⟩) ?_ ?_
 rotate_left
 ·intro w'
  go_simp
  with_reducible rfl
 rotate_left
 ·refine pZ ?_
  rfl
 refine take_ (i := 16) (N := some 25) (v := ?_) (a' := ?_) (bA 21 130247) rfl rfl (by kernel_rfl) (fun _ _ _ h => h) (Or.inl ⟨by rfl, ?_⟩) HB.out ?_ ?_
 rotate_left
 ·intro w' s0
  have z := HCB.out w' s0
  go_simp
  with_reducible rfl
 rotate_left
 ·refine pZ ?_
  rfl
 refine pure_ (i := 17) (N := some 26) (v := ?_) (a' := ?_) (bA 21 261319) rfl rfl (by kernel_rfl) (fun _ _ _ h => h) (Or.inl ⟨by rfl, ?_⟩) ?_ ?_
 rotate_left
 ·intro w'
  go_simp
  with_reducible rfl
 rotate_left
 ·refine pZ ?_
  rfl
 refine one_ (i := 3) (N := some 12) (bA 21 261327) rfl rfl (by kernel_rfl) (by decide) (fun K hK => ?_)
 refine goes_ Try.func50 (by kernel_rfl) rfl #[.agg #[.int .i64 a0, .int .i64 a1, .int .i64 a2, .slice A l.length c], .int .i64 x, .int .i64 y] (by rfl) rfl rfl (by (try simp only [List.map_toArray, List.map_cons, List.map_nil]); first | done | rfl) ?_
 refine (HC.out _ HB.out).mono ?_
 rintro e w3 ⟨A', c', rfl, hr', hl', hb', hall⟩
 refine ⟨_, rfl, ?_⟩
 have HB3 := aM (below_step HB.out hb')
 have HALL := aM hall
 clear HB hr' hall hb'
 have HB := HB3
 clear HB3
 refine hK.out _ _ HB.out (fun hHeld => ?_)
 clear hK K hHeld
 refine norm_ (a' := ?_) ?_ ?_
 rotate_left
 ·show Act.put _ (some 12) _ = _
  refine pZ ?_
  rfl
 have l0 : (0 : Int) < (px.length : Int) := by have := HL.out; omega
 have l1 : 0 < px.length := by omega
 obtain ⟨ad, ea, _⟩ := Kd.at_int (HALL.out w3 (Kd.C_below HR0.out HB.out)) 0 (by omega) l0
 cases ea
 refine pure_ (i := 4) (N := some 13) (v := ?_) (a' := ?_) (bA 21 261343) rfl rfl (by kernel_rfl) (fun _ _ _ h => h) (Or.inl ⟨by rfl, ?_⟩) ?_ ?_
 rotate_left
 ·intro w'
  go_simp
  with_reducible rfl
 rotate_left
 ·refine pZ ?_
  rfl
 refine take_ (i := 5) (N := some 14) (v := ?_) (a' := ?_) (bA 21 261375) rfl rfl (by kernel_rfl) (fun _ _ _ h => h) (Or.inl ⟨by rfl, ?_⟩) HB.out ?_ ?_
 rotate_left
 ·intro w' s0
  obtain ⟨ad', ea', z⟩ := Kd.at_int (HALL.out w' (Kd.C_below HR0.out s0)) 0 (by omega) l0
  cases ea'
  rw [show (0 : Int).toNat = 0 from rfl, Addr.add_zero', HN0.out] at z
  go_simp
  with_reducible rfl
 rotate_left
 ·refine pZ ?_
  rfl
 refine pure_ (i := 8) (N := some 17) (v := ?_) (a' := ?_) (bA 21 261631) rfl rfl (by kernel_rfl) (fun _ _ _ h => h) (Or.inl ⟨by rfl, ?_⟩) ?_ ?_
 rotate_left
 ·intro w'
  go_simp
  with_reducible rfl
 rotate_left
 ·refine pZ ?_
  rfl
 refine pure_ (i := 9) (N := some 18) (v := ?_) (a' := ?_) (bA 21 262143) rfl rfl (by kernel_rfl) (fun _ _ _ h => h) (Or.inl ⟨by rfl, ?_⟩) ?_ ?_
 rotate_left
 ·intro w'
  go_simp
  with_reducible rfl
 rotate_left
 ·refine pZ ?_
  rfl
 refine pure_ (i := 18) (N := some 27) (v := ?_) (a' := ?_) (bA 21 524287) rfl rfl (by kernel_rfl) (fun _ _ _ h => h) (Or.inl ⟨by rfl, ?_⟩) ?_ ?_
 rotate_left
 ·intro w'
  go_simp
  with_reducible rfl
 rotate_left
 ·refine pZ ?_
  rfl
 refine pure_ (i := 19) (N := some 28) (v := ?_) (a' := ?_) (bA 21 1048575) rfl rfl (by kernel_rfl) (fun _ _ _ h => h) (Or.inl ⟨by rfl, ?_⟩) ?_ ?_
 rotate_left
 ·intro w'
  go_simp
  with_reducible rfl
 rotate_left
 ·refine pZ ?_
  rfl
 refine pure_ (i := 20) (N := some 8) (v := ?_) (a' := ?_) (bA 21 2097151) rfl rfl (by kernel_rfl) (fun _ _ _ h => h) (Or.inl ⟨by rfl, ?_⟩) ?_ ?_
 rotate_left
 ·intro w'
  go_simp
  with_reducible rfl
 rotate_left
 ·refine pZ ?_
  rfl
 refine done_ (by kernel_rfl) ?_
 have z : w3.cell? ⟨B2, 0, none⟩ = some (.int .i64 lv) := (blk_cell (blk_below KB2.out HB.out) 0).trans rfl
 clear f1 f2 f3 f4 f5 f6 f7 tx ty
 go_wp2_with (go_at_call 64; refine (impl_valueOf.calls _ _ _ _ HVV.out).mono ?_; rintro e w' ⟨rfl, ⟨nd, rfl⟩⟩)
 go_ret
 exact ⟨_, _, rfl, C_single (blk_new _ _), by simp, by repeat (first | exact HB.out | apply below_alloc | apply pw_below_drewN)⟩
end Go.Proofs.Yteeeedmmcdlhjaa.P
