/- Contracts and row, written by a program of this place out of the translation: the call answers true and its argument reads as before, for every input; no condition. -/
import Derived.Test.YteeeedmmcdlhjaaK0
import Derived.Test.YteeeedmmcdlhjaaK1
namespace Go.Proofs.Yteeeedmmcdlhjaa.P
open Go.RowKit Go.Proofs.YteeeedmmcdlhjaaW.PrintWords Go.Proofs.YteeeedmmcdlhjaaW.PrintLast Go.Proofs.YteeeedmmcdlhjaaW.PrintMore
attribute [local go_sem] max2_int min2_int max_two min_two max_three min_three max_four min_four   -- for this text's walks alone
set_option linter.unusedVariables false
set_option linter.unusedSimpArgs false
mutual
def spec_MergePlanes.l0 : Nat → List (S27) → Int → Option (Int × Int × Int × List Int × Bool)
 | 0, _, _ => none
 | k + 1, x0, x4 => if x4 < (x0.length : Int) then (if 0 ≤ x4 then ((spec_validImage.f k ((rd_T27 x0 x4).f0) ((rd_T27 x0 x4).f1) ((rd_T27 x0 x4).f2) ((rd_T27 x0 x4).f3)).bind fun t273 => (if t273 = true then (if ((rd_T27 x0 x4).f2) = 1 then (if 0 < (x0.length : Int) then (if ((rd_T27 x0 x4).f0) = ((rd_T27 x0 0).f0) then (if ((rd_T27 x0 x4).f1) = ((rd_T27 x0 0).f1) then (spec_MergePlanes.l0 k x0 (wrap64 (x4 + 1))) else (some (0, 0, 0, ([] : List Int), false))) else (some (0, 0, 0, ([] : List Int), false))) else (none)) else (some (0, 0, 0, ([] : List Int), false))) else (some (0, 0, 0, ([] : List Int), false)))) else (none)) else (if 0 < (x0.length : Int) then ((spec_newImage.f ((rd_T27 x0 0).f0) ((rd_T27 x0 0).f1) (x0.length : Int)).bind fun bt281 => (spec_MergePlanes.l1 k x0 0 bt281.1 bt281.2.1 bt281.2.2.1 bt281.2.2.2)) else (none))
def spec_MergePlanes.l1 : Nat → List (S27) → Int → Int → Int → Int → List Int → Option (Int × Int × Int × List Int × Bool)
 | 0, _, _, _, _, _, _ => none
 | k + 1, x0, x6, x288000, x288001, x288002, x288003 => if x6 < (x288003.length : Int) then (if (x0.length : Int) = 0 then (none) else (if 0 ≤ (Int.tmod x6 (x0.length : Int)) then (if (Int.tmod x6 (x0.length : Int)) < (x0.length : Int) then (if 0 ≤ (wrap64 (Int.tdiv x6 (x0.length : Int))) then (if (wrap64 (Int.tdiv x6 (x0.length : Int))) < (((rd_T27 x0 (Int.tmod x6 (x0.length : Int))).f3).length : Int) then (if 0 ≤ x6 then (spec_MergePlanes.l1 k x0 (wrap64 (x6 + 1)) x288000 x288001 x288002 (x288003.set (x6 : Int).toNat (rd ((rd_T27 x0 (Int.tmod x6 (x0.length : Int))).f3) (wrap64 (Int.tdiv x6 (x0.length : Int)))))) else (none)) else (none)) else (none)) else (none)) else (none))) else (some (x288000, x288001, x288002, x288003, true))
end
def spec_MergePlanes.f (k : Nat) (l0 : List (S27)) : Option (Int × Int × Int × List Int × Bool) := (spec_inRange.f (l0.length : Int) 1 4).bind fun t271 => (if t271 = true then (spec_MergePlanes.l0 k l0 0) else (some (0, 0, 0, ([] : List Int), false)))
theorem spec_MergePlanes.mono_l : ∀ k, (∀ y0 y1, LeO (spec_MergePlanes.l0 k y0 y1) (spec_MergePlanes.l0 (k + 1) y0 y1)) ∧ (∀ y0 y1 y2 y3 y4 y5, LeO (spec_MergePlanes.l1 k y0 y1 y2 y3 y4 y5) (spec_MergePlanes.l1 (k + 1) y0 y1 y2 y3 y4 y5))
 | 0 => ⟨fun _ _ r h => by simp [spec_MergePlanes.l0] at h, fun _ _ _ _ _ _ r h => by simp [spec_MergePlanes.l1] at h⟩
 | k + 1 => by
  obtain ⟨ih0, ih1⟩ := spec_MergePlanes.mono_l k
  refine ⟨?_, ?_⟩
  all_goals intros
  all_goals first | unfold spec_MergePlanes.l0 | unfold spec_MergePlanes.l1
  all_goals repeat' first | (with_reducible first | exact ih0 _ _ | exact ih1 _ _ _ _ _ _ | exact spec_validImage.mono _ _ _ _ _ | exact lR | exact lN | refine lI ?_ ?_ | refine lB ?_ fun _ => ?_) | exact ih0 _ _ | exact ih1 _ _ _ _ _ _ | exact spec_validImage.mono _ _ _ _ _ | exact lN | refine lI ?_ ?_ | refine lB ?_ fun _ => ?_
theorem spec_MergePlanes.mono : ∀ a0 k, LeO (spec_MergePlanes.f k a0) (spec_MergePlanes.f (k + 1) a0) := by
 intro a0 k
 obtain ⟨ih0, ih1⟩ := spec_MergePlanes.mono_l k
 unfold spec_MergePlanes.f
 repeat' first | (with_reducible first | exact ih0 _ _ | exact ih1 _ _ _ _ _ _ | exact spec_validImage.mono _ _ _ _ _ | exact lR | exact lN | refine lI ?_ ?_ | refine lB ?_ fun _ => ?_) | exact ih0 _ _ | exact ih1 _ _ _ _ _ _ | exact spec_validImage.mono _ _ _ _ _ | exact lN | refine lI ?_ ?_ | refine lB ?_ fun _ => ?_
def spec_MergePlanes.T6 : Bool × List (List Nat × List Nat) := (true, [([], []), ([], []), ([0, 1], [0, 1]), ([2], [2]), ([3], [3]), ([4], [4]), ([5, 4], [5]), ([6], [6]), ([6], [6]), ([7, 8, 6], [6, 7, 8]), ([9, 6], [6, 9]), ([10, 6], [6, 10]), ([11, 6], [6, 11]), ([6, 12], [6, 12]), ([13, 6], [13]), ([14], [14]), ([14], [14]), ([15, 16, 14], [14, 15, 16]), ([17, 14], [14, 17]), ([18, 14], [14, 18]), ([14], [14]), ([20, 14], [14, 20]), ([21, 14], [14, 21]), ([22, 14], [14, 22]), ([19, 23, 14], [14, 19, 23]), ([14, 24], [14, 24]), ([25, 14], [25]), ([26], [26]), ([26], [26]), ([27, 28, 26], [26, 27, 28]), ([29, 26], [26, 29]), ([30, 26], [26, 30]), ([26], [26]), ([32, 26], [26, 32]), ([33, 26], [26, 33]), ([34, 26], [26, 34]), ([31, 35, 26], [26, 31, 35]), ([26, 36], [26, 36])])
def spec_MergePlanes.B6 : List Nat := [0, 0, 3, 7, 15, 31, 63, 127, 127, 511, 1023, 2047, 4095, 8191, 16383, 32767, 32767, 131071, 262143, 524287, 32767, 1081343, 3178495, 7372799, 16777215, 33554431, 67108863, 134217727, 134217727, 536870911, 1073741823, 2147483647, 134217727, 4429185023, 13019119615, 30198988799, 68719476735, 137438953471]
theorem spec_MergePlanes.tab6 : rtab .any (opsOf Try.f14 6) = spec_MergePlanes.T6 := by kernel_rfl
theorem spec_MergePlanes.bits6 : waitsOk spec_MergePlanes.T6.2 spec_MergePlanes.B6 = true := by kernel_rfl
def spec_MergePlanes.T8 : Bool × List (List Nat × List Nat) := (true, [([], []), ([0], [0]), ([1], [1]), ([2], [2]), ([], []), ([4], [4]), ([5], [5]), ([6], [6]), ([], []), ([8], [8]), ([3, 7, 9], [3, 7, 9]), ([], []), ([11, 10, 10, 0, 1, 2, 3, 4, 5, 6, 7, 8, 9, 10, 11], [10, 11])])
def spec_MergePlanes.B8 : List Nat := [0, 1, 3, 7, 0, 16, 48, 112, 0, 256, 1023, 0, 4095]
theorem spec_MergePlanes.tab8 : rtab .any (opsOf Try.f14 8) = spec_MergePlanes.T8 := by kernel_rfl
theorem spec_MergePlanes.bits8 : waitsOk spec_MergePlanes.T8.2 spec_MergePlanes.B8 = true := by kernel_rfl
def spec_MergePlanes.T12 : Bool × List (List Nat × List Nat) := (true, [([], []), ([0], [0]), ([], []), ([], []), ([], []), ([], []), ([5], [5]), ([4, 6], [4, 6]), ([3, 7], [3, 7]), ([8], [8]), ([9], [9]), ([], []), ([], []), ([12], [12]), ([11, 13], [11, 13]), ([10, 14], [10, 14]), ([15], [15]), ([1, 2, 0, 1, 2, 3, 4, 5, 6, 7, 8, 9, 10, 11, 12, 13, 14, 15, 16], [1, 2]), ([17, 16, 0, 1, 2, 3, 4, 5, 6, 7, 8, 9, 10, 11, 12, 13, 14, 15, 16], [16, 17])])
def spec_MergePlanes.B12 : List Nat := [0, 1, 0, 0, 0, 0, 32, 112, 248, 504, 1016, 0, 0, 4096, 14336, 32760, 65528, 131071, 262143]
theorem spec_MergePlanes.tab12 : rtab .any (opsOf Try.f14 12) = spec_MergePlanes.T12 := by kernel_rfl
theorem spec_MergePlanes.bits12 : waitsOk spec_MergePlanes.T12.2 spec_MergePlanes.B12 = true := by kernel_rfl
set_option maxHeartbeats 8000000 in
set_option maxRecDepth 100000 in
theorem spec_MergePlanes.calls (k : Nat) (A0 : Option Addr) (c0 : Nat) (l0 : List (S27)) (r1 : Int) (r2 : Int) (r3 : Int) (r4 : List Int) (r5 : Bool) (w : World) (hr0 : Kd.C k27 w A0 l0.length l0) (hc0 : l0.length ≤ c0) (h : spec_MergePlanes.f k l0 = some (r1, r2, r3, r4, r5)) :
  Calls Try.prog 14 #[.slice A0 l0.length c0] w fun e w' => ∃ v3_ : Value, e = .returned (.tuple #[.agg #[.int .i64 r1, .int .i64 r2, .int .i64 r3, v3_], .bool r5]) ∧ Kd.R (Kd.int .i64) 3 w' w.heap.size (fun _ => True) v3_ r4 ∧ Below w.heap.size w w' := by
 have hu27 := Try.underlying27
 have HR0 := aM hr0
 have HC0 := aM hc0
 clear hr0 hc0
 have HB := aM (Below.refl w.heap.size w)
 unfold spec_MergePlanes.f at h
 have H := h
 clear h
 replace H := Option.bind_eq_some_iff.mp H
 obtain ⟨t271, A20, H⟩ := H
 replace H : (if t271 = true then (spec_MergePlanes.l0 k l0 0) else (some (0, 0, 0, ([] : List Int), false))) = some (r1, r2, r3, r4, r5) := H
 have A2 := aM A20
 clear A20
 by_cases c3 : t271 = true
 rotate_left
 ·replace c3 := Bool.eq_false_iff.mpr c3
  subst c3
  have H1 : (some (0, 0, 0, ([] : List Int), false)) = some (r1, r2, r3, r4, r5) := by rw [if_neg (show ¬ (false = true) by decide)] at H; exact H
  clear H
  have H := H1
  clear H1
  simp only [Option.some.injEq, Prod.mk.injEq] at H
  obtain ⟨rfl, rfl, rfl, rfl, rfl⟩ := H
  go_enter Try.func14, Try.ntmps14
  go_wp2_with (first | ((with_reducible refine gate_dst (N := 2) rfl ?_); refine bxE (N := 2) (cs := #[.int .i64 0, .int .i64 0, .int .i64 0, .slice none 0 0]) (t := 27) ?_; intro gb270 hg w57 hbox hb; have BK270 := aM (hbox); have GW270 := gW hg HB; have GE270 := gW hg HB; replace HB := bS HB hb; clear hb hbox hg) | ((with_reducible refine gate_callee (f := 51) rfl ?_); refine gL (some 9) Try.func51 #[.int .i64 (l0.length : Int), .int .i64 1, .int .i64 4] ?_; (with_reducible refine (spec_inRange.calls (l0.length : Int) 1 4 false _ A2.out).mono ?_); rintro e w' ⟨rfl, ⟨nd, rfl⟩⟩; refine ⟨_, rfl, ?_⟩; (try (rw [drewN_self w57]; generalize hq_ : World.drewN w57 _ = w57; replace BK270 : Aside0 (w57.heap[gb270]? = some (.cells #[.int .i64 0, .int .i64 0, .int .i64 0, .slice none 0 0] 27 (0, 0))) := ⟨by rw [← hq_]; exact (qB BK270.out)⟩; replace HB : Aside0 (Below w.heap.size w w57) := ⟨by rw [← hq_]; exact (qW HB.out)⟩; clear hq_)); obtain ⟨⟨hcz58_0, hcz58_1, hcz58_2, hcz58_3⟩, hfz58_0, hfz58_1, hfz58_2, hfz58_3⟩ := cf4 BK270))
  refine bodyPost_ret (results_ct rfl _ _ gb270 27 #[.int .i64 0, .int .i64 0, .int .i64 0, .slice none 0 0] (0, 0) _ rfl (by exact bP BK270.out) Try.underlying27 rfl (by kernel_rfl)) rfl ?_
  exact ⟨_, qX, qN, by exact qW HB.out⟩
 subst c3
 have H1 : (spec_MergePlanes.l0 k l0 0) = some (r1, r2, r3, r4, r5) := by rw [if_pos rfl] at H; exact H
 clear H
 have H := H1
 clear H1
 have H' := aM H
 clear H
 go_enter Try.func14, Try.ntmps14
 go_wp2_with (first | ((with_reducible refine gate_dst (N := 2) rfl ?_); refine bxE (N := 2) (cs := #[.int .i64 0, .int .i64 0, .int .i64 0, .slice none 0 0]) (t := 27) ?_; intro gb270 hg w4 hbox hb; have BK270 := aM (hbox); have GW270 := gW hg HB; have GE270 := gW hg HB; replace HB := bS HB hb; clear hb hbox hg) | ((with_reducible refine gate_callee (f := 51) rfl ?_); refine gL (some 9) Try.func51 #[.int .i64 (l0.length : Int), .int .i64 1, .int .i64 4] ?_; (with_reducible refine (spec_inRange.calls (l0.length : Int) 1 4 true _ A2.out).mono ?_); rintro e w' ⟨rfl, ⟨nd, rfl⟩⟩; refine ⟨_, rfl, ?_⟩))
 go_loopg [4] k (fun kq v4 w' => ∃ (x4_1 : Int) (x271000_1 : Int) (x271001_1 : Int) (x271002_1 : Int), v4 = .int .i64 x4_1 ∧ Aside0 (spec_MergePlanes.l0 kq l0 x4_1 = some (r1, r2, r3, r4, r5)) ∧ Aside0 (kq ≤ k) ∧ Aside0 (w'.heap[gb270]? = some (.cells #[.int .i64 x271000_1, .int .i64 x271001_1, .int .i64 x271002_1, (.slice none 0 0)] 27 (0, 0))) ∧ Aside0 (Below w.heap.size w w'))
 case atStart => exact ⟨(0), (0), (0), (0), qE, H', ⟨Nat.le_refl _⟩, ⟨by refine qB ?_; exact BK270.out⟩, ⟨by exact qW HB.out⟩⟩
 case round =>
  clear H'
  try clear c3
  obtain ⟨x4_1, x271000_1, x271001_1, x271002_1, rfl, HA, HK1, BK270, HB⟩ := hrel
  cases gk with
  | zero => exact absurd HA.out (by simp [spec_MergePlanes.l0])
  | succ k1 =>
   have H := HA.out
   clear HA
   simp only [spec_MergePlanes.l0] at H
   by_cases c5 : x4_1 < (l0.length : Int)
   rotate_left
   ·rw [if_neg c5] at H
    have c5b0 : decide (x4_1 < (l0.length : Int)) = false := decide_eq_false c5
    clear c5
    replace H := iS H
    obtain ⟨c27, H⟩ := H
    have c27b0 : decide (0 < (l0.length : Int)) = true := decide_eq_true c27
    have c27b1 : decide (0 < l0.length) = true := decide_eq_true (by omega)
    clear c27
    replace H := Option.bind_eq_some_iff.mp H
    obtain ⟨⟨t281, t282, t283, t284⟩, A280, H⟩ := H
    replace H : (spec_MergePlanes.l1 k1 l0 0 t281 t282 t283 t284) = some (r1, r2, r3, r4, r5) := H
    have A28 := aM A280
    clear A280
    have H' := aM H
    clear H
    try go_wp2
    replace BK270 := aM (blk_drew BK270.out)
    replace HB := aM (below_drew1 HB.out)
    have p279 : 0 ≤ (0 : Int) := (by omega)
    have q279 : 0 < (l0.length : Int) := oD
    obtain ⟨ad279, A279_3, c279_3, e279, hx279_0, hx279_1, hx279_2, hx279_3, hl279_3, hi279_3⟩ := at_T27 HR0.out 0 p279 q279
    have hw279_3 := hx279_3
    (try rw [show ((0 : Int)).toNat = 0 from rfl] at hw279_3)
    (try rw [show 0 * 4 = 0 from rfl] at hw279_3)
    (try rw [Addr.add_zero'] at hw279_3)
    have hw279_2 := hx279_2
    (try rw [show ((0 : Int)).toNat = 0 from rfl] at hw279_2)
    (try rw [show 0 * 4 = 0 from rfl] at hw279_2)
    (try rw [Addr.add_zero'] at hw279_2)
    have hw279_1 := hx279_1
    (try rw [show ((0 : Int)).toNat = 0 from rfl] at hw279_1)
    (try rw [show 0 * 4 = 0 from rfl] at hw279_1)
    (try rw [Addr.add_zero'] at hw279_1)
    have hw279_0 := hx279_0
    (try rw [show ((0 : Int)).toNat = 0 from rfl] at hw279_0)
    (try rw [show 0 * 4 = 0 from rfl] at hw279_0)
    (try rw [Addr.add_zero'] at hw279_0)
    cases e279
    have qi279 : (0 < l0.length) = True := eq_true (by omega)
    (try rw [show ((0 : Int)).toNat = 0 from rfl] at hx279_0)
    (try rw [show 0 * 4 = 0 from rfl] at hx279_0)
    (try rw [Addr.add_zero'] at hx279_0)
    (try rw [show ((0 : Int)).toNat = 0 from rfl] at hx279_1)
    (try rw [show 0 * 4 = 0 from rfl] at hx279_1)
    (try rw [Addr.add_zero'] at hx279_1)
    (try rw [show ((0 : Int)).toNat = 0 from rfl] at hx279_2)
    (try rw [show 0 * 4 = 0 from rfl] at hx279_2)
    (try rw [Addr.add_zero'] at hx279_2)
    (try rw [show ((0 : Int)).toNat = 0 from rfl] at hx279_3)
    (try rw [show 0 * 4 = 0 from rfl] at hx279_3)
    (try rw [Addr.add_zero'] at hx279_3)
    replace hx279_0 := bD HB hx279_0
    replace hx279_1 := bD HB hx279_1
    replace hx279_2 := bD HB hx279_2
    replace hx279_3 := bD HB hx279_3
    have HR279_3 := aM hi279_3
    have HC279_3 := aM hl279_3
    clear hi279_3 hl279_3
    replace p279 := eq_true p279
    replace q279 := eq_true q279
    have p280 : 0 ≤ (0 : Int) := (by omega)
    have q280 : 0 < (l0.length : Int) := oD
    obtain ⟨ad280, A280_3, c280_3, e280, hx280_0, hx280_1, hx280_2, hx280_3, hl280_3, hi280_3⟩ := at_T27 HR0.out 0 p280 q280
    have hw280_3 := hx280_3
    (try rw [show ((0 : Int)).toNat = 0 from rfl] at hw280_3)
    (try rw [show 0 * 4 = 0 from rfl] at hw280_3)
    (try rw [Addr.add_zero'] at hw280_3)
    have hw280_2 := hx280_2
    (try rw [show ((0 : Int)).toNat = 0 from rfl] at hw280_2)
    (try rw [show 0 * 4 = 0 from rfl] at hw280_2)
    (try rw [Addr.add_zero'] at hw280_2)
    have hw280_1 := hx280_1
    (try rw [show ((0 : Int)).toNat = 0 from rfl] at hw280_1)
    (try rw [show 0 * 4 = 0 from rfl] at hw280_1)
    (try rw [Addr.add_zero'] at hw280_1)
    have hw280_0 := hx280_0
    (try rw [show ((0 : Int)).toNat = 0 from rfl] at hw280_0)
    (try rw [show 0 * 4 = 0 from rfl] at hw280_0)
    (try rw [Addr.add_zero'] at hw280_0)
    obtain rfl : ad279 = ad280 := (by injection e280)
    have qi280 : (0 < l0.length) = True := eq_true (by omega)
    (try rw [show ((0 : Int)).toNat = 0 from rfl] at hx280_0)
    (try rw [show 0 * 4 = 0 from rfl] at hx280_0)
    (try rw [Addr.add_zero'] at hx280_0)
    (try rw [show ((0 : Int)).toNat = 0 from rfl] at hx280_1)
    (try rw [show 0 * 4 = 0 from rfl] at hx280_1)
    (try rw [Addr.add_zero'] at hx280_1)
    (try rw [show ((0 : Int)).toNat = 0 from rfl] at hx280_2)
    (try rw [show 0 * 4 = 0 from rfl] at hx280_2)
    (try rw [Addr.add_zero'] at hx280_2)
    (try rw [show ((0 : Int)).toNat = 0 from rfl] at hx280_3)
    (try rw [show 0 * 4 = 0 from rfl] at hx280_3)
    (try rw [Addr.add_zero'] at hx280_3)
    replace hx280_0 := bD HB hx280_0
    replace hx280_1 := bD HB hx280_1
    replace hx280_2 := bD HB hx280_2
    replace hx280_3 := bD HB hx280_3
    have HR280_3 := aM hi280_3
    have HC280_3 := aM hl280_3
    clear hi280_3 hl280_3
    replace p280 := eq_true p280
    replace q280 := eq_true q280
    have ea_ := Option.some.inj (hx279_3.symm.trans hx280_3)
    injection ea_ with ea_ en_ ec_
    subst ea_
    subst ec_
    clear en_
    refine start_ (n := 13) (S := fun w' => w'.cell? ad279 = some (.int .i64 ((rd_T27 l0 0).f0)) ∧ w'.cell? ⟨ad279.block, ad279.off + 1, none⟩ = some (.int .i64 ((rd_T27 l0 0).f1)) ∧ w'.cell? ⟨ad279.block, ad279.off + 2, none⟩ = some (.int .i64 ((rd_T27 l0 0).f2)) ∧ w'.cell? ⟨ad279.block, ad279.off + 3, none⟩ = some (.slice A279_3 ((rd_T27 l0 0).f3).length c279_3) ∧ w'.cell? ad279 = some (.int .i64 ((rd_T27 l0 0).f0)) ∧ w'.cell? ⟨ad279.block, ad279.off + 1, none⟩ = some (.int .i64 ((rd_T27 l0 0).f1)) ∧ w'.cell? ⟨ad279.block, ad279.off + 2, none⟩ = some (.int .i64 ((rd_T27 l0 0).f2)) ∧ w'.cell? ⟨ad279.block, ad279.off + 3, none⟩ = some (.slice A279_3 ((rd_T27 l0 0).f3).length c279_3)) (ds := []) (bA 13 0) (by kernel_rfl) rfl rfl ⟨(bC HB hw279_0), (bC HB hw279_1), (bC HB hw279_2), (bC HB hw279_3), (bC HB hw280_0), (bC HB hw280_1), (bC HB hw280_2), (bC HB hw280_3)⟩ (fun hHeld => ?_); refine with_tabW spec_MergePlanes.tab8 spec_MergePlanes.bits8 (fun HT_ HW_ => ?_)
    generalize wr.drew = w29 at BK270 HB HR279_3 HR280_3 hx279_0 hx279_1 hx279_2 hx279_3 hx280_0 hx280_1 hx280_2 hx280_3 hHeld ⊢
    refine pQ 0 57 HT_ (bA 13 1) ?_
    refine pQ 1 58 HT_ (bA 13 3) ?_
    refine pQ 2 59 HT_ (bA 13 7) ?_
    refine pQ 4 61 HT_ (bA 13 23) ?_
    refine pQ 5 62 HT_ (bA 13 55) ?_
    refine pQ 6 63 HT_ (bA 13 119) ?_
    refine pQ 8 65 HT_ (bA 13 375) ?_
    refine pQ 9 66 HT_ (bA 13 887) ?_
    refine take_ (i := 3) (N := some 60) (v := ?_) (a' := ?_) (bA 13 895) rfl rfl (take_ofW HT_.out HW_.out (by kernel_rfl)) (fun _ _ _ h => h) (Or.inl ⟨by rfl, ?_⟩) hHeld ?_ ?_
    rotate_left
    ·rintro w' ⟨s0, s1, s2, s3, s4, s5, s6, s7⟩
     go_simp
     with_reducible rfl
    rotate_left
    ·refine pZ ?_
     rfl
    refine take_ (i := 7) (N := some 64) (v := ?_) (a' := ?_) (bA 13 1023) rfl rfl (take_ofW HT_.out HW_.out (by kernel_rfl)) (fun _ _ _ h => h) (Or.inl ⟨by rfl, ?_⟩) hHeld ?_ ?_
    rotate_left
    ·rintro w' ⟨s0, s1, s2, s3, s4, s5, s6, s7⟩
     go_simp
     with_reducible rfl
    rotate_left
    ·refine pZ ?_
     rfl
    refine join_ (σ := Value × Nat) 1 (bA 13 4095) (fun s_ => [(67, .agg #[.int .i64 t281, .int .i64 t282, .int .i64 t283, s_.1]), (5, .pointer (some ⟨s_.2, 0, none⟩))]) (fun s_ w' => (w'.cell? ad279 = some (.int .i64 ((rd_T27 l0 0).f0)) ∧ w'.cell? ⟨ad279.block, ad279.off + 1, none⟩ = some (.int .i64 ((rd_T27 l0 0).f1)) ∧ w'.cell? ⟨ad279.block, ad279.off + 2, none⟩ = some (.int .i64 ((rd_T27 l0 0).f2)) ∧ w'.cell? ⟨ad279.block, ad279.off + 3, none⟩ = some (.slice A279_3 ((rd_T27 l0 0).f3).length c279_3) ∧ w'.cell? ad279 = some (.int .i64 ((rd_T27 l0 0).f0)) ∧ w'.cell? ⟨ad279.block, ad279.off + 1, none⟩ = some (.int .i64 ((rd_T27 l0 0).f1)) ∧ w'.cell? ⟨ad279.block, ad279.off + 2, none⟩ = some (.int .i64 ((rd_T27 l0 0).f2)) ∧ w'.cell? ⟨ad279.block, ad279.off + 3, none⟩ = some (.slice A279_3 ((rd_T27 l0 0).f3).length c279_3)) ∧ (Kd.R (Kd.int .i64) 3 w' w.heap.size (fun _ => True) s_.1 t284) ∧ (w'.heap[gb270]? = some (.cells #[.int .i64 x271000_1, .int .i64 x271001_1, .int .i64 x271002_1, .slice none 0 0] 27 (0, 0))) ∧ (w'.heap[s_.2]? = some (.cells #[.int .i64 0, .int .i64 0, .int .i64 0, .slice none 0 0] 27 (0, 0))) ∧ (w.heap.size ≤ s_.2) ∧ (w.heap.size ≤ s_.2) ∧ (gb270 ≠ s_.2) ∧ (s_.2 ≠ gb270) ∧ (Below w.heap.size w w')) ?_ ?_
    rotate_left
    ·intro hCont
     refine two_ (i := 10) (j := 11) (Ni := some 67) (Nj := some 5) (bA 13 2047) (bA 13 3071) rfl rfl rfl rfl (two_of HT_.out (by kernel_rfl)) (by decide) (by decide) (fun K hK => ?_) (fun K hK => ?_)
     ·skip
      refine goes_ Try.func53 (by kernel_rfl) rfl #[.int .i64 ((rd_T27 l0 0).f0), .int .i64 ((rd_T27 l0 0).f1), .int .i64 (l0.length : Int)] (by rfl) rfl rfl qM ?_
      with_reducible refine (spec_newImage.calls ((rd_T27 l0 0).f0) ((rd_T27 l0 0).f1) (l0.length : Int) t281 t282 t283 t284 _ A28.out).mono ?_
      rintro e w30 ⟨v285, rfl, ho0, hb⟩
      refine ⟨_, rfl, ?_⟩
      have HO286 := oR ho0 HB
      replace BK270 := bB BK270 hb
      replace HB := bS HB hb
      (try clear hb)
      (try clear hb2)
      (try clear hk)
      (try clear hi)
      (try clear ho0)
      refine hK.out _ _ ⟨(bC HB hw279_0), (bC HB hw279_1), (bC HB hw279_2), (bC HB hw279_3), (bC HB hw280_0), (bC HB hw280_1), (bC HB hw280_2), (bC HB hw280_3)⟩ (fun hHeld => ?_)
      clear hK K
      refine norm_ (a' := ?_) ?_ ?_
      rotate_left
      ·show Act.put _ (some 67) _ = _
       refine pZ ?_
       rfl
      refine one_ (i := 11) (N := some 5) (bA 13 4095) rfl rfl (one_of HT_.out (by kernel_rfl)) (by decide) (fun K hK => ?_)
      refine box_step ?hg (N := 5) ?hd (cs := #[.int .i64 0, .int .i64 0, .int .i64 0, .slice none 0 0]) (t := 27) ?hr ?_; (case hd => rfl); (case hg => rfl); (case hr => first | (go_simp; done) | (go_simp; rfl))
      intro gb287 hg w31 hbox hb
      replace HO286 := aM (Kd.R_below (qR HO286.out) hb)
      have BK287 := aM (hbox)
      have GW287 := gW hg HB
      have GE287 := gW hg HB
      replace HB := bS HB hb
      have NB270_287 := nL hg BK270
      have NB287_270 := nG hg BK270
      replace BK270 := bB BK270 hb
      clear hb hbox hg
      refine hK.out _ _ ⟨(bC HB hw279_0), (bC HB hw279_1), (bC HB hw279_2), (bC HB hw279_3), (bC HB hw280_0), (bC HB hw280_1), (bC HB hw280_2), (bC HB hw280_3)⟩ (fun hHeld => ?_)
      clear hK K
      refine norm_ (a' := ?_) ?_ ?_
      rotate_left
      ·show Act.put _ (some 5) _ = _
       refine pZ ?_
       rfl
      exact norm_ (by simp only [putAll, Act.put, List.setIfInBounds_toArray, List.set_cons_zero, List.set_cons_succ]) (hCont (v285, gb287) _ ⟨hHeld, (qR HO286.out), (qB BK270.out), (qB BK287.out), GW287.out, GE287.out, NB270_287.out, NB287_270.out, (qW HB.out)⟩)
     skip
     refine box_step ?hg (N := 5) ?hd (cs := #[.int .i64 0, .int .i64 0, .int .i64 0, .slice none 0 0]) (t := 27) ?hr ?_; (case hd => rfl); (case hg => rfl); (case hr => first | (go_simp; done) | (go_simp; rfl))
     intro gb287 hg w30 hbox hb
     have BK287 := aM (hbox)
     have GW287 := gW hg HB
     have GE287 := gW hg HB
     replace HB := bS HB hb
     have NB270_287 := nL hg BK270
     have NB287_270 := nG hg BK270
     replace BK270 := bB BK270 hb
     clear hb hbox hg
     refine hK.out _ _ ⟨(bC HB hw279_0), (bC HB hw279_1), (bC HB hw279_2), (bC HB hw279_3), (bC HB hw280_0), (bC HB hw280_1), (bC HB hw280_2), (bC HB hw280_3)⟩ (fun hHeld => ?_)
     clear hK K
     refine norm_ (a' := ?_) ?_ ?_
     rotate_left
     ·show Act.put _ (some 5) _ = _
      refine pZ ?_
      rfl
     refine one_ (i := 10) (N := some 67) (bA 13 4095) rfl rfl (one_of HT_.out (by kernel_rfl)) (by decide) (fun K hK => ?_)
     refine goes_ Try.func53 (by kernel_rfl) rfl #[.int .i64 ((rd_T27 l0 0).f0), .int .i64 ((rd_T27 l0 0).f1), .int .i64 (l0.length : Int)] (by rfl) rfl rfl qM ?_
     with_reducible refine (spec_newImage.calls ((rd_T27 l0 0).f0) ((rd_T27 l0 0).f1) (l0.length : Int) t281 t282 t283 t284 _ A28.out).mono ?_
     rintro e w31 ⟨v285, rfl, ho0, hb⟩
     refine ⟨_, rfl, ?_⟩
     have HO286 := oR ho0 HB
     replace BK270 := bB BK270 hb
     replace BK287 := bB BK287 hb
     replace HB := bS HB hb
     (try clear hb)
     (try clear hb2)
     (try clear hk)
     (try clear hi)
     (try clear ho0)
     refine hK.out _ _ ⟨(bC HB hw279_0), (bC HB hw279_1), (bC HB hw279_2), (bC HB hw279_3), (bC HB hw280_0), (bC HB hw280_1), (bC HB hw280_2), (bC HB hw280_3)⟩ (fun hHeld => ?_)
     clear hK K
     refine norm_ (a' := ?_) ?_ ?_
     rotate_left
     ·show Act.put _ (some 67) _ = _
      refine pZ ?_
      rfl
     exact norm_ (by simp only [putAll, Act.put, List.setIfInBounds_toArray, List.set_cons_zero, List.set_cons_succ]) (hCont (v285, gb287) _ ⟨hHeld, (qR HO286.out), (qB BK270.out), (qB BK287.out), GW287.out, GE287.out, NB270_287.out, NB287_270.out, (qW HB.out)⟩)
    rintro ⟨v285, gb287⟩ w32 ⟨hS_, h0_, h1_, h2_, h3_, h4_, h5_, h6_, h7_⟩
    have HO286 : Aside0 (Kd.R (Kd.int .i64) 3 w32 w.heap.size (fun _ => True) v285 t284) := ⟨h0_⟩
    replace BK270 : Aside0 (w32.heap[gb270]? = some (.cells #[.int .i64 x271000_1, .int .i64 x271001_1, .int .i64 x271002_1, .slice none 0 0] 27 (0, 0))) := ⟨h1_⟩
    have BK287 : Aside0 (w32.heap[gb287]? = some (.cells #[.int .i64 0, .int .i64 0, .int .i64 0, .slice none 0 0] 27 (0, 0))) := ⟨h2_⟩
    have GW287 : Aside0 (w.heap.size ≤ gb287) := ⟨h3_⟩
    have GE287 : Aside0 (w.heap.size ≤ gb287) := ⟨h4_⟩
    have NB270_287 : Aside0 (gb270 ≠ gb287) := ⟨h5_⟩
    have NB287_270 : Aside0 (gb287 ≠ gb270) := ⟨h6_⟩
    replace HB : Aside0 (Below w.heap.size w w32) := ⟨h7_⟩
    clear h0_ h1_ h2_ h3_ h4_ h5_ h6_ h7_
    have hHeld : w32.cell? ad279 = some (.int .i64 ((rd_T27 l0 0).f0)) ∧ w32.cell? ⟨ad279.block, ad279.off + 1, none⟩ = some (.int .i64 ((rd_T27 l0 0).f1)) ∧ w32.cell? ⟨ad279.block, ad279.off + 2, none⟩ = some (.int .i64 ((rd_T27 l0 0).f2)) ∧ w32.cell? ⟨ad279.block, ad279.off + 3, none⟩ = some (.slice A279_3 ((rd_T27 l0 0).f3).length c279_3) ∧ w32.cell? ad279 = some (.int .i64 ((rd_T27 l0 0).f0)) ∧ w32.cell? ⟨ad279.block, ad279.off + 1, none⟩ = some (.int .i64 ((rd_T27 l0 0).f1)) ∧ w32.cell? ⟨ad279.block, ad279.off + 2, none⟩ = some (.int .i64 ((rd_T27 l0 0).f2)) ∧ w32.cell? ⟨ad279.block, ad279.off + 3, none⟩ = some (.slice A279_3 ((rd_T27 l0 0).f3).length c279_3) := hS_
    obtain ⟨Ao36, co36, eo36⟩ := Kd.R_slice HO286.out
    (first | subst eo36 | (injection eo36 with f1_ f2_ f3_; have f4_ := f1_.symm; have f5_ := f3_.symm; clear f1_ f2_ f3_; subst f4_; subst f5_))
    refine norm_ (a' := ?_) ?_ ?_
    rotate_left
    ·simp only [putAll, Act.put, List.setIfInBounds_toArray, List.set_cons_zero, List.set_cons_succ]
     rfl
    refine one_ (i := 12) (N := none) (bA 13 8191) rfl rfl (one_of HT_.out (by kernel_rfl)) (by decide) (fun K hK => ?_)
    have hs33 : w32.cell? ⟨gb287, 0, none⟩ = some (.int .i64 0) := (blk_cell BK287.out 0).trans rfl
    have hfs33 := blk_frozen BK287.out 0
    have hns33_0 := NB270_287.out
    have hms33_0 := NB287_270.out
    have hs34 : w32.cell? ⟨gb287, 1, none⟩ = some (.int .i64 0) := (blk_cell BK287.out 1).trans rfl
    have hfs34 := blk_frozen BK287.out 1
    have hns34_0 := NB270_287.out
    have hms34_0 := NB287_270.out
    have hs35 : w32.cell? ⟨gb287, 2, none⟩ = some (.int .i64 0) := (blk_cell BK287.out 2).trans rfl
    have hfs35 := blk_frozen BK287.out 2
    have hns35_0 := NB270_287.out
    have hms35_0 := NB287_270.out
    have hs37 : w32.cell? ⟨gb287, 3, none⟩ = some (.slice none 0 0) := (blk_cell BK287.out 3).trans rfl
    have hfs37 := blk_frozen BK287.out 3
    have hns37_0 := NB270_287.out
    have hms37_0 := NB287_270.out
    refine skip_ (w1 := ?_) (by rfl) rfl ?_ ?_
    rotate_left
    ·go_simp
     rfl
    refine hK.out _ _ ⟨((cF hw279_0 GW287).trans (((cF hw279_0 GW287).trans (((cF hw279_0 GW287).trans (((cF hw279_0 GW287).trans (hHeld.1)))))))), ((cF hw279_1 GW287).trans (((cF hw279_1 GW287).trans (((cF hw279_1 GW287).trans (((cF hw279_1 GW287).trans (hHeld.2.1)))))))), ((cF hw279_2 GW287).trans (((cF hw279_2 GW287).trans (((cF hw279_2 GW287).trans (((cF hw279_2 GW287).trans (hHeld.2.2.1)))))))), ((cF hw279_3 GW287).trans (((cF hw279_3 GW287).trans (((cF hw279_3 GW287).trans (((cF hw279_3 GW287).trans (hHeld.2.2.2.1)))))))), ((cF hw280_0 GW287).trans (((cF hw280_0 GW287).trans (((cF hw280_0 GW287).trans (((cF hw280_0 GW287).trans (hHeld.2.2.2.2.1)))))))), ((cF hw280_1 GW287).trans (((cF hw280_1 GW287).trans (((cF hw280_1 GW287).trans (((cF hw280_1 GW287).trans (hHeld.2.2.2.2.2.1)))))))), ((cF hw280_2 GW287).trans (((cF hw280_2 GW287).trans (((cF hw280_2 GW287).trans (((cF hw280_2 GW287).trans (hHeld.2.2.2.2.2.2.1)))))))), ((cF hw280_3 GW287).trans (((cF hw280_3 GW287).trans (((cF hw280_3 GW287).trans (((cF hw280_3 GW287).trans (hHeld.2.2.2.2.2.2.2))))))))⟩ (fun hHeld => ?_)
    clear hK K
    refine done_ (done_of HT_.out (by kernel_rfl)) ?_
    try go_wp2
    go_loopg [6] k1 (fun kq v6 w' => ∃ (x6_2 : Int) (x288003_2 : List Int) (u288003 : Value), v6 = .int .i64 x6_2 ∧ Aside0 (spec_MergePlanes.l1 kq l0 x6_2 t281 t282 t283 x288003_2 = some (r1, r2, r3, r4, r5)) ∧ Aside0 (kq ≤ k1) ∧ Aside0 (Kd.R (Kd.int .i64) 3 w' w.heap.size (fun _ => True) u288003 x288003_2) ∧ Aside0 (w'.heap[gb270]? = some (.cells #[.int .i64 x271000_1, .int .i64 x271001_1, .int .i64 x271002_1, (.slice none 0 0)] 27 (0, 0))) ∧ Aside0 (w'.heap[gb287]? = some (.cells #[.int .i64 t281, .int .i64 t282, .int .i64 t283, u288003] 27 (0, 0))) ∧ Aside0 (Below w.heap.size w w'))
    case atStart => exact ⟨(0), (t284), (.slice Ao36 t284.length co36), qE, H', ⟨Nat.le_refl _⟩, ⟨by refine qR ?_; exact Kd.R_mono (rT HO286 BK287) (fun _ hk => trivial)⟩, ⟨by refine qB ?_; refine blk_far ?_ NB270_287.out _; refine qB ?_; refine blk_far ?_ NB270_287.out _; refine qB ?_; refine blk_far ?_ NB270_287.out _; refine qB ?_; refine blk_far ?_ NB270_287.out _; refine qB ?_; exact BK270.out⟩, ⟨by exact bP BK287.out⟩, ⟨by exact qW HB.out⟩⟩
    case round =>
     clear H'
     try clear c5
     try clear c5b0
     try clear c27
     try clear c27b0
     try clear c27b1
     try clear hx279_0
     try clear hx279_1
     try clear hx279_2
     try clear hx279_3
     try clear hx280_0
     try clear hx280_1
     try clear hx280_2
     try clear hx280_3
     try clear p279
     try clear p280
     try clear q279
     try clear q280
     obtain ⟨x6_2, x288003_2, u288003, rfl, HA, HK2, HO_288003, BK270, BK287, HB⟩ := hrel
     cases gk with
     | zero => exact absurd HA.out (by simp [spec_MergePlanes.l1])
     | succ k2 =>
      have H := HA.out
      clear HA
      simp only [spec_MergePlanes.l1] at H
      by_cases c38 : x6_2 < (x288003_2.length : Int)
      rotate_left
      ·rw [if_neg c38] at H
       have c38b0 : decide (x6_2 < (x288003_2.length : Int)) = false := decide_eq_false c38
       clear c38
       simp only [Option.some.injEq, Prod.mk.injEq] at H
       obtain ⟨rfl, rfl, rfl, rfl, rfl⟩ := H
       have hnb53 := NB287_270.out
       have hnc53 := NB270_287.out
       obtain ⟨⟨hcz54_0, hcz54_1, hcz54_2, hcz54_3⟩, hfz54_0, hfz54_1, hfz54_2, hfz54_3⟩ := cf4 BK287
       obtain ⟨Ao55, co55, rfl⟩ := sL HO_288003
       obtain ⟨⟨hcz56_0, hcz56_1, hcz56_2, hcz56_3⟩, hfz56_0, hfz56_1, hfz56_2, hfz56_3⟩ := cf4 BK270
       go_wp2
       refine bodyPost_ret (results_ct rfl _ _ gb270 27 #[.int .i64 t281, .int .i64 t282, .int .i64 t283, .slice Ao55 x288003_2.length co55] (0, 0) _ rfl (by exact bP BK270.out) Try.underlying27 rfl (by kernel_rfl)) rfl ?_
       exact ⟨_, qX, by refine qR ?_; exact Kd.R_mono (rT HO_288003 BK270) (fun _ hk => trivial), by exact qW HB.out⟩
      rw [if_pos c38] at H
      have c38b0 : decide (x6_2 < (x288003_2.length : Int)) = true := decide_eq_true c38
      clear c38
      by_cases c39 : (l0.length : Int) = 0
      ·rw [if_pos c39] at H
       exact absurd H (by simp)
      rw [if_neg c39] at H
      have c39b0 : ((l0.length : Int) == 0) = false := beq_eq_false_iff_ne.mpr c39
      have c39b1 : ((l0.length : Int) != 0) = true := bne_iff_ne.mpr c39
      have c39b2 : ¬ (l0 = []) := fun h_ => c39 (by rw [h_]; rfl)
      obtain ⟨ji40, hji40⟩ : ∃ j_ : Int, (Int.tmod x6_2 (l0.length : Int)) = j_ := ⟨_, rfl⟩
      replace H : (if 0 ≤ (ji40) then (if (ji40) < (l0.length : Int) then (if 0 ≤ (wrap64 (Int.tdiv x6_2 (l0.length : Int))) then (if (wrap64 (Int.tdiv x6_2 (l0.length : Int))) < (((rd_T27 l0 (ji40)).f3).length : Int) then (if 0 ≤ x6_2 then (spec_MergePlanes.l1 k2 l0 (wrap64 (x6_2 + 1)) t281 t282 t283 (x288003_2.set (x6_2 : Int).toNat (rd ((rd_T27 l0 (ji40)).f3) (wrap64 (Int.tdiv x6_2 (l0.length : Int)))))) else (none)) else (none)) else (none)) else (none)) else (none)) = some (r1, r2, r3, r4, r5) := by first | (rw [hji40] at H; exact H) | (simp only [hji40] at H ⊢; exact H)
      replace H := iD H
      obtain ⟨c41b0, H⟩ := H
      replace H := iD H
      obtain ⟨c42b0, H⟩ := H
      obtain ⟨ji43, hji43⟩ : ∃ j_ : Int, (wrap64 (Int.tdiv x6_2 (l0.length : Int))) = j_ := ⟨_, rfl⟩
      replace H : (if 0 ≤ (ji43) then (if (ji43) < (((rd_T27 l0 (ji40)).f3).length : Int) then (if 0 ≤ x6_2 then (spec_MergePlanes.l1 k2 l0 (wrap64 (x6_2 + 1)) t281 t282 t283 (x288003_2.set (x6_2 : Int).toNat (rd ((rd_T27 l0 (ji40)).f3) (ji43)))) else (none)) else (none)) else (none)) = some (r1, r2, r3, r4, r5) := by first | (rw [hji43] at H; exact H) | (simp only [hji43] at H ⊢; exact H)
      have hji43w : (IntKind.i64.wrap (Int.tdiv x6_2 (l0.length : Int))) = ji43 := (i64_w _).trans hji43
      replace H := iD H
      obtain ⟨c44b0, H⟩ := H
      replace H := iD H
      obtain ⟨c45b0, H⟩ := H
      replace H := iD H
      obtain ⟨c46b0, H⟩ := H
      obtain ⟨y290, hy290⟩ : ∃ y_ : List Int, y_ = (x288003_2.set (x6_2 : Int).toNat (rd ((rd_T27 l0 (ji40)).f3) (ji43))) := ⟨_, rfl⟩
      replace H : (spec_MergePlanes.l1 k2 l0 (wrap64 (x6_2 + 1)) t281 t282 t283 y290) = some (r1, r2, r3, r4, r5) := rY hy290 H
      have Ny290 := aM hy290
      clear hy290
      have H' := aM H
      clear H
      have hnb48 := NB287_270.out
      have hnc48 := NB270_287.out
      obtain ⟨⟨hcz49_0, hcz49_1, hcz49_2, hcz49_3⟩, hfz49_0, hfz49_1, hfz49_2, hfz49_3⟩ := cf4 BK287
      obtain ⟨Ao50, co50, rfl⟩ := sL HO_288003
      try go_wp2
      replace HO_288003 := aM (Kd.R_drew HO_288003.out)
      replace BK270 := aM (blk_drew BK270.out)
      replace BK287 := aM (blk_drew BK287.out)
      replace HB := aM (below_drew1 HB.out)
      have p288 : 0 ≤ ((ji40) : Int) := oD
      have q288 : (ji40) < (l0.length : Int) := oD
      obtain ⟨ad288, A288_3, c288_3, e288, hx288_0, hx288_1, hx288_2, hx288_3, hl288_3, hi288_3⟩ := at_T27 HR0.out (ji40) p288 q288
      have hw288_3 := hx288_3
      have hw288_2 := hx288_2
      have hw288_1 := hx288_1
      have hw288_0 := hx288_0
      obtain rfl : ad279 = ad288 := (by injection e288)
      replace hx288_0 := bD HB hx288_0
      replace hx288_1 := bD HB hx288_1
      replace hx288_2 := bD HB hx288_2
      replace hx288_3 := bD HB hx288_3
      have HR288_3 := aM hi288_3
      have HC288_3 := aM hl288_3
      clear hi288_3 hl288_3
      replace p288 := eq_true p288
      replace q288 := eq_true q288
      obtain ⟨ad289, e289, hx289_0⟩ := Kd.at_int HR288_3.out (ji43) oD oD
      have hw289_0 := hx289_0
      cases e289
      replace hx289_0 := bD HB hx289_0
      have p289 := eq_true (oD : 0 ≤ ((ji43) : Int))
      have q289 := eq_true (oD : (ji43) < (((rd_T27 l0 (ji40)).f3).length : Int))
      have p47 : 0 ≤ (x6_2 : Int) := oD
      have q47 : (x6_2 : Int) < ((x288003_2.length : Int) : Int) := oD
      obtain ⟨go47, co47, eo47, gb47, gl47, cl47, HG47⟩ := Kd.R_form HO_288003.out (by omega)
      (first | cases eo47 | (injection eo47 with ea_ en_ ec_; (first | subst ea_ | (injection ea_ with ea_; subst ea_)); subst ec_; clear en_))
      have GB47 := aM gb47
      have GG47 := aM HG47
      clear gb47 gl47 HG47
      obtain ⟨hx47_0, hf47_0⟩ := Kd.R_celln 0 HO_288003.out (x6_2 : Int) p47 q47
      replace p47 := eq_true p47
      replace q47 := eq_true q47
      have HP52 := Kd.R_putn HO_288003.out (x6_2 : Int) (rd ((rd_T27 l0 (ji40)).f3) (ji43))
      rw [← Ny290.out] at HP52
      have HQ52 := aM HP52
      clear HP52
      refine start_ (n := 19) (S := fun w' => w'.cell? ⟨gb287, 0, none⟩ = some (.int .i64 t281) ∧ w'.cell? ⟨gb287, 1, none⟩ = some (.int .i64 t282) ∧ w'.cell? ⟨gb287, 2, none⟩ = some (.int .i64 t283) ∧ w'.cell? ⟨gb287, 3, none⟩ = some (.slice (some ⟨go47, 0, none⟩) x288003_2.length co50) ∧ w'.cell? (ad279.add (((ji40)).toNat * 4)) = some (.int .i64 ((rd_T27 l0 (ji40)).f0)) ∧ w'.cell? ⟨(ad279.add (((ji40)).toNat * 4)).block, (ad279.add (((ji40)).toNat * 4)).off + 1, none⟩ = some (.int .i64 ((rd_T27 l0 (ji40)).f1)) ∧ w'.cell? ⟨(ad279.add (((ji40)).toNat * 4)).block, (ad279.add (((ji40)).toNat * 4)).off + 2, none⟩ = some (.int .i64 ((rd_T27 l0 (ji40)).f2)) ∧ w'.cell? ⟨(ad279.add (((ji40)).toNat * 4)).block, (ad279.add (((ji40)).toNat * 4)).off + 3, none⟩ = some (.slice (some ad289) ((rd_T27 l0 (ji40)).f3).length c288_3) ∧ w'.cell? (ad289.add ((ji43)).toNat) = some (.int .i64 (rd ((rd_T27 l0 (ji40)).f3) (ji43)))) (ds := [18]) (bA 19 0) (by kernel_rfl) rfl rfl ⟨(blk_cell BK287.out 0).trans rfl, (blk_cell BK287.out 1).trans rfl, (blk_cell BK287.out 2).trans rfl, (blk_cell BK287.out 3).trans rfl, (bC HB hw288_0), (bC HB hw288_1), (bC HB hw288_2), (bC HB hw288_3), (bC HB hw289_0)⟩ (fun hHeld => ?_); refine with_tabW spec_MergePlanes.tab12 spec_MergePlanes.bits12 (fun HT_ HW_ => ?_)
      generalize wr.drew = w51 at HO_288003 BK270 BK287 HB GG47 HQ52 HR288_3 hf47_0 hx288_0 hx288_1 hx288_2 hx288_3 hx289_0 hx47_0 hHeld ⊢
      refine pQ 0 75 HT_ (bA 19 1) ?_
      refine pQ 2 77 HT_ (bA 19 5) ?_
      refine pQ 3 78 HT_ (bA 19 13) ?_
      refine pQ 4 79 HT_ (bA 19 29) ?_
      refine pQ 5 80 HT_ (bA 19 61) ?_
      refine pQ 6 81 HT_ (bA 19 125) ?_
      refine pQ 7 82 HT_ (bA 19 253) ?_
      refine pQ 8 83 HT_ (bA 19 509) ?_
      refine pQ 9 84 HT_ (bA 19 1021) ?_
      refine pQ 11 86 HT_ (bA 19 3069) ?_
      refine pQ 12 87 HT_ (bA 19 7165) ?_
      refine pQ 13 88 HT_ (bA 19 15357) ?_
      refine pQ 14 89 HT_ (bA 19 31741) ?_
      refine take_ (i := 1) (N := some 76) (v := ?_) (a' := ?_) (bA 19 31743) rfl rfl (take_ofW HT_.out HW_.out (by kernel_rfl)) (fun _ _ _ h => h) (Or.inl ⟨by rfl, ?_⟩) hHeld ?_ ?_
      rotate_left
      ·rintro w' ⟨s0, s1, s2, s3, s4, s5, s6, s7, s8⟩
       go_simp
       with_reducible rfl
      rotate_left
      ·refine pZ ?_
       rfl
      refine take_ (i := 10) (N := some 85) (v := ?_) (a' := ?_) (bA 19 32767) rfl rfl (take_ofW HT_.out HW_.out (by kernel_rfl)) (fun _ _ _ h => h) (Or.inl ⟨by rfl, ?_⟩) hHeld ?_ ?_
      rotate_left
      ·rintro w' ⟨s0, s1, s2, s3, s4, s5, s6, s7, s8⟩
       go_simp
       with_reducible rfl
      rotate_left
      ·refine pZ ?_
       rfl
      refine pQ 15 90 HT_ (bA 19 65535) ?_
      refine take_ (i := 16) (N := some 91) (v := ?_) (a' := ?_) (bA 19 131071) rfl rfl (take_ofW HT_.out HW_.out (by kernel_rfl)) (fun _ _ _ h => h) (Or.inl ⟨by rfl, ?_⟩) hHeld ?_ ?_
      rotate_left
      ·rintro w' ⟨s0, s1, s2, s3, s4, s5, s6, s7, s8⟩
       go_simp
       with_reducible rfl
      rotate_left
      ·refine pZ ?_
       rfl
      refine pQ 17 92 HT_ (bA 19 262143) ?_
      refine last_ (i := 18) (N := none) (bA 19 524287) rfl rfl (one_of HT_.out (by kernel_rfl)) (by decide) (fun K hK => ?_)
      refine skip_ (w1 := ?_) (by rfl) rfl ?_ ?_
      rotate_left
      ·go_simp
       rfl
      refine hK.out _ _ ?_
      clear hK K
      refine done_ (done_of HT_.out (by kernel_rfl)) ?_
      try go_wp2
      go_roundg k2
      case measure => have := HK1.out; have := HK2.out; omega
      case rel => exact ⟨(wrap64 (x6_2 + 1)), (y290), (.slice (some ⟨go47, 0, none⟩) x288003_2.length co50), qE, H', ⟨by have := HK1.out; have := HK2.out; omega⟩, ⟨by refine qR ?_; exact HQ52.out⟩, ⟨by refine qB ?_; refine blk_far ?_ (by have h_ := Kd.R_ne HO_288003.out BK270.out (by decide); intro e_; exact h_ (by rw [e_]; rfl)) _; refine qB ?_; exact BK270.out⟩, ⟨by refine qB ?_; refine blk_far ?_ (by have h_ := Kd.R_ne HO_288003.out BK287.out (by decide); intro e_; exact h_ (by rw [e_]; rfl)) _; refine qB ?_; exact BK287.out⟩, ⟨by exact qW HB.out⟩⟩
   rw [if_pos c5] at H
   have c5b0 : decide (x4_1 < (l0.length : Int)) = true := decide_eq_true c5
   clear c5
   replace H := iD H
   obtain ⟨c6b0, H⟩ := H
   replace H := Option.bind_eq_some_iff.mp H
   obtain ⟨t273, A70, H⟩ := H
   replace H : (if t273 = true then (if ((rd_T27 l0 x4_1).f2) = 1 then (if 0 < (l0.length : Int) then (if ((rd_T27 l0 x4_1).f0) = ((rd_T27 l0 0).f0) then (if ((rd_T27 l0 x4_1).f1) = ((rd_T27 l0 0).f1) then (spec_MergePlanes.l0 k1 l0 (wrap64 (x4_1 + 1))) else (some (0, 0, 0, ([] : List Int), false))) else (some (0, 0, 0, ([] : List Int), false))) else (none)) else (some (0, 0, 0, ([] : List Int), false))) else (some (0, 0, 0, ([] : List Int), false))) = some (r1, r2, r3, r4, r5) := H
   have A7 := aM A70
   clear A70
   by_cases c8 : t273 = true
   rotate_left
   ·replace c8 := Bool.eq_false_iff.mpr c8
    subst c8
    have H1 : (some (0, 0, 0, ([] : List Int), false)) = some (r1, r2, r3, r4, r5) := by rw [if_neg (show ¬ (false = true) by decide)] at H; exact H
    clear H
    have H := H1
    clear H1
    simp only [Option.some.injEq, Prod.mk.injEq] at H
    obtain ⟨rfl, rfl, rfl, rfl, rfl⟩ := H
    try go_wp2
    replace BK270 := aM (blk_drew BK270.out)
    replace HB := aM (below_drew1 HB.out)
    have p272 : 0 ≤ (x4_1 : Int) := oD
    have q272 : x4_1 < (l0.length : Int) := oD
    obtain ⟨ad272, A272_3, c272_3, e272, hx272_0, hx272_1, hx272_2, hx272_3, hl272_3, hi272_3⟩ := at_T27 HR0.out x4_1 p272 q272
    have hw272_3 := hx272_3
    have hw272_2 := hx272_2
    have hw272_1 := hx272_1
    have hw272_0 := hx272_0
    cases e272
    replace hx272_0 := bD HB hx272_0
    replace hx272_1 := bD HB hx272_1
    replace hx272_2 := bD HB hx272_2
    replace hx272_3 := bD HB hx272_3
    have HR272_3 := aM hi272_3
    have HC272_3 := aM hl272_3
    clear hi272_3 hl272_3
    replace p272 := eq_true p272
    replace q272 := eq_true q272
    refine start_ (n := 38) (S := fun w' => w'.cell? (ad272.add ((x4_1).toNat * 4)) = some (.int .i64 ((rd_T27 l0 x4_1).f0)) ∧ w'.cell? ⟨(ad272.add ((x4_1).toNat * 4)).block, (ad272.add ((x4_1).toNat * 4)).off + 1, none⟩ = some (.int .i64 ((rd_T27 l0 x4_1).f1)) ∧ w'.cell? ⟨(ad272.add ((x4_1).toNat * 4)).block, (ad272.add ((x4_1).toNat * 4)).off + 2, none⟩ = some (.int .i64 ((rd_T27 l0 x4_1).f2)) ∧ w'.cell? ⟨(ad272.add ((x4_1).toNat * 4)).block, (ad272.add ((x4_1).toNat * 4)).off + 3, none⟩ = some (.slice A272_3 ((rd_T27 l0 x4_1).f3).length c272_3)) (ds := []) (bA 38 0) (by kernel_rfl) rfl rfl ⟨(bC HB hw272_0), (bC HB hw272_1), (bC HB hw272_2), (bC HB hw272_3)⟩ (fun hHeld => ?_); refine with_tabW spec_MergePlanes.tab6 spec_MergePlanes.bits6 (fun HT_ HW_ => ?_)
    generalize wr.drew = w24 at BK270 HB HR272_3 hx272_0 hx272_1 hx272_2 hx272_3 hHeld ⊢
    refine pQ 0 18 HT_ (bA 38 1) ?_
    refine pQ 1 19 HT_ (bA 38 3) ?_
    refine pQ 2 20 HT_ (bA 38 7) ?_
    refine take_ (i := 3) (N := some 21) (v := ?_) (a' := ?_) (bA 38 15) rfl rfl (take_ofW HT_.out HW_.out (by kernel_rfl)) (fun _ _ _ h => h) (Or.inl ⟨by rfl, ?_⟩) hHeld ?_ ?_
    rotate_left
    ·rintro w' ⟨s0, s1, s2, s3⟩
     go_simp
     with_reducible rfl
    rotate_left
    ·refine pZ ?_
     rfl
    refine one_ (i := 4) (N := some 22) (bA 38 31) rfl rfl (one_of HT_.out (by kernel_rfl)) (by decide) (fun K hK => ?_)
    refine goes_ Try.func52 (by kernel_rfl) rfl #[.agg #[.int .i64 ((rd_T27 l0 x4_1).f0), .int .i64 ((rd_T27 l0 x4_1).f1), .int .i64 ((rd_T27 l0 x4_1).f2), .slice A272_3 ((rd_T27 l0 x4_1).f3).length c272_3]] (by rfl) rfl rfl qM ?_
    with_reducible refine (spec_validImage.calls k1 ((rd_T27 l0 x4_1).f0) ((rd_T27 l0 x4_1).f1) ((rd_T27 l0 x4_1).f2) _ _ ((rd_T27 l0 x4_1).f3) false _ ?side1 ?side2 A7.out).mono ?_
    (case side1 => exact qC (Kd.C_below HR272_3.out HB.out))
    (case side2 => exact HC272_3.out)
    rintro e w25 ⟨rfl, hb⟩
    refine ⟨_, rfl, ?_⟩
    replace BK270 := bB BK270 hb
    replace HB := bS HB hb
    (try clear hb)
    (try clear hb2)
    (try clear hk)
    (try clear hi)
    refine hK.out _ _ ⟨(bC HB hw272_0), (bC HB hw272_1), (bC HB hw272_2), (bC HB hw272_3)⟩ (fun hHeld => ?_)
    clear hK K
    refine norm_ (a' := ?_) ?_ ?_
    rotate_left
    ·show Act.put _ (some 22) _ = _
     refine pZ ?_
     rfl
    refine pQ 5 23 HT_ (bA 38 63) ?_
    refine pQ 6 24 HT_ (bA 38 127) ?_
    refine pure_ (i := 7) (N := some 25) (v := undef) (a' := ?_) (bA 38 255) rfl rfl (any_of HT_.out (by kernel_rfl)) (fun _ _ _ h => h) (Or.inr ⟨by rfl, rfl⟩) ?_ ?_
    rotate_left
    ·refine pZ ?_
     rfl
    refine pure_ (i := 8) (N := some 26) (v := undef) (a' := ?_) (bA 38 511) rfl rfl (any_of HT_.out (by kernel_rfl)) (fun _ _ _ h => h) (Or.inr ⟨by rfl, rfl⟩) ?_ ?_
    rotate_left
    ·refine pZ ?_
     rfl
    refine pure_ (i := 9) (N := some 27) (v := undef) (a' := ?_) (bA 38 1023) rfl rfl (any_of HT_.out (by kernel_rfl)) (fun _ _ _ h => h) (Or.inr ⟨by rfl, rfl⟩) ?_ ?_
    rotate_left
    ·refine pZ ?_
     rfl
    refine pure_ (i := 10) (N := some 28) (v := undef) (a' := ?_) (bA 38 2047) rfl rfl (any_of HT_.out (by kernel_rfl)) (fun _ _ _ h => h) (Or.inr ⟨by rfl, rfl⟩) ?_ ?_
    rotate_left
    ·refine pZ ?_
     rfl
    refine pure_ (i := 11) (N := some 29) (v := undef) (a' := ?_) (bA 38 4095) rfl rfl (any_of HT_.out (by kernel_rfl)) (fun _ _ _ h => h) (Or.inr ⟨by rfl, rfl⟩) ?_ ?_
    rotate_left
    ·refine pZ ?_
     rfl
    refine pure_ (i := 12) (N := some 30) (v := undef) (a' := ?_) (bA 38 8191) rfl rfl (any_of HT_.out (by kernel_rfl)) (fun _ _ _ h => h) (Or.inr ⟨by rfl, rfl⟩) ?_ ?_
    rotate_left
    ·refine pZ ?_
     rfl
    refine pQ 13 31 HT_ (bA 38 16383) ?_
    refine pQ 14 32 HT_ (bA 38 32767) ?_
    refine pure_ (i := 15) (N := some 33) (v := undef) (a' := ?_) (bA 38 65535) rfl rfl (any_of HT_.out (by kernel_rfl)) (fun _ _ _ h => h) (Or.inr ⟨by rfl, rfl⟩) ?_ ?_
    rotate_left
    ·refine pZ ?_
     rfl
    refine pure_ (i := 16) (N := some 34) (v := undef) (a' := ?_) (bA 38 131071) rfl rfl (any_of HT_.out (by kernel_rfl)) (fun _ _ _ h => h) (Or.inr ⟨by rfl, rfl⟩) ?_ ?_
    rotate_left
    ·refine pZ ?_
     rfl
    refine pure_ (i := 17) (N := some 35) (v := undef) (a' := ?_) (bA 38 262143) rfl rfl (any_of HT_.out (by kernel_rfl)) (fun _ _ _ h => h) (Or.inr ⟨by rfl, rfl⟩) ?_ ?_
    rotate_left
    ·refine pZ ?_
     rfl
    refine pure_ (i := 18) (N := some 36) (v := undef) (a' := ?_) (bA 38 524287) rfl rfl (any_of HT_.out (by kernel_rfl)) (fun _ _ _ h => h) (Or.inr ⟨by rfl, rfl⟩) ?_ ?_
    rotate_left
    ·refine pZ ?_
     rfl
    refine pure_ (i := 19) (N := some 37) (v := undef) (a' := ?_) (bA 38 1048575) rfl rfl (any_of HT_.out (by kernel_rfl)) (fun _ _ _ h => h) (Or.inr ⟨by rfl, rfl⟩) ?_ ?_
    rotate_left
    ·refine pZ ?_
     rfl
    refine pure_ (i := 20) (N := some 38) (v := undef) (a' := ?_) (bA 38 2097151) rfl rfl (any_of HT_.out (by kernel_rfl)) (fun _ _ _ h => h) (Or.inr ⟨by rfl, rfl⟩) ?_ ?_
    rotate_left
    ·refine pZ ?_
     rfl
    refine pure_ (i := 21) (N := some 39) (v := undef) (a' := ?_) (bA 38 4194303) rfl rfl (any_of HT_.out (by kernel_rfl)) (fun _ _ _ h => h) (Or.inr ⟨by rfl, rfl⟩) ?_ ?_
    rotate_left
    ·refine pZ ?_
     rfl
    refine pure_ (i := 22) (N := some 40) (v := undef) (a' := ?_) (bA 38 8388607) rfl rfl (any_of HT_.out (by kernel_rfl)) (fun _ _ _ h => h) (Or.inr ⟨by rfl, rfl⟩) ?_ ?_
    rotate_left
    ·refine pZ ?_
     rfl
    refine pure_ (i := 23) (N := some 41) (v := undef) (a' := ?_) (bA 38 16777215) rfl rfl (any_of HT_.out (by kernel_rfl)) (fun _ _ _ h => h) (Or.inr ⟨by rfl, rfl⟩) ?_ ?_
    rotate_left
    ·refine pZ ?_
     rfl
    refine pure_ (i := 24) (N := some 42) (v := undef) (a' := ?_) (bA 38 33554431) rfl rfl (any_of HT_.out (by kernel_rfl)) (fun _ _ _ h => h) (Or.inr ⟨by rfl, rfl⟩) ?_ ?_
    rotate_left
    ·refine pZ ?_
     rfl
    refine pQ 25 43 HT_ (bA 38 67108863) ?_
    refine pQ 26 44 HT_ (bA 38 134217727) ?_
    refine pure_ (i := 27) (N := some 45) (v := undef) (a' := ?_) (bA 38 268435455) rfl rfl (any_of HT_.out (by kernel_rfl)) (fun _ _ _ h => h) (Or.inr ⟨by rfl, rfl⟩) ?_ ?_
    rotate_left
    ·refine pZ ?_
     rfl
    refine pure_ (i := 28) (N := some 46) (v := undef) (a' := ?_) (bA 38 536870911) rfl rfl (any_of HT_.out (by kernel_rfl)) (fun _ _ _ h => h) (Or.inr ⟨by rfl, rfl⟩) ?_ ?_
    rotate_left
    ·refine pZ ?_
     rfl
    refine pure_ (i := 29) (N := some 47) (v := undef) (a' := ?_) (bA 38 1073741823) rfl rfl (any_of HT_.out (by kernel_rfl)) (fun _ _ _ h => h) (Or.inr ⟨by rfl, rfl⟩) ?_ ?_
    rotate_left
    ·refine pZ ?_
     rfl
    refine pure_ (i := 30) (N := some 48) (v := undef) (a' := ?_) (bA 38 2147483647) rfl rfl (any_of HT_.out (by kernel_rfl)) (fun _ _ _ h => h) (Or.inr ⟨by rfl, rfl⟩) ?_ ?_
    rotate_left
    ·refine pZ ?_
     rfl
    refine pure_ (i := 31) (N := some 49) (v := undef) (a' := ?_) (bA 38 4294967295) rfl rfl (any_of HT_.out (by kernel_rfl)) (fun _ _ _ h => h) (Or.inr ⟨by rfl, rfl⟩) ?_ ?_
    rotate_left
    ·refine pZ ?_
     rfl
    refine pure_ (i := 32) (N := some 50) (v := undef) (a' := ?_) (bA 38 8589934591) rfl rfl (any_of HT_.out (by kernel_rfl)) (fun _ _ _ h => h) (Or.inr ⟨by rfl, rfl⟩) ?_ ?_
    rotate_left
    ·refine pZ ?_
     rfl
    refine pure_ (i := 33) (N := some 51) (v := undef) (a' := ?_) (bA 38 17179869183) rfl rfl (any_of HT_.out (by kernel_rfl)) (fun _ _ _ h => h) (Or.inr ⟨by rfl, rfl⟩) ?_ ?_
    rotate_left
    ·refine pZ ?_
     rfl
    refine pure_ (i := 34) (N := some 52) (v := undef) (a' := ?_) (bA 38 34359738367) rfl rfl (any_of HT_.out (by kernel_rfl)) (fun _ _ _ h => h) (Or.inr ⟨by rfl, rfl⟩) ?_ ?_
    rotate_left
    ·refine pZ ?_
     rfl
    refine pure_ (i := 35) (N := some 53) (v := undef) (a' := ?_) (bA 38 68719476735) rfl rfl (any_of HT_.out (by kernel_rfl)) (fun _ _ _ h => h) (Or.inr ⟨by rfl, rfl⟩) ?_ ?_
    rotate_left
    ·refine pZ ?_
     rfl
    refine pure_ (i := 36) (N := some 54) (v := undef) (a' := ?_) (bA 38 137438953471) rfl rfl (any_of HT_.out (by kernel_rfl)) (fun _ _ _ h => h) (Or.inr ⟨by rfl, rfl⟩) ?_ ?_
    rotate_left
    ·refine pZ ?_
     rfl
    refine pQ 37 55 HT_ (bA 38 274877906943) ?_
    refine done_ (done_of HT_.out (by kernel_rfl)) ?_
    obtain ⟨⟨hcz26_0, hcz26_1, hcz26_2, hcz26_3⟩, hfz26_0, hfz26_1, hfz26_2, hfz26_3⟩ := cf4 BK270
    try go_wp2
    refine bodyPost_ret (results_ct rfl _ _ gb270 27 #[.int .i64 0, .int .i64 0, .int .i64 0, .slice none 0 0] (0, 0) _ rfl (by exact bP BK270.out) Try.underlying27 rfl (by kernel_rfl)) rfl ?_
    exact ⟨_, qX, qN, by exact qW HB.out⟩
   subst c8
   have H1 : (if ((rd_T27 l0 x4_1).f2) = 1 then (if 0 < (l0.length : Int) then (if ((rd_T27 l0 x4_1).f0) = ((rd_T27 l0 0).f0) then (if ((rd_T27 l0 x4_1).f1) = ((rd_T27 l0 0).f1) then (spec_MergePlanes.l0 k1 l0 (wrap64 (x4_1 + 1))) else (some (0, 0, 0, ([] : List Int), false))) else (some (0, 0, 0, ([] : List Int), false))) else (none)) else (some (0, 0, 0, ([] : List Int), false))) = some (r1, r2, r3, r4, r5) := by rw [if_pos rfl] at H; exact H
   clear H
   have H := H1
   clear H1
   by_cases c9 : ((rd_T27 l0 x4_1).f2) = 1
   rotate_left
   ·rw [if_neg c9] at H
    have c9b0 : (((rd_T27 l0 x4_1).f2) == 1) = false := beq_eq_false_iff_ne.mpr c9
    have c9b1 : (((rd_T27 l0 x4_1).f2) != 1) = true := bne_iff_ne.mpr c9
    simp only [Option.some.injEq, Prod.mk.injEq] at H
    obtain ⟨rfl, rfl, rfl, rfl, rfl⟩ := H
    try go_wp2
    replace BK270 := aM (blk_drew BK270.out)
    replace HB := aM (below_drew1 HB.out)
    have p272 : 0 ≤ (x4_1 : Int) := oD
    have q272 : x4_1 < (l0.length : Int) := oD
    obtain ⟨ad272, A272_3, c272_3, e272, hx272_0, hx272_1, hx272_2, hx272_3, hl272_3, hi272_3⟩ := at_T27 HR0.out x4_1 p272 q272
    have hw272_3 := hx272_3
    have hw272_2 := hx272_2
    have hw272_1 := hx272_1
    have hw272_0 := hx272_0
    cases e272
    replace hx272_0 := bD HB hx272_0
    replace hx272_1 := bD HB hx272_1
    replace hx272_2 := bD HB hx272_2
    replace hx272_3 := bD HB hx272_3
    have HR272_3 := aM hi272_3
    have HC272_3 := aM hl272_3
    clear hi272_3 hl272_3
    replace p272 := eq_true p272
    replace q272 := eq_true q272
    have p274 : 0 ≤ (x4_1 : Int) := oD
    have q274 : x4_1 < (l0.length : Int) := oD
    obtain ⟨ad274, A274_3, c274_3, e274, hx274_0, hx274_1, hx274_2, hx274_3, hl274_3, hi274_3⟩ := at_T27 HR0.out x4_1 p274 q274
    have hw274_3 := hx274_3
    have hw274_2 := hx274_2
    have hw274_1 := hx274_1
    have hw274_0 := hx274_0
    obtain rfl : ad272 = ad274 := (by injection e274)
    replace hx274_0 := bD HB hx274_0
    replace hx274_1 := bD HB hx274_1
    replace hx274_2 := bD HB hx274_2
    replace hx274_3 := bD HB hx274_3
    have HR274_3 := aM hi274_3
    have HC274_3 := aM hl274_3
    clear hi274_3 hl274_3
    replace p274 := eq_true p274
    replace q274 := eq_true q274
    refine start_ (n := 38) (S := fun w' => w'.cell? (ad272.add ((x4_1).toNat * 4)) = some (.int .i64 ((rd_T27 l0 x4_1).f0)) ∧ w'.cell? ⟨(ad272.add ((x4_1).toNat * 4)).block, (ad272.add ((x4_1).toNat * 4)).off + 1, none⟩ = some (.int .i64 ((rd_T27 l0 x4_1).f1)) ∧ w'.cell? ⟨(ad272.add ((x4_1).toNat * 4)).block, (ad272.add ((x4_1).toNat * 4)).off + 2, none⟩ = some (.int .i64 ((rd_T27 l0 x4_1).f2)) ∧ w'.cell? ⟨(ad272.add ((x4_1).toNat * 4)).block, (ad272.add ((x4_1).toNat * 4)).off + 3, none⟩ = some (.slice A272_3 ((rd_T27 l0 x4_1).f3).length c272_3) ∧ w'.cell? (ad272.add ((x4_1).toNat * 4)) = some (.int .i64 ((rd_T27 l0 x4_1).f0)) ∧ w'.cell? ⟨(ad272.add ((x4_1).toNat * 4)).block, (ad272.add ((x4_1).toNat * 4)).off + 1, none⟩ = some (.int .i64 ((rd_T27 l0 x4_1).f1)) ∧ w'.cell? ⟨(ad272.add ((x4_1).toNat * 4)).block, (ad272.add ((x4_1).toNat * 4)).off + 2, none⟩ = some (.int .i64 ((rd_T27 l0 x4_1).f2)) ∧ w'.cell? ⟨(ad272.add ((x4_1).toNat * 4)).block, (ad272.add ((x4_1).toNat * 4)).off + 3, none⟩ = some (.slice A274_3 ((rd_T27 l0 x4_1).f3).length c274_3)) (ds := []) (bA 38 0) (by kernel_rfl) rfl rfl ⟨(bC HB hw272_0), (bC HB hw272_1), (bC HB hw272_2), (bC HB hw272_3), (bC HB hw274_0), (bC HB hw274_1), (bC HB hw274_2), (bC HB hw274_3)⟩ (fun hHeld => ?_); refine with_tabW spec_MergePlanes.tab6 spec_MergePlanes.bits6 (fun HT_ HW_ => ?_)
    generalize wr.drew = w21 at BK270 HB HR272_3 HR274_3 hx272_0 hx272_1 hx272_2 hx272_3 hx274_0 hx274_1 hx274_2 hx274_3 hHeld ⊢
    refine pQ 0 18 HT_ (bA 38 1) ?_
    refine pQ 1 19 HT_ (bA 38 3) ?_
    refine pQ 2 20 HT_ (bA 38 7) ?_
    refine take_ (i := 3) (N := some 21) (v := ?_) (a' := ?_) (bA 38 15) rfl rfl (take_ofW HT_.out HW_.out (by kernel_rfl)) (fun _ _ _ h => h) (Or.inl ⟨by rfl, ?_⟩) hHeld ?_ ?_
    rotate_left
    ·rintro w' ⟨s0, s1, s2, s3, s4, s5, s6, s7⟩
     go_simp
     with_reducible rfl
    rotate_left
    ·refine pZ ?_
     rfl
    refine one_ (i := 4) (N := some 22) (bA 38 31) rfl rfl (one_of HT_.out (by kernel_rfl)) (by decide) (fun K hK => ?_)
    refine goes_ Try.func52 (by kernel_rfl) rfl #[.agg #[.int .i64 ((rd_T27 l0 x4_1).f0), .int .i64 ((rd_T27 l0 x4_1).f1), .int .i64 ((rd_T27 l0 x4_1).f2), .slice A272_3 ((rd_T27 l0 x4_1).f3).length c272_3]] (by rfl) rfl rfl qM ?_
    with_reducible refine (spec_validImage.calls k1 ((rd_T27 l0 x4_1).f0) ((rd_T27 l0 x4_1).f1) ((rd_T27 l0 x4_1).f2) _ _ ((rd_T27 l0 x4_1).f3) true _ ?side1 ?side2 A7.out).mono ?_
    (case side1 => exact qC (Kd.C_below HR272_3.out HB.out))
    (case side2 => exact HC272_3.out)
    rintro e w22 ⟨rfl, hb⟩
    refine ⟨_, rfl, ?_⟩
    replace BK270 := bB BK270 hb
    replace HB := bS HB hb
    (try clear hb)
    (try clear hb2)
    (try clear hk)
    (try clear hi)
    refine hK.out _ _ ⟨(bC HB hw272_0), (bC HB hw272_1), (bC HB hw272_2), (bC HB hw272_3), (bC HB hw274_0), (bC HB hw274_1), (bC HB hw274_2), (bC HB hw274_3)⟩ (fun hHeld => ?_)
    clear hK K
    refine norm_ (a' := ?_) ?_ ?_
    rotate_left
    ·show Act.put _ (some 22) _ = _
     refine pZ ?_
     rfl
    refine pQ 5 23 HT_ (bA 38 63) ?_
    refine pQ 6 24 HT_ (bA 38 127) ?_
    refine pQ 7 25 HT_ (bA 38 255) ?_
    refine pQ 8 26 HT_ (bA 38 511) ?_
    refine pQ 9 27 HT_ (bA 38 1023) ?_
    refine pQ 10 28 HT_ (bA 38 2047) ?_
    refine take_ (i := 11) (N := some 29) (v := ?_) (a' := ?_) (bA 38 4095) rfl rfl (take_ofW HT_.out HW_.out (by kernel_rfl)) (fun _ _ _ h => h) (Or.inl ⟨by rfl, ?_⟩) hHeld ?_ ?_
    rotate_left
    ·rintro w' ⟨s0, s1, s2, s3, s4, s5, s6, s7⟩
     go_simp
     with_reducible rfl
    rotate_left
    ·refine pZ ?_
     rfl
    refine pQ 12 30 HT_ (bA 38 8191) ?_
    refine pQ 13 31 HT_ (bA 38 16383) ?_
    refine pQ 14 32 HT_ (bA 38 32767) ?_
    refine pure_ (i := 15) (N := some 33) (v := undef) (a' := ?_) (bA 38 65535) rfl rfl (any_of HT_.out (by kernel_rfl)) (fun _ _ _ h => h) (Or.inr ⟨by rfl, rfl⟩) ?_ ?_
    rotate_left
    ·refine pZ ?_
     rfl
    refine pure_ (i := 16) (N := some 34) (v := undef) (a' := ?_) (bA 38 131071) rfl rfl (any_of HT_.out (by kernel_rfl)) (fun _ _ _ h => h) (Or.inr ⟨by rfl, rfl⟩) ?_ ?_
    rotate_left
    ·refine pZ ?_
     rfl
    refine pure_ (i := 17) (N := some 35) (v := undef) (a' := ?_) (bA 38 262143) rfl rfl (any_of HT_.out (by kernel_rfl)) (fun _ _ _ h => h) (Or.inr ⟨by rfl, rfl⟩) ?_ ?_
    rotate_left
    ·refine pZ ?_
     rfl
    refine pure_ (i := 18) (N := some 36) (v := undef) (a' := ?_) (bA 38 524287) rfl rfl (any_of HT_.out (by kernel_rfl)) (fun _ _ _ h => h) (Or.inr ⟨by rfl, rfl⟩) ?_ ?_
    rotate_left
    ·refine pZ ?_
     rfl
    refine pure_ (i := 19) (N := some 37) (v := undef) (a' := ?_) (bA 38 1048575) rfl rfl (any_of HT_.out (by kernel_rfl)) (fun _ _ _ h => h) (Or.inr ⟨by rfl, rfl⟩) ?_ ?_
    rotate_left
    ·refine pZ ?_
     rfl
    refine pure_ (i := 20) (N := some 38) (v := undef) (a' := ?_) (bA 38 2097151) rfl rfl (any_of HT_.out (by kernel_rfl)) (fun _ _ _ h => h) (Or.inr ⟨by rfl, rfl⟩) ?_ ?_
    rotate_left
    ·refine pZ ?_
     rfl
    refine pure_ (i := 21) (N := some 39) (v := undef) (a' := ?_) (bA 38 4194303) rfl rfl (any_of HT_.out (by kernel_rfl)) (fun _ _ _ h => h) (Or.inr ⟨by rfl, rfl⟩) ?_ ?_
    rotate_left
    ·refine pZ ?_
     rfl
    refine pure_ (i := 22) (N := some 40) (v := undef) (a' := ?_) (bA 38 8388607) rfl rfl (any_of HT_.out (by kernel_rfl)) (fun _ _ _ h => h) (Or.inr ⟨by rfl, rfl⟩) ?_ ?_
    rotate_left
    ·refine pZ ?_
     rfl
    refine pure_ (i := 23) (N := some 41) (v := undef) (a' := ?_) (bA 38 16777215) rfl rfl (any_of HT_.out (by kernel_rfl)) (fun _ _ _ h => h) (Or.inr ⟨by rfl, rfl⟩) ?_ ?_
    rotate_left
    ·refine pZ ?_
     rfl
    refine pure_ (i := 24) (N := some 42) (v := undef) (a' := ?_) (bA 38 33554431) rfl rfl (any_of HT_.out (by kernel_rfl)) (fun _ _ _ h => h) (Or.inr ⟨by rfl, rfl⟩) ?_ ?_
    rotate_left
    ·refine pZ ?_
     rfl
    refine pQ 25 43 HT_ (bA 38 67108863) ?_
    refine pQ 26 44 HT_ (bA 38 134217727) ?_
    refine pure_ (i := 27) (N := some 45) (v := undef) (a' := ?_) (bA 38 268435455) rfl rfl (any_of HT_.out (by kernel_rfl)) (fun _ _ _ h => h) (Or.inr ⟨by rfl, rfl⟩) ?_ ?_
    rotate_left
    ·refine pZ ?_
     rfl
    refine pure_ (i := 28) (N := some 46) (v := undef) (a' := ?_) (bA 38 536870911) rfl rfl (any_of HT_.out (by kernel_rfl)) (fun _ _ _ h => h) (Or.inr ⟨by rfl, rfl⟩) ?_ ?_
    rotate_left
    ·refine pZ ?_
     rfl
    refine pure_ (i := 29) (N := some 47) (v := undef) (a' := ?_) (bA 38 1073741823) rfl rfl (any_of HT_.out (by kernel_rfl)) (fun _ _ _ h => h) (Or.inr ⟨by rfl, rfl⟩) ?_ ?_
    rotate_left
    ·refine pZ ?_
     rfl
    refine pure_ (i := 30) (N := some 48) (v := undef) (a' := ?_) (bA 38 2147483647) rfl rfl (any_of HT_.out (by kernel_rfl)) (fun _ _ _ h => h) (Or.inr ⟨by rfl, rfl⟩) ?_ ?_
    rotate_left
    ·refine pZ ?_
     rfl
    refine pure_ (i := 31) (N := some 49) (v := undef) (a' := ?_) (bA 38 4294967295) rfl rfl (any_of HT_.out (by kernel_rfl)) (fun _ _ _ h => h) (Or.inr ⟨by rfl, rfl⟩) ?_ ?_
    rotate_left
    ·refine pZ ?_
     rfl
    refine pure_ (i := 32) (N := some 50) (v := undef) (a' := ?_) (bA 38 8589934591) rfl rfl (any_of HT_.out (by kernel_rfl)) (fun _ _ _ h => h) (Or.inr ⟨by rfl, rfl⟩) ?_ ?_
    rotate_left
    ·refine pZ ?_
     rfl
    refine pure_ (i := 33) (N := some 51) (v := undef) (a' := ?_) (bA 38 17179869183) rfl rfl (any_of HT_.out (by kernel_rfl)) (fun _ _ _ h => h) (Or.inr ⟨by rfl, rfl⟩) ?_ ?_
    rotate_left
    ·refine pZ ?_
     rfl
    refine pure_ (i := 34) (N := some 52) (v := undef) (a' := ?_) (bA 38 34359738367) rfl rfl (any_of HT_.out (by kernel_rfl)) (fun _ _ _ h => h) (Or.inr ⟨by rfl, rfl⟩) ?_ ?_
    rotate_left
    ·refine pZ ?_
     rfl
    refine pure_ (i := 35) (N := some 53) (v := undef) (a' := ?_) (bA 38 68719476735) rfl rfl (any_of HT_.out (by kernel_rfl)) (fun _ _ _ h => h) (Or.inr ⟨by rfl, rfl⟩) ?_ ?_
    rotate_left
    ·refine pZ ?_
     rfl
    refine pure_ (i := 36) (N := some 54) (v := undef) (a' := ?_) (bA 38 137438953471) rfl rfl (any_of HT_.out (by kernel_rfl)) (fun _ _ _ h => h) (Or.inr ⟨by rfl, rfl⟩) ?_ ?_
    rotate_left
    ·refine pZ ?_
     rfl
    refine pQ 37 55 HT_ (bA 38 274877906943) ?_
    refine done_ (done_of HT_.out (by kernel_rfl)) ?_
    obtain ⟨⟨hcz23_0, hcz23_1, hcz23_2, hcz23_3⟩, hfz23_0, hfz23_1, hfz23_2, hfz23_3⟩ := cf4 BK270
    try go_wp2
    refine bodyPost_ret (results_ct rfl _ _ gb270 27 #[.int .i64 0, .int .i64 0, .int .i64 0, .slice none 0 0] (0, 0) _ rfl (by exact bP BK270.out) Try.underlying27 rfl (by kernel_rfl)) rfl ?_
    exact ⟨_, qX, qN, by exact qW HB.out⟩
   rw [if_pos c9] at H
   have c9b0 : (((rd_T27 l0 x4_1).f2) == 1) = true := beq_iff_eq.mpr c9
   have c9b1 : (((rd_T27 l0 x4_1).f2) != 1) = false := bne_eq_false_iff_eq.mpr c9
   clear c9
   replace H := iS H
   obtain ⟨c10, H⟩ := H
   have c10b0 : decide (0 < (l0.length : Int)) = true := decide_eq_true c10
   have c10b1 : decide (0 < l0.length) = true := decide_eq_true (by omega)
   clear c10
   by_cases c11 : ((rd_T27 l0 x4_1).f0) = ((rd_T27 l0 0).f0)
   rotate_left
   ·rw [if_neg c11] at H
    have c11b0 : (((rd_T27 l0 x4_1).f0) == ((rd_T27 l0 0).f0)) = false := beq_eq_false_iff_ne.mpr c11
    have c11b1 : (((rd_T27 l0 x4_1).f0) != ((rd_T27 l0 0).f0)) = true := bne_iff_ne.mpr c11
    simp only [Option.some.injEq, Prod.mk.injEq] at H
    obtain ⟨rfl, rfl, rfl, rfl, rfl⟩ := H
    try go_wp2
    replace BK270 := aM (blk_drew BK270.out)
    replace HB := aM (below_drew1 HB.out)
    have p272 : 0 ≤ (x4_1 : Int) := oD
    have q272 : x4_1 < (l0.length : Int) := oD
    obtain ⟨ad272, A272_3, c272_3, e272, hx272_0, hx272_1, hx272_2, hx272_3, hl272_3, hi272_3⟩ := at_T27 HR0.out x4_1 p272 q272
    have hw272_3 := hx272_3
    have hw272_2 := hx272_2
    have hw272_1 := hx272_1
    have hw272_0 := hx272_0
    cases e272
    replace hx272_0 := bD HB hx272_0
    replace hx272_1 := bD HB hx272_1
    replace hx272_2 := bD HB hx272_2
    replace hx272_3 := bD HB hx272_3
    have HR272_3 := aM hi272_3
    have HC272_3 := aM hl272_3
    clear hi272_3 hl272_3
    replace p272 := eq_true p272
    replace q272 := eq_true q272
    have p274 : 0 ≤ (x4_1 : Int) := oD
    have q274 : x4_1 < (l0.length : Int) := oD
    obtain ⟨ad274, A274_3, c274_3, e274, hx274_0, hx274_1, hx274_2, hx274_3, hl274_3, hi274_3⟩ := at_T27 HR0.out x4_1 p274 q274
    have hw274_3 := hx274_3
    have hw274_2 := hx274_2
    have hw274_1 := hx274_1
    have hw274_0 := hx274_0
    obtain rfl : ad272 = ad274 := (by injection e274)
    replace hx274_0 := bD HB hx274_0
    replace hx274_1 := bD HB hx274_1
    replace hx274_2 := bD HB hx274_2
    replace hx274_3 := bD HB hx274_3
    have HR274_3 := aM hi274_3
    have HC274_3 := aM hl274_3
    clear hi274_3 hl274_3
    replace p274 := eq_true p274
    replace q274 := eq_true q274
    have p275 : 0 ≤ (x4_1 : Int) := oD
    have q275 : x4_1 < (l0.length : Int) := oD
    obtain ⟨ad275, A275_3, c275_3, e275, hx275_0, hx275_1, hx275_2, hx275_3, hl275_3, hi275_3⟩ := at_T27 HR0.out x4_1 p275 q275
    have hw275_3 := hx275_3
    have hw275_2 := hx275_2
    have hw275_1 := hx275_1
    have hw275_0 := hx275_0
    obtain rfl : ad272 = ad275 := (by injection e275)
    replace hx275_0 := bD HB hx275_0
    replace hx275_1 := bD HB hx275_1
    replace hx275_2 := bD HB hx275_2
    replace hx275_3 := bD HB hx275_3
    have HR275_3 := aM hi275_3
    have HC275_3 := aM hl275_3
    clear hi275_3 hl275_3
    replace p275 := eq_true p275
    replace q275 := eq_true q275
    have ea_ := Option.some.inj (hx274_3.symm.trans hx275_3)
    injection ea_ with ea_ en_ ec_
    subst ea_
    subst ec_
    clear en_
    have p276 : 0 ≤ (0 : Int) := (by omega)
    have q276 : 0 < (l0.length : Int) := oD
    obtain ⟨ad276, A276_3, c276_3, e276, hx276_0, hx276_1, hx276_2, hx276_3, hl276_3, hi276_3⟩ := at_T27 HR0.out 0 p276 q276
    have hw276_3 := hx276_3
    (try rw [show ((0 : Int)).toNat = 0 from rfl] at hw276_3)
    (try rw [show 0 * 4 = 0 from rfl] at hw276_3)
    (try rw [Addr.add_zero'] at hw276_3)
    have hw276_2 := hx276_2
    (try rw [show ((0 : Int)).toNat = 0 from rfl] at hw276_2)
    (try rw [show 0 * 4 = 0 from rfl] at hw276_2)
    (try rw [Addr.add_zero'] at hw276_2)
    have hw276_1 := hx276_1
    (try rw [show ((0 : Int)).toNat = 0 from rfl] at hw276_1)
    (try rw [show 0 * 4 = 0 from rfl] at hw276_1)
    (try rw [Addr.add_zero'] at hw276_1)
    have hw276_0 := hx276_0
    (try rw [show ((0 : Int)).toNat = 0 from rfl] at hw276_0)
    (try rw [show 0 * 4 = 0 from rfl] at hw276_0)
    (try rw [Addr.add_zero'] at hw276_0)
    obtain rfl : ad272 = ad276 := (by injection e276)
    have qi276 : (0 < l0.length) = True := eq_true (by omega)
    (try rw [show ((0 : Int)).toNat = 0 from rfl] at hx276_0)
    (try rw [show 0 * 4 = 0 from rfl] at hx276_0)
    (try rw [Addr.add_zero'] at hx276_0)
    (try rw [show ((0 : Int)).toNat = 0 from rfl] at hx276_1)
    (try rw [show 0 * 4 = 0 from rfl] at hx276_1)
    (try rw [Addr.add_zero'] at hx276_1)
    (try rw [show ((0 : Int)).toNat = 0 from rfl] at hx276_2)
    (try rw [show 0 * 4 = 0 from rfl] at hx276_2)
    (try rw [Addr.add_zero'] at hx276_2)
    (try rw [show ((0 : Int)).toNat = 0 from rfl] at hx276_3)
    (try rw [show 0 * 4 = 0 from rfl] at hx276_3)
    (try rw [Addr.add_zero'] at hx276_3)
    replace hx276_0 := bD HB hx276_0
    replace hx276_1 := bD HB hx276_1
    replace hx276_2 := bD HB hx276_2
    replace hx276_3 := bD HB hx276_3
    have HR276_3 := aM hi276_3
    have HC276_3 := aM hl276_3
    clear hi276_3 hl276_3
    replace p276 := eq_true p276
    replace q276 := eq_true q276
    refine start_ (n := 38) (S := fun w' => w'.cell? (ad272.add ((x4_1).toNat * 4)) = some (.int .i64 ((rd_T27 l0 x4_1).f0)) ∧ w'.cell? ⟨(ad272.add ((x4_1).toNat * 4)).block, (ad272.add ((x4_1).toNat * 4)).off + 1, none⟩ = some (.int .i64 ((rd_T27 l0 x4_1).f1)) ∧ w'.cell? ⟨(ad272.add ((x4_1).toNat * 4)).block, (ad272.add ((x4_1).toNat * 4)).off + 2, none⟩ = some (.int .i64 ((rd_T27 l0 x4_1).f2)) ∧ w'.cell? ⟨(ad272.add ((x4_1).toNat * 4)).block, (ad272.add ((x4_1).toNat * 4)).off + 3, none⟩ = some (.slice A272_3 ((rd_T27 l0 x4_1).f3).length c272_3) ∧ w'.cell? (ad272.add ((x4_1).toNat * 4)) = some (.int .i64 ((rd_T27 l0 x4_1).f0)) ∧ w'.cell? ⟨(ad272.add ((x4_1).toNat * 4)).block, (ad272.add ((x4_1).toNat * 4)).off + 1, none⟩ = some (.int .i64 ((rd_T27 l0 x4_1).f1)) ∧ w'.cell? ⟨(ad272.add ((x4_1).toNat * 4)).block, (ad272.add ((x4_1).toNat * 4)).off + 2, none⟩ = some (.int .i64 ((rd_T27 l0 x4_1).f2)) ∧ w'.cell? ⟨(ad272.add ((x4_1).toNat * 4)).block, (ad272.add ((x4_1).toNat * 4)).off + 3, none⟩ = some (.slice A274_3 ((rd_T27 l0 x4_1).f3).length c274_3) ∧ w'.cell? (ad272.add ((x4_1).toNat * 4)) = some (.int .i64 ((rd_T27 l0 x4_1).f0)) ∧ w'.cell? ⟨(ad272.add ((x4_1).toNat * 4)).block, (ad272.add ((x4_1).toNat * 4)).off + 1, none⟩ = some (.int .i64 ((rd_T27 l0 x4_1).f1)) ∧ w'.cell? ⟨(ad272.add ((x4_1).toNat * 4)).block, (ad272.add ((x4_1).toNat * 4)).off + 2, none⟩ = some (.int .i64 ((rd_T27 l0 x4_1).f2)) ∧ w'.cell? ⟨(ad272.add ((x4_1).toNat * 4)).block, (ad272.add ((x4_1).toNat * 4)).off + 3, none⟩ = some (.slice A274_3 ((rd_T27 l0 x4_1).f3).length c274_3) ∧ w'.cell? ad272 = some (.int .i64 ((rd_T27 l0 0).f0)) ∧ w'.cell? ⟨ad272.block, ad272.off + 1, none⟩ = some (.int .i64 ((rd_T27 l0 0).f1)) ∧ w'.cell? ⟨ad272.block, ad272.off + 2, none⟩ = some (.int .i64 ((rd_T27 l0 0).f2)) ∧ w'.cell? ⟨ad272.block, ad272.off + 3, none⟩ = some (.slice A276_3 ((rd_T27 l0 0).f3).length c276_3)) (ds := []) (bA 38 0) (by kernel_rfl) rfl rfl ⟨(bC HB hw272_0), (bC HB hw272_1), (bC HB hw272_2), (bC HB hw272_3), (bC HB hw274_0), (bC HB hw274_1), (bC HB hw274_2), (bC HB hw274_3), (bC HB hw275_0), (bC HB hw275_1), (bC HB hw275_2), (bC HB hw275_3), (bC HB hw276_0), (bC HB hw276_1), (bC HB hw276_2), (bC HB hw276_3)⟩ (fun hHeld => ?_); refine with_tabW spec_MergePlanes.tab6 spec_MergePlanes.bits6 (fun HT_ HW_ => ?_)
    generalize wr.drew = w18 at BK270 HB HR272_3 HR274_3 HR275_3 HR276_3 hx272_0 hx272_1 hx272_2 hx272_3 hx274_0 hx274_1 hx274_2 hx274_3 hx275_0 hx275_1 hx275_2 hx275_3 hx276_0 hx276_1 hx276_2 hx276_3 hHeld ⊢
    refine pQ 0 18 HT_ (bA 38 1) ?_
    refine pQ 1 19 HT_ (bA 38 3) ?_
    refine pQ 2 20 HT_ (bA 38 7) ?_
    refine take_ (i := 3) (N := some 21) (v := ?_) (a' := ?_) (bA 38 15) rfl rfl (take_ofW HT_.out HW_.out (by kernel_rfl)) (fun _ _ _ h => h) (Or.inl ⟨by rfl, ?_⟩) hHeld ?_ ?_
    rotate_left
    ·rintro w' ⟨s0, s1, s2, s3, s4, s5, s6, s7, s8, s9, s10, s11, s12, s13, s14, s15⟩
     go_simp
     with_reducible rfl
    rotate_left
    ·refine pZ ?_
     rfl
    refine one_ (i := 4) (N := some 22) (bA 38 31) rfl rfl (one_of HT_.out (by kernel_rfl)) (by decide) (fun K hK => ?_)
    refine goes_ Try.func52 (by kernel_rfl) rfl #[.agg #[.int .i64 ((rd_T27 l0 x4_1).f0), .int .i64 ((rd_T27 l0 x4_1).f1), .int .i64 ((rd_T27 l0 x4_1).f2), .slice A272_3 ((rd_T27 l0 x4_1).f3).length c272_3]] (by rfl) rfl rfl qM ?_
    with_reducible refine (spec_validImage.calls k1 ((rd_T27 l0 x4_1).f0) ((rd_T27 l0 x4_1).f1) ((rd_T27 l0 x4_1).f2) _ _ ((rd_T27 l0 x4_1).f3) true _ ?side1 ?side2 A7.out).mono ?_
    (case side1 => exact qC (Kd.C_below HR272_3.out HB.out))
    (case side2 => exact HC272_3.out)
    rintro e w19 ⟨rfl, hb⟩
    refine ⟨_, rfl, ?_⟩
    replace BK270 := bB BK270 hb
    replace HB := bS HB hb
    (try clear hb)
    (try clear hb2)
    (try clear hk)
    (try clear hi)
    refine hK.out _ _ ⟨(bC HB hw272_0), (bC HB hw272_1), (bC HB hw272_2), (bC HB hw272_3), (bC HB hw274_0), (bC HB hw274_1), (bC HB hw274_2), (bC HB hw274_3), (bC HB hw275_0), (bC HB hw275_1), (bC HB hw275_2), (bC HB hw275_3), (bC HB hw276_0), (bC HB hw276_1), (bC HB hw276_2), (bC HB hw276_3)⟩ (fun hHeld => ?_)
    clear hK K
    refine norm_ (a' := ?_) ?_ ?_
    rotate_left
    ·show Act.put _ (some 22) _ = _
     refine pZ ?_
     rfl
    refine pQ 5 23 HT_ (bA 38 63) ?_
    refine pQ 6 24 HT_ (bA 38 127) ?_
    refine pQ 7 25 HT_ (bA 38 255) ?_
    refine pQ 8 26 HT_ (bA 38 511) ?_
    refine pQ 9 27 HT_ (bA 38 1023) ?_
    refine pQ 10 28 HT_ (bA 38 2047) ?_
    refine take_ (i := 11) (N := some 29) (v := ?_) (a' := ?_) (bA 38 4095) rfl rfl (take_ofW HT_.out HW_.out (by kernel_rfl)) (fun _ _ _ h => h) (Or.inl ⟨by rfl, ?_⟩) hHeld ?_ ?_
    rotate_left
    ·rintro w' ⟨s0, s1, s2, s3, s4, s5, s6, s7, s8, s9, s10, s11, s12, s13, s14, s15⟩
     go_simp
     with_reducible rfl
    rotate_left
    ·refine pZ ?_
     rfl
    refine pQ 12 30 HT_ (bA 38 8191) ?_
    refine pQ 13 31 HT_ (bA 38 16383) ?_
    refine pQ 14 32 HT_ (bA 38 32767) ?_
    refine pQ 15 33 HT_ (bA 38 65535) ?_
    refine pQ 16 34 HT_ (bA 38 131071) ?_
    refine pQ 17 35 HT_ (bA 38 262143) ?_
    refine pQ 18 36 HT_ (bA 38 524287) ?_
    refine pQ 20 38 HT_ (bA 38 1572863) ?_
    refine pQ 21 39 HT_ (bA 38 3670015) ?_
    refine pQ 22 40 HT_ (bA 38 7864319) ?_
    refine take_ (i := 19) (N := some 37) (v := ?_) (a' := ?_) (bA 38 8388607) rfl rfl (take_ofW HT_.out HW_.out (by kernel_rfl)) (fun _ _ _ h => h) (Or.inl ⟨by rfl, ?_⟩) hHeld ?_ ?_
    rotate_left
    ·rintro w' ⟨s0, s1, s2, s3, s4, s5, s6, s7, s8, s9, s10, s11, s12, s13, s14, s15⟩
     go_simp
     with_reducible rfl
    rotate_left
    ·refine pZ ?_
     rfl
    refine take_ (i := 23) (N := some 41) (v := ?_) (a' := ?_) (bA 38 16777215) rfl rfl (take_ofW HT_.out HW_.out (by kernel_rfl)) (fun _ _ _ h => h) (Or.inl ⟨by rfl, ?_⟩) hHeld ?_ ?_
    rotate_left
    ·rintro w' ⟨s0, s1, s2, s3, s4, s5, s6, s7, s8, s9, s10, s11, s12, s13, s14, s15⟩
     go_simp
     with_reducible rfl
    rotate_left
    ·refine pZ ?_
     rfl
    refine pQ 24 42 HT_ (bA 38 33554431) ?_
    refine pQ 25 43 HT_ (bA 38 67108863) ?_
    refine pQ 26 44 HT_ (bA 38 134217727) ?_
    refine pure_ (i := 27) (N := some 45) (v := undef) (a' := ?_) (bA 38 268435455) rfl rfl (any_of HT_.out (by kernel_rfl)) (fun _ _ _ h => h) (Or.inr ⟨by rfl, rfl⟩) ?_ ?_
    rotate_left
    ·refine pZ ?_
     rfl
    refine pure_ (i := 28) (N := some 46) (v := undef) (a' := ?_) (bA 38 536870911) rfl rfl (any_of HT_.out (by kernel_rfl)) (fun _ _ _ h => h) (Or.inr ⟨by rfl, rfl⟩) ?_ ?_
    rotate_left
    ·refine pZ ?_
     rfl
    refine pure_ (i := 29) (N := some 47) (v := undef) (a' := ?_) (bA 38 1073741823) rfl rfl (any_of HT_.out (by kernel_rfl)) (fun _ _ _ h => h) (Or.inr ⟨by rfl, rfl⟩) ?_ ?_
    rotate_left
    ·refine pZ ?_
     rfl
    refine pure_ (i := 30) (N := some 48) (v := undef) (a' := ?_) (bA 38 2147483647) rfl rfl (any_of HT_.out (by kernel_rfl)) (fun _ _ _ h => h) (Or.inr ⟨by rfl, rfl⟩) ?_ ?_
    rotate_left
    ·refine pZ ?_
     rfl
    refine pure_ (i := 31) (N := some 49) (v := undef) (a' := ?_) (bA 38 4294967295) rfl rfl (any_of HT_.out (by kernel_rfl)) (fun _ _ _ h => h) (Or.inr ⟨by rfl, rfl⟩) ?_ ?_
    rotate_left
    ·refine pZ ?_
     rfl
    refine pure_ (i := 32) (N := some 50) (v := undef) (a' := ?_) (bA 38 8589934591) rfl rfl (any_of HT_.out (by kernel_rfl)) (fun _ _ _ h => h) (Or.inr ⟨by rfl, rfl⟩) ?_ ?_
    rotate_left
    ·refine pZ ?_
     rfl
    refine pure_ (i := 33) (N := some 51) (v := undef) (a' := ?_) (bA 38 17179869183) rfl rfl (any_of HT_.out (by kernel_rfl)) (fun _ _ _ h => h) (Or.inr ⟨by rfl, rfl⟩) ?_ ?_
    rotate_left
    ·refine pZ ?_
     rfl
    refine pure_ (i := 34) (N := some 52) (v := undef) (a' := ?_) (bA 38 34359738367) rfl rfl (any_of HT_.out (by kernel_rfl)) (fun _ _ _ h => h) (Or.inr ⟨by rfl, rfl⟩) ?_ ?_
    rotate_left
    ·refine pZ ?_
     rfl
    refine pure_ (i := 35) (N := some 53) (v := undef) (a' := ?_) (bA 38 68719476735) rfl rfl (any_of HT_.out (by kernel_rfl)) (fun _ _ _ h => h) (Or.inr ⟨by rfl, rfl⟩) ?_ ?_
    rotate_left
    ·refine pZ ?_
     rfl
    refine pure_ (i := 36) (N := some 54) (v := undef) (a' := ?_) (bA 38 137438953471) rfl rfl (any_of HT_.out (by kernel_rfl)) (fun _ _ _ h => h) (Or.inr ⟨by rfl, rfl⟩) ?_ ?_
    rotate_left
    ·refine pZ ?_
     rfl
    refine pQ 37 55 HT_ (bA 38 274877906943) ?_
    refine done_ (done_of HT_.out (by kernel_rfl)) ?_
    obtain ⟨⟨hcz20_0, hcz20_1, hcz20_2, hcz20_3⟩, hfz20_0, hfz20_1, hfz20_2, hfz20_3⟩ := cf4 BK270
    try go_wp2
    refine bodyPost_ret (results_ct rfl _ _ gb270 27 #[.int .i64 0, .int .i64 0, .int .i64 0, .slice none 0 0] (0, 0) _ rfl (by exact bP BK270.out) Try.underlying27 rfl (by kernel_rfl)) rfl ?_
    exact ⟨_, qX, qN, by exact qW HB.out⟩
   rw [if_pos c11] at H
   have c11b0 : (((rd_T27 l0 x4_1).f0) == ((rd_T27 l0 0).f0)) = true := beq_iff_eq.mpr c11
   have c11b1 : (((rd_T27 l0 x4_1).f0) != ((rd_T27 l0 0).f0)) = false := bne_eq_false_iff_eq.mpr c11
   clear c11
   by_cases c12 : ((rd_T27 l0 x4_1).f1) = ((rd_T27 l0 0).f1)
   ·rw [if_pos c12] at H
    have c12b0 : (((rd_T27 l0 x4_1).f1) == ((rd_T27 l0 0).f1)) = true := beq_iff_eq.mpr c12
    have c12b1 : (((rd_T27 l0 x4_1).f1) != ((rd_T27 l0 0).f1)) = false := bne_eq_false_iff_eq.mpr c12
    clear c12
    have H' := aM H
    clear H
    try go_wp2
    replace BK270 := aM (blk_drew BK270.out)
    replace HB := aM (below_drew1 HB.out)
    have p272 : 0 ≤ (x4_1 : Int) := oD
    have q272 : x4_1 < (l0.length : Int) := oD
    obtain ⟨ad272, A272_3, c272_3, e272, hx272_0, hx272_1, hx272_2, hx272_3, hl272_3, hi272_3⟩ := at_T27 HR0.out x4_1 p272 q272
    have hw272_3 := hx272_3
    have hw272_2 := hx272_2
    have hw272_1 := hx272_1
    have hw272_0 := hx272_0
    cases e272
    replace hx272_0 := bD HB hx272_0
    replace hx272_1 := bD HB hx272_1
    replace hx272_2 := bD HB hx272_2
    replace hx272_3 := bD HB hx272_3
    have HR272_3 := aM hi272_3
    have HC272_3 := aM hl272_3
    clear hi272_3 hl272_3
    replace p272 := eq_true p272
    replace q272 := eq_true q272
    have p274 : 0 ≤ (x4_1 : Int) := oD
    have q274 : x4_1 < (l0.length : Int) := oD
    obtain ⟨ad274, A274_3, c274_3, e274, hx274_0, hx274_1, hx274_2, hx274_3, hl274_3, hi274_3⟩ := at_T27 HR0.out x4_1 p274 q274
    have hw274_3 := hx274_3
    have hw274_2 := hx274_2
    have hw274_1 := hx274_1
    have hw274_0 := hx274_0
    obtain rfl : ad272 = ad274 := (by injection e274)
    replace hx274_0 := bD HB hx274_0
    replace hx274_1 := bD HB hx274_1
    replace hx274_2 := bD HB hx274_2
    replace hx274_3 := bD HB hx274_3
    have HR274_3 := aM hi274_3
    have HC274_3 := aM hl274_3
    clear hi274_3 hl274_3
    replace p274 := eq_true p274
    replace q274 := eq_true q274
    have p275 : 0 ≤ (x4_1 : Int) := oD
    have q275 : x4_1 < (l0.length : Int) := oD
    obtain ⟨ad275, A275_3, c275_3, e275, hx275_0, hx275_1, hx275_2, hx275_3, hl275_3, hi275_3⟩ := at_T27 HR0.out x4_1 p275 q275
    have hw275_3 := hx275_3
    have hw275_2 := hx275_2
    have hw275_1 := hx275_1
    have hw275_0 := hx275_0
    obtain rfl : ad272 = ad275 := (by injection e275)
    replace hx275_0 := bD HB hx275_0
    replace hx275_1 := bD HB hx275_1
    replace hx275_2 := bD HB hx275_2
    replace hx275_3 := bD HB hx275_3
    have HR275_3 := aM hi275_3
    have HC275_3 := aM hl275_3
    clear hi275_3 hl275_3
    replace p275 := eq_true p275
    replace q275 := eq_true q275
    have ea_ := Option.some.inj (hx274_3.symm.trans hx275_3)
    injection ea_ with ea_ en_ ec_
    subst ea_
    subst ec_
    clear en_
    have p276 : 0 ≤ (0 : Int) := (by omega)
    have q276 : 0 < (l0.length : Int) := oD
    obtain ⟨ad276, A276_3, c276_3, e276, hx276_0, hx276_1, hx276_2, hx276_3, hl276_3, hi276_3⟩ := at_T27 HR0.out 0 p276 q276
    have hw276_3 := hx276_3
    (try rw [show ((0 : Int)).toNat = 0 from rfl] at hw276_3)
    (try rw [show 0 * 4 = 0 from rfl] at hw276_3)
    (try rw [Addr.add_zero'] at hw276_3)
    have hw276_2 := hx276_2
    (try rw [show ((0 : Int)).toNat = 0 from rfl] at hw276_2)
    (try rw [show 0 * 4 = 0 from rfl] at hw276_2)
    (try rw [Addr.add_zero'] at hw276_2)
    have hw276_1 := hx276_1
    (try rw [show ((0 : Int)).toNat = 0 from rfl] at hw276_1)
    (try rw [show 0 * 4 = 0 from rfl] at hw276_1)
    (try rw [Addr.add_zero'] at hw276_1)
    have hw276_0 := hx276_0
    (try rw [show ((0 : Int)).toNat = 0 from rfl] at hw276_0)
    (try rw [show 0 * 4 = 0 from rfl] at hw276_0)
    (try rw [Addr.add_zero'] at hw276_0)
    obtain rfl : ad272 = ad276 := (by injection e276)
    have qi276 : (0 < l0.length) = True := eq_true (by omega)
    (try rw [show ((0 : Int)).toNat = 0 from rfl] at hx276_0)
    (try rw [show 0 * 4 = 0 from rfl] at hx276_0)
    (try rw [Addr.add_zero'] at hx276_0)
    (try rw [show ((0 : Int)).toNat = 0 from rfl] at hx276_1)
    (try rw [show 0 * 4 = 0 from rfl] at hx276_1)
    (try rw [Addr.add_zero'] at hx276_1)
    (try rw [show ((0 : Int)).toNat = 0 from rfl] at hx276_2)
    (try rw [show 0 * 4 = 0 from rfl] at hx276_2)
    (try rw [Addr.add_zero'] at hx276_2)
    (try rw [show ((0 : Int)).toNat = 0 from rfl] at hx276_3)
    (try rw [show 0 * 4 = 0 from rfl] at hx276_3)
    (try rw [Addr.add_zero'] at hx276_3)
    replace hx276_0 := bD HB hx276_0
    replace hx276_1 := bD HB hx276_1
    replace hx276_2 := bD HB hx276_2
    replace hx276_3 := bD HB hx276_3
    have HR276_3 := aM hi276_3
    have HC276_3 := aM hl276_3
    clear hi276_3 hl276_3
    replace p276 := eq_true p276
    replace q276 := eq_true q276
    have p277 : 0 ≤ (x4_1 : Int) := oD
    have q277 : x4_1 < (l0.length : Int) := oD
    obtain ⟨ad277, A277_3, c277_3, e277, hx277_0, hx277_1, hx277_2, hx277_3, hl277_3, hi277_3⟩ := at_T27 HR0.out x4_1 p277 q277
    have hw277_3 := hx277_3
    have hw277_2 := hx277_2
    have hw277_1 := hx277_1
    have hw277_0 := hx277_0
    obtain rfl : ad272 = ad277 := (by injection e277)
    replace hx277_0 := bD HB hx277_0
    replace hx277_1 := bD HB hx277_1
    replace hx277_2 := bD HB hx277_2
    replace hx277_3 := bD HB hx277_3
    have HR277_3 := aM hi277_3
    have HC277_3 := aM hl277_3
    clear hi277_3 hl277_3
    replace p277 := eq_true p277
    replace q277 := eq_true q277
    have ea_ := Option.some.inj (hx274_3.symm.trans hx277_3)
    injection ea_ with ea_ en_ ec_
    subst ea_
    subst ec_
    clear en_
    have p278 : 0 ≤ (0 : Int) := (by omega)
    have q278 : 0 < (l0.length : Int) := oD
    obtain ⟨ad278, A278_3, c278_3, e278, hx278_0, hx278_1, hx278_2, hx278_3, hl278_3, hi278_3⟩ := at_T27 HR0.out 0 p278 q278
    have hw278_3 := hx278_3
    (try rw [show ((0 : Int)).toNat = 0 from rfl] at hw278_3)
    (try rw [show 0 * 4 = 0 from rfl] at hw278_3)
    (try rw [Addr.add_zero'] at hw278_3)
    have hw278_2 := hx278_2
    (try rw [show ((0 : Int)).toNat = 0 from rfl] at hw278_2)
    (try rw [show 0 * 4 = 0 from rfl] at hw278_2)
    (try rw [Addr.add_zero'] at hw278_2)
    have hw278_1 := hx278_1
    (try rw [show ((0 : Int)).toNat = 0 from rfl] at hw278_1)
    (try rw [show 0 * 4 = 0 from rfl] at hw278_1)
    (try rw [Addr.add_zero'] at hw278_1)
    have hw278_0 := hx278_0
    (try rw [show ((0 : Int)).toNat = 0 from rfl] at hw278_0)
    (try rw [show 0 * 4 = 0 from rfl] at hw278_0)
    (try rw [Addr.add_zero'] at hw278_0)
    obtain rfl : ad272 = ad278 := (by injection e278)
    have qi278 : (0 < l0.length) = True := eq_true (by omega)
    (try rw [show ((0 : Int)).toNat = 0 from rfl] at hx278_0)
    (try rw [show 0 * 4 = 0 from rfl] at hx278_0)
    (try rw [Addr.add_zero'] at hx278_0)
    (try rw [show ((0 : Int)).toNat = 0 from rfl] at hx278_1)
    (try rw [show 0 * 4 = 0 from rfl] at hx278_1)
    (try rw [Addr.add_zero'] at hx278_1)
    (try rw [show ((0 : Int)).toNat = 0 from rfl] at hx278_2)
    (try rw [show 0 * 4 = 0 from rfl] at hx278_2)
    (try rw [Addr.add_zero'] at hx278_2)
    (try rw [show ((0 : Int)).toNat = 0 from rfl] at hx278_3)
    (try rw [show 0 * 4 = 0 from rfl] at hx278_3)
    (try rw [Addr.add_zero'] at hx278_3)
    replace hx278_0 := bD HB hx278_0
    replace hx278_1 := bD HB hx278_1
    replace hx278_2 := bD HB hx278_2
    replace hx278_3 := bD HB hx278_3
    have HR278_3 := aM hi278_3
    have HC278_3 := aM hl278_3
    clear hi278_3 hl278_3
    replace p278 := eq_true p278
    replace q278 := eq_true q278
    have ea_ := Option.some.inj (hx276_3.symm.trans hx278_3)
    injection ea_ with ea_ en_ ec_
    subst ea_
    subst ec_
    clear en_
    refine start_ (n := 38) (S := fun w' => w'.cell? (ad272.add ((x4_1).toNat * 4)) = some (.int .i64 ((rd_T27 l0 x4_1).f0)) ∧ w'.cell? ⟨(ad272.add ((x4_1).toNat * 4)).block, (ad272.add ((x4_1).toNat * 4)).off + 1, none⟩ = some (.int .i64 ((rd_T27 l0 x4_1).f1)) ∧ w'.cell? ⟨(ad272.add ((x4_1).toNat * 4)).block, (ad272.add ((x4_1).toNat * 4)).off + 2, none⟩ = some (.int .i64 ((rd_T27 l0 x4_1).f2)) ∧ w'.cell? ⟨(ad272.add ((x4_1).toNat * 4)).block, (ad272.add ((x4_1).toNat * 4)).off + 3, none⟩ = some (.slice A272_3 ((rd_T27 l0 x4_1).f3).length c272_3) ∧ w'.cell? (ad272.add ((x4_1).toNat * 4)) = some (.int .i64 ((rd_T27 l0 x4_1).f0)) ∧ w'.cell? ⟨(ad272.add ((x4_1).toNat * 4)).block, (ad272.add ((x4_1).toNat * 4)).off + 1, none⟩ = some (.int .i64 ((rd_T27 l0 x4_1).f1)) ∧ w'.cell? ⟨(ad272.add ((x4_1).toNat * 4)).block, (ad272.add ((x4_1).toNat * 4)).off + 2, none⟩ = some (.int .i64 ((rd_T27 l0 x4_1).f2)) ∧ w'.cell? ⟨(ad272.add ((x4_1).toNat * 4)).block, (ad272.add ((x4_1).toNat * 4)).off + 3, none⟩ = some (.slice A274_3 ((rd_T27 l0 x4_1).f3).length c274_3) ∧ w'.cell? (ad272.add ((x4_1).toNat * 4)) = some (.int .i64 ((rd_T27 l0 x4_1).f0)) ∧ w'.cell? ⟨(ad272.add ((x4_1).toNat * 4)).block, (ad272.add ((x4_1).toNat * 4)).off + 1, none⟩ = some (.int .i64 ((rd_T27 l0 x4_1).f1)) ∧ w'.cell? ⟨(ad272.add ((x4_1).toNat * 4)).block, (ad272.add ((x4_1).toNat * 4)).off + 2, none⟩ = some (.int .i64 ((rd_T27 l0 x4_1).f2)) ∧ w'.cell? ⟨(ad272.add ((x4_1).toNat * 4)).block, (ad272.add ((x4_1).toNat * 4)).off + 3, none⟩ = some (.slice A274_3 ((rd_T27 l0 x4_1).f3).length c274_3) ∧ w'.cell? ad272 = some (.int .i64 ((rd_T27 l0 0).f0)) ∧ w'.cell? ⟨ad272.block, ad272.off + 1, none⟩ = some (.int .i64 ((rd_T27 l0 0).f1)) ∧ w'.cell? ⟨ad272.block, ad272.off + 2, none⟩ = some (.int .i64 ((rd_T27 l0 0).f2)) ∧ w'.cell? ⟨ad272.block, ad272.off + 3, none⟩ = some (.slice A276_3 ((rd_T27 l0 0).f3).length c276_3) ∧ w'.cell? (ad272.add ((x4_1).toNat * 4)) = some (.int .i64 ((rd_T27 l0 x4_1).f0)) ∧ w'.cell? ⟨(ad272.add ((x4_1).toNat * 4)).block, (ad272.add ((x4_1).toNat * 4)).off + 1, none⟩ = some (.int .i64 ((rd_T27 l0 x4_1).f1)) ∧ w'.cell? ⟨(ad272.add ((x4_1).toNat * 4)).block, (ad272.add ((x4_1).toNat * 4)).off + 2, none⟩ = some (.int .i64 ((rd_T27 l0 x4_1).f2)) ∧ w'.cell? ⟨(ad272.add ((x4_1).toNat * 4)).block, (ad272.add ((x4_1).toNat * 4)).off + 3, none⟩ = some (.slice A274_3 ((rd_T27 l0 x4_1).f3).length c274_3) ∧ w'.cell? ad272 = some (.int .i64 ((rd_T27 l0 0).f0)) ∧ w'.cell? ⟨ad272.block, ad272.off + 1, none⟩ = some (.int .i64 ((rd_T27 l0 0).f1)) ∧ w'.cell? ⟨ad272.block, ad272.off + 2, none⟩ = some (.int .i64 ((rd_T27 l0 0).f2)) ∧ w'.cell? ⟨ad272.block, ad272.off + 3, none⟩ = some (.slice A276_3 ((rd_T27 l0 0).f3).length c276_3)) (ds := []) (bA 38 0) (by kernel_rfl) rfl rfl ⟨(bC HB hw272_0), (bC HB hw272_1), (bC HB hw272_2), (bC HB hw272_3), (bC HB hw274_0), (bC HB hw274_1), (bC HB hw274_2), (bC HB hw274_3), (bC HB hw275_0), (bC HB hw275_1), (bC HB hw275_2), (bC HB hw275_3), (bC HB hw276_0), (bC HB hw276_1), (bC HB hw276_2), (bC HB hw276_3), (bC HB hw277_0), (bC HB hw277_1), (bC HB hw277_2), (bC HB hw277_3), (bC HB hw278_0), (bC HB hw278_1), (bC HB hw278_2), (bC HB hw278_3)⟩ (fun hHeld => ?_); refine with_tabW spec_MergePlanes.tab6 spec_MergePlanes.bits6 (fun HT_ HW_ => ?_)
    generalize wr.drew = w13 at BK270 HB HR272_3 HR274_3 HR275_3 HR276_3 HR277_3 HR278_3 hx272_0 hx272_1 hx272_2 hx272_3 hx274_0 hx274_1 hx274_2 hx274_3 hx275_0 hx275_1 hx275_2 hx275_3 hx276_0 hx276_1 hx276_2 hx276_3 hx277_0 hx277_1 hx277_2 hx277_3 hx278_0 hx278_1 hx278_2 hx278_3 hHeld ⊢
    refine pQ 0 18 HT_ (bA 38 1) ?_
    refine pQ 1 19 HT_ (bA 38 3) ?_
    refine pQ 2 20 HT_ (bA 38 7) ?_
    refine take_ (i := 3) (N := some 21) (v := ?_) (a' := ?_) (bA 38 15) rfl rfl (take_ofW HT_.out HW_.out (by kernel_rfl)) (fun _ _ _ h => h) (Or.inl ⟨by rfl, ?_⟩) hHeld ?_ ?_
    rotate_left
    ·rintro w' ⟨s0, s1, s2, s3, s4, s5, s6, s7, s8, s9, s10, s11, s12, s13, s14, s15, s16, s17, s18, s19, s20, s21, s22, s23⟩
     go_simp
     with_reducible rfl
    rotate_left
    ·refine pZ ?_
     rfl
    refine one_ (i := 4) (N := some 22) (bA 38 31) rfl rfl (one_of HT_.out (by kernel_rfl)) (by decide) (fun K hK => ?_)
    refine goes_ Try.func52 (by kernel_rfl) rfl #[.agg #[.int .i64 ((rd_T27 l0 x4_1).f0), .int .i64 ((rd_T27 l0 x4_1).f1), .int .i64 ((rd_T27 l0 x4_1).f2), .slice A272_3 ((rd_T27 l0 x4_1).f3).length c272_3]] (by rfl) rfl rfl qM ?_
    with_reducible refine (spec_validImage.calls k1 ((rd_T27 l0 x4_1).f0) ((rd_T27 l0 x4_1).f1) ((rd_T27 l0 x4_1).f2) _ _ ((rd_T27 l0 x4_1).f3) true _ ?side1 ?side2 A7.out).mono ?_
    (case side1 => exact qC (Kd.C_below HR272_3.out HB.out))
    (case side2 => exact HC272_3.out)
    rintro e w14 ⟨rfl, hb⟩
    refine ⟨_, rfl, ?_⟩
    replace BK270 := bB BK270 hb
    replace HB := bS HB hb
    (try clear hb)
    (try clear hb2)
    (try clear hk)
    (try clear hi)
    refine hK.out _ _ ⟨(bC HB hw272_0), (bC HB hw272_1), (bC HB hw272_2), (bC HB hw272_3), (bC HB hw274_0), (bC HB hw274_1), (bC HB hw274_2), (bC HB hw274_3), (bC HB hw275_0), (bC HB hw275_1), (bC HB hw275_2), (bC HB hw275_3), (bC HB hw276_0), (bC HB hw276_1), (bC HB hw276_2), (bC HB hw276_3), (bC HB hw277_0), (bC HB hw277_1), (bC HB hw277_2), (bC HB hw277_3), (bC HB hw278_0), (bC HB hw278_1), (bC HB hw278_2), (bC HB hw278_3)⟩ (fun hHeld => ?_)
    clear hK K
    refine norm_ (a' := ?_) ?_ ?_
    rotate_left
    ·show Act.put _ (some 22) _ = _
     refine pZ ?_
     rfl
    refine pQ 5 23 HT_ (bA 38 63) ?_
    refine pQ 6 24 HT_ (bA 38 127) ?_
    refine pQ 7 25 HT_ (bA 38 255) ?_
    refine pQ 8 26 HT_ (bA 38 511) ?_
    refine pQ 9 27 HT_ (bA 38 1023) ?_
    refine pQ 10 28 HT_ (bA 38 2047) ?_
    refine take_ (i := 11) (N := some 29) (v := ?_) (a' := ?_) (bA 38 4095) rfl rfl (take_ofW HT_.out HW_.out (by kernel_rfl)) (fun _ _ _ h => h) (Or.inl ⟨by rfl, ?_⟩) hHeld ?_ ?_
    rotate_left
    ·rintro w' ⟨s0, s1, s2, s3, s4, s5, s6, s7, s8, s9, s10, s11, s12, s13, s14, s15, s16, s17, s18, s19, s20, s21, s22, s23⟩
     go_simp
     with_reducible rfl
    rotate_left
    ·refine pZ ?_
     rfl
    refine pQ 12 30 HT_ (bA 38 8191) ?_
    refine pQ 13 31 HT_ (bA 38 16383) ?_
    refine pQ 14 32 HT_ (bA 38 32767) ?_
    refine pQ 15 33 HT_ (bA 38 65535) ?_
    refine pQ 16 34 HT_ (bA 38 131071) ?_
    refine pQ 17 35 HT_ (bA 38 262143) ?_
    refine pQ 18 36 HT_ (bA 38 524287) ?_
    refine pQ 20 38 HT_ (bA 38 1572863) ?_
    refine pQ 21 39 HT_ (bA 38 3670015) ?_
    refine pQ 22 40 HT_ (bA 38 7864319) ?_
    refine take_ (i := 19) (N := some 37) (v := ?_) (a' := ?_) (bA 38 8388607) rfl rfl (take_ofW HT_.out HW_.out (by kernel_rfl)) (fun _ _ _ h => h) (Or.inl ⟨by rfl, ?_⟩) hHeld ?_ ?_
    rotate_left
    ·rintro w' ⟨s0, s1, s2, s3, s4, s5, s6, s7, s8, s9, s10, s11, s12, s13, s14, s15, s16, s17, s18, s19, s20, s21, s22, s23⟩
     go_simp
     with_reducible rfl
    rotate_left
    ·refine pZ ?_
     rfl
    refine take_ (i := 23) (N := some 41) (v := ?_) (a' := ?_) (bA 38 16777215) rfl rfl (take_ofW HT_.out HW_.out (by kernel_rfl)) (fun _ _ _ h => h) (Or.inl ⟨by rfl, ?_⟩) hHeld ?_ ?_
    rotate_left
    ·rintro w' ⟨s0, s1, s2, s3, s4, s5, s6, s7, s8, s9, s10, s11, s12, s13, s14, s15, s16, s17, s18, s19, s20, s21, s22, s23⟩
     go_simp
     with_reducible rfl
    rotate_left
    ·refine pZ ?_
     rfl
    refine pQ 24 42 HT_ (bA 38 33554431) ?_
    refine pQ 25 43 HT_ (bA 38 67108863) ?_
    refine pQ 26 44 HT_ (bA 38 134217727) ?_
    refine pQ 27 45 HT_ (bA 38 268435455) ?_
    refine pQ 28 46 HT_ (bA 38 536870911) ?_
    refine pQ 29 47 HT_ (bA 38 1073741823) ?_
    refine pQ 30 48 HT_ (bA 38 2147483647) ?_
    refine pQ 32 50 HT_ (bA 38 6442450943) ?_
    refine pQ 33 51 HT_ (bA 38 15032385535) ?_
    refine pQ 34 52 HT_ (bA 38 32212254719) ?_
    refine take_ (i := 31) (N := some 49) (v := ?_) (a' := ?_) (bA 38 34359738367) rfl rfl (take_ofW HT_.out HW_.out (by kernel_rfl)) (fun _ _ _ h => h) (Or.inl ⟨by rfl, ?_⟩) hHeld ?_ ?_
    rotate_left
    ·rintro w' ⟨s0, s1, s2, s3, s4, s5, s6, s7, s8, s9, s10, s11, s12, s13, s14, s15, s16, s17, s18, s19, s20, s21, s22, s23⟩
     go_simp
     with_reducible rfl
    rotate_left
    ·refine pZ ?_
     rfl
    refine take_ (i := 35) (N := some 53) (v := ?_) (a' := ?_) (bA 38 68719476735) rfl rfl (take_ofW HT_.out HW_.out (by kernel_rfl)) (fun _ _ _ h => h) (Or.inl ⟨by rfl, ?_⟩) hHeld ?_ ?_
    rotate_left
    ·rintro w' ⟨s0, s1, s2, s3, s4, s5, s6, s7, s8, s9, s10, s11, s12, s13, s14, s15, s16, s17, s18, s19, s20, s21, s22, s23⟩
     go_simp
     with_reducible rfl
    rotate_left
    ·refine pZ ?_
     rfl
    refine pQ 36 54 HT_ (bA 38 137438953471) ?_
    refine pQ 37 55 HT_ (bA 38 274877906943) ?_
    refine done_ (done_of HT_.out (by kernel_rfl)) ?_
    try go_wp2
    go_roundg k1
    case measure => have := HK1.out; omega
    case rel => exact ⟨(wrap64 (x4_1 + 1)), (x271000_1), (x271001_1), (x271002_1), qE, H', ⟨by have := HK1.out; omega⟩, ⟨by refine qB ?_; exact BK270.out⟩, ⟨by exact qW HB.out⟩⟩
   rw [if_neg c12] at H
   have c12b0 : (((rd_T27 l0 x4_1).f1) == ((rd_T27 l0 0).f1)) = false := beq_eq_false_iff_ne.mpr c12
   have c12b1 : (((rd_T27 l0 x4_1).f1) != ((rd_T27 l0 0).f1)) = true := bne_iff_ne.mpr c12
   simp only [Option.some.injEq, Prod.mk.injEq] at H
   obtain ⟨rfl, rfl, rfl, rfl, rfl⟩ := H
   try go_wp2
   replace BK270 := aM (blk_drew BK270.out)
   replace HB := aM (below_drew1 HB.out)
   have p272 : 0 ≤ (x4_1 : Int) := oD
   have q272 : x4_1 < (l0.length : Int) := oD
   obtain ⟨ad272, A272_3, c272_3, e272, hx272_0, hx272_1, hx272_2, hx272_3, hl272_3, hi272_3⟩ := at_T27 HR0.out x4_1 p272 q272
   have hw272_3 := hx272_3
   have hw272_2 := hx272_2
   have hw272_1 := hx272_1
   have hw272_0 := hx272_0
   cases e272
   replace hx272_0 := bD HB hx272_0
   replace hx272_1 := bD HB hx272_1
   replace hx272_2 := bD HB hx272_2
   replace hx272_3 := bD HB hx272_3
   have HR272_3 := aM hi272_3
   have HC272_3 := aM hl272_3
   clear hi272_3 hl272_3
   replace p272 := eq_true p272
   replace q272 := eq_true q272
   have p274 : 0 ≤ (x4_1 : Int) := oD
   have q274 : x4_1 < (l0.length : Int) := oD
   obtain ⟨ad274, A274_3, c274_3, e274, hx274_0, hx274_1, hx274_2, hx274_3, hl274_3, hi274_3⟩ := at_T27 HR0.out x4_1 p274 q274
   have hw274_3 := hx274_3
   have hw274_2 := hx274_2
   have hw274_1 := hx274_1
   have hw274_0 := hx274_0
   obtain rfl : ad272 = ad274 := (by injection e274)
   replace hx274_0 := bD HB hx274_0
   replace hx274_1 := bD HB hx274_1
   replace hx274_2 := bD HB hx274_2
   replace hx274_3 := bD HB hx274_3
   have HR274_3 := aM hi274_3
   have HC274_3 := aM hl274_3
   clear hi274_3 hl274_3
   replace p274 := eq_true p274
   replace q274 := eq_true q274
   have p275 : 0 ≤ (x4_1 : Int) := oD
   have q275 : x4_1 < (l0.length : Int) := oD
   obtain ⟨ad275, A275_3, c275_3, e275, hx275_0, hx275_1, hx275_2, hx275_3, hl275_3, hi275_3⟩ := at_T27 HR0.out x4_1 p275 q275
   have hw275_3 := hx275_3
   have hw275_2 := hx275_2
   have hw275_1 := hx275_1
   have hw275_0 := hx275_0
   obtain rfl : ad272 = ad275 := (by injection e275)
   replace hx275_0 := bD HB hx275_0
   replace hx275_1 := bD HB hx275_1
   replace hx275_2 := bD HB hx275_2
   replace hx275_3 := bD HB hx275_3
   have HR275_3 := aM hi275_3
   have HC275_3 := aM hl275_3
   clear hi275_3 hl275_3
   replace p275 := eq_true p275
   replace q275 := eq_true q275
   have ea_ := Option.some.inj (hx274_3.symm.trans hx275_3)
   injection ea_ with ea_ en_ ec_
   subst ea_
   subst ec_
   clear en_
   have p276 : 0 ≤ (0 : Int) := (by omega)
   have q276 : 0 < (l0.length : Int) := oD
   obtain ⟨ad276, A276_3, c276_3, e276, hx276_0, hx276_1, hx276_2, hx276_3, hl276_3, hi276_3⟩ := at_T27 HR0.out 0 p276 q276
   have hw276_3 := hx276_3
   (try rw [show ((0 : Int)).toNat = 0 from rfl] at hw276_3)
   (try rw [show 0 * 4 = 0 from rfl] at hw276_3)
   (try rw [Addr.add_zero'] at hw276_3)
   have hw276_2 := hx276_2
   (try rw [show ((0 : Int)).toNat = 0 from rfl] at hw276_2)
   (try rw [show 0 * 4 = 0 from rfl] at hw276_2)
   (try rw [Addr.add_zero'] at hw276_2)
   have hw276_1 := hx276_1
   (try rw [show ((0 : Int)).toNat = 0 from rfl] at hw276_1)
   (try rw [show 0 * 4 = 0 from rfl] at hw276_1)
   (try rw [Addr.add_zero'] at hw276_1)
   have hw276_0 := hx276_0
   (try rw [show ((0 : Int)).toNat = 0 from rfl] at hw276_0)
   (try rw [show 0 * 4 = 0 from rfl] at hw276_0)
   (try rw [Addr.add_zero'] at hw276_0)
   obtain rfl : ad272 = ad276 := (by injection e276)
   have qi276 : (0 < l0.length) = True := eq_true (by omega)
   (try rw [show ((0 : Int)).toNat = 0 from rfl] at hx276_0)
   (try rw [show 0 * 4 = 0 from rfl] at hx276_0)
   (try rw [Addr.add_zero'] at hx276_0)
   (try rw [show ((0 : Int)).toNat = 0 from rfl] at hx276_1)
   (try rw [show 0 * 4 = 0 from rfl] at hx276_1)
   (try rw [Addr.add_zero'] at hx276_1)
   (try rw [show ((0 : Int)).toNat = 0 from rfl] at hx276_2)
   (try rw [show 0 * 4 = 0 from rfl] at hx276_2)
   (try rw [Addr.add_zero'] at hx276_2)
   (try rw [show ((0 : Int)).toNat = 0 from rfl] at hx276_3)
   (try rw [show 0 * 4 = 0 from rfl] at hx276_3)
   (try rw [Addr.add_zero'] at hx276_3)
   replace hx276_0 := bD HB hx276_0
   replace hx276_1 := bD HB hx276_1
   replace hx276_2 := bD HB hx276_2
   replace hx276_3 := bD HB hx276_3
   have HR276_3 := aM hi276_3
   have HC276_3 := aM hl276_3
   clear hi276_3 hl276_3
   replace p276 := eq_true p276
   replace q276 := eq_true q276
   have p277 : 0 ≤ (x4_1 : Int) := oD
   have q277 : x4_1 < (l0.length : Int) := oD
   obtain ⟨ad277, A277_3, c277_3, e277, hx277_0, hx277_1, hx277_2, hx277_3, hl277_3, hi277_3⟩ := at_T27 HR0.out x4_1 p277 q277
   have hw277_3 := hx277_3
   have hw277_2 := hx277_2
   have hw277_1 := hx277_1
   have hw277_0 := hx277_0
   obtain rfl : ad272 = ad277 := (by injection e277)
   replace hx277_0 := bD HB hx277_0
   replace hx277_1 := bD HB hx277_1
   replace hx277_2 := bD HB hx277_2
   replace hx277_3 := bD HB hx277_3
   have HR277_3 := aM hi277_3
   have HC277_3 := aM hl277_3
   clear hi277_3 hl277_3
   replace p277 := eq_true p277
   replace q277 := eq_true q277
   have ea_ := Option.some.inj (hx274_3.symm.trans hx277_3)
   injection ea_ with ea_ en_ ec_
   subst ea_
   subst ec_
   clear en_
   have p278 : 0 ≤ (0 : Int) := (by omega)
   have q278 : 0 < (l0.length : Int) := oD
   obtain ⟨ad278, A278_3, c278_3, e278, hx278_0, hx278_1, hx278_2, hx278_3, hl278_3, hi278_3⟩ := at_T27 HR0.out 0 p278 q278
   have hw278_3 := hx278_3
   (try rw [show ((0 : Int)).toNat = 0 from rfl] at hw278_3)
   (try rw [show 0 * 4 = 0 from rfl] at hw278_3)
   (try rw [Addr.add_zero'] at hw278_3)
   have hw278_2 := hx278_2
   (try rw [show ((0 : Int)).toNat = 0 from rfl] at hw278_2)
   (try rw [show 0 * 4 = 0 from rfl] at hw278_2)
   (try rw [Addr.add_zero'] at hw278_2)
   have hw278_1 := hx278_1
   (try rw [show ((0 : Int)).toNat = 0 from rfl] at hw278_1)
   (try rw [show 0 * 4 = 0 from rfl] at hw278_1)
   (try rw [Addr.add_zero'] at hw278_1)
   have hw278_0 := hx278_0
   (try rw [show ((0 : Int)).toNat = 0 from rfl] at hw278_0)
   (try rw [show 0 * 4 = 0 from rfl] at hw278_0)
   (try rw [Addr.add_zero'] at hw278_0)
   obtain rfl : ad272 = ad278 := (by injection e278)
   have qi278 : (0 < l0.length) = True := eq_true (by omega)
   (try rw [show ((0 : Int)).toNat = 0 from rfl] at hx278_0)
   (try rw [show 0 * 4 = 0 from rfl] at hx278_0)
   (try rw [Addr.add_zero'] at hx278_0)
   (try rw [show ((0 : Int)).toNat = 0 from rfl] at hx278_1)
   (try rw [show 0 * 4 = 0 from rfl] at hx278_1)
   (try rw [Addr.add_zero'] at hx278_1)
   (try rw [show ((0 : Int)).toNat = 0 from rfl] at hx278_2)
   (try rw [show 0 * 4 = 0 from rfl] at hx278_2)
   (try rw [Addr.add_zero'] at hx278_2)
   (try rw [show ((0 : Int)).toNat = 0 from rfl] at hx278_3)
   (try rw [show 0 * 4 = 0 from rfl] at hx278_3)
   (try rw [Addr.add_zero'] at hx278_3)
   replace hx278_0 := bD HB hx278_0
   replace hx278_1 := bD HB hx278_1
   replace hx278_2 := bD HB hx278_2
   replace hx278_3 := bD HB hx278_3
   have HR278_3 := aM hi278_3
   have HC278_3 := aM hl278_3
   clear hi278_3 hl278_3
   replace p278 := eq_true p278
   replace q278 := eq_true q278
   have ea_ := Option.some.inj (hx276_3.symm.trans hx278_3)
   injection ea_ with ea_ en_ ec_
   subst ea_
   subst ec_
   clear en_
   refine start_ (n := 38) (S := fun w' => w'.cell? (ad272.add ((x4_1).toNat * 4)) = some (.int .i64 ((rd_T27 l0 x4_1).f0)) ∧ w'.cell? ⟨(ad272.add ((x4_1).toNat * 4)).block, (ad272.add ((x4_1).toNat * 4)).off + 1, none⟩ = some (.int .i64 ((rd_T27 l0 x4_1).f1)) ∧ w'.cell? ⟨(ad272.add ((x4_1).toNat * 4)).block, (ad272.add ((x4_1).toNat * 4)).off + 2, none⟩ = some (.int .i64 ((rd_T27 l0 x4_1).f2)) ∧ w'.cell? ⟨(ad272.add ((x4_1).toNat * 4)).block, (ad272.add ((x4_1).toNat * 4)).off + 3, none⟩ = some (.slice A272_3 ((rd_T27 l0 x4_1).f3).length c272_3) ∧ w'.cell? (ad272.add ((x4_1).toNat * 4)) = some (.int .i64 ((rd_T27 l0 x4_1).f0)) ∧ w'.cell? ⟨(ad272.add ((x4_1).toNat * 4)).block, (ad272.add ((x4_1).toNat * 4)).off + 1, none⟩ = some (.int .i64 ((rd_T27 l0 x4_1).f1)) ∧ w'.cell? ⟨(ad272.add ((x4_1).toNat * 4)).block, (ad272.add ((x4_1).toNat * 4)).off + 2, none⟩ = some (.int .i64 ((rd_T27 l0 x4_1).f2)) ∧ w'.cell? ⟨(ad272.add ((x4_1).toNat * 4)).block, (ad272.add ((x4_1).toNat * 4)).off + 3, none⟩ = some (.slice A274_3 ((rd_T27 l0 x4_1).f3).length c274_3) ∧ w'.cell? (ad272.add ((x4_1).toNat * 4)) = some (.int .i64 ((rd_T27 l0 x4_1).f0)) ∧ w'.cell? ⟨(ad272.add ((x4_1).toNat * 4)).block, (ad272.add ((x4_1).toNat * 4)).off + 1, none⟩ = some (.int .i64 ((rd_T27 l0 x4_1).f1)) ∧ w'.cell? ⟨(ad272.add ((x4_1).toNat * 4)).block, (ad272.add ((x4_1).toNat * 4)).off + 2, none⟩ = some (.int .i64 ((rd_T27 l0 x4_1).f2)) ∧ w'.cell? ⟨(ad272.add ((x4_1).toNat * 4)).block, (ad272.add ((x4_1).toNat * 4)).off + 3, none⟩ = some (.slice A274_3 ((rd_T27 l0 x4_1).f3).length c274_3) ∧ w'.cell? ad272 = some (.int .i64 ((rd_T27 l0 0).f0)) ∧ w'.cell? ⟨ad272.block, ad272.off + 1, none⟩ = some (.int .i64 ((rd_T27 l0 0).f1)) ∧ w'.cell? ⟨ad272.block, ad272.off + 2, none⟩ = some (.int .i64 ((rd_T27 l0 0).f2)) ∧ w'.cell? ⟨ad272.block, ad272.off + 3, none⟩ = some (.slice A276_3 ((rd_T27 l0 0).f3).length c276_3) ∧ w'.cell? (ad272.add ((x4_1).toNat * 4)) = some (.int .i64 ((rd_T27 l0 x4_1).f0)) ∧ w'.cell? ⟨(ad272.add ((x4_1).toNat * 4)).block, (ad272.add ((x4_1).toNat * 4)).off + 1, none⟩ = some (.int .i64 ((rd_T27 l0 x4_1).f1)) ∧ w'.cell? ⟨(ad272.add ((x4_1).toNat * 4)).block, (ad272.add ((x4_1).toNat * 4)).off + 2, none⟩ = some (.int .i64 ((rd_T27 l0 x4_1).f2)) ∧ w'.cell? ⟨(ad272.add ((x4_1).toNat * 4)).block, (ad272.add ((x4_1).toNat * 4)).off + 3, none⟩ = some (.slice A274_3 ((rd_T27 l0 x4_1).f3).length c274_3) ∧ w'.cell? ad272 = some (.int .i64 ((rd_T27 l0 0).f0)) ∧ w'.cell? ⟨ad272.block, ad272.off + 1, none⟩ = some (.int .i64 ((rd_T27 l0 0).f1)) ∧ w'.cell? ⟨ad272.block, ad272.off + 2, none⟩ = some (.int .i64 ((rd_T27 l0 0).f2)) ∧ w'.cell? ⟨ad272.block, ad272.off + 3, none⟩ = some (.slice A276_3 ((rd_T27 l0 0).f3).length c276_3)) (ds := []) (bA 38 0) (by kernel_rfl) rfl rfl ⟨(bC HB hw272_0), (bC HB hw272_1), (bC HB hw272_2), (bC HB hw272_3), (bC HB hw274_0), (bC HB hw274_1), (bC HB hw274_2), (bC HB hw274_3), (bC HB hw275_0), (bC HB hw275_1), (bC HB hw275_2), (bC HB hw275_3), (bC HB hw276_0), (bC HB hw276_1), (bC HB hw276_2), (bC HB hw276_3), (bC HB hw277_0), (bC HB hw277_1), (bC HB hw277_2), (bC HB hw277_3), (bC HB hw278_0), (bC HB hw278_1), (bC HB hw278_2), (bC HB hw278_3)⟩ (fun hHeld => ?_); refine with_tabW spec_MergePlanes.tab6 spec_MergePlanes.bits6 (fun HT_ HW_ => ?_)
   generalize wr.drew = w15 at BK270 HB HR272_3 HR274_3 HR275_3 HR276_3 HR277_3 HR278_3 hx272_0 hx272_1 hx272_2 hx272_3 hx274_0 hx274_1 hx274_2 hx274_3 hx275_0 hx275_1 hx275_2 hx275_3 hx276_0 hx276_1 hx276_2 hx276_3 hx277_0 hx277_1 hx277_2 hx277_3 hx278_0 hx278_1 hx278_2 hx278_3 hHeld ⊢
   refine pQ 0 18 HT_ (bA 38 1) ?_
   refine pQ 1 19 HT_ (bA 38 3) ?_
   refine pQ 2 20 HT_ (bA 38 7) ?_
   refine take_ (i := 3) (N := some 21) (v := ?_) (a' := ?_) (bA 38 15) rfl rfl (take_ofW HT_.out HW_.out (by kernel_rfl)) (fun _ _ _ h => h) (Or.inl ⟨by rfl, ?_⟩) hHeld ?_ ?_
   rotate_left
   ·rintro w' ⟨s0, s1, s2, s3, s4, s5, s6, s7, s8, s9, s10, s11, s12, s13, s14, s15, s16, s17, s18, s19, s20, s21, s22, s23⟩
    go_simp
    with_reducible rfl
   rotate_left
   ·refine pZ ?_
    rfl
   refine one_ (i := 4) (N := some 22) (bA 38 31) rfl rfl (one_of HT_.out (by kernel_rfl)) (by decide) (fun K hK => ?_)
   refine goes_ Try.func52 (by kernel_rfl) rfl #[.agg #[.int .i64 ((rd_T27 l0 x4_1).f0), .int .i64 ((rd_T27 l0 x4_1).f1), .int .i64 ((rd_T27 l0 x4_1).f2), .slice A272_3 ((rd_T27 l0 x4_1).f3).length c272_3]] (by rfl) rfl rfl qM ?_
   with_reducible refine (spec_validImage.calls k1 ((rd_T27 l0 x4_1).f0) ((rd_T27 l0 x4_1).f1) ((rd_T27 l0 x4_1).f2) _ _ ((rd_T27 l0 x4_1).f3) true _ ?side1 ?side2 A7.out).mono ?_
   (case side1 => exact qC (Kd.C_below HR272_3.out HB.out))
   (case side2 => exact HC272_3.out)
   rintro e w16 ⟨rfl, hb⟩
   refine ⟨_, rfl, ?_⟩
   replace BK270 := bB BK270 hb
   replace HB := bS HB hb
   (try clear hb)
   (try clear hb2)
   (try clear hk)
   (try clear hi)
   refine hK.out _ _ ⟨(bC HB hw272_0), (bC HB hw272_1), (bC HB hw272_2), (bC HB hw272_3), (bC HB hw274_0), (bC HB hw274_1), (bC HB hw274_2), (bC HB hw274_3), (bC HB hw275_0), (bC HB hw275_1), (bC HB hw275_2), (bC HB hw275_3), (bC HB hw276_0), (bC HB hw276_1), (bC HB hw276_2), (bC HB hw276_3), (bC HB hw277_0), (bC HB hw277_1), (bC HB hw277_2), (bC HB hw277_3), (bC HB hw278_0), (bC HB hw278_1), (bC HB hw278_2), (bC HB hw278_3)⟩ (fun hHeld => ?_)
   clear hK K
   refine norm_ (a' := ?_) ?_ ?_
   rotate_left
   ·show Act.put _ (some 22) _ = _
    refine pZ ?_
    rfl
   refine pQ 5 23 HT_ (bA 38 63) ?_
   refine pQ 6 24 HT_ (bA 38 127) ?_
   refine pQ 7 25 HT_ (bA 38 255) ?_
   refine pQ 8 26 HT_ (bA 38 511) ?_
   refine pQ 9 27 HT_ (bA 38 1023) ?_
   refine pQ 10 28 HT_ (bA 38 2047) ?_
   refine take_ (i := 11) (N := some 29) (v := ?_) (a' := ?_) (bA 38 4095) rfl rfl (take_ofW HT_.out HW_.out (by kernel_rfl)) (fun _ _ _ h => h) (Or.inl ⟨by rfl, ?_⟩) hHeld ?_ ?_
   rotate_left
   ·rintro w' ⟨s0, s1, s2, s3, s4, s5, s6, s7, s8, s9, s10, s11, s12, s13, s14, s15, s16, s17, s18, s19, s20, s21, s22, s23⟩
    go_simp
    with_reducible rfl
   rotate_left
   ·refine pZ ?_
    rfl
   refine pQ 12 30 HT_ (bA 38 8191) ?_
   refine pQ 13 31 HT_ (bA 38 16383) ?_
   refine pQ 14 32 HT_ (bA 38 32767) ?_
   refine pQ 15 33 HT_ (bA 38 65535) ?_
   refine pQ 16 34 HT_ (bA 38 131071) ?_
   refine pQ 17 35 HT_ (bA 38 262143) ?_
   refine pQ 18 36 HT_ (bA 38 524287) ?_
   refine pQ 20 38 HT_ (bA 38 1572863) ?_
   refine pQ 21 39 HT_ (bA 38 3670015) ?_
   refine pQ 22 40 HT_ (bA 38 7864319) ?_
   refine take_ (i := 19) (N := some 37) (v := ?_) (a' := ?_) (bA 38 8388607) rfl rfl (take_ofW HT_.out HW_.out (by kernel_rfl)) (fun _ _ _ h => h) (Or.inl ⟨by rfl, ?_⟩) hHeld ?_ ?_
   rotate_left
   ·rintro w' ⟨s0, s1, s2, s3, s4, s5, s6, s7, s8, s9, s10, s11, s12, s13, s14, s15, s16, s17, s18, s19, s20, s21, s22, s23⟩
    go_simp
    with_reducible rfl
   rotate_left
   ·refine pZ ?_
    rfl
   refine take_ (i := 23) (N := some 41) (v := ?_) (a' := ?_) (bA 38 16777215) rfl rfl (take_ofW HT_.out HW_.out (by kernel_rfl)) (fun _ _ _ h => h) (Or.inl ⟨by rfl, ?_⟩) hHeld ?_ ?_
   rotate_left
   ·rintro w' ⟨s0, s1, s2, s3, s4, s5, s6, s7, s8, s9, s10, s11, s12, s13, s14, s15, s16, s17, s18, s19, s20, s21, s22, s23⟩
    go_simp
    with_reducible rfl
   rotate_left
   ·refine pZ ?_
    rfl
   refine pQ 24 42 HT_ (bA 38 33554431) ?_
   refine pQ 25 43 HT_ (bA 38 67108863) ?_
   refine pQ 26 44 HT_ (bA 38 134217727) ?_
   refine pQ 27 45 HT_ (bA 38 268435455) ?_
   refine pQ 28 46 HT_ (bA 38 536870911) ?_
   refine pQ 29 47 HT_ (bA 38 1073741823) ?_
   refine pQ 30 48 HT_ (bA 38 2147483647) ?_
   refine pQ 32 50 HT_ (bA 38 6442450943) ?_
   refine pQ 33 51 HT_ (bA 38 15032385535) ?_
   refine pQ 34 52 HT_ (bA 38 32212254719) ?_
   refine take_ (i := 31) (N := some 49) (v := ?_) (a' := ?_) (bA 38 34359738367) rfl rfl (take_ofW HT_.out HW_.out (by kernel_rfl)) (fun _ _ _ h => h) (Or.inl ⟨by rfl, ?_⟩) hHeld ?_ ?_
   rotate_left
   ·rintro w' ⟨s0, s1, s2, s3, s4, s5, s6, s7, s8, s9, s10, s11, s12, s13, s14, s15, s16, s17, s18, s19, s20, s21, s22, s23⟩
    go_simp
    with_reducible rfl
   rotate_left
   ·refine pZ ?_
    rfl
   refine take_ (i := 35) (N := some 53) (v := ?_) (a' := ?_) (bA 38 68719476735) rfl rfl (take_ofW HT_.out HW_.out (by kernel_rfl)) (fun _ _ _ h => h) (Or.inl ⟨by rfl, ?_⟩) hHeld ?_ ?_
   rotate_left
   ·rintro w' ⟨s0, s1, s2, s3, s4, s5, s6, s7, s8, s9, s10, s11, s12, s13, s14, s15, s16, s17, s18, s19, s20, s21, s22, s23⟩
    go_simp
    with_reducible rfl
   rotate_left
   ·refine pZ ?_
    rfl
   refine pQ 36 54 HT_ (bA 38 137438953471) ?_
   refine pQ 37 55 HT_ (bA 38 274877906943) ?_
   refine done_ (done_of HT_.out (by kernel_rfl)) ?_
   obtain ⟨⟨hcz17_0, hcz17_1, hcz17_2, hcz17_3⟩, hfz17_0, hfz17_1, hfz17_2, hfz17_3⟩ := cf4 BK270
   try go_wp2
   refine bodyPost_ret (results_ct rfl _ _ gb270 27 #[.int .i64 0, .int .i64 0, .int .i64 0, .slice none 0 0] (0, 0) _ rfl (by exact bP BK270.out) Try.underlying27 rfl (by kernel_rfl)) rfl ?_
   exact ⟨_, qX, qN, by exact qW HB.out⟩
end Go.Proofs.Yteeeedmmcdlhjaa.P
