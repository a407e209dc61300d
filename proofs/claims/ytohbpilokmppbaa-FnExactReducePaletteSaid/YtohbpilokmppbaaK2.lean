/- Contracts and row, written by a program of this place out of the translation: the call answers true and its argument reads as before, for every input; no condition. -/
import Derived.Test.YtohbpilokmppbaaK0
import Derived.Test.YtohbpilokmppbaaK1
namespace Go.Proofs.Ytohbpilokmppbaa.P
open Go.RowKit Go.Proofs.YtohbpilokmppbaaW.PrintWords Go.Proofs.YtohbpilokmppbaaW.PrintLast Go.Proofs.YtohbpilokmppbaaW.PrintMore
attribute [local go_sem] max2_int min2_int max_two min_two max_three min_three max_four min_four   -- for this text's walks alone
set_option linter.unusedVariables false
set_option linter.unusedSimpArgs false
def spec_nearest.l0 : Nat → List (List Int) → List Int → Int → Int → Option (Int)
 | 0, _, _, _, _ => none
 | k + 1, x0, x1, x5, x6 => if x6 < (x0.length : Int) then (if 0 ≤ x6 then ((spec_gap.f k (rd_L1 x0 x6) x1).bind fun t645 => (if 0 ≤ x5 then (if x5 < (x0.length : Int) then ((spec_gap.f k (rd_L1 x0 x5) x1).bind fun t647 => (if t645 < t647 then (spec_nearest.l0 k x0 x1 x6 (wrap64 (x6 + 1))) else (spec_nearest.l0 k x0 x1 x5 (wrap64 (x6 + 1))))) else (none)) else (none))) else (none)) else (some x5)
def spec_nearest.f (k : Nat) (l0 : List (List Int)) (l1 : List Int) : Option (Int) := spec_nearest.l0 k l0 l1 0 1
theorem spec_nearest.mono_l : ∀ k, (∀ y0 y1 y2 y3, LeO (spec_nearest.l0 k y0 y1 y2 y3) (spec_nearest.l0 (k + 1) y0 y1 y2 y3))
 | 0 => fun _ _ _ _ r h => by simp [spec_nearest.l0] at h
 | k + 1 => by
  have ih0 := spec_nearest.mono_l k
  ·intro y0 y1 y2 y3
   unfold spec_nearest.l0
   repeat' first | (with_reducible first | exact ih0 _ _ _ _ | exact spec_gap.mono _ _ _ | exact lR | exact lN | refine lI ?_ ?_ | refine lB ?_ fun _ => ?_) | exact ih0 _ _ _ _ | exact spec_gap.mono _ _ _ | exact lN | refine lI ?_ ?_ | refine lB ?_ fun _ => ?_
theorem spec_nearest.mono : ∀ a0 a1 k, LeO (spec_nearest.f k a0 a1) (spec_nearest.f (k + 1) a0 a1) := by
 intro a0 a1 k
 have ih0 := spec_nearest.mono_l k
 unfold spec_nearest.f
 repeat' first | (with_reducible first | exact ih0 _ _ _ _ | exact spec_gap.mono _ _ _ | exact lR | exact lN | refine lI ?_ ?_ | refine lB ?_ fun _ => ?_) | exact ih0 _ _ _ _ | exact spec_gap.mono _ _ _ | exact lN | refine lI ?_ ?_ | refine lB ?_ fun _ => ?_
set_option maxHeartbeats 8000000 in
set_option maxRecDepth 100000 in
theorem spec_nearest.calls (k : Nat) (A0 : Option Addr) (c0 : Nat) (l0 : List (List Int)) (A1 : Option Addr) (c1 : Nat) (l1 : List Int) (r : Int) (w : World) (hr0 : Kd.C (Kd.slice 3 (Kd.int .i64)) w A0 l0.length l0) (hc0 : l0.length ≤ c0) (hr1 : Kd.C (Kd.int .i64) w A1 l1.length l1) (hc1 : l1.length ≤ c1) (h : spec_nearest.f k l0 l1 = some r) :
  Calls Try.prog 67 #[.slice A0 l0.length c0, .slice A1 l1.length c1] w fun e w' => e = .returned (.int .i64 r) ∧ Drawn0 w w' := by
 have HR0 := aM hr0
 have HC0 := aM hc0
 clear hr0 hc0
 have HR1 := aM hr1
 have HC1 := aM hc1
 clear hr1 hc1
 unfold spec_nearest.f at h
 have H := h
 clear h
 have H' := aM H
 clear H
 go_enter Try.func67, Try.ntmps67
 go_wp2
 repeat (go_quiet (fail); try go_wp2)
 go_loopg [5, 6] k (fun kq v5 v6 w' => ∃ (x5_1 : Int) (x6_1 : Int), v5 = .int .i64 x5_1 ∧ v6 = .int .i64 x6_1 ∧ Aside0 (spec_nearest.l0 kq l0 l1 x5_1 x6_1 = some r) ∧ Aside0 (kq ≤ k) ∧ Drawn0 w w')
 case atStart => exact ⟨(0), (1), qE, qE, H', ⟨Nat.le_refl _⟩, qD⟩
 case round =>
  clear H'
  try clear c1
  obtain ⟨x5_1, x6_1, rfl, rfl, HA, HK1, ⟨m1, rfl⟩⟩ := hrel
  cases gk with
  | zero => exact absurd HA.out (by simp [spec_nearest.l0])
  | succ k1 =>
   have H := HA.out
   clear HA
   simp only [spec_nearest.l0] at H
   by_cases c3 : x6_1 < (l0.length : Int)
   rotate_left
   ·rw [if_neg c3] at H
    have c3b0 : decide (x6_1 < (l0.length : Int)) = false := decide_eq_false c3
    clear c3
    obtain rfl := Option.some.inj H
    go_wp2
    repeat (go_quiet (fail); try go_wp2)
    go_ret
    exact ⟨qE, qD⟩
   rw [if_pos c3] at H
   have c3b0 : decide (x6_1 < (l0.length : Int)) = true := decide_eq_true c3
   clear c3
   replace H := iD H
   obtain ⟨c4b0, H⟩ := H
   replace H := Option.bind_eq_some_iff.mp H
   obtain ⟨t645, A50, H⟩ := H
   replace H : (if 0 ≤ x5_1 then (if x5_1 < (l0.length : Int) then ((spec_gap.f k1 (rd_L1 l0 x5_1) l1).bind fun t647 => (if t645 < t647 then (spec_nearest.l0 k1 l0 l1 x6_1 (wrap64 (x6_1 + 1))) else (spec_nearest.l0 k1 l0 l1 x5_1 (wrap64 (x6_1 + 1))))) else (none)) else (none)) = some r := H
   have A5 := aM A50
   clear A50
   replace H := iD H
   obtain ⟨c6b0, H⟩ := H
   replace H := iD H
   obtain ⟨c7b0, H⟩ := H
   replace H := Option.bind_eq_some_iff.mp H
   obtain ⟨t647, A80, H⟩ := H
   replace H : (if t645 < t647 then (spec_nearest.l0 k1 l0 l1 x6_1 (wrap64 (x6_1 + 1))) else (spec_nearest.l0 k1 l0 l1 x5_1 (wrap64 (x6_1 + 1)))) = some r := H
   have A8 := aM A80
   clear A80
   by_cases c9 : t645 < t647
   ·rw [if_pos c9] at H
    have c9b0 : decide (t645 < t647) = true := decide_eq_true c9
    clear c9
    have H' := aM H
    clear H
    have p644 : 0 ≤ (x6_1 : Int) := oD
    have q644 : x6_1 < (l0.length : Int) := oD
    obtain ⟨ad644, A644_0, c644_0, e644, hx644_0, hl644_0, hi644_0⟩ := at_L1 HR0.out x6_1 p644 q644
    cases e644
    have HR644_0 := aM hi644_0
    have HC644_0 := aM hl644_0
    clear hi644_0 hl644_0
    replace p644 := eq_true p644
    replace q644 := eq_true q644
    go_wp2_with (first | (go_at_call 84; (with_reducible refine (spec_gap.calls k1 _ _ (rd_L1 l0 x6_1) _ _ l1 t645 _ ?side1 ?side2 ?side3 ?side4 A5.out).mono ?_); (case side1 => exact qC HR644_0.out); (case side2 => exact HC644_0.out); (case side3 => exact qC HR1.out); (case side4 => exact HC1.out); rintro e w' ⟨rfl, ⟨nd, rfl⟩⟩; (try first | exact ⟨rfl, _, World.drewN_drewN _ _ _⟩ | exact ⟨rfl, _, Eq.trans (World.drewN_drewN _ _ _) (congrArg (World.drewN _) (Nat.add_assoc _ _ _))⟩); have p646 : 0 ≤ (x5_1 : Int) := oD; have q646 : x5_1 < (l0.length : Int) := oD; obtain ⟨ad646, A646_0, c646_0, e646, hx646_0, hl646_0, hi646_0⟩ := at_L1 HR0.out x5_1 p646 q646; obtain rfl : ad644 = ad646 := (by injection e646); have HR646_0 := aM hi646_0; have HC646_0 := aM hl646_0; clear hi646_0 hl646_0; replace p646 := eq_true p646; replace q646 := eq_true q646) | (go_at_call 84; (with_reducible refine (spec_gap.calls k1 _ _ (rd_L1 l0 x5_1) _ _ l1 t647 _ ?side1 ?side2 ?side3 ?side4 A8.out).mono ?_); (case side1 => exact qC HR646_0.out); (case side2 => exact HC646_0.out); (case side3 => exact qC HR1.out); (case side4 => exact HC1.out); rintro e w' ⟨rfl, ⟨nd, rfl⟩⟩; (try first | exact ⟨rfl, _, World.drewN_drewN _ _ _⟩ | exact ⟨rfl, _, Eq.trans (World.drewN_drewN _ _ _) (congrArg (World.drewN _) (Nat.add_assoc _ _ _))⟩)))
    repeat (go_quiet (first | (go_at_call 84; (with_reducible refine (spec_gap.calls k1 _ _ (rd_L1 l0 x6_1) _ _ l1 t645 _ ?side1 ?side2 ?side3 ?side4 A5.out).mono ?_); (case side1 => exact qC HR644_0.out); (case side2 => exact HC644_0.out); (case side3 => exact qC HR1.out); (case side4 => exact HC1.out); rintro e w' ⟨rfl, ⟨nd, rfl⟩⟩; (try first | exact ⟨rfl, _, World.drewN_drewN _ _ _⟩ | exact ⟨rfl, _, Eq.trans (World.drewN_drewN _ _ _) (congrArg (World.drewN _) (Nat.add_assoc _ _ _))⟩); have p646 : 0 ≤ (x5_1 : Int) := oD; have q646 : x5_1 < (l0.length : Int) := oD; obtain ⟨ad646, A646_0, c646_0, e646, hx646_0, hl646_0, hi646_0⟩ := at_L1 HR0.out x5_1 p646 q646; obtain rfl : ad644 = ad646 := (by injection e646); have HR646_0 := aM hi646_0; have HC646_0 := aM hl646_0; clear hi646_0 hl646_0; replace p646 := eq_true p646; replace q646 := eq_true q646) | (go_at_call 84; (with_reducible refine (spec_gap.calls k1 _ _ (rd_L1 l0 x5_1) _ _ l1 t647 _ ?side1 ?side2 ?side3 ?side4 A8.out).mono ?_); (case side1 => exact qC HR646_0.out); (case side2 => exact HC646_0.out); (case side3 => exact qC HR1.out); (case side4 => exact HC1.out); rintro e w' ⟨rfl, ⟨nd, rfl⟩⟩; (try first | exact ⟨rfl, _, World.drewN_drewN _ _ _⟩ | exact ⟨rfl, _, Eq.trans (World.drewN_drewN _ _ _) (congrArg (World.drewN _) (Nat.add_assoc _ _ _))⟩))); try go_wp2_with (first | (go_at_call 84; (with_reducible refine (spec_gap.calls k1 _ _ (rd_L1 l0 x6_1) _ _ l1 t645 _ ?side1 ?side2 ?side3 ?side4 A5.out).mono ?_); (case side1 => exact qC HR644_0.out); (case side2 => exact HC644_0.out); (case side3 => exact qC HR1.out); (case side4 => exact HC1.out); rintro e w' ⟨rfl, ⟨nd, rfl⟩⟩; (try first | exact ⟨rfl, _, World.drewN_drewN _ _ _⟩ | exact ⟨rfl, _, Eq.trans (World.drewN_drewN _ _ _) (congrArg (World.drewN _) (Nat.add_assoc _ _ _))⟩); have p646 : 0 ≤ (x5_1 : Int) := oD; have q646 : x5_1 < (l0.length : Int) := oD; obtain ⟨ad646, A646_0, c646_0, e646, hx646_0, hl646_0, hi646_0⟩ := at_L1 HR0.out x5_1 p646 q646; obtain rfl : ad644 = ad646 := (by injection e646); have HR646_0 := aM hi646_0; have HC646_0 := aM hl646_0; clear hi646_0 hl646_0; replace p646 := eq_true p646; replace q646 := eq_true q646) | (go_at_call 84; (with_reducible refine (spec_gap.calls k1 _ _ (rd_L1 l0 x5_1) _ _ l1 t647 _ ?side1 ?side2 ?side3 ?side4 A8.out).mono ?_); (case side1 => exact qC HR646_0.out); (case side2 => exact HC646_0.out); (case side3 => exact qC HR1.out); (case side4 => exact HC1.out); rintro e w' ⟨rfl, ⟨nd, rfl⟩⟩; (try first | exact ⟨rfl, _, World.drewN_drewN _ _ _⟩ | exact ⟨rfl, _, Eq.trans (World.drewN_drewN _ _ _) (congrArg (World.drewN _) (Nat.add_assoc _ _ _))⟩))))
    go_roundg k1
    case measure => have := HK1.out; omega
    case rel => exact ⟨(x6_1), (wrap64 (x6_1 + 1)), qE, qE, H', ⟨by have := HK1.out; omega⟩, qD⟩
   rw [if_neg c9] at H
   have c9b0 : decide (t645 < t647) = false := decide_eq_false c9
   clear c9
   have H' := aM H
   clear H
   have p644 : 0 ≤ (x6_1 : Int) := oD
   have q644 : x6_1 < (l0.length : Int) := oD
   obtain ⟨ad644, A644_0, c644_0, e644, hx644_0, hl644_0, hi644_0⟩ := at_L1 HR0.out x6_1 p644 q644
   cases e644
   have HR644_0 := aM hi644_0
   have HC644_0 := aM hl644_0
   clear hi644_0 hl644_0
   replace p644 := eq_true p644
   replace q644 := eq_true q644
   go_wp2_with (first | (go_at_call 84; (with_reducible refine (spec_gap.calls k1 _ _ (rd_L1 l0 x6_1) _ _ l1 t645 _ ?side1 ?side2 ?side3 ?side4 A5.out).mono ?_); (case side1 => exact qC HR644_0.out); (case side2 => exact HC644_0.out); (case side3 => exact qC HR1.out); (case side4 => exact HC1.out); rintro e w' ⟨rfl, ⟨nd, rfl⟩⟩; (try first | exact ⟨rfl, _, World.drewN_drewN _ _ _⟩ | exact ⟨rfl, _, Eq.trans (World.drewN_drewN _ _ _) (congrArg (World.drewN _) (Nat.add_assoc _ _ _))⟩); have p646 : 0 ≤ (x5_1 : Int) := oD; have q646 : x5_1 < (l0.length : Int) := oD; obtain ⟨ad646, A646_0, c646_0, e646, hx646_0, hl646_0, hi646_0⟩ := at_L1 HR0.out x5_1 p646 q646; obtain rfl : ad644 = ad646 := (by injection e646); have HR646_0 := aM hi646_0; have HC646_0 := aM hl646_0; clear hi646_0 hl646_0; replace p646 := eq_true p646; replace q646 := eq_true q646) | (go_at_call 84; (with_reducible refine (spec_gap.calls k1 _ _ (rd_L1 l0 x5_1) _ _ l1 t647 _ ?side1 ?side2 ?side3 ?side4 A8.out).mono ?_); (case side1 => exact qC HR646_0.out); (case side2 => exact HC646_0.out); (case side3 => exact qC HR1.out); (case side4 => exact HC1.out); rintro e w' ⟨rfl, ⟨nd, rfl⟩⟩; (try first | exact ⟨rfl, _, World.drewN_drewN _ _ _⟩ | exact ⟨rfl, _, Eq.trans (World.drewN_drewN _ _ _) (congrArg (World.drewN _) (Nat.add_assoc _ _ _))⟩)))
   repeat (go_quiet (first | (go_at_call 84; (with_reducible refine (spec_gap.calls k1 _ _ (rd_L1 l0 x6_1) _ _ l1 t645 _ ?side1 ?side2 ?side3 ?side4 A5.out).mono ?_); (case side1 => exact qC HR644_0.out); (case side2 => exact HC644_0.out); (case side3 => exact qC HR1.out); (case side4 => exact HC1.out); rintro e w' ⟨rfl, ⟨nd, rfl⟩⟩; (try first | exact ⟨rfl, _, World.drewN_drewN _ _ _⟩ | exact ⟨rfl, _, Eq.trans (World.drewN_drewN _ _ _) (congrArg (World.drewN _) (Nat.add_assoc _ _ _))⟩); have p646 : 0 ≤ (x5_1 : Int) := oD; have q646 : x5_1 < (l0.length : Int) := oD; obtain ⟨ad646, A646_0, c646_0, e646, hx646_0, hl646_0, hi646_0⟩ := at_L1 HR0.out x5_1 p646 q646; obtain rfl : ad644 = ad646 := (by injection e646); have HR646_0 := aM hi646_0; have HC646_0 := aM hl646_0; clear hi646_0 hl646_0; replace p646 := eq_true p646; replace q646 := eq_true q646) | (go_at_call 84; (with_reducible refine (spec_gap.calls k1 _ _ (rd_L1 l0 x5_1) _ _ l1 t647 _ ?side1 ?side2 ?side3 ?side4 A8.out).mono ?_); (case side1 => exact qC HR646_0.out); (case side2 => exact HC646_0.out); (case side3 => exact qC HR1.out); (case side4 => exact HC1.out); rintro e w' ⟨rfl, ⟨nd, rfl⟩⟩; (try first | exact ⟨rfl, _, World.drewN_drewN _ _ _⟩ | exact ⟨rfl, _, Eq.trans (World.drewN_drewN _ _ _) (congrArg (World.drewN _) (Nat.add_assoc _ _ _))⟩))); try go_wp2_with (first | (go_at_call 84; (with_reducible refine (spec_gap.calls k1 _ _ (rd_L1 l0 x6_1) _ _ l1 t645 _ ?side1 ?side2 ?side3 ?side4 A5.out).mono ?_); (case side1 => exact qC HR644_0.out); (case side2 => exact HC644_0.out); (case side3 => exact qC HR1.out); (case side4 => exact HC1.out); rintro e w' ⟨rfl, ⟨nd, rfl⟩⟩; (try first | exact ⟨rfl, _, World.drewN_drewN _ _ _⟩ | exact ⟨rfl, _, Eq.trans (World.drewN_drewN _ _ _) (congrArg (World.drewN _) (Nat.add_assoc _ _ _))⟩); have p646 : 0 ≤ (x5_1 : Int) := oD; have q646 : x5_1 < (l0.length : Int) := oD; obtain ⟨ad646, A646_0, c646_0, e646, hx646_0, hl646_0, hi646_0⟩ := at_L1 HR0.out x5_1 p646 q646; obtain rfl : ad644 = ad646 := (by injection e646); have HR646_0 := aM hi646_0; have HC646_0 := aM hl646_0; clear hi646_0 hl646_0; replace p646 := eq_true p646; replace q646 := eq_true q646) | (go_at_call 84; (with_reducible refine (spec_gap.calls k1 _ _ (rd_L1 l0 x5_1) _ _ l1 t647 _ ?side1 ?side2 ?side3 ?side4 A8.out).mono ?_); (case side1 => exact qC HR646_0.out); (case side2 => exact HC646_0.out); (case side3 => exact qC HR1.out); (case side4 => exact HC1.out); rintro e w' ⟨rfl, ⟨nd, rfl⟩⟩; (try first | exact ⟨rfl, _, World.drewN_drewN _ _ _⟩ | exact ⟨rfl, _, Eq.trans (World.drewN_drewN _ _ _) (congrArg (World.drewN _) (Nat.add_assoc _ _ _))⟩))))
   go_roundg k1
   case measure => have := HK1.out; omega
   case rel => exact ⟨(x5_1), (wrap64 (x6_1 + 1)), qE, qE, H', ⟨by have := HK1.out; omega⟩, qD⟩
def impl_NearestColor.f (k : Nat) (l0 : List (List Int)) (l1 : List Int) : Option (Int) := (impl_isPalette.f l0 (l1.length : Int)).bind fun t765 => (if t765 = true then ((impl_areBytes.f l1).bind fun t766 => (if t766 = true then ((impl_nearestColor.f k l0 l1).bind fun t767 => (some t767)) else (some (-1)))) else (some (-1)))
theorem impl_NearestColor.mono : ∀ a0 a1 k, LeO (impl_NearestColor.f k a0 a1) (impl_NearestColor.f (k + 1) a0 a1) := by
 intro a0 a1 k
 unfold impl_NearestColor.f
 repeat' first | (with_reducible first | exact impl_nearestColor.mono _ _ _ | exact lR | exact lN | refine lI ?_ ?_ | refine lB ?_ fun _ => ?_) | exact impl_nearestColor.mono _ _ _ | exact lN | refine lI ?_ ?_ | refine lB ?_ fun _ => ?_
set_option maxHeartbeats 8000000 in
set_option maxRecDepth 100000 in
theorem impl_NearestColor.calls (k : Nat) (A0 : Option Addr) (c0 : Nat) (l0 : List (List Int)) (A1 : Option Addr) (c1 : Nat) (l1 : List Int) (r : Int) (w : World) (hr0 : Kd.C (Kd.slice 3 (Kd.int .i64)) w A0 l0.length l0) (hc0 : l0.length ≤ c0) (hr1 : Kd.C (Kd.int .i64) w A1 l1.length l1) (hc1 : l1.length ≤ c1) (h : impl_NearestColor.f k l0 l1 = some r) :
  Calls Try.prog 35 #[.slice A0 l0.length c0, .slice A1 l1.length c1] w fun e w' => e = .returned (.int .i64 r) ∧ Below w.heap.size w w' := by
 have HR0 := aM hr0
 have HC0 := aM hc0
 clear hr0 hc0
 have HR1 := aM hr1
 have HC1 := aM hc1
 clear hr1 hc1
 have HB := aM (Below.refl w.heap.size w)
 unfold impl_NearestColor.f at h
 have H := h
 clear h
 replace H := Option.bind_eq_some_iff.mp H
 obtain ⟨t765, A30, H⟩ := H
 replace H : (if t765 = true then ((impl_areBytes.f l1).bind fun t766 => (if t766 = true then ((impl_nearestColor.f k l0 l1).bind fun t767 => (some t767)) else (some (-1)))) else (some (-1))) = some r := H
 have A3 := aM A30
 clear A30
 by_cases c4 : t765 = true
 rotate_left
 ·replace c4 := Bool.eq_false_iff.mpr c4
  subst c4
  have H1 : (some (-1)) = some r := by rw [if_neg (show ¬ (false = true) by decide)] at H; exact H
  clear H
  have H := H1
  clear H1
  obtain rfl := Option.some.inj H
  go_enter Try.func35, Try.ntmps35
  go_wp2_with (first | ((with_reducible refine gate_callee (f := 53) rfl ?_); refine gL (some 8) Try.func53 #[.slice A0 l0.length c0, .int .i64 (l1.length : Int)] ?_; (with_reducible refine (impl_isPalette.calls _ _ l0 (l1.length : Int) false _ ?side1 ?side2 A3.out).mono ?_); (case side1 => exact qC HR0.out); (case side2 => exact HC0.out); rintro e w10 ⟨rfl, hb⟩; refine ⟨_, rfl, ?_⟩; replace HB := bS HB hb; clear hb))
  go_ret
  exact ⟨qX, by exact qW HB.out⟩
 subst c4
 have H1 : ((impl_areBytes.f l1).bind fun t766 => (if t766 = true then ((impl_nearestColor.f k l0 l1).bind fun t767 => (some t767)) else (some (-1)))) = some r := by rw [if_pos rfl] at H; exact H
 clear H
 have H := H1
 clear H1
 replace H := Option.bind_eq_some_iff.mp H
 obtain ⟨t766, A50, H⟩ := H
 replace H : (if t766 = true then ((impl_nearestColor.f k l0 l1).bind fun t767 => (some t767)) else (some (-1))) = some r := H
 have A5 := aM A50
 clear A50
 by_cases c6 : t766 = true
 rotate_left
 ·replace c6 := Bool.eq_false_iff.mpr c6
  subst c6
  have H1 : (some (-1)) = some r := by rw [if_neg (show ¬ (false = true) by decide)] at H; exact H
  clear H
  have H := H1
  clear H1
  obtain rfl := Option.some.inj H
  go_enter Try.func35, Try.ntmps35
  go_wp2_with (first | ((with_reducible refine gate_callee (f := 53) rfl ?_); refine gL (some 8) Try.func53 #[.slice A0 l0.length c0, .int .i64 (l1.length : Int)] ?_; (with_reducible refine (impl_isPalette.calls _ _ l0 (l1.length : Int) true _ ?side1 ?side2 A3.out).mono ?_); (case side1 => exact qC HR0.out); (case side2 => exact HC0.out); rintro e w9 ⟨rfl, hb⟩; refine ⟨_, rfl, ?_⟩; replace HB := bS HB hb; clear hb) | (go_at_call 68; (with_reducible refine (impl_areBytes.calls _ _ l1 false _ ?side1 ?side2 A5.out).mono ?_); (case side1 => exact qC (Kd.C_below HR1.out HB.out)); (case side2 => exact HC1.out); rintro e w' ⟨rfl, ⟨nd, rfl⟩⟩))
  go_ret
  exact ⟨qX, by exact qW HB.out⟩
 subst c6
 have H1 : ((impl_nearestColor.f k l0 l1).bind fun t767 => (some t767)) = some r := by rw [if_pos rfl] at H; exact H
 clear H
 have H := H1
 clear H1
 replace H := Option.bind_eq_some_iff.mp H
 obtain ⟨t767, A70, H⟩ := H
 replace H : (some t767) = some r := H
 have A7 := aM A70
 clear A70
 obtain rfl := Option.some.inj H
 go_enter Try.func35, Try.ntmps35
 go_wp2_with (first | ((with_reducible refine gate_callee (f := 53) rfl ?_); refine gL (some 8) Try.func53 #[.slice A0 l0.length c0, .int .i64 (l1.length : Int)] ?_; (with_reducible refine (impl_isPalette.calls _ _ l0 (l1.length : Int) true _ ?side1 ?side2 A3.out).mono ?_); (case side1 => exact qC HR0.out); (case side2 => exact HC0.out); rintro e w8 ⟨rfl, hb⟩; refine ⟨_, rfl, ?_⟩; replace HB := bS HB hb; clear hb) | (go_at_call 68; (with_reducible refine (impl_areBytes.calls _ _ l1 true _ ?side1 ?side2 A5.out).mono ?_); (case side1 => exact qC (Kd.C_below HR1.out HB.out)); (case side2 => exact HC1.out); rintro e w' ⟨rfl, ⟨nd, rfl⟩⟩) | ((with_reducible refine gate_callee (f := 56) rfl ?_); refine gL (some 17) Try.func56 #[.slice A0 l0.length c0, .slice A1 l1.length c1] ?_; (with_reducible refine (impl_nearestColor.calls k _ _ l0 _ _ l1 t767 _ ?side1 ?side2 ?side3 ?side4 A7.out).mono ?_); (case side1 => exact qC (Kd.C_below HR0.out (qW HB.out))); (case side2 => exact HC0.out); (case side3 => exact qC (Kd.C_below HR1.out (qW HB.out))); (case side4 => exact HC1.out); rintro e w' ⟨rfl, ⟨nd, rfl⟩⟩; refine ⟨_, rfl, ?_⟩))
 go_ret
 exact ⟨qX, by exact qW HB.out⟩
mutual
def spec_spread.l0 : Nat → List (List Int) → Int → Int → Int → Option (Int × Int)
 | 0, _, _, _, _ => none
 | k + 1, x0, x4, x5, x6 => if 0 < (x0.length : Int) then (if x6 < ((rd_L1 x0 0).length : Int) then (spec_spread.l1 k x0 x4 x5 x6 255 0 0) else (some (x4, x5))) else (none)
def spec_spread.l1 : Nat → List (List Int) → Int → Int → Int → Int → Int → Int → Option (Int × Int)
 | 0, _, _, _, _, _, _, _ => none
 | k + 1, x0, x4, x5, x6, x7, x8, x9 => if x9 < (x0.length : Int) then (if 0 ≤ x9 then (if 0 ≤ x6 then (if x6 < ((rd_L1 x0 x9).length : Int) then (spec_spread.l1 k x0 x4 x5 x6 (mn x7 (rd (rd_L1 x0 x9) x6)) (mx x8 (rd (rd_L1 x0 x9) x6)) (wrap64 (x9 + 1))) else (none)) else (none)) else (none)) else (if (wrap64 (x8 - x7)) > x5 then (spec_spread.l0 k x0 x6 (wrap64 (x8 - x7)) (wrap64 (x6 + 1))) else (spec_spread.l0 k x0 x4 x5 (wrap64 (x6 + 1))))
end
def spec_spread.f (k : Nat) (l0 : List (List Int)) : Option (Int × Int) := spec_spread.l0 k l0 0 (-1) 0
theorem spec_spread.mono_l : ∀ k, (∀ y0 y1 y2 y3, LeO (spec_spread.l0 k y0 y1 y2 y3) (spec_spread.l0 (k + 1) y0 y1 y2 y3)) ∧ (∀ y0 y1 y2 y3 y4 y5 y6, LeO (spec_spread.l1 k y0 y1 y2 y3 y4 y5 y6) (spec_spread.l1 (k + 1) y0 y1 y2 y3 y4 y5 y6))
 | 0 => ⟨fun _ _ _ _ r h => by simp [spec_spread.l0] at h, fun _ _ _ _ _ _ _ r h => by simp [spec_spread.l1] at h⟩
 | k + 1 => by
  obtain ⟨ih0, ih1⟩ := spec_spread.mono_l k
  refine ⟨?_, ?_⟩
  all_goals intros
  all_goals first | unfold spec_spread.l0 | unfold spec_spread.l1
  all_goals repeat' first | (with_reducible first | exact ih0 _ _ _ _ | exact ih1 _ _ _ _ _ _ _ | exact lR | exact lN | refine lI ?_ ?_ | refine lB ?_ fun _ => ?_) | exact ih0 _ _ _ _ | exact ih1 _ _ _ _ _ _ _ | exact lN | refine lI ?_ ?_ | refine lB ?_ fun _ => ?_
theorem spec_spread.mono : ∀ a0 k, LeO (spec_spread.f k a0) (spec_spread.f (k + 1) a0) := by
 intro a0 k
 obtain ⟨ih0, ih1⟩ := spec_spread.mono_l k
 unfold spec_spread.f
 repeat' first | (with_reducible first | exact ih0 _ _ _ _ | exact ih1 _ _ _ _ _ _ _ | exact lR | exact lN | refine lI ?_ ?_ | refine lB ?_ fun _ => ?_) | exact ih0 _ _ _ _ | exact ih1 _ _ _ _ _ _ _ | exact lN | refine lI ?_ ?_ | refine lB ?_ fun _ => ?_
set_option maxHeartbeats 8000000 in
set_option maxRecDepth 100000 in
theorem spec_spread.calls (k : Nat) (A0 : Option Addr) (c0 : Nat) (l0 : List (List Int)) (r1 : Int) (r2 : Int) (w : World) (hr0 : Kd.C (Kd.slice 3 (Kd.int .i64)) w A0 l0.length l0) (hc0 : l0.length ≤ c0) (h : spec_spread.f k l0 = some (r1, r2)) :
  Calls Try.prog 87 #[.slice A0 l0.length c0] w fun e w' => e = .returned (.tuple #[.int .i64 r1, .int .i64 r2]) ∧ Below w.heap.size w w' := by
 have HR0 := aM hr0
 have HC0 := aM hc0
 clear hr0 hc0
 have HB := aM (Below.refl w.heap.size w)
 unfold spec_spread.f at h
 have H := h
 clear h
 have H' := aM H
 clear H
 go_enter Try.func87, Try.ntmps87
 go_wp2
 go_loopg [4, 5, 6] k (fun kq v4 v5 v6 w' => ∃ (x4_1 : Int) (x5_1 : Int) (x6_1 : Int), v4 = .int .i64 x4_1 ∧ v5 = .int .i64 x5_1 ∧ v6 = .int .i64 x6_1 ∧ Aside0 (spec_spread.l0 kq l0 x4_1 x5_1 x6_1 = some (r1, r2)) ∧ Aside0 (kq ≤ k) ∧ Aside0 (Below w.heap.size w w'))
 case atStart => exact ⟨(0), ((-1)), (0), qE, qE, qE, H', ⟨Nat.le_refl _⟩, ⟨by exact qW HB.out⟩⟩
 case round =>
  clear H'
  obtain ⟨x4_1, x5_1, x6_1, rfl, rfl, rfl, HA, HK1, HB⟩ := hrel
  cases gk with
  | zero => exact absurd HA.out (by simp [spec_spread.l0])
  | succ k1 =>
   have H := HA.out
   clear HA
   simp only [spec_spread.l0] at H
   replace H := iS H
   obtain ⟨c2, H⟩ := H
   have c2b0 : decide (0 < (l0.length : Int)) = true := decide_eq_true c2
   have c2b1 : decide (0 < l0.length) = true := decide_eq_true (by omega)
   clear c2
   by_cases c3 : x6_1 < ((rd_L1 l0 0).length : Int)
   rotate_left
   ·rw [if_neg c3] at H
    have c3b0 : decide (x6_1 < ((rd_L1 l0 0).length : Int)) = false := decide_eq_false c3
    clear c3
    simp only [Option.some.injEq, Prod.mk.injEq] at H
    obtain ⟨rfl, rfl⟩ := H
    have p807 : 0 ≤ (0 : Int) := (by omega)
    have q807 : 0 < (l0.length : Int) := oD
    obtain ⟨ad807, A807_0, c807_0, e807, hx807_0, hl807_0, hi807_0⟩ := at_L1 HR0.out 0 p807 q807
    cases e807
    have qi807 : (0 < l0.length) = True := eq_true (by omega)
    (try rw [show ((0 : Int)).toNat = 0 from rfl] at hx807_0)
    (try rw [Addr.add_zero'] at hx807_0)
    replace hx807_0 := bD HB hx807_0
    have HR807_0 := aM hi807_0
    have HC807_0 := aM hl807_0
    clear hi807_0 hl807_0
    replace p807 := eq_true p807
    replace q807 := eq_true q807
    go_wp2
    go_ret2
    exact ⟨qX, by exact qW HB.out⟩
   rw [if_pos c3] at H
   have c3b0 : decide (x6_1 < ((rd_L1 l0 0).length : Int)) = true := decide_eq_true c3
   clear c3
   have H' := aM H
   clear H
   have p807 : 0 ≤ (0 : Int) := (by omega)
   have q807 : 0 < (l0.length : Int) := oD
   obtain ⟨ad807, A807_0, c807_0, e807, hx807_0, hl807_0, hi807_0⟩ := at_L1 HR0.out 0 p807 q807
   cases e807
   have qi807 : (0 < l0.length) = True := eq_true (by omega)
   (try rw [show ((0 : Int)).toNat = 0 from rfl] at hx807_0)
   (try rw [Addr.add_zero'] at hx807_0)
   replace hx807_0 := bD HB hx807_0
   have HR807_0 := aM hi807_0
   have HC807_0 := aM hl807_0
   clear hi807_0 hl807_0
   replace p807 := eq_true p807
   replace q807 := eq_true q807
   go_wp2
   go_loopg [7, 8, 9] k1 (fun kq v7 v8 v9 w' => ∃ (x7_2 : Int) (x8_2 : Int) (x9_2 : Int), v7 = .int .i64 x7_2 ∧ v8 = .int .i64 x8_2 ∧ v9 = .int .i64 x9_2 ∧ Aside0 (spec_spread.l1 kq l0 x4_1 x5_1 x6_1 x7_2 x8_2 x9_2 = some (r1, r2)) ∧ Aside0 (kq ≤ k1) ∧ Aside0 (Below w.heap.size w w'))
   case atStart => exact ⟨(255), (0), (0), qE, qE, qE, H', ⟨Nat.le_refl _⟩, ⟨by exact qW HB.out⟩⟩
   case round =>
    clear H'
    try clear c2
    try clear c2b0
    try clear c2b1
    try clear c3
    try clear c3b0
    try clear hx807_0
    try clear p807
    try clear q807
    obtain ⟨x7_2, x8_2, x9_2, rfl, rfl, rfl, HA, HK2, HB⟩ := hrel
    cases gk with
    | zero => exact absurd HA.out (by simp [spec_spread.l1])
    | succ k2 =>
     have H := HA.out
     clear HA
     simp only [spec_spread.l1] at H
     by_cases c4 : x9_2 < (l0.length : Int)
     rotate_left
     ·rw [if_neg c4] at H
      have c4b0 : decide (x9_2 < (l0.length : Int)) = false := decide_eq_false c4
      clear c4
      by_cases c10 : (wrap64 (x8_2 - x7_2)) > x5_1
      rotate_left
      ·rw [if_neg c10] at H
       have c10b0 : decide (x5_1 < (wrap64 (x8_2 - x7_2))) = false := decide_eq_false c10
       clear c10
       have H' := aM H
       clear H
       go_wp2
       go_roundg k2
       case measure => have := HK1.out; have := HK2.out; omega
       case rel => exact ⟨(x4_1), (x5_1), (wrap64 (x6_1 + 1)), qE, qE, qE, H', ⟨by have := HK1.out; have := HK2.out; omega⟩, ⟨by exact qW HB.out⟩⟩
      rw [if_pos c10] at H
      have c10b0 : decide (x5_1 < (wrap64 (x8_2 - x7_2))) = true := decide_eq_true c10
      clear c10
      have H' := aM H
      clear H
      go_wp2
      go_roundg k2
      case measure => have := HK1.out; have := HK2.out; omega
      case rel => exact ⟨(x6_1), (wrap64 (x8_2 - x7_2)), (wrap64 (x6_1 + 1)), qE, qE, qE, H', ⟨by have := HK1.out; have := HK2.out; omega⟩, ⟨by exact qW HB.out⟩⟩
     rw [if_pos c4] at H
     have c4b0 : decide (x9_2 < (l0.length : Int)) = true := decide_eq_true c4
     clear c4
     replace H := iD H
     obtain ⟨c5b0, H⟩ := H
     replace H := iD H
     obtain ⟨c6b0, H⟩ := H
     replace H := iD H
     obtain ⟨c7b0, H⟩ := H
     obtain ⟨ji8, hji8⟩ : ∃ j_ : Int, (mn x7_2 (rd (rd_L1 l0 x9_2) x6_1)) = j_ := ⟨_, rfl⟩
     replace H : (spec_spread.l1 k2 l0 x4_1 x5_1 x6_1 ji8 (mx x8_2 (rd (rd_L1 l0 x9_2) x6_1)) (wrap64 (x9_2 + 1))) = some (r1, r2) := by first | (rw [hji8] at H; exact H) | (simp only [hji8] at H ⊢; exact H)
     have hji8_ : (if (rd (rd_L1 l0 x9_2) x6_1) < x7_2 then (rd (rd_L1 l0 x9_2) x6_1) else x7_2) = ji8 := hji8
     obtain ⟨ji9, hji9⟩ : ∃ j_ : Int, (mx x8_2 (rd (rd_L1 l0 x9_2) x6_1)) = j_ := ⟨_, rfl⟩
     replace H : (spec_spread.l1 k2 l0 x4_1 x5_1 x6_1 ji8 ji9 (wrap64 (x9_2 + 1))) = some (r1, r2) := by first | (rw [hji9] at H; exact H) | (simp only [hji9] at H ⊢; exact H)
     have hji9_ : (if x8_2 < (rd (rd_L1 l0 x9_2) x6_1) then (rd (rd_L1 l0 x9_2) x6_1) else x8_2) = ji9 := hji9
     have H' := aM H
     clear H
     have p808 : 0 ≤ (x9_2 : Int) := oD
     have q808 : x9_2 < (l0.length : Int) := oD
     obtain ⟨ad808, A808_0, c808_0, e808, hx808_0, hl808_0, hi808_0⟩ := at_L1 HR0.out x9_2 p808 q808
     obtain rfl : ad807 = ad808 := (by injection e808)
     replace hx808_0 := bD HB hx808_0
     have HR808_0 := aM hi808_0
     have HC808_0 := aM hl808_0
     clear hi808_0 hl808_0
     replace p808 := eq_true p808
     replace q808 := eq_true q808
     obtain ⟨ad809, e809, hx809_0⟩ := Kd.at_int HR808_0.out x6_1 oD oD
     cases e809
     replace hx809_0 := bD HB hx809_0
     have p809 := eq_true (oD : 0 ≤ (x6_1 : Int))
     have q809 := eq_true (oD : x6_1 < ((rd_L1 l0 x9_2).length : Int))
     have p810 : 0 ≤ (x9_2 : Int) := oD
     have q810 : x9_2 < (l0.length : Int) := oD
     obtain ⟨ad810, A810_0, c810_0, e810, hx810_0, hl810_0, hi810_0⟩ := at_L1 HR0.out x9_2 p810 q810
     obtain rfl : ad807 = ad810 := (by injection e810)
     replace hx810_0 := bD HB hx810_0
     have HR810_0 := aM hi810_0
     have HC810_0 := aM hl810_0
     clear hi810_0 hl810_0
     replace p810 := eq_true p810
     replace q810 := eq_true q810
     have ea_ := Option.some.inj (hx808_0.symm.trans hx810_0)
     injection ea_ with ea_ en_ ec_
     subst ea_
     subst ec_
     clear en_
     obtain ⟨ad811, e811, hx811_0⟩ := Kd.at_int HR810_0.out x6_1 oD oD
     cases e811
     replace hx811_0 := bD HB hx811_0
     have p811 := eq_true (oD : 0 ≤ (x6_1 : Int))
     have q811 := eq_true (oD : x6_1 < ((rd_L1 l0 x9_2).length : Int))
     go_wp2
     go_roundg k2
     case measure => have := HK1.out; have := HK2.out; omega
     case rel => exact ⟨(ji8), (ji9), (wrap64 (x9_2 + 1)), (by first | rfl | (simp; done) | (simp only [← hji8] <;> (first | rfl | simp)) | (simp [*]; done)), (by first | rfl | (simp; done) | (simp only [← hji9] <;> (first | rfl | simp)) | (simp [*]; done)), qE, H', ⟨by have := HK1.out; have := HK2.out; omega⟩, ⟨by exact qW HB.out⟩⟩
def impl_rangeOf.l0 : Nat → Int → Int → Int → List (List Int) → Int → Int → Option (Int)
 | 0, _, _, _, _, _, _ => none
 | k + 1, x1, x5, x6, x9, x10, x11 => if x11 < x10 then (if 0 ≤ x11 then (if x11 < (x9.length : Int) then (if 0 ≤ x1 then (if x1 < ((rd_L1 x9 x11).length : Int) then (impl_rangeOf.l0 k x1 (mn x5 (rd (rd_L1 x9 x11) x1)) (mx x6 (rd (rd_L1 x9 x11) x1)) x9 x10 (wrap64 (x11 + 1))) else (none)) else (none)) else (none)) else (none)) else (some (wrap64 (x6 - x5)))
def impl_rangeOf.f (k : Nat) (l0 : List (List Int)) (a1 : Int) : Option (Int) := impl_rangeOf.l0 k a1 255 0 l0 (l0.length : Int) 0
theorem impl_rangeOf.mono_l : ∀ k, (∀ y0 y1 y2 y3 y4 y5, LeO (impl_rangeOf.l0 k y0 y1 y2 y3 y4 y5) (impl_rangeOf.l0 (k + 1) y0 y1 y2 y3 y4 y5))
 | 0 => fun _ _ _ _ _ _ r h => by simp [impl_rangeOf.l0] at h
 | k + 1 => by
  have ih0 := impl_rangeOf.mono_l k
  ·intro y0 y1 y2 y3 y4 y5
   unfold impl_rangeOf.l0
   repeat' first | (with_reducible first | exact ih0 _ _ _ _ _ _ | exact lR | exact lN | refine lI ?_ ?_ | refine lB ?_ fun _ => ?_) | exact ih0 _ _ _ _ _ _ | exact lN | refine lI ?_ ?_ | refine lB ?_ fun _ => ?_
theorem impl_rangeOf.mono : ∀ a0 a1 k, LeO (impl_rangeOf.f k a0 a1) (impl_rangeOf.f (k + 1) a0 a1) := by
 intro a0 a1 k
 have ih0 := impl_rangeOf.mono_l k
 unfold impl_rangeOf.f
 repeat' first | (with_reducible first | exact ih0 _ _ _ _ _ _ | exact lR | exact lN | refine lI ?_ ?_ | refine lB ?_ fun _ => ?_) | exact ih0 _ _ _ _ _ _ | exact lN | refine lI ?_ ?_ | refine lB ?_ fun _ => ?_
set_option maxHeartbeats 8000000 in
set_option maxRecDepth 100000 in
theorem impl_rangeOf.calls (k : Nat) (A0 : Option Addr) (c0 : Nat) (l0 : List (List Int)) (a1 : Int) (r : Int) (w : World) (hr0 : Kd.C (Kd.slice 3 (Kd.int .i64)) w A0 l0.length l0) (hc0 : l0.length ≤ c0) (h : impl_rangeOf.f k l0 a1 = some r) :
  Calls Try.prog 71 #[.slice A0 l0.length c0, .int .i64 a1] w fun e w' => e = .returned (.int .i64 r) ∧ Below w.heap.size w w' := by
 have HR0 := aM hr0
 have HC0 := aM hc0
 clear hr0 hc0
 have HB := aM (Below.refl w.heap.size w)
 unfold impl_rangeOf.f at h
 have H := h
 clear h
 have H' := aM H
 clear H
 go_enter Try.func71, Try.ntmps71
 go_wp2
 go_loopg [5, 6, 11] k (fun kq v5 v6 v11 w' => ∃ (x5_1 : Int) (x6_1 : Int) (x11_1 : Int), v5 = .int .i64 x5_1 ∧ v6 = .int .i64 x6_1 ∧ v11 = .int .i64 x11_1 ∧ Aside0 (impl_rangeOf.l0 kq a1 x5_1 x6_1 l0 (l0.length : Int) x11_1 = some r) ∧ Aside0 (kq ≤ k) ∧ Aside0 (Below w.heap.size w w'))
 case atStart => exact ⟨(255), (0), (0), qE, qE, qE, H', ⟨Nat.le_refl _⟩, ⟨by exact qW HB.out⟩⟩
 case round =>
  clear H'
  obtain ⟨x5_1, x6_1, x11_1, rfl, rfl, rfl, HA, HK1, HB⟩ := hrel
  cases gk with
  | zero => exact absurd HA.out (by simp [impl_rangeOf.l0])
  | succ k1 =>
   have H := HA.out
   clear HA
   simp only [impl_rangeOf.l0] at H
   by_cases c3 : x11_1 < (l0.length : Int)
   rotate_left
   ·rw [if_neg c3] at H
    have c3b0 : decide (x11_1 < (l0.length : Int)) = false := decide_eq_false c3
    clear c3
    obtain rfl := Option.some.inj H
    go_wp2
    go_ret
    exact ⟨qX, by exact qW HB.out⟩
   rw [if_pos c3] at H
   have c3b0 : decide (x11_1 < (l0.length : Int)) = true := decide_eq_true c3
   clear c3
   replace H := iD H
   obtain ⟨c4b0, H⟩ := H
   replace H := iD H
   obtain ⟨c5b0, H⟩ := H
   replace H := iD H
   obtain ⟨c6b0, H⟩ := H
   replace H := iD H
   obtain ⟨c7b0, H⟩ := H
   obtain ⟨ji8, hji8⟩ : ∃ j_ : Int, (mn x5_1 (rd (rd_L1 l0 x11_1) a1)) = j_ := ⟨_, rfl⟩
   replace H : (impl_rangeOf.l0 k1 a1 ji8 (mx x6_1 (rd (rd_L1 l0 x11_1) a1)) l0 (l0.length : Int) (wrap64 (x11_1 + 1))) = some r := by first | (rw [hji8] at H; exact H) | (simp only [hji8] at H ⊢; exact H)
   have hji8_ : (if (rd (rd_L1 l0 x11_1) a1) < x5_1 then (rd (rd_L1 l0 x11_1) a1) else x5_1) = ji8 := hji8
   obtain ⟨ji9, hji9⟩ : ∃ j_ : Int, (mx x6_1 (rd (rd_L1 l0 x11_1) a1)) = j_ := ⟨_, rfl⟩
   replace H : (impl_rangeOf.l0 k1 a1 ji8 ji9 l0 (l0.length : Int) (wrap64 (x11_1 + 1))) = some r := by first | (rw [hji9] at H; exact H) | (simp only [hji9] at H ⊢; exact H)
   have hji9_ : (if x6_1 < (rd (rd_L1 l0 x11_1) a1) then (rd (rd_L1 l0 x11_1) a1) else x6_1) = ji9 := hji9
   have H' := aM H
   clear H
   have p835 : 0 ≤ (x11_1 : Int) := oD
   have q835 : x11_1 < (l0.length : Int) := oD
   obtain ⟨ad835, A835_0, c835_0, e835, hx835_0, hl835_0, hi835_0⟩ := at_L1 HR0.out x11_1 p835 q835
   cases e835
   replace hx835_0 := bD HB hx835_0
   have HR835_0 := aM hi835_0
   have HC835_0 := aM hl835_0
   clear hi835_0 hl835_0
   replace p835 := eq_true p835
   replace q835 := eq_true q835
   obtain ⟨ad836, e836, hx836_0⟩ := Kd.at_int HR835_0.out a1 oD oD
   cases e836
   replace hx836_0 := bD HB hx836_0
   have p836 := eq_true (oD : 0 ≤ (a1 : Int))
   have q836 := eq_true (oD : a1 < ((rd_L1 l0 x11_1).length : Int))
   obtain ⟨ad837, e837, hx837_0⟩ := Kd.at_int HR835_0.out a1 oD oD
   obtain rfl : ad836 = ad837 := (by injection e837)
   replace hx837_0 := bD HB hx837_0
   have p837 := eq_true (oD : 0 ≤ (a1 : Int))
   have q837 := eq_true (oD : a1 < ((rd_L1 l0 x11_1).length : Int))
   go_wp2
   go_roundg k1
   case measure => have := HK1.out; omega
   case rel => exact ⟨(ji8), (ji9), (wrap64 (x11_1 + 1)), (by first | rfl | (simp; done) | (simp only [← hji8] <;> (first | rfl | simp)) | (simp [*]; done)), (by first | rfl | (simp; done) | (simp only [← hji9] <;> (first | rfl | simp)) | (simp [*]; done)), qE, H', ⟨by have := HK1.out; omega⟩, ⟨by exact qW HB.out⟩⟩
mutual
def spec_ordered.l0 : Nat → Int → List (List Int) → Int → Option ((List (List Int)))
 | 0, _, _, _ => none
 | k + 1, x1, x5, x6 => if x6 < (x5.length : Int) then (spec_ordered.l1 k x1 x5 x6 x6) else (some x5)
def spec_ordered.l1 : Nat → Int → List (List Int) → Int → Int → Option ((List (List Int)))
 | 0, _, _, _, _ => none
 | k + 1, x1, x5, x6, x7 => if x7 > 0 then (if 0 ≤ x7 then (if x7 < (x5.length : Int) then (if 0 ≤ x1 then (if x1 < ((rd_L1 x5 x7).length : Int) then (if 0 ≤ (wrap64 (x7 - 1)) then (if (wrap64 (x7 - 1)) < (x5.length : Int) then (if x1 < ((rd_L1 x5 (wrap64 (x7 - 1))).length : Int) then (if (rd (rd_L1 x5 x7) x1) < (rd (rd_L1 x5 (wrap64 (x7 - 1))) x1) then (spec_ordered.l1 k x1 ((x5.set (x7 : Int).toNat (rd_L1 x5 (wrap64 (x7 - 1)))).set ((wrap64 (x7 - 1)) : Int).toNat (rd_L1 x5 x7)) x6 (wrap64 (x7 - 1))) else (spec_ordered.l0 k x1 x5 (wrap64 (x6 + 1)))) else (none)) else (none)) else (none)) else (none)) else (none)) else (none)) else (none)) else (spec_ordered.l0 k x1 x5 (wrap64 (x6 + 1)))
end
def spec_ordered.f (k : Nat) (l0 : List (List Int)) (a1 : Int) : Option ((List (List Int))) := (some (([] : List (List Int)) : List (List Int))).bind fun y812 => (if y812.length + l0.length < 5864062014805 then (spec_ordered.l0 k a1 (y812 ++ l0) 1) else (none))
theorem spec_ordered.mono_l : ∀ k, (∀ y0 y1 y2, LeO (spec_ordered.l0 k y0 y1 y2) (spec_ordered.l0 (k + 1) y0 y1 y2)) ∧ (∀ y0 y1 y2 y3, LeO (spec_ordered.l1 k y0 y1 y2 y3) (spec_ordered.l1 (k + 1) y0 y1 y2 y3))
 | 0 => ⟨fun _ _ _ r h => by simp [spec_ordered.l0] at h, fun _ _ _ _ r h => by simp [spec_ordered.l1] at h⟩
 | k + 1 => by
  obtain ⟨ih0, ih1⟩ := spec_ordered.mono_l k
  refine ⟨?_, ?_⟩
  all_goals intros
  all_goals first | unfold spec_ordered.l0 | unfold spec_ordered.l1
  all_goals repeat' first | (with_reducible first | exact ih0 _ _ _ | exact ih1 _ _ _ _ | exact lR | exact lN | refine lI ?_ ?_ | refine lB ?_ fun _ => ?_) | exact ih0 _ _ _ | exact ih1 _ _ _ _ | exact lN | refine lI ?_ ?_ | refine lB ?_ fun _ => ?_
theorem spec_ordered.mono : ∀ a0 a1 k, LeO (spec_ordered.f k a0 a1) (spec_ordered.f (k + 1) a0 a1) := by
 intro a0 a1 k
 obtain ⟨ih0, ih1⟩ := spec_ordered.mono_l k
 unfold spec_ordered.f
 repeat' first | (with_reducible first | exact ih0 _ _ _ | exact ih1 _ _ _ _ | exact lR | exact lN | refine lI ?_ ?_ | refine lB ?_ fun _ => ?_) | exact ih0 _ _ _ | exact ih1 _ _ _ _ | exact lN | refine lI ?_ ?_ | refine lB ?_ fun _ => ?_
set_option maxHeartbeats 8000000 in
set_option maxRecDepth 100000 in
theorem spec_ordered.calls (k : Nat) (P0_ : Nat → Prop) (A0 : Option Addr) (c0 : Nat) (l0 : List (List Int)) (a1 : Int) (r : List (List Int)) (w : World) (hs0 : Kd.V (Kd.slice 3 (Kd.int .i64)) 22 w w.heap.size (fun k_ => P0_ k_) (.slice A0 l0.length c0) l0) (h : spec_ordered.f k l0 a1 = some r) :
  Calls Try.prog 88 #[.slice A0 l0.length c0, .int .i64 a1] w fun e w' => ∃ v0_ : Value, e = .returned (v0_) ∧ Kd.N (Kd.slice 3 (Kd.int .i64)) 22 w' w.heap.size (fun k_ => (P0_ k_ ∨ w.heap.size ≤ k_)) v0_ r ∧ Below w.heap.size w w' := by
 have HO0 := aM (show Kd.V (Kd.slice 3 (Kd.int .i64)) 22 w w.heap.size (fun k_ => (P0_ k_ ∨ w.heap.size ≤ k_)) (.slice A0 l0.length c0) l0 from Kd.V_mono hs0 (fun k_ hk => .inl hk))
 have HB := aM (Below.refl w.heap.size w)
 unfold spec_ordered.f at h
 have H := h
 clear h
 obtain ⟨y812, hy812⟩ : ∃ y_ : List (List Int), y_ = (([] : List (List Int))) := ⟨_, rfl⟩
 replace H : (if y812.length + l0.length < 5864062014805 then (spec_ordered.l0 k a1 (y812 ++ l0) 1) else (none)) = some r := rY hy812 H
 have Ny812 := aM hy812
 clear hy812
 replace H := iS H
 obtain ⟨c3, H⟩ := H
 have LMc3 := aM c3
 clear c3
 obtain ⟨y815, hy815⟩ : ∃ y_ : List (List Int), y_ = (y812 ++ l0) := ⟨_, rfl⟩
 replace H : (spec_ordered.l0 k a1 y815 1) = some r := rY hy815 H
 have Ny815 := aM hy815
 clear hy815
 have H' := aM H
 clear H
 go_enter Try.func88, Try.ntmps88
 go_wp2_with (first | ((with_reducible refine gate_dst (N := 9) rfl ?_); refine Kd.N_lit (Kd.slice 3 (Kd.int .i64)) _ 22 ?hg (N' := 9) ?hd (xs := ([] : List (List Int))) (inner := []) (ok := (fun k_ => (P0_ k_ ∨ w.heap.size ≤ k_))) (okp := (fun k_ => (P0_ k_ ∨ w.heap.size ≤ k_))) ?hr ?hp (fun _ hk => hk) ((show ∀ k_, w.heap.size ≤ k_ → (fun k_ => (P0_ k_ ∨ w.heap.size ≤ k_)) k_ from fun k_ hk => (.inr (Nat.le_trans (below_size (qW HB.out)) hk))) _ (Nat.le_refl _)) (Below.refl _ _) (Nat.le_refl _) (by simp) ?_; (case hd => rfl); (case hg => rfl); (case hr => first | (go_simp; done) | (go_simp; rfl)); (case hp => exact (Reps.none _ _)); intro v813 w4 ho5 hb hg_ hnew_; clear hg_ hnew_; (first | rw [← Ny812.out] at ho5 | (simp only [Int.reduceToNat] at ho5; rw [← Ny812.out] at ho5)); replace HO0 := aM (Kd.V_elder' (by (with_reducible repeat (first | apply Kd.V_alloc | apply Kd.V_drewN | apply Kd.V_drew)); exact HO0.out) (Kd.N_base ho5) hb); have HO814 := aM (Kd.N_lower ho5 (below_size (qW HB.out))); replace HB := bS HB hb; clear hb ho5) | ((with_reducible refine gate_builtin (b := .append) (xs := #[.tmp 9, .tmp 10]) rfl ?_); at_builtin; refine Kd.N_append_rows (Kd.slice 3 (Kd.int .i64)) (w0 := w) w.heap.size rfl (.tmp 9) (.tmp 10) 26 22 (.slice none 0 0) 24 rfl Try.underlying26 info22 rfl (by decide) (by omega) v813 y812 l0 _ _ _ (fun k_ => (P0_ k_ ∨ w.heap.size ≤ k_)) (fun k_ => ((fun k_ => (P0_ k_ ∨ w.heap.size ≤ k_))) k_ ∧ some k_ ≠ (v813 : Value).ownBlock) rfl rfl ?aO ?aR (fun _ hk => hk) ?aF ?aB ?aS ?aL ?_; (case aR => exact (by skip; exact Kd.V_F (Kd.V_mono (ok' := (fun k_ => ((fun k_ => (P0_ k_ ∨ w.heap.size ≤ k_))) k_ ∧ some k_ ≠ (v813 : Value).ownBlock)) (HO0.out) (fun k_ hk => ⟨hk.1, hk.2⟩)))); (case aB => exact (qW HB.out)); (case aF => exact (fun k_ hk => (.inr (Nat.le_trans (below_size (qW HB.out)) hk)))); (case aO => exact (by (with_reducible repeat (first | apply Kd.N_alloc | apply Kd.N_drewN | apply Kd.N_drew)); exact HO814.out)); (case aS => exact (below_size (qW HB.out))); (case aL => have := LMc3.out; omega); intro v816 w6 ho hb hg hat; rw [← Ny815.out] at ho; replace HO0 := aM (Kd.V_afterv (ok := (fun k_ => (P0_ k_ ∨ w.heap.size ≤ k_))) (by (with_reducible repeat (first | apply Kd.V_alloc | apply Kd.V_drewN | apply Kd.V_drew)); exact HO0.out) hg hat); replace HB := aM (hb); have HO817 := aM (ho); clear HO814; clear ho hb hg hat))
 repeat (go_quiet (first | ((with_reducible refine gate_dst (N := 9) rfl ?_); refine Kd.N_lit (Kd.slice 3 (Kd.int .i64)) _ 22 ?hg (N' := 9) ?hd (xs := ([] : List (List Int))) (inner := []) (ok := (fun k_ => (P0_ k_ ∨ w.heap.size ≤ k_))) (okp := (fun k_ => (P0_ k_ ∨ w.heap.size ≤ k_))) ?hr ?hp (fun _ hk => hk) ((show ∀ k_, w.heap.size ≤ k_ → (fun k_ => (P0_ k_ ∨ w.heap.size ≤ k_)) k_ from fun k_ hk => (.inr (Nat.le_trans (below_size (qW HB.out)) hk))) _ (Nat.le_refl _)) (Below.refl _ _) (Nat.le_refl _) (by simp) ?_; (case hd => rfl); (case hg => rfl); (case hr => first | (go_simp; done) | (go_simp; rfl)); (case hp => exact (Reps.none _ _)); intro v813 w4 ho5 hb hg_ hnew_; clear hg_ hnew_; (first | rw [← Ny812.out] at ho5 | (simp only [Int.reduceToNat] at ho5; rw [← Ny812.out] at ho5)); replace HO0 := aM (Kd.V_elder' (by (with_reducible repeat (first | apply Kd.V_alloc | apply Kd.V_drewN | apply Kd.V_drew)); exact HO0.out) (Kd.N_base ho5) hb); have HO814 := aM (Kd.N_lower ho5 (below_size (qW HB.out))); replace HB := bS HB hb; clear hb ho5) | ((with_reducible refine gate_builtin (b := .append) (xs := #[.tmp 9, .tmp 10]) rfl ?_); at_builtin; refine Kd.N_append_rows (Kd.slice 3 (Kd.int .i64)) (w0 := w) w.heap.size rfl (.tmp 9) (.tmp 10) 26 22 (.slice none 0 0) 24 rfl Try.underlying26 info22 rfl (by decide) (by omega) v813 y812 l0 _ _ _ (fun k_ => (P0_ k_ ∨ w.heap.size ≤ k_)) (fun k_ => ((fun k_ => (P0_ k_ ∨ w.heap.size ≤ k_))) k_ ∧ some k_ ≠ (v813 : Value).ownBlock) rfl rfl ?aO ?aR (fun _ hk => hk) ?aF ?aB ?aS ?aL ?_; (case aR => exact (by skip; exact Kd.V_F (Kd.V_mono (ok' := (fun k_ => ((fun k_ => (P0_ k_ ∨ w.heap.size ≤ k_))) k_ ∧ some k_ ≠ (v813 : Value).ownBlock)) (HO0.out) (fun k_ hk => ⟨hk.1, hk.2⟩)))); (case aB => exact (qW HB.out)); (case aF => exact (fun k_ hk => (.inr (Nat.le_trans (below_size (qW HB.out)) hk)))); (case aO => exact (by (with_reducible repeat (first | apply Kd.N_alloc | apply Kd.N_drewN | apply Kd.N_drew)); exact HO814.out)); (case aS => exact (below_size (qW HB.out))); (case aL => have := LMc3.out; omega); intro v816 w6 ho hb hg hat; rw [← Ny815.out] at ho; replace HO0 := aM (Kd.V_afterv (ok := (fun k_ => (P0_ k_ ∨ w.heap.size ≤ k_))) (by (with_reducible repeat (first | apply Kd.V_alloc | apply Kd.V_drewN | apply Kd.V_drew)); exact HO0.out) hg hat); replace HB := aM (hb); have HO817 := aM (ho); clear HO814; clear ho hb hg hat)); try go_wp2_with (first | ((with_reducible refine gate_dst (N := 9) rfl ?_); refine Kd.N_lit (Kd.slice 3 (Kd.int .i64)) _ 22 ?hg (N' := 9) ?hd (xs := ([] : List (List Int))) (inner := []) (ok := (fun k_ => (P0_ k_ ∨ w.heap.size ≤ k_))) (okp := (fun k_ => (P0_ k_ ∨ w.heap.size ≤ k_))) ?hr ?hp (fun _ hk => hk) ((show ∀ k_, w.heap.size ≤ k_ → (fun k_ => (P0_ k_ ∨ w.heap.size ≤ k_)) k_ from fun k_ hk => (.inr (Nat.le_trans (below_size (qW HB.out)) hk))) _ (Nat.le_refl _)) (Below.refl _ _) (Nat.le_refl _) (by simp) ?_; (case hd => rfl); (case hg => rfl); (case hr => first | (go_simp; done) | (go_simp; rfl)); (case hp => exact (Reps.none _ _)); intro v813 w4 ho5 hb hg_ hnew_; clear hg_ hnew_; (first | rw [← Ny812.out] at ho5 | (simp only [Int.reduceToNat] at ho5; rw [← Ny812.out] at ho5)); replace HO0 := aM (Kd.V_elder' (by (with_reducible repeat (first | apply Kd.V_alloc | apply Kd.V_drewN | apply Kd.V_drew)); exact HO0.out) (Kd.N_base ho5) hb); have HO814 := aM (Kd.N_lower ho5 (below_size (qW HB.out))); replace HB := bS HB hb; clear hb ho5) | ((with_reducible refine gate_builtin (b := .append) (xs := #[.tmp 9, .tmp 10]) rfl ?_); at_builtin; refine Kd.N_append_rows (Kd.slice 3 (Kd.int .i64)) (w0 := w) w.heap.size rfl (.tmp 9) (.tmp 10) 26 22 (.slice none 0 0) 24 rfl Try.underlying26 info22 rfl (by decide) (by omega) v813 y812 l0 _ _ _ (fun k_ => (P0_ k_ ∨ w.heap.size ≤ k_)) (fun k_ => ((fun k_ => (P0_ k_ ∨ w.heap.size ≤ k_))) k_ ∧ some k_ ≠ (v813 : Value).ownBlock) rfl rfl ?aO ?aR (fun _ hk => hk) ?aF ?aB ?aS ?aL ?_; (case aR => exact (by skip; exact Kd.V_F (Kd.V_mono (ok' := (fun k_ => ((fun k_ => (P0_ k_ ∨ w.heap.size ≤ k_))) k_ ∧ some k_ ≠ (v813 : Value).ownBlock)) (HO0.out) (fun k_ hk => ⟨hk.1, hk.2⟩)))); (case aB => exact (qW HB.out)); (case aF => exact (fun k_ hk => (.inr (Nat.le_trans (below_size (qW HB.out)) hk)))); (case aO => exact (by (with_reducible repeat (first | apply Kd.N_alloc | apply Kd.N_drewN | apply Kd.N_drew)); exact HO814.out)); (case aS => exact (below_size (qW HB.out))); (case aL => have := LMc3.out; omega); intro v816 w6 ho hb hg hat; rw [← Ny815.out] at ho; replace HO0 := aM (Kd.V_afterv (ok := (fun k_ => (P0_ k_ ∨ w.heap.size ≤ k_))) (by (with_reducible repeat (first | apply Kd.V_alloc | apply Kd.V_drewN | apply Kd.V_drew)); exact HO0.out) hg hat); replace HB := aM (hb); have HO817 := aM (ho); clear HO814; clear ho hb hg hat)))
 go_loopg [6] k (fun kq v6 w' => ∃ (x5_1 : List (List Int)) (x6_1 : Int), v6 = .int .i64 x6_1 ∧ Aside0 (spec_ordered.l0 kq a1 x5_1 x6_1 = some r) ∧ Aside0 (kq ≤ k) ∧ Aside0 (Kd.N (Kd.slice 3 (Kd.int .i64)) 22 w' w.heap.size (fun k_ => (P0_ k_ ∨ w.heap.size ≤ k_)) v816 x5_1) ∧ Aside0 (Below w.heap.size w w'))
 case atStart => exact ⟨(y815), (1), qE, H', ⟨Nat.le_refl _⟩, ⟨by (with_reducible repeat (first | apply Kd.N_alloc | apply Kd.N_drewN | apply Kd.N_drew)); exact HO817.out⟩, ⟨by exact qW HB.out⟩⟩
 case round =>
  clear H'
  try clear c3
  obtain ⟨x5_1, x6_1, rfl, HA, HK1, HO_5, HB⟩ := hrel
  cases gk with
  | zero => exact absurd HA.out (by simp [spec_ordered.l0])
  | succ k1 =>
   have H := HA.out
   clear HA
   simp only [spec_ordered.l0] at H
   by_cases c7 : x6_1 < (x5_1.length : Int)
   rotate_left
   ·rw [if_neg c7] at H
    have c7b0 : decide (x6_1 < (x5_1.length : Int)) = false := decide_eq_false c7
    clear c7
    obtain rfl := Option.some.inj H
    obtain ⟨Ao25, co25, eo25⟩ := Kd.N_slice HO_5.out
    subst eo25
    go_wp2
    repeat (go_quiet (fail); try go_wp2)
    go_ret
    exact ⟨_, qX, by (with_reducible repeat (first | apply Kd.N_alloc | apply Kd.N_drewN | apply Kd.N_drew)); exact HO_5.out, by exact qW HB.out⟩
   rw [if_pos c7] at H
   have c7b0 : decide (x6_1 < (x5_1.length : Int)) = true := decide_eq_true c7
   clear c7
   have H' := aM H
   clear H
   obtain ⟨Ao8, co8, eo8⟩ := Kd.N_slice HO_5.out
   subst eo8
   go_wp2
   repeat (go_quiet (fail); try go_wp2)
   go_loopg [7] k1 (fun kq v7 w' => ∃ (x5_2 : List (List Int)) (x7_2 : Int), v7 = .int .i64 x7_2 ∧ Aside0 (spec_ordered.l1 kq a1 x5_2 x6_1 x7_2 = some r) ∧ Aside0 (kq ≤ k1) ∧ Aside0 (Kd.N (Kd.slice 3 (Kd.int .i64)) 22 w' w.heap.size (fun k_ => (P0_ k_ ∨ w.heap.size ≤ k_)) (.slice Ao8 x5_1.length co8) x5_2) ∧ Aside0 (Below w.heap.size w w'))
   case atStart => exact ⟨(x5_1), (x6_1), qE, H', ⟨Nat.le_refl _⟩, ⟨by (with_reducible repeat (first | apply Kd.N_alloc | apply Kd.N_drewN | apply Kd.N_drew)); exact HO_5.out⟩, ⟨by exact qW HB.out⟩⟩
   case round =>
    clear H'
    try clear c3
    try clear c7
    try clear c7b0
    obtain ⟨x5_2, x7_2, rfl, HA, HK2, HO_5, HB⟩ := hrel
    have hl5_2 := (Kd.N_reads' HO_5.out).1
    rw [hl5_2] at HO_5
    (try simp only [hl5_2])
    cases gk with
    | zero => exact absurd HA.out (by simp [spec_ordered.l1])
    | succ k2 =>
     have H := HA.out
     clear HA
     simp only [spec_ordered.l1] at H
     by_cases c9 : x7_2 > 0
     rotate_left
     ·rw [if_neg c9] at H
      have c9b0 : decide (0 < x7_2) = false := decide_eq_false c9
      clear c9
      have H' := aM H
      clear H
      go_wp2
      repeat (go_quiet (fail); try go_wp2)
      (try simp only [← hl5_2])
      go_roundg k2
      case measure => have := HK1.out; have := HK2.out; omega
      case rel => exact ⟨(x5_2), (wrap64 (x6_1 + 1)), qE, H', ⟨by have := HK1.out; have := HK2.out; omega⟩, ⟨by (try simp only [hl5_2]); (with_reducible repeat (first | apply Kd.N_alloc | apply Kd.N_drewN | apply Kd.N_drew)); exact HO_5.out⟩, ⟨by exact qW HB.out⟩⟩
     rw [if_pos c9] at H
     have c9b0 : decide (0 < x7_2) = true := decide_eq_true c9
     clear c9
     replace H := iD H
     obtain ⟨c10b0, H⟩ := H
     replace H := iD H
     obtain ⟨c11b0, H⟩ := H
     replace H := iD H
     obtain ⟨c12b0, H⟩ := H
     replace H := iD H
     obtain ⟨c13b0, H⟩ := H
     obtain ⟨ji14, hji14⟩ : ∃ j_ : Int, (wrap64 (x7_2 - 1)) = j_ := ⟨_, rfl⟩
     replace H : (if 0 ≤ (ji14) then (if (ji14) < (x5_2.length : Int) then (if a1 < ((rd_L1 x5_2 (ji14)).length : Int) then (if (rd (rd_L1 x5_2 x7_2) a1) < (rd (rd_L1 x5_2 (ji14)) a1) then (spec_ordered.l1 k2 a1 ((x5_2.set (x7_2 : Int).toNat (rd_L1 x5_2 (ji14))).set ((ji14) : Int).toNat (rd_L1 x5_2 x7_2)) x6_1 ji14) else (spec_ordered.l0 k2 a1 x5_2 (wrap64 (x6_1 + 1)))) else (none)) else (none)) else (none)) = some r := by first | (rw [hji14] at H; exact H) | (simp only [hji14] at H ⊢; exact H)
     have hji14w : (IntKind.i64.wrap (x7_2 - 1)) = ji14 := (i64_w _).trans hji14
     replace H := iD H
     obtain ⟨c15b0, H⟩ := H
     replace H := iD H
     obtain ⟨c16b0, H⟩ := H
     replace H := iD H
     obtain ⟨c17b0, H⟩ := H
     by_cases c18 : (rd (rd_L1 x5_2 x7_2) a1) < (rd (rd_L1 x5_2 (ji14)) a1)
     rotate_left
     ·rw [if_neg c18] at H
      have c18b0 : decide ((rd (rd_L1 x5_2 x7_2) a1) < (rd (rd_L1 x5_2 (ji14)) a1)) = false := decide_eq_false c18
      clear c18
      have H' := aM H
      clear H
      have p818 : 0 ≤ (x7_2 : Int) := oD
      have q818 : x7_2 < (x5_2.length : Int) := oD
      obtain ⟨ad818, A818_0, c818_0, e818, hx818_0, hl818_0, hi818_0⟩ := at_L1 (Kd.N_reads' HO_5.out).2.2 x7_2 p818 q818
      cases e818
      obtain ⟨ce818, hce818, hMe818, hcc818⟩ := Kd.N_get HO_5.out [] x7_2 p818 (by first | exact q818 | exact oD | (have e_ := (Kd.N_reads' HO_5.out).1; omega))
      obtain ⟨ua818_0, uc818_0, rfl, ul818_0, ge818_0⟩ := Kd.FK_slice_open hMe818
      have hv818_0 := hcc818 0 _ rfl
      rw [Nat.add_zero, show ((Kd.slice 3 (Kd.int .i64))).sz = 1 from rfl, Nat.mul_one] at hv818_0
      replace hv818_0 := Option.some.inj (hv818_0.symm.trans hx818_0)
      injection hv818_0 with hva_ hvn_ hvc_
      rw [hva_] at ge818_0
      rw [hvc_] at ul818_0
      have HL818_0 := aM (show Kd.V (Kd.int .i64) 3 _ w.heap.size _ _ (rd_L1 x5_2 x7_2) from Kd.V_mk ul818_0 ge818_0)
      clear hva_ hvn_ hvc_ ge818_0 ul818_0
      clear hcc818 hce818
      have HR818_0 := aM hi818_0
      have HC818_0 := aM hl818_0
      clear hi818_0 hl818_0
      replace p818 := eq_true p818
      replace q818 := eq_true q818
      obtain ⟨ad819, e819, hx819_0⟩ := Kd.at_int (by repeat (first | (with_reducible exact HR818_0.out) | (with_reducible refine Kd.C_alloc ?_ _) | (with_reducible refine Kd.C_drewN ?_ _) | (with_reducible refine Kd.C_drew ?_) | exact HR818_0.out)) a1 oD oD
      cases e819
      have p819 := eq_true (oD : 0 ≤ (a1 : Int))
      have q819 := eq_true (oD : a1 < ((rd_L1 x5_2 x7_2).length : Int))
      have p820 : 0 ≤ ((ji14) : Int) := oD
      have q820 : (ji14) < (x5_2.length : Int) := oD
      obtain ⟨ad820, A820_0, c820_0, e820, hx820_0, hl820_0, hi820_0⟩ := at_L1 (Kd.N_reads' HO_5.out).2.2 (ji14) p820 q820
      obtain rfl : ad818 = ad820 := (by injection e820)
      obtain ⟨ce820, hce820, hMe820, hcc820⟩ := Kd.N_get HO_5.out [] (ji14) p820 (by first | exact q820 | exact oD | (have e_ := (Kd.N_reads' HO_5.out).1; omega))
      obtain ⟨ua820_0, uc820_0, rfl, ul820_0, ge820_0⟩ := Kd.FK_slice_open hMe820
      have hv820_0 := hcc820 0 _ rfl
      rw [Nat.add_zero, show ((Kd.slice 3 (Kd.int .i64))).sz = 1 from rfl, Nat.mul_one] at hv820_0
      replace hv820_0 := Option.some.inj (hv820_0.symm.trans hx820_0)
      injection hv820_0 with hva_ hvn_ hvc_
      rw [hva_] at ge820_0
      rw [hvc_] at ul820_0
      have HL820_0 := aM (show Kd.V (Kd.int .i64) 3 _ w.heap.size _ _ (rd_L1 x5_2 (ji14)) from Kd.V_mk ul820_0 ge820_0)
      clear hva_ hvn_ hvc_ ge820_0 ul820_0
      clear hcc820 hce820
      have HR820_0 := aM hi820_0
      have HC820_0 := aM hl820_0
      clear hi820_0 hl820_0
      replace p820 := eq_true p820
      replace q820 := eq_true q820
      obtain ⟨ad821, e821, hx821_0⟩ := Kd.at_int (by repeat (first | (with_reducible exact HR820_0.out) | (with_reducible refine Kd.C_alloc ?_ _) | (with_reducible refine Kd.C_drewN ?_ _) | (with_reducible refine Kd.C_drew ?_) | exact HR820_0.out)) a1 oD oD
      cases e821
      have p821 := eq_true (oD : 0 ≤ (a1 : Int))
      have q821 := eq_true (oD : a1 < ((rd_L1 x5_2 (ji14)).length : Int))
      go_wp2
      repeat (go_quiet (fail); try go_wp2)
      (try simp only [← hl5_2])
      go_roundg k2
      case measure => have := HK1.out; have := HK2.out; omega
      case rel => exact ⟨(x5_2), (wrap64 (x6_1 + 1)), qE, H', ⟨by have := HK1.out; have := HK2.out; omega⟩, ⟨by (try simp only [hl5_2]); (with_reducible repeat (first | apply Kd.N_alloc | apply Kd.N_drewN | apply Kd.N_drew)); exact HO_5.out⟩, ⟨by exact qW HB.out⟩⟩
     rw [if_pos c18] at H
     have c18b0 : decide ((rd (rd_L1 x5_2 x7_2) a1) < (rd (rd_L1 x5_2 (ji14)) a1)) = true := decide_eq_true c18
     clear c18
     obtain ⟨y824, hy824⟩ : ∃ y_ : List (List Int), y_ = (x5_2.set (x7_2 : Int).toNat (rd_L1 x5_2 (ji14))) := ⟨_, rfl⟩
     replace H : (spec_ordered.l1 k2 a1 (y824.set ((ji14) : Int).toNat (rd_L1 x5_2 x7_2)) x6_1 ji14) = some r := rY hy824 H
     have Ny824 := aM hy824
     clear hy824
     obtain ⟨y825, hy825⟩ : ∃ y_ : List (List Int), y_ = (y824.set ((ji14) : Int).toNat (rd_L1 x5_2 x7_2)) := ⟨_, rfl⟩
     replace H : (spec_ordered.l1 k2 a1 y825 x6_1 ji14) = some r := rY hy825 H
     have Ny825 := aM hy825
     clear hy825
     have H' := aM H
     clear H
     have p818 : 0 ≤ (x7_2 : Int) := oD
     have q818 : x7_2 < (x5_2.length : Int) := oD
     obtain ⟨ad818, A818_0, c818_0, e818, hx818_0, hl818_0, hi818_0⟩ := at_L1 (Kd.N_reads' HO_5.out).2.2 x7_2 p818 q818
     cases e818
     obtain ⟨ce818, hce818, hMe818, hcc818⟩ := Kd.N_get HO_5.out [] x7_2 p818 (by first | exact q818 | exact oD | (have e_ := (Kd.N_reads' HO_5.out).1; omega))
     obtain ⟨ua818_0, uc818_0, rfl, ul818_0, ge818_0⟩ := Kd.FK_slice_open hMe818
     have hv818_0 := hcc818 0 _ rfl
     rw [Nat.add_zero, show ((Kd.slice 3 (Kd.int .i64))).sz = 1 from rfl, Nat.mul_one] at hv818_0
     replace hv818_0 := Option.some.inj (hv818_0.symm.trans hx818_0)
     injection hv818_0 with hva_ hvn_ hvc_
     rw [hva_] at ge818_0
     rw [hvc_] at ul818_0
     have HL818_0 := aM (show Kd.V (Kd.int .i64) 3 _ w.heap.size _ _ (rd_L1 x5_2 x7_2) from Kd.V_mk ul818_0 ge818_0)
     clear hva_ hvn_ hvc_ ge818_0 ul818_0
     clear hcc818 hce818
     have HR818_0 := aM hi818_0
     have HC818_0 := aM hl818_0
     clear hi818_0 hl818_0
     replace p818 := eq_true p818
     replace q818 := eq_true q818
     obtain ⟨ad819, e819, hx819_0⟩ := Kd.at_int (by repeat (first | (with_reducible exact HR818_0.out) | (with_reducible refine Kd.C_alloc ?_ _) | (with_reducible refine Kd.C_drewN ?_ _) | (with_reducible refine Kd.C_drew ?_) | exact HR818_0.out)) a1 oD oD
     cases e819
     have p819 := eq_true (oD : 0 ≤ (a1 : Int))
     have q819 := eq_true (oD : a1 < ((rd_L1 x5_2 x7_2).length : Int))
     have p820 : 0 ≤ ((ji14) : Int) := oD
     have q820 : (ji14) < (x5_2.length : Int) := oD
     obtain ⟨ad820, A820_0, c820_0, e820, hx820_0, hl820_0, hi820_0⟩ := at_L1 (Kd.N_reads' HO_5.out).2.2 (ji14) p820 q820
     obtain rfl : ad818 = ad820 := (by injection e820)
     obtain ⟨ce820, hce820, hMe820, hcc820⟩ := Kd.N_get HO_5.out [] (ji14) p820 (by first | exact q820 | exact oD | (have e_ := (Kd.N_reads' HO_5.out).1; omega))
     obtain ⟨ua820_0, uc820_0, rfl, ul820_0, ge820_0⟩ := Kd.FK_slice_open hMe820
     have hv820_0 := hcc820 0 _ rfl
     rw [Nat.add_zero, show ((Kd.slice 3 (Kd.int .i64))).sz = 1 from rfl, Nat.mul_one] at hv820_0
     replace hv820_0 := Option.some.inj (hv820_0.symm.trans hx820_0)
     injection hv820_0 with hva_ hvn_ hvc_
     rw [hva_] at ge820_0
     rw [hvc_] at ul820_0
     have HL820_0 := aM (show Kd.V (Kd.int .i64) 3 _ w.heap.size _ _ (rd_L1 x5_2 (ji14)) from Kd.V_mk ul820_0 ge820_0)
     clear hva_ hvn_ hvc_ ge820_0 ul820_0
     clear hcc820 hce820
     have HR820_0 := aM hi820_0
     have HC820_0 := aM hl820_0
     clear hi820_0 hl820_0
     replace p820 := eq_true p820
     replace q820 := eq_true q820
     obtain ⟨ad821, e821, hx821_0⟩ := Kd.at_int (by repeat (first | (with_reducible exact HR820_0.out) | (with_reducible refine Kd.C_alloc ?_ _) | (with_reducible refine Kd.C_drewN ?_ _) | (with_reducible refine Kd.C_drew ?_) | exact HR820_0.out)) a1 oD oD
     cases e821
     have p821 := eq_true (oD : 0 ≤ (a1 : Int))
     have q821 := eq_true (oD : a1 < ((rd_L1 x5_2 (ji14)).length : Int))
     have p822 : 0 ≤ (x7_2 : Int) := oD
     have q822 : x7_2 < (x5_2.length : Int) := oD
     obtain ⟨ad822, A822_0, c822_0, e822, hx822_0, hl822_0, hi822_0⟩ := at_L1 (Kd.N_reads' HO_5.out).2.2 x7_2 p822 q822
     obtain rfl : ad818 = ad822 := (by injection e822)
     obtain ⟨ce822, hce822, hMe822, hcc822⟩ := Kd.N_get HO_5.out [] x7_2 p822 (by first | exact q822 | exact oD | (have e_ := (Kd.N_reads' HO_5.out).1; omega))
     obtain ⟨ua822_0, uc822_0, rfl, ul822_0, ge822_0⟩ := Kd.FK_slice_open hMe822
     have hv822_0 := hcc822 0 _ rfl
     rw [Nat.add_zero, show ((Kd.slice 3 (Kd.int .i64))).sz = 1 from rfl, Nat.mul_one] at hv822_0
     replace hv822_0 := Option.some.inj (hv822_0.symm.trans hx822_0)
     injection hv822_0 with hva_ hvn_ hvc_
     rw [hva_] at ge822_0
     rw [hvc_] at ul822_0
     have HL822_0 := aM (show Kd.V (Kd.int .i64) 3 _ w.heap.size _ _ (rd_L1 x5_2 x7_2) from Kd.V_mk ul822_0 ge822_0)
     clear hva_ hvn_ hvc_ ge822_0 ul822_0
     clear hcc822 hce822
     have HR822_0 := aM hi822_0
     have HC822_0 := aM hl822_0
     clear hi822_0 hl822_0
     replace p822 := eq_true p822
     replace q822 := eq_true q822
     have ea_ := Option.some.inj (hx818_0.symm.trans hx822_0)
     injection ea_ with ea_ en_ ec_
     subst ea_
     subst ec_
     clear en_
     have p823 : 0 ≤ ((ji14) : Int) := oD
     have q823 : (ji14) < (x5_2.length : Int) := oD
     obtain ⟨ad823, A823_0, c823_0, e823, hx823_0, hl823_0, hi823_0⟩ := at_L1 (Kd.N_reads' HO_5.out).2.2 (ji14) p823 q823
     obtain rfl : ad818 = ad823 := (by injection e823)
     obtain ⟨ce823, hce823, hMe823, hcc823⟩ := Kd.N_get HO_5.out [] (ji14) p823 (by first | exact q823 | exact oD | (have e_ := (Kd.N_reads' HO_5.out).1; omega))
     obtain ⟨ua823_0, uc823_0, rfl, ul823_0, ge823_0⟩ := Kd.FK_slice_open hMe823
     have hv823_0 := hcc823 0 _ rfl
     rw [Nat.add_zero, show ((Kd.slice 3 (Kd.int .i64))).sz = 1 from rfl, Nat.mul_one] at hv823_0
     replace hv823_0 := Option.some.inj (hv823_0.symm.trans hx823_0)
     injection hv823_0 with hva_ hvn_ hvc_
     rw [hva_] at ge823_0
     rw [hvc_] at ul823_0
     have HL823_0 := aM (show Kd.V (Kd.int .i64) 3 _ w.heap.size _ _ (rd_L1 x5_2 (ji14)) from Kd.V_mk ul823_0 ge823_0)
     clear hva_ hvn_ hvc_ ge823_0 ul823_0
     clear hcc823 hce823
     have HR823_0 := aM hi823_0
     have HC823_0 := aM hl823_0
     clear hi823_0 hl823_0
     replace p823 := eq_true p823
     replace q823 := eq_true q823
     have ea_ := Option.some.inj (hx820_0.symm.trans hx823_0)
     injection ea_ with ea_ en_ ec_
     subst ea_
     subst ec_
     clear en_
     have p19 : 0 ≤ (x7_2 : Int) := oD
     have q19 : (x7_2 : Int) < ((x5_2.length : Int) : Int) := oD
     obtain ⟨go19, co19, eo19, gb19, gl19, cl19, HG19⟩ := Kd.N_form HO_5.out (by omega)
     (first | cases eo19 | (injection eo19 with ea_ en_ ec_; (first | subst ea_ | (injection ea_ with ea_; subst ea_)); subst ec_; clear en_))
     have GB19 := aM gb19
     have GG19 := aM HG19
     clear gb19 gl19 HG19
     (first | simp only [add_plain] at hx818_0 | skip)
     (first | simp only [add_plain] at hx820_0 | skip)
     (first | simp only [add_plain] at hx822_0 | skip)
     (first | simp only [add_plain] at hx823_0 | skip)
     obtain ⟨ce19, hcl19, hM19, hcc19, hfr19⟩ := Kd.N_elem HO_5.out [] (x7_2 : Int) p19 q19
     obtain ⟨ua19_0, uc19_0, rfl, ul19_0, ge19_0⟩ := Kd.FK_slice_open hM19
     have hx19_0 := hcc19 0 _ rfl
     have hf19_0 := hfr19 0
     (try simp only [show ((Kd.slice 3 (Kd.int .i64))).sz = 1 from rfl, Nat.mul_one, Nat.add_zero] at hx19_0)
     (try simp only [show ((Kd.slice 3 (Kd.int .i64))).sz = 1 from rfl, Nat.mul_one, Nat.add_zero] at hf19_0)
     (try clear hcl19); (try clear hcc19); (try clear hfr19); (try clear hM19)
     replace p19 := eq_true p19
     replace q19 := eq_true q19
     have HX21 := aM (show Kd.N (Kd.slice 3 (Kd.int .i64)) 22 wr w.heap.size (fun k_ => (P0_ k_ ∨ w.heap.size ≤ k_)) (.slice (some ⟨go19, 0, none⟩) x5_2.length co8) x5_2 from (by (with_reducible repeat (first | apply Kd.N_alloc | apply Kd.N_drewN | apply Kd.N_drew)); exact HO_5.out))
     obtain ⟨ce21, hcl21, hM21, hcc21, hfr21⟩ := Kd.N_elem HX21.out [] (x7_2 : Int) oD (by have h_ : (x7_2 : Int) < ((x5_2.length : Int) : Int) := oD; first | exact h_ | (have e_ := (Kd.N_reads' HO_5.out).1; omega) | simpa using h_)
     obtain ⟨ua21_0, uc21_0, rfl, ul21_0, ge21_0⟩ := Kd.FK_slice_open hM21
     have HP21 := Kd.N_seg HX21.out (x7_2 : Int) oD (by have h_ : (x7_2 : Int) < ((x5_2.length : Int) : Int) := oD; first | exact h_ | (have e_ := (Kd.N_reads' HO_5.out).1; omega) | simpa using h_) (seg := [.slice (some ad821) (rd_L1 x5_2 (ji14)).length c820_0]) (j := 0) hcl21 hcc21 (show 1 ≤ 1 from by decide) (x' := rd_L1 x5_2 (ji14)) (Kd.FK_slice_mk (Kd.V_reads' (Kd.V_mono (ok' := (fun k_ => ((fun k_ => (P0_ k_ ∨ w.heap.size ≤ k_))) k_ ∧ k_ ≠ go19)) (HL823_0.out) (fun k_ hk => ⟨hk.1, fun e_ => (hk.2) (by rw [e_]; rfl)⟩))).2.1 (Kd.V_F (Kd.V_mono (ok' := (fun k_ => ((fun k_ => (P0_ k_ ∨ w.heap.size ≤ k_))) k_ ∧ k_ ≠ go19)) (HL823_0.out) (fun k_ hk => ⟨hk.1, fun e_ => (hk.2) (by rw [e_]; rfl)⟩)))) (fun _ hk => hk)
     have hx21_0 := hcc21 0 _ rfl
     (try simp only [show ((Kd.slice 3 (Kd.int .i64))).sz = 1 from rfl, Nat.mul_one, Nat.add_zero] at hx21_0)
     have hf21_0 := hfr21 0
     (try simp only [show ((Kd.slice 3 (Kd.int .i64))).sz = 1 from rfl, Nat.mul_one, Nat.add_zero] at hf21_0)
     (try clear hcl21); (try clear hcc21); (try clear hfr21); (try clear hM21)
     (try simp only [show ((Kd.slice 3 (Kd.int .i64))).sz = 1 from rfl, Nat.mul_one, Nat.add_zero] at HP21)
     (try simp only [show ((Kd.slice 3 (Kd.int .i64))).sz = 1 from rfl, Nat.mul_one, Nat.add_zero] at HP21)
     go_wp2_with (first | ((with_reducible refine gate_store (t := 22) (p := 52) rfl ?_); (try (rw [drewN_self wr]; generalize hq_ : World.drewN wr _ = wr; replace HO_5 := aM (Kd.N_at hq_ HO_5.out); replace HL818_0 := aM (Eq.subst (motive := fun z_ => Kd.V _ _ z_ _ _ _ _) hq_ (Kd.V_drewN HL818_0.out _)); replace HL820_0 := aM (Eq.subst (motive := fun z_ => Kd.V _ _ z_ _ _ _ _) hq_ (Kd.V_drewN HL820_0.out _)); replace HL822_0 := aM (Eq.subst (motive := fun z_ => Kd.V _ _ z_ _ _ _ _) hq_ (Kd.V_drewN HL822_0.out _)); replace HL823_0 := aM (Eq.subst (motive := fun z_ => Kd.V _ _ z_ _ _ _ _) hq_ (Kd.V_drewN HL823_0.out _)); replace HB := aM (below_at hq_ HB.out); clear hq_; (try (have HX21 := aM (show Kd.N (Kd.slice 3 (Kd.int .i64)) 22 wr w.heap.size (fun k_ => (P0_ k_ ∨ w.heap.size ≤ k_)) (.slice (some ⟨go19, 0, none⟩) x5_2.length co8) x5_2 from (by (with_reducible repeat (first | apply Kd.N_alloc | apply Kd.N_drewN | apply Kd.N_drew)); exact HO_5.out)))); (try (obtain ⟨ce21, hcl21, hM21, hcc21, hfr21⟩ := Kd.N_elem HX21.out [] (x7_2 : Int) oD (by have h_ : (x7_2 : Int) < ((x5_2.length : Int) : Int) := oD; first | exact h_ | (have e_ := (Kd.N_reads' HO_5.out).1; omega) | simpa using h_))); (try (obtain ⟨ua21_0, uc21_0, rfl, ul21_0, ge21_0⟩ := Kd.FK_slice_open hM21)); (try (have HP21 := Kd.N_seg HX21.out (x7_2 : Int) oD (by have h_ : (x7_2 : Int) < ((x5_2.length : Int) : Int) := oD; first | exact h_ | (have e_ := (Kd.N_reads' HO_5.out).1; omega) | simpa using h_) (seg := [.slice (some ad821) (rd_L1 x5_2 (ji14)).length c820_0]) (j := 0) hcl21 hcc21 (show 1 ≤ 1 from by decide) (x' := rd_L1 x5_2 (ji14)) (Kd.FK_slice_mk (Kd.V_reads' (Kd.V_mono (ok' := (fun k_ => ((fun k_ => (P0_ k_ ∨ w.heap.size ≤ k_))) k_ ∧ k_ ≠ go19)) (HL823_0.out) (fun k_ hk => ⟨hk.1, fun e_ => (hk.2) (by rw [e_]; rfl)⟩))).2.1 (Kd.V_F (Kd.V_mono (ok' := (fun k_ => ((fun k_ => (P0_ k_ ∨ w.heap.size ≤ k_))) k_ ∧ k_ ≠ go19)) (HL823_0.out) (fun k_ hk => ⟨hk.1, fun e_ => (hk.2) (by rw [e_]; rfl)⟩)))) (fun _ hk => hk))); (try (have hx21_0 := hcc21 0 _ rfl)); (try (try simp only [show ((Kd.slice 3 (Kd.int .i64))).sz = 1 from rfl, Nat.mul_one, Nat.add_zero] at hx21_0)); (try (have hf21_0 := hfr21 0)); (try (try simp only [show ((Kd.slice 3 (Kd.int .i64))).sz = 1 from rfl, Nat.mul_one, Nat.add_zero] at hf21_0)); (try (try clear hcl21); (try clear hcc21); (try clear hfr21); (try clear hM21)); (try (try simp only [show ((Kd.slice 3 (Kd.int .i64))).sz = 1 from rfl, Nat.mul_one, Nat.add_zero] at HP21)); (try (try simp only [show ((Kd.slice 3 (Kd.int .i64))).sz = 1 from rfl, Nat.mul_one, Nat.add_zero] at HP21)))); refine store_event (t := 22) (p := 52) (v := ?vo_w22) (w1 := (wr.setCell ⟨go19, (x7_2 : Int).toNat, none⟩ (.slice (some ad821) (rd_L1 x5_2 (ji14)).length c820_0))) ?hg ?ho ?hn ?hr ?_; (case ho => rfl); (case hg => rfl); (case hn => rfl); (case hr => first | (go_simp; done) | (go_simp; rfl)); intro w22 hw; have hg : wr.grownBy w22 (some go19) := (by rw [hw]; exact HP21.2); have hp_ : Kd.N (Kd.slice 3 (Kd.int .i64)) 22 w22 w.heap.size (fun k_ => (P0_ k_ ∨ w.heap.size ≤ k_)) (.slice (some ⟨go19, 0, none⟩) x5_2.length co8) y824 := (by rw [hw, Ny824.out]; exact HP21.1); clear HP21; replace HO_5 := aM (hp_); replace HL818_0 := aM (Kd.V_afterv (v := (.slice (some ⟨go19, 0, none⟩) x5_2.length co8)) (v1 := (.slice (some ⟨go19, 0, none⟩) x5_2.length co8)) (ok := (fun k_ => (P0_ k_ ∨ w.heap.size ≤ k_))) (by (with_reducible repeat (first | apply Kd.V_alloc | apply Kd.V_drewN | apply Kd.V_drew)); exact HL818_0.out) hg (.inl rfl)); replace HL820_0 := aM (Kd.V_afterv (v := (.slice (some ⟨go19, 0, none⟩) x5_2.length co8)) (v1 := (.slice (some ⟨go19, 0, none⟩) x5_2.length co8)) (ok := (fun k_ => (P0_ k_ ∨ w.heap.size ≤ k_))) (by (with_reducible repeat (first | apply Kd.V_alloc | apply Kd.V_drewN | apply Kd.V_drew)); exact HL820_0.out) hg (.inl rfl)); replace HL822_0 := aM (Kd.V_afterv (v := (.slice (some ⟨go19, 0, none⟩) x5_2.length co8)) (v1 := (.slice (some ⟨go19, 0, none⟩) x5_2.length co8)) (ok := (fun k_ => (P0_ k_ ∨ w.heap.size ≤ k_))) (by (with_reducible repeat (first | apply Kd.V_alloc | apply Kd.V_drewN | apply Kd.V_drew)); exact HL822_0.out) hg (.inl rfl)); replace HL823_0 := aM (Kd.V_afterv (v := (.slice (some ⟨go19, 0, none⟩) x5_2.length co8)) (v1 := (.slice (some ⟨go19, 0, none⟩) x5_2.length co8)) (ok := (fun k_ => (P0_ k_ ∨ w.heap.size ≤ k_))) (by (with_reducible repeat (first | apply Kd.V_alloc | apply Kd.V_drewN | apply Kd.V_drew)); exact HL823_0.out) hg (.inl rfl)); replace HB := aM ((by rw [hw]; exact below_set (HB.out) GB19.out : Below w.heap.size w w22)); clear hg hw hp_; have p20 : 0 ≤ ((ji14) : Int) := oD; have q20 : ((ji14) : Int) < ((x5_2.length : Int) : Int) := oD; obtain ⟨ce20, hcl20, hM20, hcc20, hfr20⟩ := Kd.N_elem HO_5.out [] ((ji14) : Int) p20 q20; obtain ⟨ua20_0, uc20_0, rfl, ul20_0, ge20_0⟩ := Kd.FK_slice_open hM20; have hx20_0 := hcc20 0 _ rfl; have hf20_0 := hfr20 0; (try simp only [show ((Kd.slice 3 (Kd.int .i64))).sz = 1 from rfl, Nat.mul_one, Nat.add_zero] at hx20_0); (try simp only [show ((Kd.slice 3 (Kd.int .i64))).sz = 1 from rfl, Nat.mul_one, Nat.add_zero] at hf20_0); (try clear hcl20); (try clear hcc20); (try clear hfr20); (try clear hM20); replace p20 := eq_true p20; replace q20 := eq_true q20; have HX23 := aM (show Kd.N (Kd.slice 3 (Kd.int .i64)) 22 w22 w.heap.size (fun k_ => (P0_ k_ ∨ w.heap.size ≤ k_)) (.slice (some ⟨go19, 0, none⟩) x5_2.length co8) y824 from (by (with_reducible repeat (first | apply Kd.N_alloc | apply Kd.N_drewN | apply Kd.N_drew)); exact HO_5.out)); obtain ⟨ce23, hcl23, hM23, hcc23, hfr23⟩ := Kd.N_elem HX23.out [] ((ji14) : Int) oD (by have h_ : ((ji14) : Int) < ((x5_2.length : Int) : Int) := oD; first | exact h_ | (have e_ := (Kd.N_reads' HO_5.out).1; omega) | simpa using h_); obtain ⟨ua23_0, uc23_0, rfl, ul23_0, ge23_0⟩ := Kd.FK_slice_open hM23; have HP23 := Kd.N_seg HX23.out ((ji14) : Int) oD (by have h_ : ((ji14) : Int) < ((x5_2.length : Int) : Int) := oD; first | exact h_ | (have e_ := (Kd.N_reads' HO_5.out).1; omega) | simpa using h_) (seg := [.slice (some ad819) (rd_L1 x5_2 x7_2).length c818_0]) (j := 0) hcl23 hcc23 (show 1 ≤ 1 from by decide) (x' := rd_L1 x5_2 x7_2) (Kd.FK_slice_mk (Kd.V_reads' (Kd.V_mono (ok' := (fun k_ => ((fun k_ => (P0_ k_ ∨ w.heap.size ≤ k_))) k_ ∧ k_ ≠ go19)) (HL822_0.out) (fun k_ hk => ⟨hk.1, fun e_ => (hk.2) (by rw [e_]; rfl)⟩))).2.1 (Kd.V_F (Kd.V_mono (ok' := (fun k_ => ((fun k_ => (P0_ k_ ∨ w.heap.size ≤ k_))) k_ ∧ k_ ≠ go19)) (HL822_0.out) (fun k_ hk => ⟨hk.1, fun e_ => (hk.2) (by rw [e_]; rfl)⟩)))) (fun _ hk => hk); have hx23_0 := hcc23 0 _ rfl; (try simp only [show ((Kd.slice 3 (Kd.int .i64))).sz = 1 from rfl, Nat.mul_one, Nat.add_zero] at hx23_0); have hf23_0 := hfr23 0; (try simp only [show ((Kd.slice 3 (Kd.int .i64))).sz = 1 from rfl, Nat.mul_one, Nat.add_zero] at hf23_0); (try clear hcl23); (try clear hcc23); (try clear hfr23); (try clear hM23); (try simp only [show ((Kd.slice 3 (Kd.int .i64))).sz = 1 from rfl, Nat.mul_one, Nat.add_zero] at HP23); (try simp only [show ((Kd.slice 3 (Kd.int .i64))).sz = 1 from rfl, Nat.mul_one, Nat.add_zero] at HP23)) | ((with_reducible refine gate_store (t := 22) (p := 57) rfl ?_); (try (rw [drewN_self w22]; generalize hq_ : World.drewN w22 _ = w22; replace HO_5 := aM (Kd.N_at hq_ HO_5.out); replace HL818_0 := aM (Eq.subst (motive := fun z_ => Kd.V _ _ z_ _ _ _ _) hq_ (Kd.V_drewN HL818_0.out _)); replace HL820_0 := aM (Eq.subst (motive := fun z_ => Kd.V _ _ z_ _ _ _ _) hq_ (Kd.V_drewN HL820_0.out _)); replace HL822_0 := aM (Eq.subst (motive := fun z_ => Kd.V _ _ z_ _ _ _ _) hq_ (Kd.V_drewN HL822_0.out _)); replace HL823_0 := aM (Eq.subst (motive := fun z_ => Kd.V _ _ z_ _ _ _ _) hq_ (Kd.V_drewN HL823_0.out _)); replace HB := aM (below_at hq_ HB.out); clear hq_; (try (have HX23 := aM (show Kd.N (Kd.slice 3 (Kd.int .i64)) 22 w22 w.heap.size (fun k_ => (P0_ k_ ∨ w.heap.size ≤ k_)) (.slice (some ⟨go19, 0, none⟩) x5_2.length co8) y824 from (by (with_reducible repeat (first | apply Kd.N_alloc | apply Kd.N_drewN | apply Kd.N_drew)); exact HO_5.out)))); (try (obtain ⟨ce23, hcl23, hM23, hcc23, hfr23⟩ := Kd.N_elem HX23.out [] ((ji14) : Int) oD (by have h_ : ((ji14) : Int) < ((x5_2.length : Int) : Int) := oD; first | exact h_ | (have e_ := (Kd.N_reads' HO_5.out).1; omega) | simpa using h_))); (try (obtain ⟨ua23_0, uc23_0, rfl, ul23_0, ge23_0⟩ := Kd.FK_slice_open hM23)); (try (have HP23 := Kd.N_seg HX23.out ((ji14) : Int) oD (by have h_ : ((ji14) : Int) < ((x5_2.length : Int) : Int) := oD; first | exact h_ | (have e_ := (Kd.N_reads' HO_5.out).1; omega) | simpa using h_) (seg := [.slice (some ad819) (rd_L1 x5_2 x7_2).length c818_0]) (j := 0) hcl23 hcc23 (show 1 ≤ 1 from by decide) (x' := rd_L1 x5_2 x7_2) (Kd.FK_slice_mk (Kd.V_reads' (Kd.V_mono (ok' := (fun k_ => ((fun k_ => (P0_ k_ ∨ w.heap.size ≤ k_))) k_ ∧ k_ ≠ go19)) (HL822_0.out) (fun k_ hk => ⟨hk.1, fun e_ => (hk.2) (by rw [e_]; rfl)⟩))).2.1 (Kd.V_F (Kd.V_mono (ok' := (fun k_ => ((fun k_ => (P0_ k_ ∨ w.heap.size ≤ k_))) k_ ∧ k_ ≠ go19)) (HL822_0.out) (fun k_ hk => ⟨hk.1, fun e_ => (hk.2) (by rw [e_]; rfl)⟩)))) (fun _ hk => hk))); (try (have hx23_0 := hcc23 0 _ rfl)); (try (try simp only [show ((Kd.slice 3 (Kd.int .i64))).sz = 1 from rfl, Nat.mul_one, Nat.add_zero] at hx23_0)); (try (have hf23_0 := hfr23 0)); (try (try simp only [show ((Kd.slice 3 (Kd.int .i64))).sz = 1 from rfl, Nat.mul_one, Nat.add_zero] at hf23_0)); (try (try clear hcl23); (try clear hcc23); (try clear hfr23); (try clear hM23)); (try (try simp only [show ((Kd.slice 3 (Kd.int .i64))).sz = 1 from rfl, Nat.mul_one, Nat.add_zero] at HP23)); (try (try simp only [show ((Kd.slice 3 (Kd.int .i64))).sz = 1 from rfl, Nat.mul_one, Nat.add_zero] at HP23)))); refine store_event (t := 22) (p := 57) (v := ?vo_w24) (w1 := (w22.setCell ⟨go19, ((ji14) : Int).toNat, none⟩ (.slice (some ad819) (rd_L1 x5_2 x7_2).length c818_0))) ?hg ?ho ?hn ?hr ?_; (case ho => rfl); (case hg => rfl); (case hn => rfl); (case hr => first | (go_simp; done) | (go_simp; rfl)); intro w24 hw; have hg : w22.grownBy w24 (some go19) := (by rw [hw]; exact HP23.2); have hp_ : Kd.N (Kd.slice 3 (Kd.int .i64)) 22 w24 w.heap.size (fun k_ => (P0_ k_ ∨ w.heap.size ≤ k_)) (.slice (some ⟨go19, 0, none⟩) x5_2.length co8) y825 := (by rw [hw, Ny825.out]; exact HP23.1); clear HP23; replace HO_5 := aM (hp_); replace HL818_0 := aM (Kd.V_afterv (v := (.slice (some ⟨go19, 0, none⟩) x5_2.length co8)) (v1 := (.slice (some ⟨go19, 0, none⟩) x5_2.length co8)) (ok := (fun k_ => (P0_ k_ ∨ w.heap.size ≤ k_))) (by (with_reducible repeat (first | apply Kd.V_alloc | apply Kd.V_drewN | apply Kd.V_drew)); exact HL818_0.out) hg (.inl rfl)); replace HL820_0 := aM (Kd.V_afterv (v := (.slice (some ⟨go19, 0, none⟩) x5_2.length co8)) (v1 := (.slice (some ⟨go19, 0, none⟩) x5_2.length co8)) (ok := (fun k_ => (P0_ k_ ∨ w.heap.size ≤ k_))) (by (with_reducible repeat (first | apply Kd.V_alloc | apply Kd.V_drewN | apply Kd.V_drew)); exact HL820_0.out) hg (.inl rfl)); replace HL822_0 := aM (Kd.V_afterv (v := (.slice (some ⟨go19, 0, none⟩) x5_2.length co8)) (v1 := (.slice (some ⟨go19, 0, none⟩) x5_2.length co8)) (ok := (fun k_ => (P0_ k_ ∨ w.heap.size ≤ k_))) (by (with_reducible repeat (first | apply Kd.V_alloc | apply Kd.V_drewN | apply Kd.V_drew)); exact HL822_0.out) hg (.inl rfl)); replace HL823_0 := aM (Kd.V_afterv (v := (.slice (some ⟨go19, 0, none⟩) x5_2.length co8)) (v1 := (.slice (some ⟨go19, 0, none⟩) x5_2.length co8)) (ok := (fun k_ => (P0_ k_ ∨ w.heap.size ≤ k_))) (by (with_reducible repeat (first | apply Kd.V_alloc | apply Kd.V_drewN | apply Kd.V_drew)); exact HL823_0.out) hg (.inl rfl)); replace HB := aM ((by rw [hw]; exact below_set (HB.out) GB19.out : Below w.heap.size w w24)); clear hg hw hp_))
     repeat (go_quiet (first | ((with_reducible refine gate_store (t := 22) (p := 52) rfl ?_); (try (rw [drewN_self wr]; generalize hq_ : World.drewN wr _ = wr; replace HO_5 := aM (Kd.N_at hq_ HO_5.out); replace HL818_0 := aM (Eq.subst (motive := fun z_ => Kd.V _ _ z_ _ _ _ _) hq_ (Kd.V_drewN HL818_0.out _)); replace HL820_0 := aM (Eq.subst (motive := fun z_ => Kd.V _ _ z_ _ _ _ _) hq_ (Kd.V_drewN HL820_0.out _)); replace HL822_0 := aM (Eq.subst (motive := fun z_ => Kd.V _ _ z_ _ _ _ _) hq_ (Kd.V_drewN HL822_0.out _)); replace HL823_0 := aM (Eq.subst (motive := fun z_ => Kd.V _ _ z_ _ _ _ _) hq_ (Kd.V_drewN HL823_0.out _)); replace HB := aM (below_at hq_ HB.out); clear hq_; (try (have HX21 := aM (show Kd.N (Kd.slice 3 (Kd.int .i64)) 22 wr w.heap.size (fun k_ => (P0_ k_ ∨ w.heap.size ≤ k_)) (.slice (some ⟨go19, 0, none⟩) x5_2.length co8) x5_2 from (by (with_reducible repeat (first | apply Kd.N_alloc | apply Kd.N_drewN | apply Kd.N_drew)); exact HO_5.out)))); (try (obtain ⟨ce21, hcl21, hM21, hcc21, hfr21⟩ := Kd.N_elem HX21.out [] (x7_2 : Int) oD (by have h_ : (x7_2 : Int) < ((x5_2.length : Int) : Int) := oD; first | exact h_ | (have e_ := (Kd.N_reads' HO_5.out).1; omega) | simpa using h_))); (try (obtain ⟨ua21_0, uc21_0, rfl, ul21_0, ge21_0⟩ := Kd.FK_slice_open hM21)); (try (have HP21 := Kd.N_seg HX21.out (x7_2 : Int) oD (by have h_ : (x7_2 : Int) < ((x5_2.length : Int) : Int) := oD; first | exact h_ | (have e_ := (Kd.N_reads' HO_5.out).1; omega) | simpa using h_) (seg := [.slice (some ad821) (rd_L1 x5_2 (ji14)).length c820_0]) (j := 0) hcl21 hcc21 (show 1 ≤ 1 from by decide) (x' := rd_L1 x5_2 (ji14)) (Kd.FK_slice_mk (Kd.V_reads' (Kd.V_mono (ok' := (fun k_ => ((fun k_ => (P0_ k_ ∨ w.heap.size ≤ k_))) k_ ∧ k_ ≠ go19)) (HL823_0.out) (fun k_ hk => ⟨hk.1, fun e_ => (hk.2) (by rw [e_]; rfl)⟩))).2.1 (Kd.V_F (Kd.V_mono (ok' := (fun k_ => ((fun k_ => (P0_ k_ ∨ w.heap.size ≤ k_))) k_ ∧ k_ ≠ go19)) (HL823_0.out) (fun k_ hk => ⟨hk.1, fun e_ => (hk.2) (by rw [e_]; rfl)⟩)))) (fun _ hk => hk))); (try (have hx21_0 := hcc21 0 _ rfl)); (try (try simp only [show ((Kd.slice 3 (Kd.int .i64))).sz = 1 from rfl, Nat.mul_one, Nat.add_zero] at hx21_0)); (try (have hf21_0 := hfr21 0)); (try (try simp only [show ((Kd.slice 3 (Kd.int .i64))).sz = 1 from rfl, Nat.mul_one, Nat.add_zero] at hf21_0)); (try (try clear hcl21); (try clear hcc21); (try clear hfr21); (try clear hM21)); (try (try simp only [show ((Kd.slice 3 (Kd.int .i64))).sz = 1 from rfl, Nat.mul_one, Nat.add_zero] at HP21)); (try (try simp only [show ((Kd.slice 3 (Kd.int .i64))).sz = 1 from rfl, Nat.mul_one, Nat.add_zero] at HP21)))); refine store_event (t := 22) (p := 52) (v := ?vo_w22) (w1 := (wr.setCell ⟨go19, (x7_2 : Int).toNat, none⟩ (.slice (some ad821) (rd_L1 x5_2 (ji14)).length c820_0))) ?hg ?ho ?hn ?hr ?_; (case ho => rfl); (case hg => rfl); (case hn => rfl); (case hr => first | (go_simp; done) | (go_simp; rfl)); intro w22 hw; have hg : wr.grownBy w22 (some go19) := (by rw [hw]; exact HP21.2); have hp_ : Kd.N (Kd.slice 3 (Kd.int .i64)) 22 w22 w.heap.size (fun k_ => (P0_ k_ ∨ w.heap.size ≤ k_)) (.slice (some ⟨go19, 0, none⟩) x5_2.length co8) y824 := (by rw [hw, Ny824.out]; exact HP21.1); clear HP21; replace HO_5 := aM (hp_); replace HL818_0 := aM (Kd.V_afterv (v := (.slice (some ⟨go19, 0, none⟩) x5_2.length co8)) (v1 := (.slice (some ⟨go19, 0, none⟩) x5_2.length co8)) (ok := (fun k_ => (P0_ k_ ∨ w.heap.size ≤ k_))) (by (with_reducible repeat (first | apply Kd.V_alloc | apply Kd.V_drewN | apply Kd.V_drew)); exact HL818_0.out) hg (.inl rfl)); replace HL820_0 := aM (Kd.V_afterv (v := (.slice (some ⟨go19, 0, none⟩) x5_2.length co8)) (v1 := (.slice (some ⟨go19, 0, none⟩) x5_2.length co8)) (ok := (fun k_ => (P0_ k_ ∨ w.heap.size ≤ k_))) (by (with_reducible repeat (first | apply Kd.V_alloc | apply Kd.V_drewN | apply Kd.V_drew)); exact HL820_0.out) hg (.inl rfl)); replace HL822_0 := aM (Kd.V_afterv (v := (.slice (some ⟨go19, 0, none⟩) x5_2.length co8)) (v1 := (.slice (some ⟨go19, 0, none⟩) x5_2.length co8)) (ok := (fun k_ => (P0_ k_ ∨ w.heap.size ≤ k_))) (by (with_reducible repeat (first | apply Kd.V_alloc | apply Kd.V_drewN | apply Kd.V_drew)); exact HL822_0.out) hg (.inl rfl)); replace HL823_0 := aM (Kd.V_afterv (v := (.slice (some ⟨go19, 0, none⟩) x5_2.length co8)) (v1 := (.slice (some ⟨go19, 0, none⟩) x5_2.length co8)) (ok := (fun k_ => (P0_ k_ ∨ w.heap.size ≤ k_))) (by (with_reducible repeat (first | apply Kd.V_alloc | apply Kd.V_drewN | apply Kd.V_drew)); exact HL823_0.out) hg (.inl rfl)); replace HB := aM ((by rw [hw]; exact below_set (HB.out) GB19.out : Below w.heap.size w w22)); clear hg hw hp_; have p20 : 0 ≤ ((ji14) : Int) := oD; have q20 : ((ji14) : Int) < ((x5_2.length : Int) : Int) := oD; obtain ⟨ce20, hcl20, hM20, hcc20, hfr20⟩ := Kd.N_elem HO_5.out [] ((ji14) : Int) p20 q20; obtain ⟨ua20_0, uc20_0, rfl, ul20_0, ge20_0⟩ := Kd.FK_slice_open hM20; have hx20_0 := hcc20 0 _ rfl; have hf20_0 := hfr20 0; (try simp only [show ((Kd.slice 3 (Kd.int .i64))).sz = 1 from rfl, Nat.mul_one, Nat.add_zero] at hx20_0); (try simp only [show ((Kd.slice 3 (Kd.int .i64))).sz = 1 from rfl, Nat.mul_one, Nat.add_zero] at hf20_0); (try clear hcl20); (try clear hcc20); (try clear hfr20); (try clear hM20); replace p20 := eq_true p20; replace q20 := eq_true q20; have HX23 := aM (show Kd.N (Kd.slice 3 (Kd.int .i64)) 22 w22 w.heap.size (fun k_ => (P0_ k_ ∨ w.heap.size ≤ k_)) (.slice (some ⟨go19, 0, none⟩) x5_2.length co8) y824 from (by (with_reducible repeat (first | apply Kd.N_alloc | apply Kd.N_drewN | apply Kd.N_drew)); exact HO_5.out)); obtain ⟨ce23, hcl23, hM23, hcc23, hfr23⟩ := Kd.N_elem HX23.out [] ((ji14) : Int) oD (by have h_ : ((ji14) : Int) < ((x5_2.length : Int) : Int) := oD; first | exact h_ | (have e_ := (Kd.N_reads' HO_5.out).1; omega) | simpa using h_); obtain ⟨ua23_0, uc23_0, rfl, ul23_0, ge23_0⟩ := Kd.FK_slice_open hM23; have HP23 := Kd.N_seg HX23.out ((ji14) : Int) oD (by have h_ : ((ji14) : Int) < ((x5_2.length : Int) : Int) := oD; first | exact h_ | (have e_ := (Kd.N_reads' HO_5.out).1; omega) | simpa using h_) (seg := [.slice (some ad819) (rd_L1 x5_2 x7_2).length c818_0]) (j := 0) hcl23 hcc23 (show 1 ≤ 1 from by decide) (x' := rd_L1 x5_2 x7_2) (Kd.FK_slice_mk (Kd.V_reads' (Kd.V_mono (ok' := (fun k_ => ((fun k_ => (P0_ k_ ∨ w.heap.size ≤ k_))) k_ ∧ k_ ≠ go19)) (HL822_0.out) (fun k_ hk => ⟨hk.1, fun e_ => (hk.2) (by rw [e_]; rfl)⟩))).2.1 (Kd.V_F (Kd.V_mono (ok' := (fun k_ => ((fun k_ => (P0_ k_ ∨ w.heap.size ≤ k_))) k_ ∧ k_ ≠ go19)) (HL822_0.out) (fun k_ hk => ⟨hk.1, fun e_ => (hk.2) (by rw [e_]; rfl)⟩)))) (fun _ hk => hk); have hx23_0 := hcc23 0 _ rfl; (try simp only [show ((Kd.slice 3 (Kd.int .i64))).sz = 1 from rfl, Nat.mul_one, Nat.add_zero] at hx23_0); have hf23_0 := hfr23 0; (try simp only [show ((Kd.slice 3 (Kd.int .i64))).sz = 1 from rfl, Nat.mul_one, Nat.add_zero] at hf23_0); (try clear hcl23); (try clear hcc23); (try clear hfr23); (try clear hM23); (try simp only [show ((Kd.slice 3 (Kd.int .i64))).sz = 1 from rfl, Nat.mul_one, Nat.add_zero] at HP23); (try simp only [show ((Kd.slice 3 (Kd.int .i64))).sz = 1 from rfl, Nat.mul_one, Nat.add_zero] at HP23)) | ((with_reducible refine gate_store (t := 22) (p := 57) rfl ?_); (try (rw [drewN_self w22]; generalize hq_ : World.drewN w22 _ = w22; replace HO_5 := aM (Kd.N_at hq_ HO_5.out); replace HL818_0 := aM (Eq.subst (motive := fun z_ => Kd.V _ _ z_ _ _ _ _) hq_ (Kd.V_drewN HL818_0.out _)); replace HL820_0 := aM (Eq.subst (motive := fun z_ => Kd.V _ _ z_ _ _ _ _) hq_ (Kd.V_drewN HL820_0.out _)); replace HL822_0 := aM (Eq.subst (motive := fun z_ => Kd.V _ _ z_ _ _ _ _) hq_ (Kd.V_drewN HL822_0.out _)); replace HL823_0 := aM (Eq.subst (motive := fun z_ => Kd.V _ _ z_ _ _ _ _) hq_ (Kd.V_drewN HL823_0.out _)); replace HB := aM (below_at hq_ HB.out); clear hq_; (try (have HX23 := aM (show Kd.N (Kd.slice 3 (Kd.int .i64)) 22 w22 w.heap.size (fun k_ => (P0_ k_ ∨ w.heap.size ≤ k_)) (.slice (some ⟨go19, 0, none⟩) x5_2.length co8) y824 from (by (with_reducible repeat (first | apply Kd.N_alloc | apply Kd.N_drewN | apply Kd.N_drew)); exact HO_5.out)))); (try (obtain ⟨ce23, hcl23, hM23, hcc23, hfr23⟩ := Kd.N_elem HX23.out [] ((ji14) : Int) oD (by have h_ : ((ji14) : Int) < ((x5_2.length : Int) : Int) := oD; first | exact h_ | (have e_ := (Kd.N_reads' HO_5.out).1; omega) | simpa using h_))); (try (obtain ⟨ua23_0, uc23_0, rfl, ul23_0, ge23_0⟩ := Kd.FK_slice_open hM23)); (try (have HP23 := Kd.N_seg HX23.out ((ji14) : Int) oD (by have h_ : ((ji14) : Int) < ((x5_2.length : Int) : Int) := oD; first | exact h_ | (have e_ := (Kd.N_reads' HO_5.out).1; omega) | simpa using h_) (seg := [.slice (some ad819) (rd_L1 x5_2 x7_2).length c818_0]) (j := 0) hcl23 hcc23 (show 1 ≤ 1 from by decide) (x' := rd_L1 x5_2 x7_2) (Kd.FK_slice_mk (Kd.V_reads' (Kd.V_mono (ok' := (fun k_ => ((fun k_ => (P0_ k_ ∨ w.heap.size ≤ k_))) k_ ∧ k_ ≠ go19)) (HL822_0.out) (fun k_ hk => ⟨hk.1, fun e_ => (hk.2) (by rw [e_]; rfl)⟩))).2.1 (Kd.V_F (Kd.V_mono (ok' := (fun k_ => ((fun k_ => (P0_ k_ ∨ w.heap.size ≤ k_))) k_ ∧ k_ ≠ go19)) (HL822_0.out) (fun k_ hk => ⟨hk.1, fun e_ => (hk.2) (by rw [e_]; rfl)⟩)))) (fun _ hk => hk))); (try (have hx23_0 := hcc23 0 _ rfl)); (try (try simp only [show ((Kd.slice 3 (Kd.int .i64))).sz = 1 from rfl, Nat.mul_one, Nat.add_zero] at hx23_0)); (try (have hf23_0 := hfr23 0)); (try (try simp only [show ((Kd.slice 3 (Kd.int .i64))).sz = 1 from rfl, Nat.mul_one, Nat.add_zero] at hf23_0)); (try (try clear hcl23); (try clear hcc23); (try clear hfr23); (try clear hM23)); (try (try simp only [show ((Kd.slice 3 (Kd.int .i64))).sz = 1 from rfl, Nat.mul_one, Nat.add_zero] at HP23)); (try (try simp only [show ((Kd.slice 3 (Kd.int .i64))).sz = 1 from rfl, Nat.mul_one, Nat.add_zero] at HP23)))); refine store_event (t := 22) (p := 57) (v := ?vo_w24) (w1 := (w22.setCell ⟨go19, ((ji14) : Int).toNat, none⟩ (.slice (some ad819) (rd_L1 x5_2 x7_2).length c818_0))) ?hg ?ho ?hn ?hr ?_; (case ho => rfl); (case hg => rfl); (case hn => rfl); (case hr => first | (go_simp; done) | (go_simp; rfl)); intro w24 hw; have hg : w22.grownBy w24 (some go19) := (by rw [hw]; exact HP23.2); have hp_ : Kd.N (Kd.slice 3 (Kd.int .i64)) 22 w24 w.heap.size (fun k_ => (P0_ k_ ∨ w.heap.size ≤ k_)) (.slice (some ⟨go19, 0, none⟩) x5_2.length co8) y825 := (by rw [hw, Ny825.out]; exact HP23.1); clear HP23; replace HO_5 := aM (hp_); replace HL818_0 := aM (Kd.V_afterv (v := (.slice (some ⟨go19, 0, none⟩) x5_2.length co8)) (v1 := (.slice (some ⟨go19, 0, none⟩) x5_2.length co8)) (ok := (fun k_ => (P0_ k_ ∨ w.heap.size ≤ k_))) (by (with_reducible repeat (first | apply Kd.V_alloc | apply Kd.V_drewN | apply Kd.V_drew)); exact HL818_0.out) hg (.inl rfl)); replace HL820_0 := aM (Kd.V_afterv (v := (.slice (some ⟨go19, 0, none⟩) x5_2.length co8)) (v1 := (.slice (some ⟨go19, 0, none⟩) x5_2.length co8)) (ok := (fun k_ => (P0_ k_ ∨ w.heap.size ≤ k_))) (by (with_reducible repeat (first | apply Kd.V_alloc | apply Kd.V_drewN | apply Kd.V_drew)); exact HL820_0.out) hg (.inl rfl)); replace HL822_0 := aM (Kd.V_afterv (v := (.slice (some ⟨go19, 0, none⟩) x5_2.length co8)) (v1 := (.slice (some ⟨go19, 0, none⟩) x5_2.length co8)) (ok := (fun k_ => (P0_ k_ ∨ w.heap.size ≤ k_))) (by (with_reducible repeat (first | apply Kd.V_alloc | apply Kd.V_drewN | apply Kd.V_drew)); exact HL822_0.out) hg (.inl rfl)); replace HL823_0 := aM (Kd.V_afterv (v := (.slice (some ⟨go19, 0, none⟩) x5_2.length co8)) (v1 := (.slice (some ⟨go19, 0, none⟩) x5_2.length co8)) (ok := (fun k_ => (P0_ k_ ∨ w.heap.size ≤ k_))) (by (with_reducible repeat (first | apply Kd.V_alloc | apply Kd.V_drewN | apply Kd.V_drew)); exact HL823_0.out) hg (.inl rfl)); replace HB := aM ((by rw [hw]; exact below_set (HB.out) GB19.out : Below w.heap.size w w24)); clear hg hw hp_)); try go_wp2_with (first | ((with_reducible refine gate_store (t := 22) (p := 52) rfl ?_); (try (rw [drewN_self wr]; generalize hq_ : World.drewN wr _ = wr; replace HO_5 := aM (Kd.N_at hq_ HO_5.out); replace HL818_0 := aM (Eq.subst (motive := fun z_ => Kd.V _ _ z_ _ _ _ _) hq_ (Kd.V_drewN HL818_0.out _)); replace HL820_0 := aM (Eq.subst (motive := fun z_ => Kd.V _ _ z_ _ _ _ _) hq_ (Kd.V_drewN HL820_0.out _)); replace HL822_0 := aM (Eq.subst (motive := fun z_ => Kd.V _ _ z_ _ _ _ _) hq_ (Kd.V_drewN HL822_0.out _)); replace HL823_0 := aM (Eq.subst (motive := fun z_ => Kd.V _ _ z_ _ _ _ _) hq_ (Kd.V_drewN HL823_0.out _)); replace HB := aM (below_at hq_ HB.out); clear hq_; (try (have HX21 := aM (show Kd.N (Kd.slice 3 (Kd.int .i64)) 22 wr w.heap.size (fun k_ => (P0_ k_ ∨ w.heap.size ≤ k_)) (.slice (some ⟨go19, 0, none⟩) x5_2.length co8) x5_2 from (by (with_reducible repeat (first | apply Kd.N_alloc | apply Kd.N_drewN | apply Kd.N_drew)); exact HO_5.out)))); (try (obtain ⟨ce21, hcl21, hM21, hcc21, hfr21⟩ := Kd.N_elem HX21.out [] (x7_2 : Int) oD (by have h_ : (x7_2 : Int) < ((x5_2.length : Int) : Int) := oD; first | exact h_ | (have e_ := (Kd.N_reads' HO_5.out).1; omega) | simpa using h_))); (try (obtain ⟨ua21_0, uc21_0, rfl, ul21_0, ge21_0⟩ := Kd.FK_slice_open hM21)); (try (have HP21 := Kd.N_seg HX21.out (x7_2 : Int) oD (by have h_ : (x7_2 : Int) < ((x5_2.length : Int) : Int) := oD; first | exact h_ | (have e_ := (Kd.N_reads' HO_5.out).1; omega) | simpa using h_) (seg := [.slice (some ad821) (rd_L1 x5_2 (ji14)).length c820_0]) (j := 0) hcl21 hcc21 (show 1 ≤ 1 from by decide) (x' := rd_L1 x5_2 (ji14)) (Kd.FK_slice_mk (Kd.V_reads' (Kd.V_mono (ok' := (fun k_ => ((fun k_ => (P0_ k_ ∨ w.heap.size ≤ k_))) k_ ∧ k_ ≠ go19)) (HL823_0.out) (fun k_ hk => ⟨hk.1, fun e_ => (hk.2) (by rw [e_]; rfl)⟩))).2.1 (Kd.V_F (Kd.V_mono (ok' := (fun k_ => ((fun k_ => (P0_ k_ ∨ w.heap.size ≤ k_))) k_ ∧ k_ ≠ go19)) (HL823_0.out) (fun k_ hk => ⟨hk.1, fun e_ => (hk.2) (by rw [e_]; rfl)⟩)))) (fun _ hk => hk))); (try (have hx21_0 := hcc21 0 _ rfl)); (try (try simp only [show ((Kd.slice 3 (Kd.int .i64))).sz = 1 from rfl, Nat.mul_one, Nat.add_zero] at hx21_0)); (try (have hf21_0 := hfr21 0)); (try (try simp only [show ((Kd.slice 3 (Kd.int .i64))).sz = 1 from rfl, Nat.mul_one, Nat.add_zero] at hf21_0)); (try (try clear hcl21); (try clear hcc21); (try clear hfr21); (try clear hM21)); (try (try simp only [show ((Kd.slice 3 (Kd.int .i64))).sz = 1 from rfl, Nat.mul_one, Nat.add_zero] at HP21)); (try (try simp only [show ((Kd.slice 3 (Kd.int .i64))).sz = 1 from rfl, Nat.mul_one, Nat.add_zero] at HP21)))); refine store_event (t := 22) (p := 52) (v := ?vo_w22) (w1 := (wr.setCell ⟨go19, (x7_2 : Int).toNat, none⟩ (.slice (some ad821) (rd_L1 x5_2 (ji14)).length c820_0))) ?hg ?ho ?hn ?hr ?_; (case ho => rfl); (case hg => rfl); (case hn => rfl); (case hr => first | (go_simp; done) | (go_simp; rfl)); intro w22 hw; have hg : wr.grownBy w22 (some go19) := (by rw [hw]; exact HP21.2); have hp_ : Kd.N (Kd.slice 3 (Kd.int .i64)) 22 w22 w.heap.size (fun k_ => (P0_ k_ ∨ w.heap.size ≤ k_)) (.slice (some ⟨go19, 0, none⟩) x5_2.length co8) y824 := (by rw [hw, Ny824.out]; exact HP21.1); clear HP21; replace HO_5 := aM (hp_); replace HL818_0 := aM (Kd.V_afterv (v := (.slice (some ⟨go19, 0, none⟩) x5_2.length co8)) (v1 := (.slice (some ⟨go19, 0, none⟩) x5_2.length co8)) (ok := (fun k_ => (P0_ k_ ∨ w.heap.size ≤ k_))) (by (with_reducible repeat (first | apply Kd.V_alloc | apply Kd.V_drewN | apply Kd.V_drew)); exact HL818_0.out) hg (.inl rfl)); replace HL820_0 := aM (Kd.V_afterv (v := (.slice (some ⟨go19, 0, none⟩) x5_2.length co8)) (v1 := (.slice (some ⟨go19, 0, none⟩) x5_2.length co8)) (ok := (fun k_ => (P0_ k_ ∨ w.heap.size ≤ k_))) (by (with_reducible repeat (first | apply Kd.V_alloc | apply Kd.V_drewN | apply Kd.V_drew)); exact HL820_0.out) hg (.inl rfl)); replace HL822_0 := aM (Kd.V_afterv (v := (.slice (some ⟨go19, 0, none⟩) x5_2.length co8)) (v1 := (.slice (some ⟨go19, 0, none⟩) x5_2.length co8)) (ok := (fun k_ => (P0_ k_ ∨ w.heap.size ≤ k_))) (by (with_reducible repeat (first | apply Kd.V_alloc | apply Kd.V_drewN | apply Kd.V_drew)); exact HL822_0.out) hg (.inl rfl)); replace HL823_0 := aM (Kd.V_afterv (v := (.slice (some ⟨go19, 0, none⟩) x5_2.length co8)) (v1 := (.slice (some ⟨go19, 0, none⟩) x5_2.length co8)) (ok := (fun k_ => (P0_ k_ ∨ w.heap.size ≤ k_))) (by (with_reducible repeat (first | apply Kd.V_alloc | apply Kd.V_drewN | apply Kd.V_drew)); exact HL823_0.out) hg (.inl rfl)); replace HB := aM ((by rw [hw]; exact below_set (HB.out) GB19.out : Below w.heap.size w w22)); clear hg hw hp_; have p20 : 0 ≤ ((ji14) : Int) := oD; have q20 : ((ji14) : Int) < ((x5_2.length : Int) : Int) := oD; obtain ⟨ce20, hcl20, hM20, hcc20, hfr20⟩ := Kd.N_elem HO_5.out [] ((ji14) : Int) p20 q20; obtain ⟨ua20_0, uc20_0, rfl, ul20_0, ge20_0⟩ := Kd.FK_slice_open hM20; have hx20_0 := hcc20 0 _ rfl; have hf20_0 := hfr20 0; (try simp only [show ((Kd.slice 3 (Kd.int .i64))).sz = 1 from rfl, Nat.mul_one, Nat.add_zero] at hx20_0); (try simp only [show ((Kd.slice 3 (Kd.int .i64))).sz = 1 from rfl, Nat.mul_one, Nat.add_zero] at hf20_0); (try clear hcl20); (try clear hcc20); (try clear hfr20); (try clear hM20); replace p20 := eq_true p20; replace q20 := eq_true q20; have HX23 := aM (show Kd.N (Kd.slice 3 (Kd.int .i64)) 22 w22 w.heap.size (fun k_ => (P0_ k_ ∨ w.heap.size ≤ k_)) (.slice (some ⟨go19, 0, none⟩) x5_2.length co8) y824 from (by (with_reducible repeat (first | apply Kd.N_alloc | apply Kd.N_drewN | apply Kd.N_drew)); exact HO_5.out)); obtain ⟨ce23, hcl23, hM23, hcc23, hfr23⟩ := Kd.N_elem HX23.out [] ((ji14) : Int) oD (by have h_ : ((ji14) : Int) < ((x5_2.length : Int) : Int) := oD; first | exact h_ | (have e_ := (Kd.N_reads' HO_5.out).1; omega) | simpa using h_); obtain ⟨ua23_0, uc23_0, rfl, ul23_0, ge23_0⟩ := Kd.FK_slice_open hM23; have HP23 := Kd.N_seg HX23.out ((ji14) : Int) oD (by have h_ : ((ji14) : Int) < ((x5_2.length : Int) : Int) := oD; first | exact h_ | (have e_ := (Kd.N_reads' HO_5.out).1; omega) | simpa using h_) (seg := [.slice (some ad819) (rd_L1 x5_2 x7_2).length c818_0]) (j := 0) hcl23 hcc23 (show 1 ≤ 1 from by decide) (x' := rd_L1 x5_2 x7_2) (Kd.FK_slice_mk (Kd.V_reads' (Kd.V_mono (ok' := (fun k_ => ((fun k_ => (P0_ k_ ∨ w.heap.size ≤ k_))) k_ ∧ k_ ≠ go19)) (HL822_0.out) (fun k_ hk => ⟨hk.1, fun e_ => (hk.2) (by rw [e_]; rfl)⟩))).2.1 (Kd.V_F (Kd.V_mono (ok' := (fun k_ => ((fun k_ => (P0_ k_ ∨ w.heap.size ≤ k_))) k_ ∧ k_ ≠ go19)) (HL822_0.out) (fun k_ hk => ⟨hk.1, fun e_ => (hk.2) (by rw [e_]; rfl)⟩)))) (fun _ hk => hk); have hx23_0 := hcc23 0 _ rfl; (try simp only [show ((Kd.slice 3 (Kd.int .i64))).sz = 1 from rfl, Nat.mul_one, Nat.add_zero] at hx23_0); have hf23_0 := hfr23 0; (try simp only [show ((Kd.slice 3 (Kd.int .i64))).sz = 1 from rfl, Nat.mul_one, Nat.add_zero] at hf23_0); (try clear hcl23); (try clear hcc23); (try clear hfr23); (try clear hM23); (try simp only [show ((Kd.slice 3 (Kd.int .i64))).sz = 1 from rfl, Nat.mul_one, Nat.add_zero] at HP23); (try simp only [show ((Kd.slice 3 (Kd.int .i64))).sz = 1 from rfl, Nat.mul_one, Nat.add_zero] at HP23)) | ((with_reducible refine gate_store (t := 22) (p := 57) rfl ?_); (try (rw [drewN_self w22]; generalize hq_ : World.drewN w22 _ = w22; replace HO_5 := aM (Kd.N_at hq_ HO_5.out); replace HL818_0 := aM (Eq.subst (motive := fun z_ => Kd.V _ _ z_ _ _ _ _) hq_ (Kd.V_drewN HL818_0.out _)); replace HL820_0 := aM (Eq.subst (motive := fun z_ => Kd.V _ _ z_ _ _ _ _) hq_ (Kd.V_drewN HL820_0.out _)); replace HL822_0 := aM (Eq.subst (motive := fun z_ => Kd.V _ _ z_ _ _ _ _) hq_ (Kd.V_drewN HL822_0.out _)); replace HL823_0 := aM (Eq.subst (motive := fun z_ => Kd.V _ _ z_ _ _ _ _) hq_ (Kd.V_drewN HL823_0.out _)); replace HB := aM (below_at hq_ HB.out); clear hq_; (try (have HX23 := aM (show Kd.N (Kd.slice 3 (Kd.int .i64)) 22 w22 w.heap.size (fun k_ => (P0_ k_ ∨ w.heap.size ≤ k_)) (.slice (some ⟨go19, 0, none⟩) x5_2.length co8) y824 from (by (with_reducible repeat (first | apply Kd.N_alloc | apply Kd.N_drewN | apply Kd.N_drew)); exact HO_5.out)))); (try (obtain ⟨ce23, hcl23, hM23, hcc23, hfr23⟩ := Kd.N_elem HX23.out [] ((ji14) : Int) oD (by have h_ : ((ji14) : Int) < ((x5_2.length : Int) : Int) := oD; first | exact h_ | (have e_ := (Kd.N_reads' HO_5.out).1; omega) | simpa using h_))); (try (obtain ⟨ua23_0, uc23_0, rfl, ul23_0, ge23_0⟩ := Kd.FK_slice_open hM23)); (try (have HP23 := Kd.N_seg HX23.out ((ji14) : Int) oD (by have h_ : ((ji14) : Int) < ((x5_2.length : Int) : Int) := oD; first | exact h_ | (have e_ := (Kd.N_reads' HO_5.out).1; omega) | simpa using h_) (seg := [.slice (some ad819) (rd_L1 x5_2 x7_2).length c818_0]) (j := 0) hcl23 hcc23 (show 1 ≤ 1 from by decide) (x' := rd_L1 x5_2 x7_2) (Kd.FK_slice_mk (Kd.V_reads' (Kd.V_mono (ok' := (fun k_ => ((fun k_ => (P0_ k_ ∨ w.heap.size ≤ k_))) k_ ∧ k_ ≠ go19)) (HL822_0.out) (fun k_ hk => ⟨hk.1, fun e_ => (hk.2) (by rw [e_]; rfl)⟩))).2.1 (Kd.V_F (Kd.V_mono (ok' := (fun k_ => ((fun k_ => (P0_ k_ ∨ w.heap.size ≤ k_))) k_ ∧ k_ ≠ go19)) (HL822_0.out) (fun k_ hk => ⟨hk.1, fun e_ => (hk.2) (by rw [e_]; rfl)⟩)))) (fun _ hk => hk))); (try (have hx23_0 := hcc23 0 _ rfl)); (try (try simp only [show ((Kd.slice 3 (Kd.int .i64))).sz = 1 from rfl, Nat.mul_one, Nat.add_zero] at hx23_0)); (try (have hf23_0 := hfr23 0)); (try (try simp only [show ((Kd.slice 3 (Kd.int .i64))).sz = 1 from rfl, Nat.mul_one, Nat.add_zero] at hf23_0)); (try (try clear hcl23); (try clear hcc23); (try clear hfr23); (try clear hM23)); (try (try simp only [show ((Kd.slice 3 (Kd.int .i64))).sz = 1 from rfl, Nat.mul_one, Nat.add_zero] at HP23)); (try (try simp only [show ((Kd.slice 3 (Kd.int .i64))).sz = 1 from rfl, Nat.mul_one, Nat.add_zero] at HP23)))); refine store_event (t := 22) (p := 57) (v := ?vo_w24) (w1 := (w22.setCell ⟨go19, ((ji14) : Int).toNat, none⟩ (.slice (some ad819) (rd_L1 x5_2 x7_2).length c818_0))) ?hg ?ho ?hn ?hr ?_; (case ho => rfl); (case hg => rfl); (case hn => rfl); (case hr => first | (go_simp; done) | (go_simp; rfl)); intro w24 hw; have hg : w22.grownBy w24 (some go19) := (by rw [hw]; exact HP23.2); have hp_ : Kd.N (Kd.slice 3 (Kd.int .i64)) 22 w24 w.heap.size (fun k_ => (P0_ k_ ∨ w.heap.size ≤ k_)) (.slice (some ⟨go19, 0, none⟩) x5_2.length co8) y825 := (by rw [hw, Ny825.out]; exact HP23.1); clear HP23; replace HO_5 := aM (hp_); replace HL818_0 := aM (Kd.V_afterv (v := (.slice (some ⟨go19, 0, none⟩) x5_2.length co8)) (v1 := (.slice (some ⟨go19, 0, none⟩) x5_2.length co8)) (ok := (fun k_ => (P0_ k_ ∨ w.heap.size ≤ k_))) (by (with_reducible repeat (first | apply Kd.V_alloc | apply Kd.V_drewN | apply Kd.V_drew)); exact HL818_0.out) hg (.inl rfl)); replace HL820_0 := aM (Kd.V_afterv (v := (.slice (some ⟨go19, 0, none⟩) x5_2.length co8)) (v1 := (.slice (some ⟨go19, 0, none⟩) x5_2.length co8)) (ok := (fun k_ => (P0_ k_ ∨ w.heap.size ≤ k_))) (by (with_reducible repeat (first | apply Kd.V_alloc | apply Kd.V_drewN | apply Kd.V_drew)); exact HL820_0.out) hg (.inl rfl)); replace HL822_0 := aM (Kd.V_afterv (v := (.slice (some ⟨go19, 0, none⟩) x5_2.length co8)) (v1 := (.slice (some ⟨go19, 0, none⟩) x5_2.length co8)) (ok := (fun k_ => (P0_ k_ ∨ w.heap.size ≤ k_))) (by (with_reducible repeat (first | apply Kd.V_alloc | apply Kd.V_drewN | apply Kd.V_drew)); exact HL822_0.out) hg (.inl rfl)); replace HL823_0 := aM (Kd.V_afterv (v := (.slice (some ⟨go19, 0, none⟩) x5_2.length co8)) (v1 := (.slice (some ⟨go19, 0, none⟩) x5_2.length co8)) (ok := (fun k_ => (P0_ k_ ∨ w.heap.size ≤ k_))) (by (with_reducible repeat (first | apply Kd.V_alloc | apply Kd.V_drewN | apply Kd.V_drew)); exact HL823_0.out) hg (.inl rfl)); replace HB := aM ((by rw [hw]; exact below_set (HB.out) GB19.out : Below w.heap.size w w24)); clear hg hw hp_)))
     (try simp only [← hl5_2])
     go_roundg k2
     case measure => have := HK1.out; have := HK2.out; omega
     case rel => exact ⟨(y825), (ji14), (by first | rfl | (simp; done) | (simp only [← hji14] <;> (first | rfl | simp)) | (simp [*]; done)), H', ⟨by have := HK1.out; have := HK2.out; omega⟩, ⟨by (try simp only [hl5_2]); (with_reducible repeat (first | apply Kd.N_alloc | apply Kd.N_drewN | apply Kd.N_drew)); exact HO_5.out⟩, ⟨by exact qW HB.out⟩⟩
end Go.Proofs.Ytohbpilokmppbaa.P
