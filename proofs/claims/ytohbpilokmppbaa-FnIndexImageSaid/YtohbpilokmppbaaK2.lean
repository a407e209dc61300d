/- Contracts and row, written by a program of this place out of the translation: the call answers true and its argument reads as before, for every input; no condition. -/
import Derived.Test.YtohbpilokmppbaaK0
import Derived.Test.YtohbpilokmppbaaK1
namespace Go.Proofs.Ytohbpilokmppbaa.P
open Go.RowKit Go.Proofs.YtohbpilokmppbaaW.PrintWords Go.Proofs.YtohbpilokmppbaaW.PrintLast Go.Proofs.YtohbpilokmppbaaW.PrintMore
attribute [local go_sem] max2_int min2_int max_two min_two max_three min_three max_four min_four   -- for this text's walks alone
set_option linter.unusedVariables false
set_option linter.unusedSimpArgs false
def spec_nearest.l0 : Nat → List (List Int) → List Int → Int → Int → Option (Int)
 | 0, _, _, _, _ => none
 | k + 1, x0, x1, x5, x6 => if x6 < (x0.length : Int) then (if 0 ≤ x6 then ((spec_gap.f k (rd_L1 x0 x6) x1).bind fun t645 => (if 0 ≤ x5 then (if x5 < (x0.length : Int) then ((spec_gap.f k (rd_L1 x0 x5) x1).bind fun t647 => (if t645 < t647 then (spec_nearest.l0 k x0 x1 x6 (wrap64 (x6 + 1))) else (spec_nearest.l0 k x0 x1 x5 (wrap64 (x6 + 1))))) else (none)) else (none))) else (none)) else (some x5)
def spec_nearest.f (k : Nat) (l0 : List (List Int)) (l1 : List Int) : Option (Int) := spec_nearest.l0 k l0 l1 0 1
theorem spec_nearest.mono_l : ∀ k, (∀ y0 y1 y2 y3, LeO (spec_nearest.l0 k y0 y1 y2 y3) (spec_nearest.l0 (k + 1) y0 y1 y2 y3))
 | 0 => fun _ _ _ _ r h => by simp [spec_nearest.l0] at h
 | k + 1 => by
  have ih0 := spec_nearest.mono_l k
  ·intro y0 y1 y2 y3
   unfold spec_nearest.l0
   repeat' first | (with_reducible first | exact ih0 _ _ _ _ | exact spec_gap.mono _ _ _ | exact lR | exact lN | refine lI ?_ ?_ | refine lB ?_ fun _ => ?_) | exact ih0 _ _ _ _ | exact spec_gap.mono _ _ _ | exact lN | refine lI ?_ ?_ | refine lB ?_ fun _ => ?_
theorem spec_nearest.mono : ∀ a0 a1 k, LeO (spec_nearest.f k a0 a1) (spec_nearest.f (k + 1) a0 a1) := by
 intro a0 a1 k
 have ih0 := spec_nearest.mono_l k
 unfold spec_nearest.f
 repeat' first | (with_reducible first | exact ih0 _ _ _ _ | exact spec_gap.mono _ _ _ | exact lR | exact lN | refine lI ?_ ?_ | refine lB ?_ fun _ => ?_) | exact ih0 _ _ _ _ | exact spec_gap.mono _ _ _ | exact lN | refine lI ?_ ?_ | refine lB ?_ fun _ => ?_
set_option maxHeartbeats 8000000 in
set_option maxRecDepth 100000 in
theorem spec_nearest.calls (k : Nat) (A0 : Option Addr) (c0 : Nat) (l0 : List (List Int)) (A1 : Option Addr) (c1 : Nat) (l1 : List Int) (r : Int) (w : World) (hr0 : Kd.C (Kd.slice 3 (Kd.int .i64)) w A0 l0.length l0) (hc0 : l0.length ≤ c0) (hr1 : Kd.C (Kd.int .i64) w A1 l1.length l1) (hc1 : l1.length ≤ c1) (h : spec_nearest.f k l0 l1 = some r) :
  Calls Try.prog 67 #[.slice A0 l0.length c0, .slice A1 l1.length c1] w fun e w' => e = .returned (.int .i64 r) ∧ Drawn0 w w' := by
 have HR0 := aM hr0
 have HC0 := aM hc0
 clear hr0 hc0
 have HR1 := aM hr1
 have HC1 := aM hc1
 clear hr1 hc1
 unfold spec_nearest.f at h
 have H := h
 clear h
 have H' := aM H
 clear H
 go_enter Try.func67, Try.ntmps67
 go_wp2
 repeat (go_quiet (fail); try go_wp2)
 go_loopg [5, 6] k (fun kq v5 v6 w' => ∃ (x5_1 : Int) (x6_1 : Int), v5 = .int .i64 x5_1 ∧ v6 = .int .i64 x6_1 ∧ Aside0 (spec_nearest.l0 kq l0 l1 x5_1 x6_1 = some r) ∧ Aside0 (kq ≤ k) ∧ Drawn0 w w')
 case atStart => exact ⟨(0), (1), qE, qE, H', ⟨Nat.le_refl _⟩, qD⟩
 case round =>
  clear H'
  try clear c1
  obtain ⟨x5_1, x6_1, rfl, rfl, HA, HK1, ⟨m1, rfl⟩⟩ := hrel
  cases gk with
  | zero => exact absurd HA.out (by simp [spec_nearest.l0])
  | succ k1 =>
   have H := HA.out
   clear HA
   simp only [spec_nearest.l0] at H
   by_cases c3 : x6_1 < (l0.length : Int)
   rotate_left
   ·rw [if_neg c3] at H
    have c3b0 : decide (x6_1 < (l0.length : Int)) = false := decide_eq_false c3
    clear c3
    obtain rfl := Option.some.inj H
    go_wp2
    repeat (go_quiet (fail); try go_wp2)
    go_ret
    exact ⟨qE, qD⟩
   rw [if_pos c3] at H
   have c3b0 : decide (x6_1 < (l0.length : Int)) = true := decide_eq_true c3
   clear c3
   replace H := iD H
   obtain ⟨c4b0, H⟩ := H
   replace H := Option.bind_eq_some_iff.mp H
   obtain ⟨t645, A50, H⟩ := H
   replace H : (if 0 ≤ x5_1 then (if x5_1 < (l0.length : Int) then ((spec_gap.f k1 (rd_L1 l0 x5_1) l1).bind fun t647 => (if t645 < t647 then (spec_nearest.l0 k1 l0 l1 x6_1 (wrap64 (x6_1 + 1))) else (spec_nearest.l0 k1 l0 l1 x5_1 (wrap64 (x6_1 + 1))))) else (none)) else (none)) = some r := H
   have A5 := aM A50
   clear A50
   replace H := iD H
   obtain ⟨c6b0, H⟩ := H
   replace H := iD H
   obtain ⟨c7b0, H⟩ := H
   replace H := Option.bind_eq_some_iff.mp H
   obtain ⟨t647, A80, H⟩ := H
   replace H : (if t645 < t647 then (spec_nearest.l0 k1 l0 l1 x6_1 (wrap64 (x6_1 + 1))) else (spec_nearest.l0 k1 l0 l1 x5_1 (wrap64 (x6_1 + 1)))) = some r := H
   have A8 := aM A80
   clear A80
   by_cases c9 : t645 < t647
   ·rw [if_pos c9] at H
    have c9b0 : decide (t645 < t647) = true := decide_eq_true c9
    clear c9
    have H' := aM H
    clear H
    have p644 : 0 ≤ (x6_1 : Int) := oD
    have q644 : x6_1 < (l0.length : Int) := oD
    obtain ⟨ad644, A644_0, c644_0, e644, hx644_0, hl644_0, hi644_0⟩ := at_L1 HR0.out x6_1 p644 q644
    cases e644
    have HR644_0 := aM hi644_0
    have HC644_0 := aM hl644_0
    clear hi644_0 hl644_0
    replace p644 := eq_true p644
    replace q644 := eq_true q644
    go_wp2_with (first | (go_at_call 84; (with_reducible refine (spec_gap.calls k1 _ _ (rd_L1 l0 x6_1) _ _ l1 t645 _ ?side1 ?side2 ?side3 ?side4 A5.out).mono ?_); (case side1 => exact qC HR644_0.out); (case side2 => exact HC644_0.out); (case side3 => exact qC HR1.out); (case side4 => exact HC1.out); rintro e w' ⟨rfl, ⟨nd, rfl⟩⟩; (try first | exact ⟨rfl, _, World.drewN_drewN _ _ _⟩ | exact ⟨rfl, _, Eq.trans (World.drewN_drewN _ _ _) (congrArg (World.drewN _) (Nat.add_assoc _ _ _))⟩); have p646 : 0 ≤ (x5_1 : Int) := oD; have q646 : x5_1 < (l0.length : Int) := oD; obtain ⟨ad646, A646_0, c646_0, e646, hx646_0, hl646_0, hi646_0⟩ := at_L1 HR0.out x5_1 p646 q646; obtain rfl : ad644 = ad646 := (by injection e646); have HR646_0 := aM hi646_0; have HC646_0 := aM hl646_0; clear hi646_0 hl646_0; replace p646 := eq_true p646; replace q646 := eq_true q646) | (go_at_call 84; (with_reducible refine (spec_gap.calls k1 _ _ (rd_L1 l0 x5_1) _ _ l1 t647 _ ?side1 ?side2 ?side3 ?side4 A8.out).mono ?_); (case side1 => exact qC HR646_0.out); (case side2 => exact HC646_0.out); (case side3 => exact qC HR1.out); (case side4 => exact HC1.out); rintro e w' ⟨rfl, ⟨nd, rfl⟩⟩; (try first | exact ⟨rfl, _, World.drewN_drewN _ _ _⟩ | exact ⟨rfl, _, Eq.trans (World.drewN_drewN _ _ _) (congrArg (World.drewN _) (Nat.add_assoc _ _ _))⟩)))
    repeat (go_quiet (first | (go_at_call 84; (with_reducible refine (spec_gap.calls k1 _ _ (rd_L1 l0 x6_1) _ _ l1 t645 _ ?side1 ?side2 ?side3 ?side4 A5.out).mono ?_); (case side1 => exact qC HR644_0.out); (case side2 => exact HC644_0.out); (case side3 => exact qC HR1.out); (case side4 => exact HC1.out); rintro e w' ⟨rfl, ⟨nd, rfl⟩⟩; (try first | exact ⟨rfl, _, World.drewN_drewN _ _ _⟩ | exact ⟨rfl, _, Eq.trans (World.drewN_drewN _ _ _) (congrArg (World.drewN _) (Nat.add_assoc _ _ _))⟩); have p646 : 0 ≤ (x5_1 : Int) := oD; have q646 : x5_1 < (l0.length : Int) := oD; obtain ⟨ad646, A646_0, c646_0, e646, hx646_0, hl646_0, hi646_0⟩ := at_L1 HR0.out x5_1 p646 q646; obtain rfl : ad644 = ad646 := (by injection e646); have HR646_0 := aM hi646_0; have HC646_0 := aM hl646_0; clear hi646_0 hl646_0; replace p646 := eq_true p646; replace q646 := eq_true q646) | (go_at_call 84; (with_reducible refine (spec_gap.calls k1 _ _ (rd_L1 l0 x5_1) _ _ l1 t647 _ ?side1 ?side2 ?side3 ?side4 A8.out).mono ?_); (case side1 => exact qC HR646_0.out); (case side2 => exact HC646_0.out); (case side3 => exact qC HR1.out); (case side4 => exact HC1.out); rintro e w' ⟨rfl, ⟨nd, rfl⟩⟩; (try first | exact ⟨rfl, _, World.drewN_drewN _ _ _⟩ | exact ⟨rfl, _, Eq.trans (World.drewN_drewN _ _ _) (congrArg (World.drewN _) (Nat.add_assoc _ _ _))⟩))); try go_wp2_with (first | (go_at_call 84; (with_reducible refine (spec_gap.calls k1 _ _ (rd_L1 l0 x6_1) _ _ l1 t645 _ ?side1 ?side2 ?side3 ?side4 A5.out).mono ?_); (case side1 => exact qC HR644_0.out); (case side2 => exact HC644_0.out); (case side3 => exact qC HR1.out); (case side4 => exact HC1.out); rintro e w' ⟨rfl, ⟨nd, rfl⟩⟩; (try first | exact ⟨rfl, _, World.drewN_drewN _ _ _⟩ | exact ⟨rfl, _, Eq.trans (World.drewN_drewN _ _ _) (congrArg (World.drewN _) (Nat.add_assoc _ _ _))⟩); have p646 : 0 ≤ (x5_1 : Int) := oD; have q646 : x5_1 < (l0.length : Int) := oD; obtain ⟨ad646, A646_0, c646_0, e646, hx646_0, hl646_0, hi646_0⟩ := at_L1 HR0.out x5_1 p646 q646; obtain rfl : ad644 = ad646 := (by injection e646); have HR646_0 := aM hi646_0; have HC646_0 := aM hl646_0; clear hi646_0 hl646_0; replace p646 := eq_true p646; replace q646 := eq_true q646) | (go_at_call 84; (with_reducible refine (spec_gap.calls k1 _ _ (rd_L1 l0 x5_1) _ _ l1 t647 _ ?side1 ?side2 ?side3 ?side4 A8.out).mono ?_); (case side1 => exact qC HR646_0.out); (case side2 => exact HC646_0.out); (case side3 => exact qC HR1.out); (case side4 => exact HC1.out); rintro e w' ⟨rfl, ⟨nd, rfl⟩⟩; (try first | exact ⟨rfl, _, World.drewN_drewN _ _ _⟩ | exact ⟨rfl, _, Eq.trans (World.drewN_drewN _ _ _) (congrArg (World.drewN _) (Nat.add_assoc _ _ _))⟩))))
    go_roundg k1
    case measure => have := HK1.out; omega
    case rel => exact ⟨(x6_1), (wrap64 (x6_1 + 1)), qE, qE, H', ⟨by have := HK1.out; omega⟩, qD⟩
   rw [if_neg c9] at H
   have c9b0 : decide (t645 < t647) = false := decide_eq_false c9
   clear c9
   have H' := aM H
   clear H
   have p644 : 0 ≤ (x6_1 : Int) := oD
   have q644 : x6_1 < (l0.length : Int) := oD
   obtain ⟨ad644, A644_0, c644_0, e644, hx644_0, hl644_0, hi644_0⟩ := at_L1 HR0.out x6_1 p644 q644
   cases e644
   have HR644_0 := aM hi644_0
   have HC644_0 := aM hl644_0
   clear hi644_0 hl644_0
   replace p644 := eq_true p644
   replace q644 := eq_true q644
   go_wp2_with (first | (go_at_call 84; (with_reducible refine (spec_gap.calls k1 _ _ (rd_L1 l0 x6_1) _ _ l1 t645 _ ?side1 ?side2 ?side3 ?side4 A5.out).mono ?_); (case side1 => exact qC HR644_0.out); (case side2 => exact HC644_0.out); (case side3 => exact qC HR1.out); (case side4 => exact HC1.out); rintro e w' ⟨rfl, ⟨nd, rfl⟩⟩; (try first | exact ⟨rfl, _, World.drewN_drewN _ _ _⟩ | exact ⟨rfl, _, Eq.trans (World.drewN_drewN _ _ _) (congrArg (World.drewN _) (Nat.add_assoc _ _ _))⟩); have p646 : 0 ≤ (x5_1 : Int) := oD; have q646 : x5_1 < (l0.length : Int) := oD; obtain ⟨ad646, A646_0, c646_0, e646, hx646_0, hl646_0, hi646_0⟩ := at_L1 HR0.out x5_1 p646 q646; obtain rfl : ad644 = ad646 := (by injection e646); have HR646_0 := aM hi646_0; have HC646_0 := aM hl646_0; clear hi646_0 hl646_0; replace p646 := eq_true p646; replace q646 := eq_true q646) | (go_at_call 84; (with_reducible refine (spec_gap.calls k1 _ _ (rd_L1 l0 x5_1) _ _ l1 t647 _ ?side1 ?side2 ?side3 ?side4 A8.out).mono ?_); (case side1 => exact qC HR646_0.out); (case side2 => exact HC646_0.out); (case side3 => exact qC HR1.out); (case side4 => exact HC1.out); rintro e w' ⟨rfl, ⟨nd, rfl⟩⟩; (try first | exact ⟨rfl, _, World.drewN_drewN _ _ _⟩ | exact ⟨rfl, _, Eq.trans (World.drewN_drewN _ _ _) (congrArg (World.drewN _) (Nat.add_assoc _ _ _))⟩)))
   repeat (go_quiet (first | (go_at_call 84; (with_reducible refine (spec_gap.calls k1 _ _ (rd_L1 l0 x6_1) _ _ l1 t645 _ ?side1 ?side2 ?side3 ?side4 A5.out).mono ?_); (case side1 => exact qC HR644_0.out); (case side2 => exact HC644_0.out); (case side3 => exact qC HR1.out); (case side4 => exact HC1.out); rintro e w' ⟨rfl, ⟨nd, rfl⟩⟩; (try first | exact ⟨rfl, _, World.drewN_drewN _ _ _⟩ | exact ⟨rfl, _, Eq.trans (World.drewN_drewN _ _ _) (congrArg (World.drewN _) (Nat.add_assoc _ _ _))⟩); have p646 : 0 ≤ (x5_1 : Int) := oD; have q646 : x5_1 < (l0.length : Int) := oD; obtain ⟨ad646, A646_0, c646_0, e646, hx646_0, hl646_0, hi646_0⟩ := at_L1 HR0.out x5_1 p646 q646; obtain rfl : ad644 = ad646 := (by injection e646); have HR646_0 := aM hi646_0; have HC646_0 := aM hl646_0; clear hi646_0 hl646_0; replace p646 := eq_true p646; replace q646 := eq_true q646) | (go_at_call 84; (with_reducible refine (spec_gap.calls k1 _ _ (rd_L1 l0 x5_1) _ _ l1 t647 _ ?side1 ?side2 ?side3 ?side4 A8.out).mono ?_); (case side1 => exact qC HR646_0.out); (case side2 => exact HC646_0.out); (case side3 => exact qC HR1.out); (case side4 => exact HC1.out); rintro e w' ⟨rfl, ⟨nd, rfl⟩⟩; (try first | exact ⟨rfl, _, World.drewN_drewN _ _ _⟩ | exact ⟨rfl, _, Eq.trans (World.drewN_drewN _ _ _) (congrArg (World.drewN _) (Nat.add_assoc _ _ _))⟩))); try go_wp2_with (first | (go_at_call 84; (with_reducible refine (spec_gap.calls k1 _ _ (rd_L1 l0 x6_1) _ _ l1 t645 _ ?side1 ?side2 ?side3 ?side4 A5.out).mono ?_); (case side1 => exact qC HR644_0.out); (case side2 => exact HC644_0.out); (case side3 => exact qC HR1.out); (case side4 => exact HC1.out); rintro e w' ⟨rfl, ⟨nd, rfl⟩⟩; (try first | exact ⟨rfl, _, World.drewN_drewN _ _ _⟩ | exact ⟨rfl, _, Eq.trans (World.drewN_drewN _ _ _) (congrArg (World.drewN _) (Nat.add_assoc _ _ _))⟩); have p646 : 0 ≤ (x5_1 : Int) := oD; have q646 : x5_1 < (l0.length : Int) := oD; obtain ⟨ad646, A646_0, c646_0, e646, hx646_0, hl646_0, hi646_0⟩ := at_L1 HR0.out x5_1 p646 q646; obtain rfl : ad644 = ad646 := (by injection e646); have HR646_0 := aM hi646_0; have HC646_0 := aM hl646_0; clear hi646_0 hl646_0; replace p646 := eq_true p646; replace q646 := eq_true q646) | (go_at_call 84; (with_reducible refine (spec_gap.calls k1 _ _ (rd_L1 l0 x5_1) _ _ l1 t647 _ ?side1 ?side2 ?side3 ?side4 A8.out).mono ?_); (case side1 => exact qC HR646_0.out); (case side2 => exact HC646_0.out); (case side3 => exact qC HR1.out); (case side4 => exact HC1.out); rintro e w' ⟨rfl, ⟨nd, rfl⟩⟩; (try first | exact ⟨rfl, _, World.drewN_drewN _ _ _⟩ | exact ⟨rfl, _, Eq.trans (World.drewN_drewN _ _ _) (congrArg (World.drewN _) (Nat.add_assoc _ _ _))⟩))))
   go_roundg k1
   case measure => have := HK1.out; omega
   case rel => exact ⟨(x5_1), (wrap64 (x6_1 + 1)), qE, qE, H', ⟨by have := HK1.out; omega⟩, qD⟩
def impl_NearestColor.f (k : Nat) (l0 : List (List Int)) (l1 : List Int) : Option (Int) := (impl_isPalette.f l0 (l1.length : Int)).bind fun t765 => (if t765 = true then ((impl_areBytes.f l1).bind fun t766 => (if t766 = true then ((impl_nearestColor.f k l0 l1).bind fun t767 => (some t767)) else (some (-1)))) else (some (-1)))
theorem impl_NearestColor.mono : ∀ a0 a1 k, LeO (impl_NearestColor.f k a0 a1) (impl_NearestColor.f (k + 1) a0 a1) := by
 intro a0 a1 k
 unfold impl_NearestColor.f
 repeat' first | (with_reducible first | exact impl_nearestColor.mono _ _ _ | exact lR | exact lN | refine lI ?_ ?_ | refine lB ?_ fun _ => ?_) | exact impl_nearestColor.mono _ _ _ | exact lN | refine lI ?_ ?_ | refine lB ?_ fun _ => ?_
set_option maxHeartbeats 8000000 in
set_option maxRecDepth 100000 in
theorem impl_NearestColor.calls (k : Nat) (A0 : Option Addr) (c0 : Nat) (l0 : List (List Int)) (A1 : Option Addr) (c1 : Nat) (l1 : List Int) (r : Int) (w : World) (hr0 : Kd.C (Kd.slice 3 (Kd.int .i64)) w A0 l0.length l0) (hc0 : l0.length ≤ c0) (hr1 : Kd.C (Kd.int .i64) w A1 l1.length l1) (hc1 : l1.length ≤ c1) (h : impl_NearestColor.f k l0 l1 = some r) :
  Calls Try.prog 35 #[.slice A0 l0.length c0, .slice A1 l1.length c1] w fun e w' => e = .returned (.int .i64 r) ∧ Below w.heap.size w w' := by
 have HR0 := aM hr0
 have HC0 := aM hc0
 clear hr0 hc0
 have HR1 := aM hr1
 have HC1 := aM hc1
 clear hr1 hc1
 have HB := aM (Below.refl w.heap.size w)
 unfold impl_NearestColor.f at h
 have H := h
 clear h
 replace H := Option.bind_eq_some_iff.mp H
 obtain ⟨t765, A30, H⟩ := H
 replace H : (if t765 = true then ((impl_areBytes.f l1).bind fun t766 => (if t766 = true then ((impl_nearestColor.f k l0 l1).bind fun t767 => (some t767)) else (some (-1)))) else (some (-1))) = some r := H
 have A3 := aM A30
 clear A30
 by_cases c4 : t765 = true
 rotate_left
 ·replace c4 := Bool.eq_false_iff.mpr c4
  subst c4
  have H1 : (some (-1)) = some r := by rw [if_neg (show ¬ (false = true) by decide)] at H; exact H
  clear H
  have H := H1
  clear H1
  obtain rfl := Option.some.inj H
  go_enter Try.func35, Try.ntmps35
  go_wp2_with (first | ((with_reducible refine gate_callee (f := 53) rfl ?_); refine gL (some 8) Try.func53 #[.slice A0 l0.length c0, .int .i64 (l1.length : Int)] ?_; (with_reducible refine (impl_isPalette.calls _ _ l0 (l1.length : Int) false _ ?side1 ?side2 A3.out).mono ?_); (case side1 => exact qC HR0.out); (case side2 => exact HC0.out); rintro e w10 ⟨rfl, hb⟩; refine ⟨_, rfl, ?_⟩; replace HB := bS HB hb; clear hb))
  go_ret
  exact ⟨qX, by exact qW HB.out⟩
 subst c4
 have H1 : ((impl_areBytes.f l1).bind fun t766 => (if t766 = true then ((impl_nearestColor.f k l0 l1).bind fun t767 => (some t767)) else (some (-1)))) = some r := by rw [if_pos rfl] at H; exact H
 clear H
 have H := H1
 clear H1
 replace H := Option.bind_eq_some_iff.mp H
 obtain ⟨t766, A50, H⟩ := H
 replace H : (if t766 = true then ((impl_nearestColor.f k l0 l1).bind fun t767 => (some t767)) else (some (-1))) = some r := H
 have A5 := aM A50
 clear A50
 by_cases c6 : t766 = true
 rotate_left
 ·replace c6 := Bool.eq_false_iff.mpr c6
  subst c6
  have H1 : (some (-1)) = some r := by rw [if_neg (show ¬ (false = true) by decide)] at H; exact H
  clear H
  have H := H1
  clear H1
  obtain rfl := Option.some.inj H
  go_enter Try.func35, Try.ntmps35
  go_wp2_with (first | ((with_reducible refine gate_callee (f := 53) rfl ?_); refine gL (some 8) Try.func53 #[.slice A0 l0.length c0, .int .i64 (l1.length : Int)] ?_; (with_reducible refine (impl_isPalette.calls _ _ l0 (l1.length : Int) true _ ?side1 ?side2 A3.out).mono ?_); (case side1 => exact qC HR0.out); (case side2 => exact HC0.out); rintro e w9 ⟨rfl, hb⟩; refine ⟨_, rfl, ?_⟩; replace HB := bS HB hb; clear hb) | (go_at_call 68; (with_reducible refine (impl_areBytes.calls _ _ l1 false _ ?side1 ?side2 A5.out).mono ?_); (case side1 => exact qC (Kd.C_below HR1.out HB.out)); (case side2 => exact HC1.out); rintro e w' ⟨rfl, ⟨nd, rfl⟩⟩))
  go_ret
  exact ⟨qX, by exact qW HB.out⟩
 subst c6
 have H1 : ((impl_nearestColor.f k l0 l1).bind fun t767 => (some t767)) = some r := by rw [if_pos rfl] at H; exact H
 clear H
 have H := H1
 clear H1
 replace H := Option.bind_eq_some_iff.mp H
 obtain ⟨t767, A70, H⟩ := H
 replace H : (some t767) = some r := H
 have A7 := aM A70
 clear A70
 obtain rfl := Option.some.inj H
 go_enter Try.func35, Try.ntmps35
 go_wp2_with (first | ((with_reducible refine gate_callee (f := 53) rfl ?_); refine gL (some 8) Try.func53 #[.slice A0 l0.length c0, .int .i64 (l1.length : Int)] ?_; (with_reducible refine (impl_isPalette.calls _ _ l0 (l1.length : Int) true _ ?side1 ?side2 A3.out).mono ?_); (case side1 => exact qC HR0.out); (case side2 => exact HC0.out); rintro e w8 ⟨rfl, hb⟩; refine ⟨_, rfl, ?_⟩; replace HB := bS HB hb; clear hb) | (go_at_call 68; (with_reducible refine (impl_areBytes.calls _ _ l1 true _ ?side1 ?side2 A5.out).mono ?_); (case side1 => exact qC (Kd.C_below HR1.out HB.out)); (case side2 => exact HC1.out); rintro e w' ⟨rfl, ⟨nd, rfl⟩⟩) | ((with_reducible refine gate_callee (f := 56) rfl ?_); refine gL (some 17) Try.func56 #[.slice A0 l0.length c0, .slice A1 l1.length c1] ?_; (with_reducible refine (impl_nearestColor.calls k _ _ l0 _ _ l1 t767 _ ?side1 ?side2 ?side3 ?side4 A7.out).mono ?_); (case side1 => exact qC (Kd.C_below HR0.out (qW HB.out))); (case side2 => exact HC0.out); (case side3 => exact qC (Kd.C_below HR1.out (qW HB.out))); (case side4 => exact HC1.out); rintro e w' ⟨rfl, ⟨nd, rfl⟩⟩; refine ⟨_, rfl, ?_⟩))
 go_ret
 exact ⟨qX, by exact qW HB.out⟩
def spec_validShape.f (a0 : Int) (a1 : Int) (a2 : Int) : Option (Bool) := (spec_inRange.f a0 1 16).bind fun t105 => (if t105 = true then ((spec_inRange.f a1 1 16).bind fun t106 => (if t106 = true then ((spec_inRange.f a2 1 4).bind fun t107 => (some t107)) else (some false))) else (some false))
set_option maxHeartbeats 8000000 in
set_option maxRecDepth 100000 in
theorem spec_validShape.calls (a0 : Int) (a1 : Int) (a2 : Int) (r : Bool) (w : World) (h : spec_validShape.f a0 a1 a2 = some r) :
  Calls Try.prog 75 #[.int .i64 a0, .int .i64 a1, .int .i64 a2] w fun e w' => e = .returned (.bool r) ∧ Drawn0 w w' := by
 unfold spec_validShape.f at h
 have H := h
 clear h
 replace H := Option.bind_eq_some_iff.mp H
 obtain ⟨t105, A40, H⟩ := H
 replace H : (if t105 = true then ((spec_inRange.f a1 1 16).bind fun t106 => (if t106 = true then ((spec_inRange.f a2 1 4).bind fun t107 => (some t107)) else (some false))) else (some false)) = some r := H
 have A4 := aM A40
 clear A40
 by_cases c5 : t105 = true
 rotate_left
 ·replace c5 := Bool.eq_false_iff.mpr c5
  subst c5
  have H1 : (some false) = some r := by rw [if_neg (show ¬ (false = true) by decide)] at H; exact H
  clear H
  have H := H1
  clear H1
  obtain rfl := Option.some.inj H
  go_enter Try.func75, Try.ntmps75
  go_wp2_with (first | ((with_reducible refine gate_callee (f := 59) rfl ?_); refine gL (some 8) Try.func59 #[.int .i64 a0, .int .i64 1, .int .i64 16] ?_; (with_reducible refine (spec_inRange.calls a0 1 16 false _ A4.out).mono ?_); rintro e w' ⟨rfl, ⟨nd, rfl⟩⟩; refine ⟨_, rfl, ?_⟩))
  go_ret
  exact ⟨qE, qD⟩
 subst c5
 have H1 : ((spec_inRange.f a1 1 16).bind fun t106 => (if t106 = true then ((spec_inRange.f a2 1 4).bind fun t107 => (some t107)) else (some false))) = some r := by rw [if_pos rfl] at H; exact H
 clear H
 have H := H1
 clear H1
 replace H := Option.bind_eq_some_iff.mp H
 obtain ⟨t106, A60, H⟩ := H
 replace H : (if t106 = true then ((spec_inRange.f a2 1 4).bind fun t107 => (some t107)) else (some false)) = some r := H
 have A6 := aM A60
 clear A60
 by_cases c7 : t106 = true
 rotate_left
 ·replace c7 := Bool.eq_false_iff.mpr c7
  subst c7
  have H1 : (some false) = some r := by rw [if_neg (show ¬ (false = true) by decide)] at H; exact H
  clear H
  have H := H1
  clear H1
  obtain rfl := Option.some.inj H
  go_enter Try.func75, Try.ntmps75
  go_wp2_with (first | ((with_reducible refine gate_callee (f := 59) rfl ?_); refine gL (some 8) Try.func59 #[.int .i64 a0, .int .i64 1, .int .i64 16] ?_; (with_reducible refine (spec_inRange.calls a0 1 16 true _ A4.out).mono ?_); rintro e w' ⟨rfl, ⟨nd, rfl⟩⟩; refine ⟨_, rfl, ?_⟩) | (go_at_call 59; (with_reducible refine (spec_inRange.calls a1 1 16 false _ A6.out).mono ?_); rintro e w' ⟨rfl, ⟨nd, rfl⟩⟩))
  go_ret
  exact ⟨qE, qD⟩
 subst c7
 have H1 : ((spec_inRange.f a2 1 4).bind fun t107 => (some t107)) = some r := by rw [if_pos rfl] at H; exact H
 clear H
 have H := H1
 clear H1
 replace H := Option.bind_eq_some_iff.mp H
 obtain ⟨t107, A80, H⟩ := H
 replace H : (some t107) = some r := H
 have A8 := aM A80
 clear A80
 obtain rfl := Option.some.inj H
 go_enter Try.func75, Try.ntmps75
 go_wp2_with (first | ((with_reducible refine gate_callee (f := 59) rfl ?_); refine gL (some 8) Try.func59 #[.int .i64 a0, .int .i64 1, .int .i64 16] ?_; (with_reducible refine (spec_inRange.calls a0 1 16 true _ A4.out).mono ?_); rintro e w' ⟨rfl, ⟨nd, rfl⟩⟩; refine ⟨_, rfl, ?_⟩) | (go_at_call 59; (with_reducible refine (spec_inRange.calls a1 1 16 true _ A6.out).mono ?_); rintro e w' ⟨rfl, ⟨nd, rfl⟩⟩) | (go_at_call 59; (with_reducible refine (spec_inRange.calls a2 1 4 t107 _ A8.out).mono ?_); rintro e w' ⟨rfl, ⟨nd, rfl⟩⟩))
 go_ret
 exact ⟨qE, qD⟩
def spec_validImage.f (k : Nat) (a0_0 : Int) (a0_1 : Int) (a0_2 : Int) (l0_3 : List Int) : Option (Bool) := (spec_validShape.f a0_0 a0_1 a0_2).bind fun t109 => (if t109 = true then (if (l0_3.length : Int) = (wrap64 ((wrap64 (a0_0 * a0_1)) * a0_2)) then ((spec_allIn.f k l0_3 0 255).bind fun t110 => (some t110)) else (some false)) else (some false))
theorem spec_validImage.mono : ∀ a0 a1 a2 a3 k, LeO (spec_validImage.f k a0 a1 a2 a3) (spec_validImage.f (k + 1) a0 a1 a2 a3) := by
 intro a0 a1 a2 a3 k
 unfold spec_validImage.f
 repeat' first | (with_reducible first | exact spec_allIn.mono _ _ _ _ | exact lR | exact lN | refine lI ?_ ?_ | refine lB ?_ fun _ => ?_) | exact spec_allIn.mono _ _ _ _ | exact lN | refine lI ?_ ?_ | refine lB ?_ fun _ => ?_
set_option maxHeartbeats 8000000 in
set_option maxRecDepth 100000 in
theorem spec_validImage.calls (k : Nat) (a0_0 : Int) (a0_1 : Int) (a0_2 : Int) (A0_3 : Option Addr) (c0_3 : Nat) (l0_3 : List Int) (r : Bool) (w : World) (hr0_3 : Kd.C (Kd.int .i64) w A0_3 l0_3.length l0_3) (hc0_3 : l0_3.length ≤ c0_3) (h : spec_validImage.f k a0_0 a0_1 a0_2 l0_3 = some r) :
  Calls Try.prog 40 #[.agg #[.int .i64 a0_0, .int .i64 a0_1, .int .i64 a0_2, .slice A0_3 l0_3.length c0_3]] w fun e w' => e = .returned (.bool r) ∧ Below w.heap.size w w' := by
 have hu29 := Try.underlying29
 have HR0_3 := aM hr0_3
 have HC0_3 := aM hc0_3
 clear hr0_3 hc0_3
 have HB := aM (Below.refl w.heap.size w)
 unfold spec_validImage.f at h
 have H := h
 clear h
 replace H := Option.bind_eq_some_iff.mp H
 obtain ⟨t109, A20, H⟩ := H
 replace H : (if t109 = true then (if (l0_3.length : Int) = (wrap64 ((wrap64 (a0_0 * a0_1)) * a0_2)) then ((spec_allIn.f k l0_3 0 255).bind fun t110 => (some t110)) else (some false)) else (some false)) = some r := H
 have A2 := aM A20
 clear A20
 by_cases c3 : t109 = true
 rotate_left
 ·replace c3 := Bool.eq_false_iff.mpr c3
  subst c3
  have H1 : (some false) = some r := by rw [if_neg (show ¬ (false = true) by decide)] at H; exact H
  clear H
  have H := H1
  clear H1
  obtain rfl := Option.some.inj H
  go_enter Try.func40, Try.ntmps40
  go_wp2_with (first | ((with_reducible refine gate_dst (N := 1) rfl ?_); (try (refine gate_guard (by rfl) ?_; dsimp only)); refine bxE (N := 1) (cs := #[.int .i64 a0_0, .int .i64 a0_1, .int .i64 a0_2, .slice A0_3 l0_3.length c0_3]) (t := 29) ?_; intro gb108 hg w10 hbox hb; have BK108 := aM (hbox); have GW108 := gW hg HB; have GE108 := gW hg HB; replace HB := bS HB hb; clear hb hbox hg; obtain ⟨⟨hcz11_0, hcz11_1, hcz11_2, hcz11_3⟩, hfz11_0, hfz11_1, hfz11_2, hfz11_3⟩ := cf4 BK108) | ((with_reducible refine gate_callee (f := 75) rfl ?_); refine gL (some 9) Try.func75 #[.int .i64 a0_0, .int .i64 a0_1, .int .i64 a0_2] ?_; (with_reducible refine (spec_validShape.calls a0_0 a0_1 a0_2 false _ A2.out).mono ?_); rintro e w' ⟨rfl, ⟨nd, rfl⟩⟩; refine ⟨_, rfl, ?_⟩))
  go_ret
  exact ⟨qX, by exact qW HB.out⟩
 subst c3
 have H1 : (if (l0_3.length : Int) = (wrap64 ((wrap64 (a0_0 * a0_1)) * a0_2)) then ((spec_allIn.f k l0_3 0 255).bind fun t110 => (some t110)) else (some false)) = some r := by rw [if_pos rfl] at H; exact H
 clear H
 have H := H1
 clear H1
 by_cases c4 : (l0_3.length : Int) = (wrap64 ((wrap64 (a0_0 * a0_1)) * a0_2))
 rotate_left
 ·rw [if_neg c4] at H
  have c4b0 : ((l0_3.length : Int) == (wrap64 ((wrap64 (a0_0 * a0_1)) * a0_2))) = false := beq_eq_false_iff_ne.mpr c4
  have c4b1 : ((l0_3.length : Int) != (wrap64 ((wrap64 (a0_0 * a0_1)) * a0_2))) = true := bne_iff_ne.mpr c4
  obtain rfl := Option.some.inj H
  go_enter Try.func40, Try.ntmps40
  go_wp2_with (first | ((with_reducible refine gate_dst (N := 1) rfl ?_); (try (refine gate_guard (by rfl) ?_; dsimp only)); refine bxE (N := 1) (cs := #[.int .i64 a0_0, .int .i64 a0_1, .int .i64 a0_2, .slice A0_3 l0_3.length c0_3]) (t := 29) ?_; intro gb108 hg w8 hbox hb; have BK108 := aM (hbox); have GW108 := gW hg HB; have GE108 := gW hg HB; replace HB := bS HB hb; clear hb hbox hg; obtain ⟨⟨hcz9_0, hcz9_1, hcz9_2, hcz9_3⟩, hfz9_0, hfz9_1, hfz9_2, hfz9_3⟩ := cf4 BK108) | ((with_reducible refine gate_callee (f := 75) rfl ?_); refine gL (some 9) Try.func75 #[.int .i64 a0_0, .int .i64 a0_1, .int .i64 a0_2] ?_; (with_reducible refine (spec_validShape.calls a0_0 a0_1 a0_2 true _ A2.out).mono ?_); rintro e w' ⟨rfl, ⟨nd, rfl⟩⟩; refine ⟨_, rfl, ?_⟩))
  go_ret
  exact ⟨qX, by exact qW HB.out⟩
 rw [if_pos c4] at H
 have c4b0 : ((l0_3.length : Int) == (wrap64 ((wrap64 (a0_0 * a0_1)) * a0_2))) = true := beq_iff_eq.mpr c4
 have c4b1 : ((l0_3.length : Int) != (wrap64 ((wrap64 (a0_0 * a0_1)) * a0_2))) = false := bne_eq_false_iff_eq.mpr c4
 clear c4
 replace H := Option.bind_eq_some_iff.mp H
 obtain ⟨t110, A50, H⟩ := H
 replace H : (some t110) = some r := H
 have A5 := aM A50
 clear A50
 obtain rfl := Option.some.inj H
 go_enter Try.func40, Try.ntmps40
 go_wp2_with (first | ((with_reducible refine gate_dst (N := 1) rfl ?_); (try (refine gate_guard (by rfl) ?_; dsimp only)); refine bxE (N := 1) (cs := #[.int .i64 a0_0, .int .i64 a0_1, .int .i64 a0_2, .slice A0_3 l0_3.length c0_3]) (t := 29) ?_; intro gb108 hg w6 hbox hb; have BK108 := aM (hbox); have GW108 := gW hg HB; have GE108 := gW hg HB; replace HB := bS HB hb; clear hb hbox hg; obtain ⟨⟨hcz7_0, hcz7_1, hcz7_2, hcz7_3⟩, hfz7_0, hfz7_1, hfz7_2, hfz7_3⟩ := cf4 BK108) | ((with_reducible refine gate_callee (f := 75) rfl ?_); refine gL (some 9) Try.func75 #[.int .i64 a0_0, .int .i64 a0_1, .int .i64 a0_2] ?_; (with_reducible refine (spec_validShape.calls a0_0 a0_1 a0_2 true _ A2.out).mono ?_); rintro e w' ⟨rfl, ⟨nd, rfl⟩⟩; refine ⟨_, rfl, ?_⟩) | (go_at_call 61; (with_reducible refine (spec_allIn.calls k _ _ l0_3 0 255 t110 _ ?side1 ?side2 A5.out).mono ?_); (case side1 => exact qC (Kd.C_below HR0_3.out (qW HB.out))); (case side2 => exact HC0_3.out); rintro e w' ⟨rfl, ⟨nd, rfl⟩⟩))
 go_ret
 exact ⟨qX, by exact qW HB.out⟩
def impl_isSide.f (a0 : Int) : Option (Bool) := if a0 ≥ 1 then (some (decide (a0 ≤ 16))) else (some false)
set_option maxHeartbeats 8000000 in
set_option maxRecDepth 100000 in
theorem impl_isSide.calls (a0 : Int) (r : Bool) (w : World) (h : impl_isSide.f a0 = some r) :
  Calls Try.prog 91 #[.int .i64 a0] w fun e w' => e = .returned (.bool r) ∧ Drawn0 w w' := by
 unfold impl_isSide.f at h
 have H := h
 clear h
 by_cases c2 : a0 ≥ 1
 ·rw [if_pos c2] at H
  have c2b0 : decide (1 ≤ a0) = true := decide_eq_true c2
  clear c2
  obtain rfl := Option.some.inj H
  go_enter Try.func91, Try.ntmps91
  go_wp2
  go_ret
  exact ⟨qE, qD⟩
 rw [if_neg c2] at H
 have c2b0 : decide (1 ≤ a0) = false := decide_eq_false c2
 clear c2
 obtain rfl := Option.some.inj H
 go_enter Try.func91, Try.ntmps91
 go_wp2
 go_ret
 exact ⟨qE, qD⟩
def impl_isShape.f (a0 : Int) (a1 : Int) (a2 : Int) : Option (Bool) := (impl_isSide.f a0).bind fun t152 => (if t152 = true then ((impl_isSide.f a1).bind fun t153 => (if t153 = true then (if a2 ≥ 1 then (some (decide (a2 ≤ 4))) else (some false)) else (some false))) else (some false))
set_option maxHeartbeats 8000000 in
set_option maxRecDepth 100000 in
theorem impl_isShape.calls (a0 : Int) (a1 : Int) (a2 : Int) (r : Bool) (w : World) (h : impl_isShape.f a0 a1 a2 = some r) :
  Calls Try.prog 78 #[.int .i64 a0, .int .i64 a1, .int .i64 a2] w fun e w' => e = .returned (.bool r) ∧ Drawn0 w w' := by
 unfold impl_isShape.f at h
 have H := h
 clear h
 replace H := Option.bind_eq_some_iff.mp H
 obtain ⟨t152, A40, H⟩ := H
 replace H : (if t152 = true then ((impl_isSide.f a1).bind fun t153 => (if t153 = true then (if a2 ≥ 1 then (some (decide (a2 ≤ 4))) else (some false)) else (some false))) else (some false)) = some r := H
 have A4 := aM A40
 clear A40
 by_cases c5 : t152 = true
 rotate_left
 ·replace c5 := Bool.eq_false_iff.mpr c5
  subst c5
  have H1 : (some false) = some r := by rw [if_neg (show ¬ (false = true) by decide)] at H; exact H
  clear H
  have H := H1
  clear H1
  obtain rfl := Option.some.inj H
  go_enter Try.func78, Try.ntmps78
  go_wp2_with (first | ((with_reducible refine gate_callee (f := 91) rfl ?_); refine gL (some 8) Try.func91 #[.int .i64 a0] ?_; (with_reducible refine (impl_isSide.calls a0 false _ A4.out).mono ?_); rintro e w' ⟨rfl, ⟨nd, rfl⟩⟩; refine ⟨_, rfl, ?_⟩))
  go_ret
  exact ⟨qE, qD⟩
 subst c5
 have H1 : ((impl_isSide.f a1).bind fun t153 => (if t153 = true then (if a2 ≥ 1 then (some (decide (a2 ≤ 4))) else (some false)) else (some false))) = some r := by rw [if_pos rfl] at H; exact H
 clear H
 have H := H1
 clear H1
 replace H := Option.bind_eq_some_iff.mp H
 obtain ⟨t153, A60, H⟩ := H
 replace H : (if t153 = true then (if a2 ≥ 1 then (some (decide (a2 ≤ 4))) else (some false)) else (some false)) = some r := H
 have A6 := aM A60
 clear A60
 by_cases c7 : t153 = true
 rotate_left
 ·replace c7 := Bool.eq_false_iff.mpr c7
  subst c7
  have H1 : (some false) = some r := by rw [if_neg (show ¬ (false = true) by decide)] at H; exact H
  clear H
  have H := H1
  clear H1
  obtain rfl := Option.some.inj H
  go_enter Try.func78, Try.ntmps78
  go_wp2_with (first | ((with_reducible refine gate_callee (f := 91) rfl ?_); refine gL (some 8) Try.func91 #[.int .i64 a0] ?_; (with_reducible refine (impl_isSide.calls a0 true _ A4.out).mono ?_); rintro e w' ⟨rfl, ⟨nd, rfl⟩⟩; refine ⟨_, rfl, ?_⟩) | (go_at_call 91; (with_reducible refine (impl_isSide.calls a1 false _ A6.out).mono ?_); rintro e w' ⟨rfl, ⟨nd, rfl⟩⟩))
  go_ret
  exact ⟨qE, qD⟩
 subst c7
 have H1 : (if a2 ≥ 1 then (some (decide (a2 ≤ 4))) else (some false)) = some r := by rw [if_pos rfl] at H; exact H
 clear H
 have H := H1
 clear H1
 by_cases c8 : a2 ≥ 1
 ·rw [if_pos c8] at H
  have c8b0 : decide (1 ≤ a2) = true := decide_eq_true c8
  clear c8
  obtain rfl := Option.some.inj H
  go_enter Try.func78, Try.ntmps78
  go_wp2_with (first | ((with_reducible refine gate_callee (f := 91) rfl ?_); refine gL (some 8) Try.func91 #[.int .i64 a0] ?_; (with_reducible refine (impl_isSide.calls a0 true _ A4.out).mono ?_); rintro e w' ⟨rfl, ⟨nd, rfl⟩⟩; refine ⟨_, rfl, ?_⟩) | (go_at_call 91; (with_reducible refine (impl_isSide.calls a1 true _ A6.out).mono ?_); rintro e w' ⟨rfl, ⟨nd, rfl⟩⟩))
  go_ret
  exact ⟨qE, qD⟩
 rw [if_neg c8] at H
 have c8b0 : decide (1 ≤ a2) = false := decide_eq_false c8
 clear c8
 obtain rfl := Option.some.inj H
 go_enter Try.func78, Try.ntmps78
 go_wp2_with (first | ((with_reducible refine gate_callee (f := 91) rfl ?_); refine gL (some 8) Try.func91 #[.int .i64 a0] ?_; (with_reducible refine (impl_isSide.calls a0 true _ A4.out).mono ?_); rintro e w' ⟨rfl, ⟨nd, rfl⟩⟩; refine ⟨_, rfl, ?_⟩) | (go_at_call 91; (with_reducible refine (impl_isSide.calls a1 true _ A6.out).mono ?_); rintro e w' ⟨rfl, ⟨nd, rfl⟩⟩))
 go_ret
 exact ⟨qE, qD⟩
def impl_isImage.f (a0_0 : Int) (a0_1 : Int) (a0_2 : Int) (l0_3 : List Int) : Option (Bool) := (impl_isShape.f a0_0 a0_1 a0_2).bind fun t155 => (if t155 = true then (if (l0_3.length : Int) = (wrap64 ((wrap64 (a0_0 * a0_1)) * a0_2)) then ((impl_areBytes.f l0_3).bind fun t156 => (some t156)) else (some false)) else (some false))
set_option maxHeartbeats 8000000 in
set_option maxRecDepth 100000 in
theorem impl_isImage.calls (a0_0 : Int) (a0_1 : Int) (a0_2 : Int) (A0_3 : Option Addr) (c0_3 : Nat) (l0_3 : List Int) (r : Bool) (w : World) (hr0_3 : Kd.C (Kd.int .i64) w A0_3 l0_3.length l0_3) (hc0_3 : l0_3.length ≤ c0_3) (h : impl_isImage.f a0_0 a0_1 a0_2 l0_3 = some r) :
  Calls Try.prog 43 #[.agg #[.int .i64 a0_0, .int .i64 a0_1, .int .i64 a0_2, .slice A0_3 l0_3.length c0_3]] w fun e w' => e = .returned (.bool r) ∧ Below w.heap.size w w' := by
 have hu29 := Try.underlying29
 have HR0_3 := aM hr0_3
 have HC0_3 := aM hc0_3
 clear hr0_3 hc0_3
 have HB := aM (Below.refl w.heap.size w)
 unfold impl_isImage.f at h
 have H := h
 clear h
 replace H := Option.bind_eq_some_iff.mp H
 obtain ⟨t155, A20, H⟩ := H
 replace H : (if t155 = true then (if (l0_3.length : Int) = (wrap64 ((wrap64 (a0_0 * a0_1)) * a0_2)) then ((impl_areBytes.f l0_3).bind fun t156 => (some t156)) else (some false)) else (some false)) = some r := H
 have A2 := aM A20
 clear A20
 by_cases c3 : t155 = true
 rotate_left
 ·replace c3 := Bool.eq_false_iff.mpr c3
  subst c3
  have H1 : (some false) = some r := by rw [if_neg (show ¬ (false = true) by decide)] at H; exact H
  clear H
  have H := H1
  clear H1
  obtain rfl := Option.some.inj H
  go_enter Try.func43, Try.ntmps43
  go_wp2_with (first | ((with_reducible refine gate_dst (N := 1) rfl ?_); (try (refine gate_guard (by rfl) ?_; dsimp only)); refine bxE (N := 1) (cs := #[.int .i64 a0_0, .int .i64 a0_1, .int .i64 a0_2, .slice A0_3 l0_3.length c0_3]) (t := 29) ?_; intro gb154 hg w10 hbox hb; have BK154 := aM (hbox); have GW154 := gW hg HB; have GE154 := gW hg HB; replace HB := bS HB hb; clear hb hbox hg; obtain ⟨⟨hcz11_0, hcz11_1, hcz11_2, hcz11_3⟩, hfz11_0, hfz11_1, hfz11_2, hfz11_3⟩ := cf4 BK154) | ((with_reducible refine gate_callee (f := 78) rfl ?_); refine gL (some 9) Try.func78 #[.int .i64 a0_0, .int .i64 a0_1, .int .i64 a0_2] ?_; (with_reducible refine (impl_isShape.calls a0_0 a0_1 a0_2 false _ A2.out).mono ?_); rintro e w' ⟨rfl, ⟨nd, rfl⟩⟩; refine ⟨_, rfl, ?_⟩))
  go_ret
  exact ⟨qX, by exact qW HB.out⟩
 subst c3
 have H1 : (if (l0_3.length : Int) = (wrap64 ((wrap64 (a0_0 * a0_1)) * a0_2)) then ((impl_areBytes.f l0_3).bind fun t156 => (some t156)) else (some false)) = some r := by rw [if_pos rfl] at H; exact H
 clear H
 have H := H1
 clear H1
 by_cases c4 : (l0_3.length : Int) = (wrap64 ((wrap64 (a0_0 * a0_1)) * a0_2))
 rotate_left
 ·rw [if_neg c4] at H
  have c4b0 : ((l0_3.length : Int) == (wrap64 ((wrap64 (a0_0 * a0_1)) * a0_2))) = false := beq_eq_false_iff_ne.mpr c4
  have c4b1 : ((l0_3.length : Int) != (wrap64 ((wrap64 (a0_0 * a0_1)) * a0_2))) = true := bne_iff_ne.mpr c4
  obtain rfl := Option.some.inj H
  go_enter Try.func43, Try.ntmps43
  go_wp2_with (first | ((with_reducible refine gate_dst (N := 1) rfl ?_); (try (refine gate_guard (by rfl) ?_; dsimp only)); refine bxE (N := 1) (cs := #[.int .i64 a0_0, .int .i64 a0_1, .int .i64 a0_2, .slice A0_3 l0_3.length c0_3]) (t := 29) ?_; intro gb154 hg w8 hbox hb; have BK154 := aM (hbox); have GW154 := gW hg HB; have GE154 := gW hg HB; replace HB := bS HB hb; clear hb hbox hg; obtain ⟨⟨hcz9_0, hcz9_1, hcz9_2, hcz9_3⟩, hfz9_0, hfz9_1, hfz9_2, hfz9_3⟩ := cf4 BK154) | ((with_reducible refine gate_callee (f := 78) rfl ?_); refine gL (some 9) Try.func78 #[.int .i64 a0_0, .int .i64 a0_1, .int .i64 a0_2] ?_; (with_reducible refine (impl_isShape.calls a0_0 a0_1 a0_2 true _ A2.out).mono ?_); rintro e w' ⟨rfl, ⟨nd, rfl⟩⟩; refine ⟨_, rfl, ?_⟩))
  go_ret
  exact ⟨qX, by exact qW HB.out⟩
 rw [if_pos c4] at H
 have c4b0 : ((l0_3.length : Int) == (wrap64 ((wrap64 (a0_0 * a0_1)) * a0_2))) = true := beq_iff_eq.mpr c4
 have c4b1 : ((l0_3.length : Int) != (wrap64 ((wrap64 (a0_0 * a0_1)) * a0_2))) = false := bne_eq_false_iff_eq.mpr c4
 clear c4
 replace H := Option.bind_eq_some_iff.mp H
 obtain ⟨t156, A50, H⟩ := H
 replace H : (some t156) = some r := H
 have A5 := aM A50
 clear A50
 obtain rfl := Option.some.inj H
 go_enter Try.func43, Try.ntmps43
 go_wp2_with (first | ((with_reducible refine gate_dst (N := 1) rfl ?_); (try (refine gate_guard (by rfl) ?_; dsimp only)); refine bxE (N := 1) (cs := #[.int .i64 a0_0, .int .i64 a0_1, .int .i64 a0_2, .slice A0_3 l0_3.length c0_3]) (t := 29) ?_; intro gb154 hg w6 hbox hb; have BK154 := aM (hbox); have GW154 := gW hg HB; have GE154 := gW hg HB; replace HB := bS HB hb; clear hb hbox hg; obtain ⟨⟨hcz7_0, hcz7_1, hcz7_2, hcz7_3⟩, hfz7_0, hfz7_1, hfz7_2, hfz7_3⟩ := cf4 BK154) | ((with_reducible refine gate_callee (f := 78) rfl ?_); refine gL (some 9) Try.func78 #[.int .i64 a0_0, .int .i64 a0_1, .int .i64 a0_2] ?_; (with_reducible refine (impl_isShape.calls a0_0 a0_1 a0_2 true _ A2.out).mono ?_); rintro e w' ⟨rfl, ⟨nd, rfl⟩⟩; refine ⟨_, rfl, ?_⟩) | (go_at_call 68; (with_reducible refine (impl_areBytes.calls _ _ l0_3 t156 _ ?side1 ?side2 A5.out).mono ?_); (case side1 => exact qC (Kd.C_below HR0_3.out (qW HB.out))); (case side2 => exact HC0_3.out); rintro e w' ⟨rfl, ⟨nd, rfl⟩⟩))
 go_ret
 exact ⟨qX, by exact qW HB.out⟩
def ImgOk (a0 a1 a2 : Int) (l : List Int) : Prop := (1 ≤ a0 ∧ a0 ≤ 16) ∧ (1 ≤ a1 ∧ a1 ≤ 16) ∧ (1 ≤ a2 ∧ a2 ≤ 4) ∧ (l.length : Int) = a0 * a1 * a2 ∧ ∀ x ∈ l, 0 ≤ x ∧ x ≤ 255
theorem img_bounds {a0 a1 a2 : Int} (h0 : 1 ≤ a0 ∧ a0 ≤ 16) (h1 : 1 ≤ a1 ∧ a1 ≤ 16) (h2 : 1 ≤ a2 ∧ a2 ≤ 4) : 1 ≤ a0 * a1 ∧ a0 * a1 ≤ 256 ∧ 1 ≤ a0 * a1 * a2 ∧ a0 * a1 * a2 ≤ 1024 := by
 have p1 : 1 * 1 ≤ a0 * a1 := Int.mul_le_mul h0.1 h1.1 (by omega) (by omega)
 have p2 : a0 * a1 ≤ 16 * 16 := Int.mul_le_mul h0.2 h1.2 (by omega) (by omega)
 have p3 : 1 * 1 ≤ a0 * a1 * a2 := Int.mul_le_mul (by omega) h2.1 (by omega) (by omega)
 have p4 : a0 * a1 * a2 ≤ 256 * 4 := Int.mul_le_mul (by omega) h2.2 (by omega) (by omega)
 omega
theorem isSide_some (a : Int) : impl_isSide.f a = some (decide (1 ≤ a ∧ a ≤ 16)) := by
 unfold impl_isSide.f
 split
 ·rename_i h; simp [show 1 ≤ a from h]
 rename_i h; simp [show ¬ 1 ≤ a from h]
theorem isShape_some (a b c : Int) : impl_isShape.f a b c = some (decide ((1 ≤ a ∧ a ≤ 16) ∧ (1 ≤ b ∧ b ≤ 16) ∧ (1 ≤ c ∧ c ≤ 4))) := by
 unfold impl_isShape.f
 rw [isSide_some, isSide_some]
 simp only [Option.bind_some, decide_eq_true_eq]
 by_cases h1 : 1 ≤ a ∧ a ≤ 16 <;> by_cases h2 : 1 ≤ b ∧ b ≤ 16 <;> by_cases h3 : 1 ≤ c
 rotate_left
 ·rw [if_pos h1, if_pos h2, if_neg h3]; simp [h1, h2, h3]
 ·rw [if_pos h1, if_neg h2]; simp [h1, h2]
 ·rw [if_pos h1, if_neg h2]; simp [h1, h2]
 ·rw [if_neg h1]; simp [h1]
 ·rw [if_neg h1]; simp [h1]
 ·rw [if_neg h1]; simp [h1]
 ·rw [if_neg h1]; simp [h1]
 rw [if_pos h1, if_pos h2, if_pos h3]; simp [h1, h2, h3]
theorem wrap_small {x : Int} (h0 : -9223372036854775808 ≤ x) (h1 : x ≤ 9223372036854775807) : wrap64 x = x := by
 unfold wrap64
 omega
theorem any_bytes (l : List Int) : (!(l.any fun n => decide (n < 0) || decide (255 < n))) = true ↔ ∀ x ∈ l, 0 ≤ x ∧ x ≤ 255 := by
 simp only [Bool.not_eq_true', List.any_eq_false, Bool.or_eq_true, decide_eq_true_eq, not_or, Int.not_lt]
theorem isImage_some (a b c : Int) (l : List Int) : ∃ r, impl_isImage.f a b c l = some r ∧ (r = true ↔ ImgOk a b c l) := by
 unfold impl_isImage.f
 rw [isShape_some]
 simp only [Option.bind_some, decide_eq_true_eq]
 by_cases h : (1 ≤ a ∧ a ≤ 16) ∧ (1 ≤ b ∧ b ≤ 16) ∧ (1 ≤ c ∧ c ≤ 4)
 rotate_left
 ·rw [if_neg h]
  exact ⟨_, rfl, by simp, fun e => absurd ⟨e.1, e.2.1, e.2.2.1⟩ h⟩
 rw [if_pos h]
 have hb := img_bounds h.1 h.2.1 h.2.2
 rw [wrap_small (x := a * b) (by omega) (by omega), wrap_small (x := a * b * c) (by omega) (by omega)]
 by_cases hl : (l.length : Int) = a * b * c
 rotate_left
 ·rw [if_neg hl]
  exact ⟨_, rfl, by simp, fun e => absurd e.2.2.2.1 hl⟩
 rw [if_pos hl]
 unfold impl_areBytes.f
 simp only [Option.bind_some]
 exact ⟨_, rfl, (any_bytes l).trans ⟨fun e => ⟨h.1, h.2.1, h.2.2, hl, e⟩, fun e => e.2.2.2.2⟩⟩
theorem isImage_true {a b c : Int} {l : List Int} (h : impl_isImage.f a b c l = some true) : ImgOk a b c l := by
 obtain ⟨r, hr, hi⟩ := isImage_some a b c l
 rw [h] at hr
 exact hi.1 (Option.some.inj hr).symm
theorem pix_fits {a0 a1 a2 x y : Int} (h1 : 0 ≤ a0) (h2 : 0 ≤ a2) (hx : x < a0) (hy0 : 0 ≤ y) (hy : y < a1) : (y * a0 + x) * a2 + a2 ≤ a0 * a1 * a2 := by
 have e1 : y * a0 + x + 1 ≤ a0 * a1 := by
  have : (y + 1) * a0 ≤ a1 * a0 := Int.mul_le_mul_of_nonneg_right (by omega) h1
  rw [Int.add_mul, Int.one_mul] at this
  rw [Int.mul_comm a0 a1]
  omega
 have e2 : (y * a0 + x + 1) * a2 ≤ a0 * a1 * a2 := Int.mul_le_mul_of_nonneg_right e1 h2
 rw [Int.add_mul, Int.one_mul] at e2
 exact e2
theorem scaled {x a n : Int} (hx : 0 ≤ x) (hx' : x < n) (ha : 0 ≤ a) (ha' : a ≤ 16) (hn : n ≤ 16) : 0 ≤ x * a ∧ x * a ≤ 256 ∧ 0 ≤ x * a / n ∧ (1 ≤ a → x * a / n < a) ∧ x * a / n ≤ 256 := by
 have p1 : 0 ≤ x * a := Int.mul_nonneg hx ha
 have p2 : x * a ≤ 16 * 16 := Int.mul_le_mul (by omega) ha' ha (by omega)
 refine ⟨p1, by omega, Int.ediv_nonneg p1 (by omega), fun h1 => ?_, ?_⟩
 rotate_left
 ·exact Int.le_trans (Int.ediv_le_self _ p1) (by omega)
 refine Int.ediv_lt_of_lt_mul (by omega) ?_
 rw [Int.mul_comm a n]
 exact Int.mul_lt_mul_of_pos_right hx' (by omega)
theorem isSide_true {a : Int} (h : impl_isSide.f a = some true) : 1 ≤ a ∧ a ≤ 16 := by
 rw [isSide_some] at h
 exact of_decide_eq_true (Option.some.inj h)
def spec_newImage.f (a0 : Int) (a1 : Int) (a2 : Int) : Option (Int × Int × Int × List Int) := if 0 ≤ (wrap64 ((wrap64 (a0 * a1)) * a2)) then (if (wrap64 ((wrap64 (a0 * a1)) * a2) : Int).toNat ≤ 35184372088832 then (some (a0, a1, a2, (List.replicate (wrap64 ((wrap64 (a0 * a1)) * a2) : Int).toNat 0))) else (none)) else (none)
set_option maxHeartbeats 8000000 in
set_option maxRecDepth 100000 in
theorem spec_newImage.calls (a0 : Int) (a1 : Int) (a2 : Int) (r1 : Int) (r2 : Int) (r3 : Int) (r4 : List Int) (w : World) (h : spec_newImage.f a0 a1 a2 = some (r1, r2, r3, r4)) :
  Calls Try.prog 62 #[.int .i64 a0, .int .i64 a1, .int .i64 a2] w fun e w' => ∃ v3_ : Value, e = .returned (.agg #[.int .i64 r1, .int .i64 r2, .int .i64 r3, v3_]) ∧ Kd.R (Kd.int .i64) 3 w' w.heap.size (fun _ => True) v3_ r4 ∧ Below w.heap.size w w' := by
 have hu29 := Try.underlying29
 have HB := aM (Below.refl w.heap.size w)
 unfold spec_newImage.f at h
 have H := h
 clear h
 obtain ⟨ji4, hji4⟩ : ∃ j_ : Int, (wrap64 ((wrap64 (a0 * a1)) * a2)) = j_ := ⟨_, rfl⟩
 replace H : (if 0 ≤ (ji4) then (if (ji4 : Int).toNat ≤ 35184372088832 then (some (a0, a1, a2, (List.replicate (ji4 : Int).toNat 0))) else (none)) else (none)) = some (r1, r2, r3, r4) := by first | (rw [hji4] at H; exact H) | (simp only [hji4] at H ⊢; exact H)
 have hji4w : (IntKind.i64.wrap ((wrap64 (a0 * a1)) * a2)) = ji4 := (i64_w _).trans hji4
 replace H := iS H
 obtain ⟨c5, H⟩ := H
 have c5b0 := eq_true c5
 have c5b1 : decide (0 ≤ (ji4)) = true := decide_eq_true c5
 clear c5
 replace H := iS H
 obtain ⟨c6, H⟩ := H
 have c6b0 := eq_true c6
 have c6b1 : decide ((ji4 : Int).toNat ≤ 35184372088832) = true := decide_eq_true c6
 clear c6
 obtain ⟨y258, hy258⟩ : ∃ y_ : List Int, y_ = (List.replicate (ji4 : Int).toNat 0) := ⟨_, rfl⟩
 replace H : (some (a0, a1, a2, y258)) = some (r1, r2, r3, r4) := rY hy258 H
 have Ny258 := aM hy258
 clear hy258
 simp only [Option.some.injEq, Prod.mk.injEq] at H
 obtain ⟨rfl, rfl, rfl, rfl⟩ := H
 go_enter Try.func62, Try.ntmps62
 go_wp2_with (first | ((with_reducible refine gate_dst (N := 6) rfl ?_); refine bxE (N := 6) (cs := #[.int .i64 0, .int .i64 0, .int .i64 0, .slice none 0 0]) (t := 29) ?_; intro gb257 hg w7 hbox hb; have BK257 := aM (hbox); have GW257 := gW hg HB; have GE257 := gW hg HB; replace HB := bS HB hb; clear hb hbox hg) | ((with_reducible refine gate_dst (N := 15) rfl ?_); refine Kd.R_make (Kd.int .i64) _ 3 rfl (N := 15) rfl 22 _ _ rfl ji4 rfl rfl Try.underlying22 (.int .i64 0) 8 info3 rfl (by decide) (by omega) 0 (ok := fun _ => True) (okp := fun _ => True) rfl (fun _ hk => hk) trivial oD (Nat.le_trans (Nat.mul_le_mul_right _ (oD : ji4.toNat ≤ 35184372088832)) (by omega)) (Below.refl _ _) (Nat.le_refl _) ?_; intro v259 w8 ho9 hb hg_ hnew_; clear hg_ hnew_; (first | rw [← Ny258.out] at ho9 | (simp only [Int.reduceToNat] at ho9; rw [← Ny258.out] at ho9)); have HO260 := oR ho9 HB; replace BK257 := bB BK257 hb; replace HB := bS HB hb; clear hb ho9; obtain ⟨Ao10, co10, rfl⟩ := sL HO260; obtain ⟨⟨hcz11_0, hcz11_1, hcz11_2, hcz11_3⟩, hfz11_0, hfz11_1, hfz11_2, hfz11_3⟩ := cf4 BK257))
 refine bodyPost_ret (results_cell_row rfl _ _ gb257 29 #[.int .i64 a0, .int .i64 a1, .int .i64 a2, .slice Ao10 y258.length co10] (0, 0) _ rfl (by exact bP BK257.out) Try.underlying29 rfl (by kernel_rfl)) rfl ?_
 exact ⟨_, by first | rfl | (simp [errW_none, errW_some] <;> rfl) | (simp only [← hji4]; first | rfl | (simp [errW_none, errW_some] <;> rfl)) | (simp [*, errW_none, errW_some] <;> rfl), by refine qR ?_; exact Kd.R_mono (rT HO260 BK257) (fun _ hk => trivial), by exact qW HB.out⟩
def imgRow (f : Int → Int → List Int) (y : Int) (n : Nat) : List Int := (List.range n).flatMap fun j : Nat => f j y
def imgOf (f : Int → Int → List Int) (n m : Nat) : List Int := (List.range m).flatMap fun i : Nat => imgRow f i n
theorem imgRow_succ (f : Int → Int → List Int) (y : Int) (n : Nat) : imgRow f y (n + 1) = imgRow f y n ++ f n y := by
 unfold imgRow
 rw [List.range_succ, List.flatMap_append]
 simp
theorem imgOf_succ (f : Int → Int → List Int) (n m : Nat) : imgOf f n (m + 1) = imgOf f n m ++ imgRow f m n := by
 unfold imgOf
 rw [List.range_succ, List.flatMap_append]
 simp
theorem imgRow_len (f : Int → Int → List Int) (y : Int) (n L : Nat) (h : ∀ j : Nat, j < n → (f j y).length ≤ L) : (imgRow f y n).length ≤ n * L := by
 induction n with
 | zero => simp [imgRow]
 | succ n ih =>
  rw [imgRow_succ, List.length_append, Nat.succ_mul]
  have := ih fun j hj => h j (by omega)
  have := h n (by omega)
  omega
theorem imgOf_len (f : Int → Int → List Int) (n m L : Nat) (h : ∀ i j : Nat, i < m → j < n → (f j i).length ≤ L) : (imgOf f n m).length ≤ m * (n * L) := by
 induction m with
 | zero => simp [imgOf]
 | succ m ih =>
  rw [imgOf_succ, List.length_append, Nat.succ_mul]
  have := ih fun i j hi hj => h i j (by omega) hj
  have := imgRow_len f m n L fun j hj => h m j (by omega) hj
  omega
def PixAt (g : Nat) (lb : Array Value) (f : Int → Int → List Int) (n m : Int) (w : World) : Prop :=
 ∀ (W : World) (x y : Int), Below w.heap.size w W → 0 ≤ x → x < n → 0 ≤ y → y < m →
  Calls Try.prog g (#[.int .i64 x, .int .i64 y] ++ lb) W fun e w' => ∃ (A : Option Addr) (c : Nat), e = .returned (.slice A (f x y).length c) ∧ Kd.C (Kd.int .i64) w' A (f x y).length (f x y) ∧ (f x y).length ≤ c ∧ Below W.heap.size W w'
set_option maxHeartbeats 8000000 in
set_option maxRecDepth 100000 in
theorem impl_imageBy.calls (g : Nat) (lb : Array Value) (eg : ∀ args w, (callFunc g args).run Try.prog w = .ok (.enter g args) w) (f : Int → Int → List Int) (a0 : Int) (a1 : Int) (a2 : Int) (w : World)
  (h0 : 0 ≤ a0) (h0' : a0 ≤ 16) (h1 : 0 ≤ a1) (h1' : a1 ≤ 16) (hf : ∀ x y : Int, (f x y).length ≤ 100) (hp : PixAt g lb f a0 a1 w) :
  Calls Try.prog 54 #[.int .i64 a0, .int .i64 a1, .int .i64 a2, .func (.func g) #[] lb] w fun e w' => ∃ v3_ : Value, e = .returned (.agg #[.int .i64 a0, .int .i64 a1, .int .i64 a2, v3_]) ∧ Kd.R (Kd.int .i64) 3 w' w.heap.size (fun _ => True) v3_ (imgOf f a0.toNat a1.toNat) ∧ Below w.heap.size w w' := by
 have hu26 := Try.underlying29
 obtain ⟨n, rfl⟩ := Int.eq_ofNat_of_zero_le h0
 obtain ⟨m, rfl⟩ := Int.eq_ofNat_of_zero_le h1
 simp only [Int.toNat_natCast]
 have HP := aM hp
 have HF := aM hf
 have HB := aM (Below.refl w.heap.size w)
 have HN := aM h0'
 have HM := aM h1'
 clear hp hf h0 h1 h0' h1'
 go_enter Try.func54, Try.ntmps54
 go_wp2_with (first | ((with_reducible refine gate_dst (N := 8) rfl ?_); (try (refine gate_guard (by rfl) ?_; dsimp only)); refine bxE (N := 8) (cs := #[.int .i64 0, .int .i64 0, .int .i64 0, .slice none 0 0]) (t := 29) ?_; intro gr hg w5 hbox hb; have BKr := aM (hbox); have GEr := aM ((by rw [hg]; exact (below_size (qW HB.out)) : w.heap.size ≤ gr)); replace HB := bS HB hb; clear hb hbox hg) | ((with_reducible refine gate_dst (N := 9) rfl ?_); (try (refine gate_guard (by rfl) ?_; dsimp only)); refine bxE (N := 9) (cs := #[.int .i64 0, .int .i64 0, .int .i64 0, .slice none 0 0]) (t := 29) ?_; intro gm hg w6 hbox hb; have BKm := aM (hbox); have GEm := aM ((by rw [hg]; exact (below_size (qW HB.out)) : w.heap.size ≤ gm)); replace HB := bS HB hb; have NBrm := aM ((by rw [hg]; exact Nat.ne_of_lt (blk_lt (g := gr) (o := .cells #[.int .i64 0, .int .i64 0, .int .i64 0, .slice none 0 0] 29 (0, 0)) (qB BKr.out)) : gr ≠ gm)); have NBmr := aM ((by rw [hg]; exact Nat.ne_of_gt (blk_lt (g := gr) (o := .cells #[.int .i64 0, .int .i64 0, .int .i64 0, .slice none 0 0] 29 (0, 0)) (qB BKr.out)) : gm ≠ gr)); replace BKr := bB BKr hb; clear hb hbox hg; have hnb7 := NBmr.out; have hnc7 := NBrm.out; obtain ⟨⟨hcz8_0, hcz8_1, hcz8_2, hcz8_3⟩, hfz8_0, hfz8_1, hfz8_2, hfz8_3⟩ := cf4 BKm))
 go_loopg [17] m (fun gg s17 w' => ∃ (k : Nat) (u : Value), k ≤ m ∧ m - k ≤ gg ∧ s17 = .int .i64 k ∧ Aside0 (Kd.R (Kd.int .i64) 3 w' w.heap.size (fun _ => True) u (imgOf f n k)) ∧ Aside0 (w'.heap[gr]? = some (.cells #[.int .i64 0, .int .i64 0, .int .i64 0, (.slice none 0 0)] 29 (0, 0))) ∧ Aside0 (w'.heap[gm]? = some (.cells #[.int .i64 n, .int .i64 m, .int .i64 a2, u] 29 (0, 0))) ∧ Aside0 (Below w.heap.size w w'))
 case atStart =>
  refine ⟨0, .slice none 0 0, Nat.zero_le _, by omega, rfl, ⟨Kd.R_nil _ _ _ _ _⟩, ⟨?_⟩, ⟨?_⟩, ⟨?_⟩⟩
  rotate_left 2
  ·exact qW HB.out
  ·refine qB ?_; refine blk_far ?_ NBrm.out _; refine qB ?_; refine blk_far ?_ NBrm.out _; refine qB ?_; refine blk_far ?_ NBrm.out _; refine qB ?_; refine blk_far ?_ NBrm.out _; refine qB ?_; exact BKr.out
  exact bP BKm.out
 case round =>
  clear HB BKr BKm
  try clear hcz8_0 hcz8_1 hcz8_2 hcz8_3 hfz8_0 hfz8_1 hfz8_2 hfz8_3
  obtain ⟨k, u, hk, hg, rfl, HO, BKr, BKm, HB⟩ := hrel
  by_cases hlt : k < m
  rotate_left
  ·have hltz : ¬ (k : Int) < (m : Int) := by omega
   have ek : k = m := by omega
   subst ek
   have hnb26 := NBmr.out
   have hnc26 := NBrm.out
   obtain ⟨⟨hcz27_0, hcz27_1, hcz27_2, hcz27_3⟩, hfz27_0, hfz27_1, hfz27_2, hfz27_3⟩ := cf4 BKm
   obtain ⟨⟨hcz28_0, hcz28_1, hcz28_2, hcz28_3⟩, hfz28_0, hfz28_1, hfz28_2, hfz28_3⟩ := cf4 BKr
   obtain ⟨Ao29, co29, rfl⟩ := sL HO
   go_wp2
   refine bodyPost_ret (results_cell_row rfl _ _ gr 29 #[.int .i64 n, .int .i64 k, .int .i64 a2, .slice Ao29 (imgOf f n k).length co29] (0, 0) _ rfl (by exact bP BKr.out) Try.underlying29 rfl (by kernel_rfl)) rfl ?_
   exact ⟨_, by first | rfl | (simp; done), by refine qR ?_; exact Kd.R_mono (Kd.R_far (p := ⟨gr, 3, none⟩) (Kd.R_far (p := ⟨gr, 2, none⟩) (Kd.R_far (p := ⟨gr, 1, none⟩) (Kd.R_far (p := ⟨gr, 0, none⟩) (Kd.R_types HO.out BKr.out (by decide)) (fun _ hk => hk.2) _) (fun _ hk => hk.2) _) (fun _ hk => hk.2) _) (fun _ hk => hk.2) _) (fun _ hk => trivial), by exact qW HB.out⟩
  have hltz : (k : Int) < (m : Int) := by omega
  have hk16 : (k : Int) ≤ 16 := by have := HM.out; omega
  obtain ⟨wo, rfl⟩ : ∃ wo : World, wo = wr := ⟨_, rfl⟩
  go_wp2
  go_loopg [21] n (fun gg2 s21 w' => ∃ (j : Nat) (u2 : Value), j ≤ n ∧ n - j ≤ gg2 ∧ s21 = .int .i64 j ∧ Aside0 (Kd.R (Kd.int .i64) 3 w' w.heap.size (fun _ => True) u2 (imgOf f n k ++ imgRow f k j)) ∧ Aside0 (w'.heap[gr]? = some (.cells #[.int .i64 0, .int .i64 0, .int .i64 0, (.slice none 0 0)] 29 (0, 0))) ∧ Aside0 (w'.heap[gm]? = some (.cells #[.int .i64 n, .int .i64 m, .int .i64 a2, u2] 29 (0, 0))) ∧ Aside0 (Below w.heap.size w w'))
  case atStart =>
   refine ⟨0, u, Nat.zero_le _, by omega, rfl, ⟨?_⟩, ⟨?_⟩, ⟨?_⟩, ⟨?_⟩⟩
   rotate_left
   ·refine qB ?_; exact BKr.out
   ·refine qB ?_; exact BKm.out
   ·exact qW HB.out
   rw [show imgOf f n k ++ imgRow f k 0 = imgOf f n k from List.append_nil _]
   refine qR ?_; exact HO.out
  case round =>
   clear HO HB BKr BKm
   obtain ⟨j, u2, hj, hg2, rfl, HO, BKr, BKm, HB⟩ := hrel
   by_cases hjlt : j < n
   rotate_left
   ·have hjz : ¬ (j : Int) < (n : Int) := by omega
    have ej : j = n := by omega
    subst ej
    go_wp2
    go_roundg (m - (k + 1))
    case measure => omega
    case rel =>
     refine ⟨k + 1, u2, by omega, by omega, by go_num, ⟨?_⟩, ⟨?_⟩, ⟨?_⟩, ⟨?_⟩⟩
     rotate_left
     ·refine qB ?_; exact BKr.out
     ·refine qB ?_; exact BKm.out
     ·exact qW HB.out
     rw [imgOf_succ]
     (with_reducible repeat (first | apply Kd.R_alloc | apply Kd.R_drewN | apply Kd.R_drew))
     exact HO.out
   have hjz : (j : Int) < (n : Int) := by omega
   have hj16 : (j : Int) ≤ 16 := by have := HN.out; omega
   have hj0 : (0 : Int) ≤ (j : Int) := by omega
   have hk0 : (0 : Int) ≤ (k : Int) := by omega
   have NEr := aM (Kd.R_ne HO.out BKr.out (by decide))
   have NEm := aM (Kd.R_ne HO.out BKm.out (by decide))
   go_wp2
   replace HO := aM (Kd.R_drew HO.out)
   replace BKr := aM (blk_drew BKr.out)
   replace BKm := aM (blk_drew BKm.out)
   replace HB := aM (below_drew1 HB.out)
   refine start_ (n := 9) (S := fun w' => w'.cell? ⟨gm, 3, none⟩ = some u2) (ds := [8]) (bA 9 0) (by kernel_rfl) rfl rfl ((blk_cell BKm.out 3).trans rfl) (fun hHeld => ?_)
   generalize wr.drew = w27 at HO BKr BKm HB hHeld ⊢
   refine pure_ (i := 0) (N := some 24) (v := ?_) (a' := ?_) (bA 9 1) rfl rfl (by kernel_rfl) (fun _ _ _ h => h) (Or.inl ⟨by rfl, ?_⟩) ?_ ?_
   rotate_left
   ·intro w'
    go_simp
    with_reducible rfl
   rotate_left
   ·refine pZ ?_
    rfl
   refine pure_ (i := 2) (N := some 26) (v := ?_) (a' := ?_) (bA 9 5) rfl rfl (by kernel_rfl) (fun _ _ _ h => h) (Or.inl ⟨by rfl, ?_⟩) ?_ ?_
   rotate_left
   ·intro w'
    go_simp
    with_reducible rfl
   rotate_left
   ·refine pZ ?_
    rfl
   refine pure_ (i := 3) (N := some 27) (v := ?_) (a' := ?_) (bA 9 13) rfl rfl (by kernel_rfl) (fun _ _ _ h => h) (Or.inl ⟨by rfl, ?_⟩) ?_ ?_
   rotate_left
   ·intro w'
    go_simp
    with_reducible rfl
   rotate_left
   ·refine pZ ?_
    rfl
   refine pure_ (i := 4) (N := some 28) (v := ?_) (a' := ?_) (bA 9 29) rfl rfl (by kernel_rfl) (fun _ _ _ h => h) (Or.inl ⟨by rfl, ?_⟩) ?_ ?_
   rotate_left
   ·intro w'
    go_simp
    with_reducible rfl
   rotate_left
   ·refine pZ ?_
    rfl
   refine take_ (i := 1) (N := some 25) (v := ?_) (a' := ?_) (bA 9 31) rfl rfl (by kernel_rfl) (fun _ _ _ h => h) (Or.inl ⟨by rfl, ?_⟩) hHeld ?_ ?_
   rotate_left
   ·intro w' s0
    go_simp
    with_reducible rfl
   rotate_left
   ·refine pZ ?_
    rfl
   refine one_ (i := 5) (N := some 29) (bA 9 63) rfl rfl (by kernel_rfl) (by decide) (fun K hK => ?_)
   refine call_ g (#[.int .i64 (j : Int), .int .i64 (k : Int)] ++ lb) (by rfl) rfl ?hrun ?_
   case hrun => simp [execOp, resolve, Deferred.ofValue, invoke, Act.eval, eg]
   have hcall := HP.out w27 (j : Int) (k : Int) HB.out hj0 hjz hk0 hltz
   refine hcall.mono ?_
   clear hcall
   rintro e w28 ⟨A1, c1, rfl, hr1, hl1, hb⟩
   refine ⟨_, rfl, ?_⟩
   have n0_ := aM (Kd.R_below HO.out hb)
   have n1_ := aM (blk_below BKr.out hb)
   have n2_ := aM (blk_below BKm.out hb)
   have n3_ := aM (below_step HB.out hb)
   have HR1 := aM hr1
   clear HO BKr BKm HB hr1 hl1 hb
   have HO := n0_
   have BKr := n1_
   have BKm := n2_
   have HB := n3_
   clear n0_ n1_ n2_ n3_
   refine hK.out _ _ ((blk_cell BKm.out 3).trans rfl) (fun hHeld => ?_)
   clear hK K
   refine norm_ (a' := ?_) ?_ ?_
   rotate_left
   ·show Act.put _ (some 29) _ = _
    refine pZ ?_
    rfl
   have LEN := aM (imgOf_len f n k 100 (fun i j _ _ => HF.out j i))
   have LEN2 := aM (imgRow_len f k j 100 (fun i _ => HF.out i k))
   have LEN3 := aM (HF.out j k)
   refine one_ (i := 6) (N := some 30) (bA 9 127) rfl rfl (by kernel_rfl) (by decide) (fun K hK => ?_)
   refine Kd.R_append_rows_step (Kd.int .i64) (w0 := w) w.heap.size (by rfl) (.tmp 25) (.tmp 29) 22 3 (.int .i64 0) 8 rfl Try.underlying22 info3 rfl (by decide) (by omega) u2 (imgOf f n k ++ imgRow f k j) (f j k) _ _ _ (fun _ => True) (fun _ => False) rfl rfl ?aO ?aR (fun _ _ h => h) (fun _ h => h.elim) ?aF ?aB ?aS ?aL ?_
   case aR => exact HR1.out
   case aB => exact HB.out
   case aF => exact (fun _ _ => trivial)
   case aO => exact HO.out
   case aS => exact below_size HB.out
   case aL =>
    have l1 := LEN.out
    have l2 := LEN2.out
    have l3 := LEN3.out
    have hn16 := HN.out
    have hm16 := HM.out
    rw [List.length_append]
    have q1 : k * (n * 100) ≤ 16 * (16 * 100) := Nat.mul_le_mul (by omega) (Nat.mul_le_mul (by omega) (Nat.le_refl _))
    have q2 : j * 100 ≤ 16 * 100 := Nat.mul_le_mul (by omega) (Nat.le_refl _)
    omega
   intro v1 w29 ho hb2 hg3 hat
   obtain ⟨ys, hys⟩ : ∃ ys : List Int, ys = (imgOf f n k ++ imgRow f k j) ++ f j k := ⟨_, rfl⟩
   rw [← hys] at ho
   have NY := aM hys
   clear hys
   have n1_ := aM (blk_grown BKr.out hg3 NEr.out)
   have n2_ := aM (blk_grown BKm.out hg3 NEm.out)
   clear HO BKr BKm HB hg3 hat
   have HO := aM ho
   have HB := aM hb2
   have BKr := n1_
   have BKm := n2_
   clear n1_ n2_ ho hb2
   obtain ⟨Ao, co, rfl⟩ := sL HO
   refine hK.out _ _ ((blk_cell BKm.out 3).trans rfl) (fun hHeld => ?_)
   clear hK K
   refine norm_ (a' := ?_) ?_ ?_
   rotate_left
   ·show Act.put _ (some 30) _ = _
    refine pZ ?_
    rfl
   refine pure_ (i := 7) (N := some 31) (v := ?_) (a' := ?_) (bA 9 255) rfl rfl (by kernel_rfl) (fun _ _ _ h => h) (Or.inl ⟨by rfl, ?_⟩) ?_ ?_
   rotate_left
   ·intro w'
    go_simp
    with_reducible rfl
   rotate_left
   ·refine pZ ?_
    rfl
   have hcz_3 : w29.cell? ⟨gm, 3, none⟩ = some u2 := (blk_cell BKm.out 3).trans rfl
   have hfz_3 := blk_frozen BKm.out 3
   refine last_ (i := 8) (N := none) (bA 9 511) rfl rfl (by kernel_rfl) (by decide) (fun K hK => ?_)
   refine skip_ (w1 := ?_) (by rfl) rfl ?_ ?_
   rotate_left
   ·go_simp
    rfl
   refine hK.out _ _ ?_
   clear hK K
   refine done_ (by kernel_rfl) ?_
   try go_wp2
   go_roundg (n - (j + 1))
   case measure => omega
   case rel =>
    refine ⟨j + 1, .slice Ao ys.length co, by omega, by omega, by go_num, ⟨?_⟩, ⟨?_⟩, ⟨?_⟩, ⟨?_⟩⟩
    rotate_left
    ·refine qB ?_; refine blk_far ?_ NBrm.out _; refine qB ?_; exact BKr.out
    ·exact bP BKm.out
    ·exact qW HB.out
    rw [imgRow_succ, ← List.append_assoc, ← NY.out]
    (with_reducible repeat (first | apply Kd.R_alloc | apply Kd.R_drewN | apply Kd.R_drew))
    exact Kd.R_mono (Kd.R_far (p := ⟨gm, 3, none⟩) (Kd.R_types HO.out BKm.out (by decide)) (fun _ hk => hk.2) _) (fun _ hk => trivial)
theorem C_single {w : World} {B : Nat} {v : Int} {t : TypeId} (h : w.heap[B]? = some (.cells #[.int .i64 v] t (0, 0))) : Kd.C (Kd.int .i64) w (some ⟨B, 0, none⟩) [v].length [v] := by
 refine ⟨rfl, by simp, fun _ => ⟨_, rfl, fun j p hp => ?_⟩⟩
 obtain ⟨rfl, rfl⟩ : j = 0 ∧ v = p := by
  cases j with
  | zero => exact ⟨rfl, by simpa using hp⟩
  | succ j => simp at hp
 refine ⟨[.int .i64 v], rfl, rfl, fun i u hu => ?_⟩
 obtain ⟨rfl, rfl⟩ : i = 0 ∧ (Value.int .i64 v) = u := by
  cases i with
  | zero => exact ⟨rfl, by simpa using hu⟩
  | succ i => simp at hu
 rw [add_plain]
 exact (blk_cell h 0).trans rfl
def pixOf (l : List Int) (n p x y : Int) : List Int := (l.take ((y * n + x) * p + p).toNat).drop ((y * n + x) * p).toNat
set_option maxHeartbeats 8000000 in
set_option maxRecDepth 100000 in
theorem impl_at.calls2 (a0_0 : Int) (a0_1 : Int) (a0_2 : Int) (A0_3 : Option Addr) (c0_3 : Nat) (l0_3 : List Int) (a1 : Int) (a2 : Int) (w : World) (hr0_3 : Kd.C (Kd.int .i64) w A0_3 l0_3.length l0_3) (hc0_3 : l0_3.length ≤ c0_3)
  (h0 : 0 ≤ a0_0) (h0' : a0_0 ≤ 16) (h2 : 0 ≤ a0_2) (h2' : a0_2 ≤ 16) (hx : 0 ≤ a1) (hx' : a1 ≤ 1000) (hy : 0 ≤ a2) (hy' : a2 ≤ 1000) (hi : (a2 * a0_0 + a1) * a0_2 + a0_2 ≤ (l0_3.length : Int)) :
  Calls Try.prog 44 #[.agg #[.int .i64 a0_0, .int .i64 a0_1, .int .i64 a0_2, .slice A0_3 l0_3.length c0_3], .int .i64 a1, .int .i64 a2] w fun e w' => ∃ (A : Option Addr) (c : Nat), e = .returned (.slice A (pixOf l0_3 a0_0 a0_2 a1 a2).length c) ∧ Kd.C (Kd.int .i64) w' A (pixOf l0_3 a0_0 a0_2 a1 a2).length (pixOf l0_3 a0_0 a0_2 a1 a2) ∧ (pixOf l0_3 a0_0 a0_2 a1 a2).length ≤ c ∧ Below w.heap.size w w' ∧ ∀ W : World, Kd.C (Kd.int .i64) W A0_3 l0_3.length l0_3 → Kd.C (Kd.int .i64) W A (pixOf l0_3 a0_0 a0_2 a1 a2).length (pixOf l0_3 a0_0 a0_2 a1 a2) := by
 have hu26 := Try.underlying29
 have HB := aM (Below.refl w.heap.size w)
 have m1 : 0 ≤ a2 * a0_0 := Int.mul_nonneg hy h0
 have m1' : a2 * a0_0 ≤ 1000 * 16 := Int.mul_le_mul hy' h0' h0 (by omega)
 have m2 : 0 ≤ (a2 * a0_0 + a1) * a0_2 := Int.mul_nonneg (by omega) h2
 have m2' : (a2 * a0_0 + a1) * a0_2 ≤ 17000 * 16 := Int.mul_le_mul (by omega) h2' h2 (by omega)
 obtain ⟨i010, hi010, _, hsz10, _⟩ := info_parts info3
 obtain ⟨A10, hcut10, hA10, hC10⟩ := print_mid_of (P := Try.prog) (Value.int .i64) 0 22 3 .i64 .i64 Try.underlying22 hi010 hsz10 A0_3 c0_3 l0_3 ((a2 * a0_0 + a1) * a0_2) ((a2 * a0_0 + a1) * a0_2 + a0_2) m2 (by omega) hi hc0_3
 have HR := aM (Kd.C_of_reads (h1 := fun _ => rfl) (hA10 _ (Kd.reads_of_C hr0_3)))
 have HC := aM hC10
 have HA := aM (fun (W : World) (h : Kd.C (Kd.int .i64) W A0_3 l0_3.length l0_3) => Kd.C_of_reads (d := (0 : Int)) (h1 := fun _ => rfl) (hA10 W (Kd.reads_of_C h)))
 change ∀ W : World, (Instr.slice _ _ _ _ _).run _ W = .ok (.slice A10 (pixOf l0_3 a0_0 a0_2 a1 a2).length _) W at hcut10
 change Aside0 (Kd.C _ w A10 (pixOf l0_3 a0_0 a0_2 a1 a2).length (pixOf l0_3 a0_0 a0_2 a1 a2)) at HR
 change Aside0 (∀ W : World, Kd.C (Kd.int .i64) W A0_3 l0_3.length l0_3 → Kd.C (Kd.int .i64) W A10 (pixOf l0_3 a0_0 a0_2 a1 a2).length (pixOf l0_3 a0_0 a0_2 a1 a2)) at HA
 change Aside0 ((pixOf l0_3 a0_0 a0_2 a1 a2).length ≤ _) at HC
 clear hA10 hC10 hi010 hsz10 hr0_3 hc0_3 hi
 generalize pixOf l0_3 a0_0 a0_2 a1 a2 = px at hcut10 HR HC HA ⊢
 go_enter Try.func44, Try.ntmps44
 go_wp2_with (first | ((with_reducible refine gate_dst (N := 3) rfl ?_); refine bxE (N := 3) (cs := #[.int .i64 a0_0, .int .i64 a0_1, .int .i64 a0_2, .slice A0_3 l0_3.length c0_3]) (t := 29) ?_; intro gb hg w8 hbox hb; have n0_ := aM (below_step HB.out hb); have n1_ := aM (hbox); have HR2 := aM (Kd.C_below HR.out hb); clear HB HR; have HB := n0_; have BK := n1_; have HR := HR2; clear n0_ n1_ HR2; clear hb hbox hg; have hcz9_0 : w8.cell? ⟨gb, 0, none⟩ = some (.int .i64 a0_0) := (blk_cell BK.out 0).trans rfl; have hcz9_1 : w8.cell? ⟨gb, 1, none⟩ = some (.int .i64 a0_1) := (blk_cell BK.out 1).trans rfl; have hcz9_2 : w8.cell? ⟨gb, 2, none⟩ = some (.int .i64 a0_2) := (blk_cell BK.out 2).trans rfl; have hcz9_3 : w8.cell? ⟨gb, 3, none⟩ = some (.slice A0_3 l0_3.length c0_3) := (blk_cell BK.out 3).trans rfl))
 go_ret
 exact ⟨A10, _, rfl, by exact qC HR.out, HC.out, by exact qW HB.out, HA.out⟩
theorem impl_at.calls (a0_0 : Int) (a0_1 : Int) (a0_2 : Int) (A0_3 : Option Addr) (c0_3 : Nat) (l0_3 : List Int) (a1 : Int) (a2 : Int) (w : World) (hr0_3 : Kd.C (Kd.int .i64) w A0_3 l0_3.length l0_3) (hc0_3 : l0_3.length ≤ c0_3)
  (h0 : 0 ≤ a0_0) (h0' : a0_0 ≤ 16) (h2 : 0 ≤ a0_2) (h2' : a0_2 ≤ 16) (hx : 0 ≤ a1) (hx' : a1 ≤ 1000) (hy : 0 ≤ a2) (hy' : a2 ≤ 1000) (hi : (a2 * a0_0 + a1) * a0_2 + a0_2 ≤ (l0_3.length : Int)) :
  Calls Try.prog 44 #[.agg #[.int .i64 a0_0, .int .i64 a0_1, .int .i64 a0_2, .slice A0_3 l0_3.length c0_3], .int .i64 a1, .int .i64 a2] w fun e w' => ∃ (A : Option Addr) (c : Nat), e = .returned (.slice A (pixOf l0_3 a0_0 a0_2 a1 a2).length c) ∧ Kd.C (Kd.int .i64) w' A (pixOf l0_3 a0_0 a0_2 a1 a2).length (pixOf l0_3 a0_0 a0_2 a1 a2) ∧ (pixOf l0_3 a0_0 a0_2 a1 a2).length ≤ c ∧ Below w.heap.size w w' := by
 exact (impl_at.calls2 a0_0 a0_1 a0_2 A0_3 c0_3 l0_3 a1 a2 w hr0_3 hc0_3 h0 h0' h2 h2' hx hx' hy hy' hi).mono fun e w' ⟨A, c, h1, h2, h3, h4, _⟩ => ⟨A, c, h1, h2, h3, h4⟩
theorem pixOf_len (l : List Int) (n p x y : Int) (hp : 0 ≤ p) (hp' : p ≤ 4) : (pixOf l n p x y).length ≤ 100 := by
 unfold pixOf
 rw [List.length_drop, List.length_take]
 omega
theorem pixOf_length {l : List Int} {n p x y : Int} (h0 : 0 ≤ (y * n + x) * p) (hp : 0 ≤ p) (h : (y * n + x) * p + p ≤ (l.length : Int)) : ((pixOf l n p x y).length : Int) = p := by
 unfold pixOf
 rw [List.length_drop, List.length_take]
 omega
theorem pixOf_mem {l : List Int} {n p x y v : Int} (h : v ∈ pixOf l n p x y) : v ∈ l := by
 unfold pixOf at h
 exact List.mem_of_mem_take (List.mem_of_mem_drop h)
def slices_Equal_int_int.l0 : Nat → List Int → List Int → Int → Int → Option (Bool)
 | 0, _, _, _, _ => none
 | k + 1, x0, x1, x12, x13 => if x13 < x12 then (if 0 ≤ x13 then (if x13 < (x0.length : Int) then (if x13 < (x1.length : Int) then (if (rd x0 x13) = (rd x1 x13) then (slices_Equal_int_int.l0 k x0 x1 x12 (wrap64 (x13 + 1))) else (some false)) else (none)) else (none)) else (none)) else (some true)
def slices_Equal_int_int.f (k : Nat) (l0 : List Int) (l1 : List Int) : Option (Bool) := if (l0.length : Int) = (l1.length : Int) then (slices_Equal_int_int.l0 k l0 l1 (l0.length : Int) 0) else (some false)
theorem slices_Equal_int_int.mono_l : ∀ k, (∀ y0 y1 y2 y3, LeO (slices_Equal_int_int.l0 k y0 y1 y2 y3) (slices_Equal_int_int.l0 (k + 1) y0 y1 y2 y3))
 | 0 => fun _ _ _ _ r h => by simp [slices_Equal_int_int.l0] at h
 | k + 1 => by
  have ih0 := slices_Equal_int_int.mono_l k
  ·intro y0 y1 y2 y3
   unfold slices_Equal_int_int.l0
   repeat' first | (with_reducible first | exact ih0 _ _ _ _ | exact lR | exact lN | refine lI ?_ ?_ | refine lB ?_ fun _ => ?_) | exact ih0 _ _ _ _ | exact lN | refine lI ?_ ?_ | refine lB ?_ fun _ => ?_
theorem slices_Equal_int_int.mono : ∀ a0 a1 k, LeO (slices_Equal_int_int.f k a0 a1) (slices_Equal_int_int.f (k + 1) a0 a1) := by
 intro a0 a1 k
 have ih0 := slices_Equal_int_int.mono_l k
 unfold slices_Equal_int_int.f
 repeat' first | (with_reducible first | exact ih0 _ _ _ _ | exact lR | exact lN | refine lI ?_ ?_ | refine lB ?_ fun _ => ?_) | exact ih0 _ _ _ _ | exact lN | refine lI ?_ ?_ | refine lB ?_ fun _ => ?_
set_option maxHeartbeats 8000000 in
set_option maxRecDepth 100000 in
theorem slices_Equal_int_int.calls (k : Nat) (A0 : Option Addr) (c0 : Nat) (l0 : List Int) (A1 : Option Addr) (c1 : Nat) (l1 : List Int) (r : Bool) (w : World) (hr0 : Kd.C (Kd.int .i64) w A0 l0.length l0) (hc0 : l0.length ≤ c0) (hr1 : Kd.C (Kd.int .i64) w A1 l1.length l1) (hc1 : l1.length ≤ c1) (h : slices_Equal_int_int.f k l0 l1 = some r) :
  Calls Try.prog 47 #[.slice A0 l0.length c0, .slice A1 l1.length c1] w fun e w' => e = .returned (.bool r) ∧ Drawn0 w w' := by
 have HR0 := aM hr0
 have HC0 := aM hc0
 clear hr0 hc0
 have HR1 := aM hr1
 have HC1 := aM hc1
 clear hr1 hc1
 unfold slices_Equal_int_int.f at h
 have H := h
 clear h
 by_cases c3 : (l0.length : Int) = (l1.length : Int)
 ·rw [if_pos c3] at H
  have c3b0 : ((l0.length : Int) == (l1.length : Int)) = true := beq_iff_eq.mpr c3
  have c3b1 : ((l0.length : Int) != (l1.length : Int)) = false := bne_eq_false_iff_eq.mpr c3
  have c3b2 : (l0.length == l1.length) = true := by first | simpa using c3 | (simp at c3 ⊢; omega)
  clear c3
  have H' := aM H
  clear H
  go_enter Try.func47, Try.ntmps47
  go_wp2
  repeat (go_quiet (fail); try go_wp2)
  go_loopg [13] k (fun kq v13 w' => ∃ (x13_1 : Int), v13 = .int .i64 x13_1 ∧ Aside0 (slices_Equal_int_int.l0 kq l0 l1 (l0.length : Int) x13_1 = some r) ∧ Aside0 (kq ≤ k) ∧ Drawn0 w w')
  case atStart => exact ⟨(0), qE, H', ⟨Nat.le_refl _⟩, qD⟩
  case round =>
   clear H'
   try clear c1
   try clear c3
   try clear c3b0
   try clear c3b1
   try clear c3b2
   obtain ⟨x13_1, rfl, HA, HK1, ⟨m1, rfl⟩⟩ := hrel
   cases gk with
   | zero => exact absurd HA.out (by simp [slices_Equal_int_int.l0])
   | succ k1 =>
    have H := HA.out
    clear HA
    simp only [slices_Equal_int_int.l0] at H
    by_cases c4 : x13_1 < (l0.length : Int)
    rotate_left
    ·rw [if_neg c4] at H
     have c4b0 : decide (x13_1 < (l0.length : Int)) = false := decide_eq_false c4
     clear c4
     obtain rfl := Option.some.inj H
     go_wp2
     repeat (go_quiet (fail); try go_wp2)
     go_ret
     exact ⟨qE, qD⟩
    rw [if_pos c4] at H
    have c4b0 : decide (x13_1 < (l0.length : Int)) = true := decide_eq_true c4
    clear c4
    replace H := iD H
    obtain ⟨c5b0, H⟩ := H
    replace H := iD H
    obtain ⟨c6b0, H⟩ := H
    replace H := iD H
    obtain ⟨c7b0, H⟩ := H
    by_cases c8 : (rd l0 x13_1) = (rd l1 x13_1)
    rotate_left
    ·rw [if_neg c8] at H
     have c8b0 : ((rd l0 x13_1) == (rd l1 x13_1)) = false := beq_eq_false_iff_ne.mpr c8
     have c8b1 : ((rd l0 x13_1) != (rd l1 x13_1)) = true := bne_iff_ne.mpr c8
     obtain rfl := Option.some.inj H
     obtain ⟨ad157, e157, hx157_0⟩ := Kd.at_int HR0.out x13_1 oD oD
     cases e157
     have p157 := eq_true (oD : 0 ≤ (x13_1 : Int))
     have q157 := eq_true (oD : x13_1 < (l0.length : Int))
     obtain ⟨ad158, e158, hx158_0⟩ := Kd.at_int HR1.out x13_1 oD oD
     cases e158
     have p158 := eq_true (oD : 0 ≤ (x13_1 : Int))
     have q158 := eq_true (oD : x13_1 < (l1.length : Int))
     go_wp2
     repeat (go_quiet (fail); try go_wp2)
     go_ret
     exact ⟨qE, qD⟩
    rw [if_pos c8] at H
    have c8b0 : ((rd l0 x13_1) == (rd l1 x13_1)) = true := beq_iff_eq.mpr c8
    have c8b1 : ((rd l0 x13_1) != (rd l1 x13_1)) = false := bne_eq_false_iff_eq.mpr c8
    clear c8
    have H' := aM H
    clear H
    obtain ⟨ad157, e157, hx157_0⟩ := Kd.at_int HR0.out x13_1 oD oD
    cases e157
    have p157 := eq_true (oD : 0 ≤ (x13_1 : Int))
    have q157 := eq_true (oD : x13_1 < (l0.length : Int))
    obtain ⟨ad158, e158, hx158_0⟩ := Kd.at_int HR1.out x13_1 oD oD
    cases e158
    have p158 := eq_true (oD : 0 ≤ (x13_1 : Int))
    have q158 := eq_true (oD : x13_1 < (l1.length : Int))
    go_wp2
    repeat (go_quiet (fail); try go_wp2)
    go_roundg k1
    case measure => have := HK1.out; omega
    case rel => exact ⟨(wrap64 (x13_1 + 1)), qE, H', ⟨by have := HK1.out; omega⟩, qD⟩
 ·rw [if_neg c3] at H
  have c3b0 : ((l0.length : Int) == (l1.length : Int)) = false := beq_eq_false_iff_ne.mpr c3
  have c3b1 : ((l0.length : Int) != (l1.length : Int)) = true := bne_iff_ne.mpr c3
  have c3b2 : (l0.length == l1.length) = false := by first | simpa using c3 | (simp at c3 ⊢; omega)
  obtain rfl := Option.some.inj H
  go_enter Try.func47, Try.ntmps47
  go_wp2
  repeat (go_quiet (fail); try go_wp2)
  go_ret
  exact ⟨qE, qD⟩
theorem eqInts_l (a b : List Int) (h : a.length = b.length) (hl : a.length ≤ 1000) : ∀ (d i : Nat), i + d = a.length → (∀ j, j < i → a.getD j 0 = b.getD j 0) → slices_Equal_int_int.l0 (d + 1) a b (a.length : Int) i = some (decide (a = b)) := by
 intro d
 induction d with
 | zero =>
  intro i hi hj
  rw [slices_Equal_int_int.l0, if_neg (by omega)]
  congr 1
  refine (decide_eq_true (List.ext_getElem h fun j h1 h2 => ?_)).symm
  have := hj j (by omega)
  simpa [List.getD_eq_getElem?_getD, List.getElem?_eq_getElem h1, List.getElem?_eq_getElem h2] using this
 | succ d ih =>
  intro i hi hj
  rw [slices_Equal_int_int.l0, if_pos (by omega), if_pos (by omega), if_pos (by omega), if_pos (by omega)]
  have r : ∀ l : List Int, rd l (i : Int) = l.getD i 0 := fun l => by simp [rd]
  rw [r, r]
  by_cases e : a.getD i 0 = b.getD i 0
  rotate_left
  ·rw [if_neg e, decide_eq_false fun e2 => e (by rw [e2])]
  rw [if_pos e, wrap_small (by omega) (by omega), show (i : Int) + 1 = ((i + 1 : Nat) : Int) by omega]
  refine ih (i + 1) (by omega) fun j hj2 => ?_
  by_cases e2 : j = i
  ·rw [e2]; exact e
  exact hj j (by omega)
theorem eqInts_f (a b : List Int) (hl : a.length ≤ 1000) : slices_Equal_int_int.f (a.length + 1) a b = some (decide (a = b)) := by
 unfold slices_Equal_int_int.f
 by_cases h : a.length = b.length
 rotate_left
 ·rw [if_neg (by omega), decide_eq_false fun e => h (by rw [e])]
 rw [if_pos (by omega)]
 exact eqInts_l a b h hl a.length 0 (by omega) (fun j hj => by omega)
theorem eqInts_any (a b : List Int) (hl : b.length ≤ 1000) : ∃ k, slices_Equal_int_int.f k a b = some (decide (a = b)) := by
 by_cases h : a.length = b.length
 ·exact ⟨_, eqInts_f a b (by omega)⟩
 refine ⟨0, ?_⟩
 unfold slices_Equal_int_int.f
 rw [if_neg (by omega), decide_eq_false fun e => h (by rw [e])]
theorem palTest (w : World) (B : Nat) (A : Option Addr) (c : Nat) (px : List Int) (hB : w.heap[B]? = some (.cells #[.slice A px.length c] 22 (0, 0))) (hr : Kd.C (Kd.int .i64) w A px.length px) (hc : px.length ≤ c) (hl : px.length ≤ 1000) :
  PredL 46 #[.pointer (some ⟨B, 0, none⟩)] (fun x => decide (x = px)) w := fun W A1 c1 x hb hr1 hl1 => by
 obtain ⟨k, hk⟩ := eqInts_any x px hl
 have HK := aM hk
 have hz : W.cell? ⟨B, 0, none⟩ = some (.slice A px.length c) := (blk_cell (blk_below hB hb) 0).trans rfl
 have HR := aM hr1
 have HL := aM hl1
 have HP := aM (Kd.C_below hr hb)
 have HC := aM hc
 clear hb hB hr hc hr1 hl1 hl hk
 dsimp only
 have hC := slices_Equal_int_int.calls k A1 c1 x A c px _ W HR.out HL.out HP.out HC.out HK.out
 generalize decide (x = px) = b at hC ⊢
 have HCC := aM hC
 clear hC
 go_enter Try.func46, Try.ntmps46
 go_wp2_with (go_at_call 47; refine HCC.out.mono ?_; rintro e w' ⟨rfl, ⟨q, rfl⟩⟩)
 go_ret
 exact ⟨rfl, ⟨⟨q, rfl⟩⟩⟩
def palAdd (xs : List (List Int)) (px : List Int) : List (List Int) := if (xs.any fun x => decide (x = px)) = true then xs else xs ++ [px]
def palRow (l : List Int) (a0 a2 : Int) (y : Nat) (xs : List (List Int)) : Nat → List (List Int)
 | 0 => xs
 | x + 1 => palAdd (palRow l a0 a2 y xs x) (pixOf l a0 a2 (x : Int) (y : Int))
def palAll (l : List Int) (a0 a2 : Int) : Nat → List (List Int)
 | 0 => []
 | y + 1 => palRow l a0 a2 y (palAll l a0 a2 y) a0.toNat
theorem palRow_len (l : List Int) (a0 a2 : Int) (y : Nat) (xs : List (List Int)) : ∀ x, (palRow l a0 a2 y xs x).length ≤ xs.length + x
 | 0 => Nat.le_refl _
 | x + 1 => by
  have := palRow_len l a0 a2 y xs x
  rw [palRow, palAdd]
  split
  ·omega
  ·rw [List.length_append, List.length_singleton]; omega
theorem palAll_len (l : List Int) (a0 a2 : Int) : ∀ y, (palAll l a0 a2 y).length ≤ y * a0.toNat
 | 0 => Nat.zero_le _
 | y + 1 => by
  have h1 := palAll_len l a0 a2 y
  have h2 := palRow_len l a0 a2 y (palAll l a0 a2 y) a0.toNat
  rw [palAll, Nat.succ_mul]
  omega
def impl_PaletteOf.f (a0_0 : Int) (a0_1 : Int) (a0_2 : Int) (l0_3 : List Int) : Option (List (List Int) × Bool) := (impl_isImage.f a0_0 a0_1 a0_2 l0_3).bind fun t0 => (if t0 = true then (if 16 < (palAll l0_3 a0_0 a0_2 a0_1.toNat).length then some (([] : List (List Int)), false) else some (palAll l0_3 a0_0 a0_2 a0_1.toNat, true)) else some (([] : List (List Int)), false))
set_option maxHeartbeats 8000000 in
set_option maxRecDepth 100000 in
theorem impl_PaletteOf.calls (a0_0 : Int) (a0_1 : Int) (a0_2 : Int) (A0_3 : Option Addr) (c0_3 : Nat) (l0_3 : List Int) (r1 : List (List Int)) (r2 : Bool) (w : World) (hr0_3 : Kd.C (Kd.int .i64) w A0_3 l0_3.length l0_3) (hc0_3 : l0_3.length ≤ c0_3) (h : impl_PaletteOf.f a0_0 a0_1 a0_2 l0_3 = some (r1, r2)) :
  Calls Try.prog 15 #[.agg #[.int .i64 a0_0, .int .i64 a0_1, .int .i64 a0_2, .slice A0_3 l0_3.length c0_3]] w fun e w' => ∃ v0_ : Value, e = .returned (.tuple #[v0_, .bool r2]) ∧ Kd.S (Kd.slice 3 (Kd.int .i64)) 22 w' w.heap.size (fun _ => True) v0_ r1 ∧ Below w.heap.size w w' := by
 have HR0 := aM hr0_3
 have HC0 := aM hc0_3
 clear hr0_3 hc0_3
 have HB := aM (Below.refl w.heap.size w)
 unfold impl_PaletteOf.f at h
 obtain ⟨t0, q0, H⟩ := Option.bind_eq_some_iff.mp h
 clear h
 have A0 := aM q0
 clear q0
 cases t0 with
 | false =>
  rw [if_neg (show ¬ (false = true) by decide)] at H
  simp only [Option.some.injEq, Prod.mk.injEq] at H
  obtain ⟨rfl, rfl⟩ := H
  go_enter Try.func15, Try.ntmps15
  go_wp2_with (first | ((with_reducible refine gate_dst (N := 1) rfl ?_); (try (refine gate_guard (by rfl) ?_; dsimp only)); refine bxE (N := 1) (cs := #[.int .i64 a0_0, .int .i64 a0_1, .int .i64 a0_2, .slice A0_3 l0_3.length c0_3]) (t := 29) ?_; intro gm hg w161 hbox hb; have n162 := bS HB hb; have n163 := aM hbox; have n164 := aM ((by rw [hg]; exact (below_size (qW HB.out))) : w.heap.size ≤ gm); clear HB; have HB := n162; have BKgm := n163; have GEgm := n164; clear n162 n163 n164; clear hb hbox hg; have hz165 : w161.cell? ⟨gm, 0, none⟩ = some (.int .i64 a0_0) := (blk_cell BKgm.out 0).trans rfl; have hz166 : w161.cell? ⟨gm, 1, none⟩ = some (.int .i64 a0_1) := (blk_cell BKgm.out 1).trans rfl; have hz167 : w161.cell? ⟨gm, 2, none⟩ = some (.int .i64 a0_2) := (blk_cell BKgm.out 2).trans rfl; have hz168 : w161.cell? ⟨gm, 3, none⟩ = some (.slice A0_3 l0_3.length c0_3) := (blk_cell BKgm.out 3).trans rfl; have hf169 := blk_frozen BKgm.out 0; have hf170 := blk_frozen BKgm.out 1; have hf171 := blk_frozen BKgm.out 2; have hf172 := blk_frozen BKgm.out 3) | (go_at_call 43; (with_reducible refine (impl_isImage.calls a0_0 a0_1 a0_2 _ _ l0_3 false _ ?side1 ?side2 A0.out).mono ?_); (case side1 => exact (Kd.C_below HR0.out (qW HB.out))); (case side2 => exact HC0.out); rintro e w173 ⟨rfl, hb⟩; have n174 := bB BKgm hb; have n175 := bS HB hb; clear HB BKgm; have BKgm := n174; have HB := n175; clear n174 n175 hb; have hz176 : w173.cell? ⟨gm, 0, none⟩ = some (.int .i64 a0_0) := (blk_cell BKgm.out 0).trans rfl; have hz177 : w173.cell? ⟨gm, 1, none⟩ = some (.int .i64 a0_1) := (blk_cell BKgm.out 1).trans rfl; have hz178 : w173.cell? ⟨gm, 2, none⟩ = some (.int .i64 a0_2) := (blk_cell BKgm.out 2).trans rfl; have hz179 : w173.cell? ⟨gm, 3, none⟩ = some (.slice A0_3 l0_3.length c0_3) := (blk_cell BKgm.out 3).trans rfl; have hf180 := blk_frozen BKgm.out 0; have hf181 := blk_frozen BKgm.out 1; have hf182 := blk_frozen BKgm.out 2; have hf183 := blk_frozen BKgm.out 3))
  go_ret2
  exact ⟨_, rfl, Kd.S_nil _ _ _ _ _, by exact qW HB.out⟩
 | true =>
  rw [if_pos rfl] at H
  have V := aM (isImage_true A0.out)
  have b_ := V.out
  obtain ⟨⟨v0, v0'⟩, ⟨v1, v1'⟩, ⟨v2, v2'⟩, hlen, hby⟩ := b_
  have HLN := aM hlen
  clear hlen hby
  obtain ⟨a, rfl⟩ := Int.eq_ofNat_of_zero_le (show 0 ≤ a0_0 by omega)
  obtain ⟨b, rfl⟩ := Int.eq_ofNat_of_zero_le (show 0 ≤ a0_1 by omega)
  rw [Int.toNat_natCast] at H
  have HH := aM H
  clear H
  go_enter Try.func15, Try.ntmps15
  go_wp2_with (first | ((with_reducible refine gate_dst (N := 1) rfl ?_); (try (refine gate_guard (by rfl) ?_; dsimp only)); refine bxE (N := 1) (cs := #[.int .i64 (a : Int), .int .i64 (b : Int), .int .i64 a0_2, .slice A0_3 l0_3.length c0_3]) (t := 29) ?_; intro gm hg w184 hbox hb; have n185 := bS HB hb; have n186 := aM hbox; have n187 := aM ((by rw [hg]; exact (below_size (qW HB.out))) : w.heap.size ≤ gm); clear HB; have HB := n185; have BKgm := n186; have GEgm := n187; clear n185 n186 n187; clear hb hbox hg; have hz188 : w184.cell? ⟨gm, 0, none⟩ = some (.int .i64 (a : Int)) := (blk_cell BKgm.out 0).trans rfl; have hz189 : w184.cell? ⟨gm, 1, none⟩ = some (.int .i64 (b : Int)) := (blk_cell BKgm.out 1).trans rfl; have hz190 : w184.cell? ⟨gm, 2, none⟩ = some (.int .i64 a0_2) := (blk_cell BKgm.out 2).trans rfl; have hz191 : w184.cell? ⟨gm, 3, none⟩ = some (.slice A0_3 l0_3.length c0_3) := (blk_cell BKgm.out 3).trans rfl; have hf192 := blk_frozen BKgm.out 0; have hf193 := blk_frozen BKgm.out 1; have hf194 := blk_frozen BKgm.out 2; have hf195 := blk_frozen BKgm.out 3) | (go_at_call 43; (with_reducible refine (impl_isImage.calls (a : Int) (b : Int) a0_2 _ _ l0_3 true _ ?side1 ?side2 A0.out).mono ?_); (case side1 => exact (Kd.C_below HR0.out (qW HB.out))); (case side2 => exact HC0.out); rintro e w196 ⟨rfl, hb⟩; have n197 := bB BKgm hb; have n198 := bS HB hb; clear HB BKgm; have BKgm := n197; have HB := n198; clear n197 n198 hb; have hz199 : w196.cell? ⟨gm, 0, none⟩ = some (.int .i64 (a : Int)) := (blk_cell BKgm.out 0).trans rfl; have hz200 : w196.cell? ⟨gm, 1, none⟩ = some (.int .i64 (b : Int)) := (blk_cell BKgm.out 1).trans rfl; have hz201 : w196.cell? ⟨gm, 2, none⟩ = some (.int .i64 a0_2) := (blk_cell BKgm.out 2).trans rfl; have hz202 : w196.cell? ⟨gm, 3, none⟩ = some (.slice A0_3 l0_3.length c0_3) := (blk_cell BKgm.out 3).trans rfl; have hf203 := blk_frozen BKgm.out 0; have hf204 := blk_frozen BKgm.out 1; have hf205 := blk_frozen BKgm.out 2; have hf206 := blk_frozen BKgm.out 3) | ((with_reducible refine gate_dst (N := 11) rfl ?_); refine Kd.S_lit (Kd.slice 3 (Kd.int .i64)) _ 22 ?hg (N := 11) ?hd (xs := ([] : List (List Int))) (inner := []) (ok := fun _ => True) (okp := fun _ => True) ?hr ?hp (fun _ hk => hk) trivial (Below.refl _ _) (Nat.le_refl _) (by simp) ?_; (case hd => rfl); (case hg => rfl); (case hr => first | (go_simp; done) | (go_simp; rfl)); (case hp => exact (Reps.none _ _)); intro vl w207 ho4 hb hg_ hnew_; clear hg_ hnew_; have r_ := aM (Kd.S_lower ho4 (below_size (qW HB.out))); have n208 := bB BKgm hb; have n209 := bS HB hb; clear HB BKgm; have BKgm := n208; have HB := n209; clear n208 n209 hb; have hz210 : w207.cell? ⟨gm, 0, none⟩ = some (.int .i64 (a : Int)) := (blk_cell BKgm.out 0).trans rfl; have hz211 : w207.cell? ⟨gm, 1, none⟩ = some (.int .i64 (b : Int)) := (blk_cell BKgm.out 1).trans rfl; have hz212 : w207.cell? ⟨gm, 2, none⟩ = some (.int .i64 a0_2) := (blk_cell BKgm.out 2).trans rfl; have hz213 : w207.cell? ⟨gm, 3, none⟩ = some (.slice A0_3 l0_3.length c0_3) := (blk_cell BKgm.out 3).trans rfl; have hf214 := blk_frozen BKgm.out 0; have hf215 := blk_frozen BKgm.out 1; have hf216 := blk_frozen BKgm.out 2; have hf217 := blk_frozen BKgm.out 3; have HO := r_; clear r_ ho4))
  go_loopg [4, 14] b (fun gg s4 s14 w' => ∃ (y : Nat) (u : Value), y ≤ b ∧ b - y ≤ gg ∧ s14 = .int .i64 y ∧ s4 = u ∧ Aside0 (Kd.S (Kd.slice 3 (Kd.int .i64)) 22 w' w.heap.size (fun _ => True) u (palAll l0_3 a a0_2 y)) ∧ Aside0 (w'.heap[gm]? = some (.cells #[.int .i64 (a : Int), .int .i64 (b : Int), .int .i64 a0_2, .slice A0_3 l0_3.length c0_3] 29 (0, 0))) ∧ Aside0 (Below w.heap.size w w'))
  case atStart => exact ⟨0, _, Nat.zero_le _, by omega, rfl, rfl, ⟨by (with_reducible repeat (first | apply Kd.S_alloc | apply Kd.S_drewN | apply Kd.S_drew)); exact HO.out⟩, ⟨by refine qB ?_; exact BKgm.out⟩, ⟨by exact qW HB.out⟩⟩
  case round =>
   clear HO HB BKgm
   obtain ⟨y, u, hy, hg, rfl, rfl, HO, BKgm, HB⟩ := hrel
   obtain ⟨wo, ewo⟩ : ∃ wo : World, wo = wr := ⟨_, rfl⟩
   subst ewo
   have hz218 : wo.cell? ⟨gm, 0, none⟩ = some (.int .i64 (a : Int)) := (blk_cell BKgm.out 0).trans rfl
   have hz219 : wo.cell? ⟨gm, 1, none⟩ = some (.int .i64 (b : Int)) := (blk_cell BKgm.out 1).trans rfl
   have hz220 : wo.cell? ⟨gm, 2, none⟩ = some (.int .i64 a0_2) := (blk_cell BKgm.out 2).trans rfl
   have hz221 : wo.cell? ⟨gm, 3, none⟩ = some (.slice A0_3 l0_3.length c0_3) := (blk_cell BKgm.out 3).trans rfl
   have hf222 := blk_frozen BKgm.out 0
   have hf223 := blk_frozen BKgm.out 1
   have hf224 := blk_frozen BKgm.out 2
   have hf225 := blk_frozen BKgm.out 3
   by_cases hlt : y < b
   case neg =>
    have hltz : ¬ (y : Int) < (b : Int) := by omega
    have ek : y = b := by omega
    subst ek
    obtain ⟨Au, cu, eu⟩ := Kd.S_slice HO.out
    subst eu
    have H := HH.out
    obtain ⟨xs, hxs⟩ : ∃ xs, palAll l0_3 a a0_2 y = xs := ⟨_, rfl⟩
    rw [hxs] at H HO
    rw [hxs]
    clear hxs
    by_cases k1 : 16 < xs.length
    ·rw [if_pos k1] at H
     simp only [Option.some.injEq, Prod.mk.injEq] at H
     obtain ⟨rfl, rfl⟩ := H
     have k1z : (16 : Int) < (xs.length : Int) := by omega
     go_wp2
     go_ret2
     exact ⟨_, rfl, Kd.S_nil _ _ _ _ _, by exact qW HB.out⟩
    rw [if_neg k1] at H
    simp only [Option.some.injEq, Prod.mk.injEq] at H
    obtain ⟨rfl, rfl⟩ := H
    have k1z : ¬ (16 : Int) < (xs.length : Int) := by omega
    go_wp2
    go_ret2
    exact ⟨_, rfl, by (with_reducible repeat (first | apply Kd.S_alloc | apply Kd.S_drewN | apply Kd.S_drew)); exact HO.out, by exact qW HB.out⟩
   case pos =>
    have hltz : (y : Int) < (b : Int) := by omega
    go_wp2
    go_loopg [4, 19] a (fun gg2 s4 s19 w' => ∃ (x : Nat) (u : Value), x ≤ a ∧ a - x ≤ gg2 ∧ s19 = .int .i64 x ∧ s4 = u ∧ Aside0 (Kd.S (Kd.slice 3 (Kd.int .i64)) 22 w' w.heap.size (fun _ => True) u (palRow l0_3 a a0_2 y (palAll l0_3 a a0_2 y) x)) ∧ Aside0 (w'.heap[gm]? = some (.cells #[.int .i64 (a : Int), .int .i64 (b : Int), .int .i64 a0_2, .slice A0_3 l0_3.length c0_3] 29 (0, 0))) ∧ Aside0 (Below w.heap.size w w'))
    case atStart => exact ⟨0, _, Nat.zero_le _, by omega, rfl, rfl, ⟨by (with_reducible repeat (first | apply Kd.S_alloc | apply Kd.S_drewN | apply Kd.S_drew)); exact HO.out⟩, ⟨by refine qB ?_; exact BKgm.out⟩, ⟨by exact qW HB.out⟩⟩
    case round =>
     clear HO HB BKgm
     obtain ⟨x, u, hx, hg2, rfl, rfl, HO, BKgm, HB⟩ := hrel
     have hz226 : wr.cell? ⟨gm, 0, none⟩ = some (.int .i64 (a : Int)) := (blk_cell BKgm.out 0).trans rfl
     have hz227 : wr.cell? ⟨gm, 1, none⟩ = some (.int .i64 (b : Int)) := (blk_cell BKgm.out 1).trans rfl
     have hz228 : wr.cell? ⟨gm, 2, none⟩ = some (.int .i64 a0_2) := (blk_cell BKgm.out 2).trans rfl
     have hz229 : wr.cell? ⟨gm, 3, none⟩ = some (.slice A0_3 l0_3.length c0_3) := (blk_cell BKgm.out 3).trans rfl
     have hf230 := blk_frozen BKgm.out 0
     have hf231 := blk_frozen BKgm.out 1
     have hf232 := blk_frozen BKgm.out 2
     have hf233 := blk_frozen BKgm.out 3
     by_cases hlx : x < a
     case neg =>
      have hlxz : ¬ (x : Int) < (a : Int) := by omega
      have ek : x = a := by omega
      subst ek
      go_wp2
      go_roundg (b - (y + 1))
      case measure => omega
      case rel => exact ⟨y + 1, _, by omega, by omega, by go_num, rfl, ⟨by rw [palAll, Int.toNat_natCast]; (with_reducible repeat (first | apply Kd.S_alloc | apply Kd.S_drewN | apply Kd.S_drew)); exact HO.out⟩, ⟨by refine qB ?_; exact BKgm.out⟩, ⟨by exact qW HB.out⟩⟩
     case pos =>
      have hlxz : (x : Int) < (a : Int) := by omega
      have hfit := pix_fits (a0 := a) (a1 := b) (a2 := a0_2) (x := x) (y := y) (by omega) (by omega) (by omega) (by omega) (by omega)
      rw [← HLN.out] at hfit
      have HCA := aM (fun (W' : World) (hb' : Below w.heap.size w W') => impl_at.calls2 a b a0_2 A0_3 c0_3 l0_3 x y W' (Kd.C_below HR0.out hb') HC0.out (by omega) v0' (by omega) (by omega) (by omega) (by omega) (by omega) (by omega) hfit)
      have hpl := pixOf_len l0_3 a a0_2 x y (by omega) (by omega)
      clear hfit
      obtain ⟨px, hpx⟩ : ∃ px : List Int, pixOf l0_3 a a0_2 x y = px := ⟨_, rfl⟩
      rw [hpx] at HCA hpl
      have HPL := aM hpl
      have EPX := aM hpx
      clear hpl hpx
      have HLM := aM (show (palRow l0_3 a a0_2 y (palAll l0_3 a a0_2 y) x).length ≤ 1000 by
       have h1 := palRow_len l0_3 a a0_2 y (palAll l0_3 a a0_2 y) x
       have h2 := palAll_len l0_3 a a0_2 y
       rw [Int.toNat_natCast] at h2
       have h3 : y * a ≤ 16 * 16 := Nat.mul_le_mul (by omega) (by omega)
       omega)
      obtain ⟨xs, hxs⟩ : ∃ xs : List (List Int), xs = palRow l0_3 a a0_2 y (palAll l0_3 a a0_2 y) x := ⟨_, rfl⟩
      rw [← hxs] at HO HLM
      have EXS := aM hxs
      clear hxs
      obtain ⟨Au, cu, eu⟩ := Kd.S_slice HO.out
      subst eu
      obtain ⟨bb, hbb⟩ : ∃ z : Bool, (xs.any fun z => decide (z = px)) = z := ⟨_, rfl⟩
      have HBB := aM hbb
      clear hbb
      cases bb with
      | true =>
       have HBT := HBB.out
       have CF : Aside0 (∀ W : World, True) := ⟨fun _ => trivial⟩
       clear HBT CF
       go_wp2_with (first | (go_at_call 44; refine (HCA.out _ (qW HB.out)).mono ?_; rintro e w234 ⟨A', c', rfl, hr', hl', hb, hall⟩; have r_ := aM (Kd.S_below (by (with_reducible repeat (first | apply Kd.S_alloc | apply Kd.S_drewN | apply Kd.S_drew)); exact HO.out) hb); clear HO; have HO := r_; clear r_; have HALL := aM hall; have HLC := aM hl'; clear hr' hall hl'; have n235 := bB BKgm hb; have n236 := bS HB hb; clear HB BKgm; have BKgm := n235; have HB := n236; clear n235 n236 hb; have hz237 : w234.cell? ⟨gm, 0, none⟩ = some (.int .i64 (a : Int)) := (blk_cell BKgm.out 0).trans rfl; have hz238 : w234.cell? ⟨gm, 1, none⟩ = some (.int .i64 (b : Int)) := (blk_cell BKgm.out 1).trans rfl; have hz239 : w234.cell? ⟨gm, 2, none⟩ = some (.int .i64 a0_2) := (blk_cell BKgm.out 2).trans rfl; have hz240 : w234.cell? ⟨gm, 3, none⟩ = some (.slice A0_3 l0_3.length c0_3) := (blk_cell BKgm.out 3).trans rfl; have hf241 := blk_frozen BKgm.out 0; have hf242 := blk_frozen BKgm.out 1; have hf243 := blk_frozen BKgm.out 2; have hf244 := blk_frozen BKgm.out 3) | ((with_reducible refine gate_dst (N := 7) rfl ?_); (try (refine gate_guard (by rfl) ?_; dsimp only)); refine bxE (N := 7) (cs := #[.slice none 0 0]) (t := 22) ?_; intro gp hg w245 hbox hb; have n246 := bB BKgm hb; have n247 := bS HB hb; have n248 := aM hbox; have n249 := aM ((by rw [hg]; exact (below_size (qW HB.out))) : w.heap.size ≤ gp); have n250 := aM ((by rw [hg]; exact Nat.ne_of_lt (blk_lt (g := gm) (o := .cells #[.int .i64 (a : Int), .int .i64 (b : Int), .int .i64 a0_2, .slice A0_3 l0_3.length c0_3] 29 (0, 0)) (qB BKgm.out))) : gm ≠ gp); have n251 := aM ((by rw [hg]; exact Nat.ne_of_gt (blk_lt (g := gm) (o := .cells #[.int .i64 (a : Int), .int .i64 (b : Int), .int .i64 a0_2, .slice A0_3 l0_3.length c0_3] 29 (0, 0)) (qB BKgm.out))) : gp ≠ gm); have r_ := aM (Kd.S_below (Kd.S_elderB (by (with_reducible repeat (first | apply Kd.S_alloc | apply Kd.S_drewN | apply Kd.S_drew)); exact HO.out) gp (Nat.le_of_eq hg.symm)) hb); clear HO; have HO := r_; clear r_; clear HB BKgm; have BKgm := n246; have HB := n247; have BKgp := n248; have GEgp := n249; have NBgm_gp := n250; have NBgp_gm := n251; clear n246 n247 n248 n249 n250 n251; clear hb hbox hg; have hz252 : w245.cell? ⟨gm, 0, none⟩ = some (.int .i64 (a : Int)) := (blk_cell BKgm.out 0).trans rfl; have hz253 : w245.cell? ⟨gm, 1, none⟩ = some (.int .i64 (b : Int)) := (blk_cell BKgm.out 1).trans rfl; have hz254 : w245.cell? ⟨gm, 2, none⟩ = some (.int .i64 a0_2) := (blk_cell BKgm.out 2).trans rfl; have hz255 : w245.cell? ⟨gm, 3, none⟩ = some (.slice A0_3 l0_3.length c0_3) := (blk_cell BKgm.out 3).trans rfl; have hf256 := blk_frozen BKgm.out 0; have hf257 := blk_frozen BKgm.out 1; have hf258 := blk_frozen BKgm.out 2; have hf259 := blk_frozen BKgm.out 3) | ((with_reducible refine gate_store (t := 22) (p := 7) rfl ?_); have hzs0_ : w245.cell? ⟨gp, 0, none⟩ = some (.slice none 0 0) := (blk_cell BKgp.out 0).trans rfl; have hfs0_ := blk_frozen BKgp.out 0; refine store_event (t := 22) (p := 7) (v := ?vo_w262) (w1 := (w245.setCell ⟨gp, 0, none⟩ (.slice A' px.length c'))) ?hg ?ho ?hn ?hr ?_; (case ho => rfl); (case hg => rfl); (case hn => rfl); (case hr => first | (go_simp; done) | (go_simp; rfl)); intro w262 hw; have r_ := aM (show Kd.S (Kd.slice 3 (Kd.int .i64)) 22 w262 w.heap.size (fun k_ => True ∧ k_ ≠ gp) (.slice Au xs.length cu) xs by rw [hw]; exact Kd.S_far (p := ⟨gp, 0, none⟩) HO.out (fun _ hk => hk.2) _); clear HO; have HO := r_; clear r_; have n263 := aM (show w262.heap[gm]? = some (.cells #[.int .i64 (a : Int), .int .i64 (b : Int), .int .i64 a0_2, .slice A0_3 l0_3.length c0_3] 29 (0, 0)) by rw [hw]; exact blk_far (BKgm.out) NBgm_gp.out _); have n264 := aM (show w262.heap[gp]? = some (.cells #[.slice A' px.length c'] 22 (0, 0)) by rw [hw]; refine blk_put (cs := #[.slice none 0 0]) ?_ 0 _ rfl; exact BKgp.out); have n265 := aM (show Below w.heap.size w w262 by rw [hw]; exact below_set (HB.out) GEgp.out); clear hzs0_ hfs0_; clear HB BKgm BKgp hw; have BKgm := n263; have BKgp := n264; have HB := n265; clear n263 n264 n265; have hz266 : w262.cell? ⟨gm, 0, none⟩ = some (.int .i64 (a : Int)) := (blk_cell BKgm.out 0).trans rfl; have hz267 : w262.cell? ⟨gm, 1, none⟩ = some (.int .i64 (b : Int)) := (blk_cell BKgm.out 1).trans rfl; have hz268 : w262.cell? ⟨gm, 2, none⟩ = some (.int .i64 a0_2) := (blk_cell BKgm.out 2).trans rfl; have hz269 : w262.cell? ⟨gm, 3, none⟩ = some (.slice A0_3 l0_3.length c0_3) := (blk_cell BKgm.out 3).trans rfl; have hf270 := blk_frozen BKgm.out 0; have hf271 := blk_frozen BKgm.out 1; have hf272 := blk_frozen BKgm.out 2; have hf273 := blk_frozen BKgm.out 3; have hz274 : w262.cell? ⟨gp, 0, none⟩ = some (.slice A' px.length c') := (blk_cell BKgp.out 0).trans rfl; have hf275 := blk_frozen BKgp.out 0) | (go_at_call 45; refine (containsFuncList.calls 46 #[.pointer (some ⟨gp, 0, none⟩)] (enters_of Try.func46 (by kernel_rfl) rfl) (fun z => decide (z = px)) _ _ xs _ (palTest _ gp A' c' px (qB BKgp.out) (HALL.out _ (Kd.C_below HR0.out (qW HB.out))) HLC.out (by have := HPL.out; omega)) (Kd.S_reads' (by (with_reducible repeat (first | apply Kd.S_alloc | apply Kd.S_drewN | apply Kd.S_drew)); exact HO.out)).2.2 (Kd.S_reads' HO.out).2.1).mono ?_; rw [HBB.out]; rintro e w' ⟨rfl, ⟨q, rfl⟩⟩))
       go_roundg (a - (x + 1))
       case measure => omega
       case rel => exact ⟨x + 1, _, by omega, by omega, by go_num, rfl, ⟨by rw [palRow, ← EXS.out, EPX.out, palAdd, if_pos HBB.out]; (with_reducible repeat (first | apply Kd.S_alloc | apply Kd.S_drewN | apply Kd.S_drew)); exact Kd.S_mono HO.out (fun _ _ => trivial)⟩, ⟨by refine qB ?_; exact BKgm.out⟩, ⟨by exact qW HB.out⟩⟩
      | false =>
       go_wp2_with (first | (go_at_call 44; refine (HCA.out _ (qW HB.out)).mono ?_; rintro e w234 ⟨A', c', rfl, hr', hl', hb, hall⟩; have r_ := aM (Kd.S_below (by (with_reducible repeat (first | apply Kd.S_alloc | apply Kd.S_drewN | apply Kd.S_drew)); exact HO.out) hb); clear HO; have HO := r_; clear r_; have HALL := aM hall; have HLC := aM hl'; clear hr' hall hl'; have n235 := bB BKgm hb; have n236 := bS HB hb; clear HB BKgm; have BKgm := n235; have HB := n236; clear n235 n236 hb; have hz237 : w234.cell? ⟨gm, 0, none⟩ = some (.int .i64 (a : Int)) := (blk_cell BKgm.out 0).trans rfl; have hz238 : w234.cell? ⟨gm, 1, none⟩ = some (.int .i64 (b : Int)) := (blk_cell BKgm.out 1).trans rfl; have hz239 : w234.cell? ⟨gm, 2, none⟩ = some (.int .i64 a0_2) := (blk_cell BKgm.out 2).trans rfl; have hz240 : w234.cell? ⟨gm, 3, none⟩ = some (.slice A0_3 l0_3.length c0_3) := (blk_cell BKgm.out 3).trans rfl; have hf241 := blk_frozen BKgm.out 0; have hf242 := blk_frozen BKgm.out 1; have hf243 := blk_frozen BKgm.out 2; have hf244 := blk_frozen BKgm.out 3) | ((with_reducible refine gate_dst (N := 7) rfl ?_); (try (refine gate_guard (by rfl) ?_; dsimp only)); refine bxE (N := 7) (cs := #[.slice none 0 0]) (t := 22) ?_; intro gp hg w245 hbox hb; have n246 := bB BKgm hb; have n247 := bS HB hb; have n248 := aM hbox; have n249 := aM ((by rw [hg]; exact (below_size (qW HB.out))) : w.heap.size ≤ gp); have n250 := aM ((by rw [hg]; exact Nat.ne_of_lt (blk_lt (g := gm) (o := .cells #[.int .i64 (a : Int), .int .i64 (b : Int), .int .i64 a0_2, .slice A0_3 l0_3.length c0_3] 29 (0, 0)) (qB BKgm.out))) : gm ≠ gp); have n251 := aM ((by rw [hg]; exact Nat.ne_of_gt (blk_lt (g := gm) (o := .cells #[.int .i64 (a : Int), .int .i64 (b : Int), .int .i64 a0_2, .slice A0_3 l0_3.length c0_3] 29 (0, 0)) (qB BKgm.out))) : gp ≠ gm); have r_ := aM (Kd.S_below (Kd.S_elderB (by (with_reducible repeat (first | apply Kd.S_alloc | apply Kd.S_drewN | apply Kd.S_drew)); exact HO.out) gp (Nat.le_of_eq hg.symm)) hb); clear HO; have HO := r_; clear r_; clear HB BKgm; have BKgm := n246; have HB := n247; have BKgp := n248; have GEgp := n249; have NBgm_gp := n250; have NBgp_gm := n251; clear n246 n247 n248 n249 n250 n251; clear hb hbox hg; have hz252 : w245.cell? ⟨gm, 0, none⟩ = some (.int .i64 (a : Int)) := (blk_cell BKgm.out 0).trans rfl; have hz253 : w245.cell? ⟨gm, 1, none⟩ = some (.int .i64 (b : Int)) := (blk_cell BKgm.out 1).trans rfl; have hz254 : w245.cell? ⟨gm, 2, none⟩ = some (.int .i64 a0_2) := (blk_cell BKgm.out 2).trans rfl; have hz255 : w245.cell? ⟨gm, 3, none⟩ = some (.slice A0_3 l0_3.length c0_3) := (blk_cell BKgm.out 3).trans rfl; have hf256 := blk_frozen BKgm.out 0; have hf257 := blk_frozen BKgm.out 1; have hf258 := blk_frozen BKgm.out 2; have hf259 := blk_frozen BKgm.out 3) | ((with_reducible refine gate_store (t := 22) (p := 7) rfl ?_); have hzs0_ : w245.cell? ⟨gp, 0, none⟩ = some (.slice none 0 0) := (blk_cell BKgp.out 0).trans rfl; have hfs0_ := blk_frozen BKgp.out 0; refine store_event (t := 22) (p := 7) (v := ?vo_w262) (w1 := (w245.setCell ⟨gp, 0, none⟩ (.slice A' px.length c'))) ?hg ?ho ?hn ?hr ?_; (case ho => rfl); (case hg => rfl); (case hn => rfl); (case hr => first | (go_simp; done) | (go_simp; rfl)); intro w262 hw; have r_ := aM (show Kd.S (Kd.slice 3 (Kd.int .i64)) 22 w262 w.heap.size (fun k_ => True ∧ k_ ≠ gp) (.slice Au xs.length cu) xs by rw [hw]; exact Kd.S_far (p := ⟨gp, 0, none⟩) HO.out (fun _ hk => hk.2) _); clear HO; have HO := r_; clear r_; have n263 := aM (show w262.heap[gm]? = some (.cells #[.int .i64 (a : Int), .int .i64 (b : Int), .int .i64 a0_2, .slice A0_3 l0_3.length c0_3] 29 (0, 0)) by rw [hw]; exact blk_far (BKgm.out) NBgm_gp.out _); have n264 := aM (show w262.heap[gp]? = some (.cells #[.slice A' px.length c'] 22 (0, 0)) by rw [hw]; refine blk_put (cs := #[.slice none 0 0]) ?_ 0 _ rfl; exact BKgp.out); have n265 := aM (show Below w.heap.size w w262 by rw [hw]; exact below_set (HB.out) GEgp.out); clear hzs0_ hfs0_; clear HB BKgm BKgp hw; have BKgm := n263; have BKgp := n264; have HB := n265; clear n263 n264 n265; have hz266 : w262.cell? ⟨gm, 0, none⟩ = some (.int .i64 (a : Int)) := (blk_cell BKgm.out 0).trans rfl; have hz267 : w262.cell? ⟨gm, 1, none⟩ = some (.int .i64 (b : Int)) := (blk_cell BKgm.out 1).trans rfl; have hz268 : w262.cell? ⟨gm, 2, none⟩ = some (.int .i64 a0_2) := (blk_cell BKgm.out 2).trans rfl; have hz269 : w262.cell? ⟨gm, 3, none⟩ = some (.slice A0_3 l0_3.length c0_3) := (blk_cell BKgm.out 3).trans rfl; have hf270 := blk_frozen BKgm.out 0; have hf271 := blk_frozen BKgm.out 1; have hf272 := blk_frozen BKgm.out 2; have hf273 := blk_frozen BKgm.out 3; have hz274 : w262.cell? ⟨gp, 0, none⟩ = some (.slice A' px.length c') := (blk_cell BKgp.out 0).trans rfl; have hf275 := blk_frozen BKgp.out 0) | (go_at_call 45; refine (containsFuncList.calls 46 #[.pointer (some ⟨gp, 0, none⟩)] (enters_of Try.func46 (by kernel_rfl) rfl) (fun z => decide (z = px)) _ _ xs _ (palTest _ gp A' c' px (qB BKgp.out) (HALL.out _ (Kd.C_below HR0.out (qW HB.out))) HLC.out (by have := HPL.out; omega)) (Kd.S_reads' (by (with_reducible repeat (first | apply Kd.S_alloc | apply Kd.S_drewN | apply Kd.S_drew)); exact HO.out)).2.2 (Kd.S_reads' HO.out).2.1).mono ?_; rw [HBB.out]; rintro e w' ⟨rfl, ⟨q, rfl⟩⟩) | ((with_reducible refine gate_dst (N := 31) rfl ?_); refine iL ([] : List Int) [] ?_; intro v31 w276 ho4 hb hg_ hnew_; clear hg_ hnew_; have BKs := BKgm; have HBs := HB; have HZ := aM (below_step (pw_below_drewN (Below.refl w262.heap.size w262) q) hb); have HR31 := aM ho4; clear ho4; have n279 := bB BKgm hb; have n280 := bB BKgp hb; have n281 := bS HB hb; clear HB BKgm BKgp; have BKgm := n279; have BKgp := n280; have HB := n281; clear n279 n280 n281 hb; have hz282 : w276.cell? ⟨gm, 0, none⟩ = some (.int .i64 (a : Int)) := (blk_cell BKgm.out 0).trans rfl; have hz283 : w276.cell? ⟨gm, 1, none⟩ = some (.int .i64 (b : Int)) := (blk_cell BKgm.out 1).trans rfl; have hz284 : w276.cell? ⟨gm, 2, none⟩ = some (.int .i64 a0_2) := (blk_cell BKgm.out 2).trans rfl; have hz285 : w276.cell? ⟨gm, 3, none⟩ = some (.slice A0_3 l0_3.length c0_3) := (blk_cell BKgm.out 3).trans rfl; have hf286 := blk_frozen BKgm.out 0; have hf287 := blk_frozen BKgm.out 1; have hf288 := blk_frozen BKgm.out 2; have hf289 := blk_frozen BKgm.out 3; have hz290 : w276.cell? ⟨gp, 0, none⟩ = some (.slice A' px.length c') := (blk_cell BKgp.out 0).trans rfl; have hf291 := blk_frozen BKgp.out 0) | ((with_reducible refine gate_builtin (b := .append) (xs := #[.tmp 31, .tmp 32]) rfl ?_); at_builtin; refine Kd.R_append_rows (Kd.int .i64) (w0 := w262) w262.heap.size rfl (.tmp 31) (.tmp 32) 22 3 (.int .i64 0) 8 rfl Try.underlying22 info3 rfl (by decide) (by omega) v31 [] px _ _ _ (fun _ => True) (fun _ => False) rfl rfl ?aO ?aR (fun _ _ h => h) (fun _ h => h.elim) ?aF ?aB ?aS ?aL ?_; (case aR => exact (HALL.out _ (Kd.C_below HR0.out (qW HB.out)))); (case aB => exact HZ.out); (case aF => exact (fun _ _ => trivial)); (case aO => exact HR31.out); (case aS => exact HZ.out.size); (case aL => have := HPL.out; simp only [List.length_nil]; omega); intro v33 w277 ho hb hg hat; rw [List.nil_append] at ho; have m1_ := aM (Kd.S_elder' HO.out (Kd.R_base ho) hb); have m2_ := aM (blk_below BKs.out hb); have m3_ := aM (below_step HBs.out hb); have m4_ := aM (Kd.R_lower ho HBs.out.size); clear HO BKgm BKgp HB BKs HBs HZ HR31; have HO := m1_; have BKgm := m2_; have HB := m3_; have HV := m4_; clear m1_ m2_ m3_ m4_ ho hb hg hat; obtain ⟨A33, c33, rfl⟩ := sL HV) | ((with_reducible refine gate_builtin (b := .append) (xs := #[.tmp 30, .tmp 34]) rfl ?_); at_builtin; refine Kd.S_append (Kd.slice 3 (Kd.int .i64)) (w0 := w) w.heap.size rfl (.tmp 30) (.tmp 34) 26 22 (.slice none 0 0) 24 rfl Try.underlying26 (show (Try.prog.info? 22).map (fun i => (i.zero, i.size, i.bytes)) = some (some (.slice none 0 0), 1, 24) from by kernel_rfl) rfl (by decide) (by omega) (.slice Au xs.length cu) xs px [.slice A33 px.length c33] (fun _ => True) (fun k_ => some k_ = (.slice A33 px.length c33 : Value).ownBlock) rfl rfl ?aP (fun k_ hk_ => (Kd.R_mono (ok' := fun k_ => True ∧ some k_ ≠ (.slice Au xs.length cu : Value).ownBlock) (Kd.R_apart' (HV.out) (Kd.S_typed HO.out) (by decide)) (fun k_ hk => ⟨trivial, hk.2⟩)).1 k_ hk_.symm) ?aF ?aO ?aB ?aS ?aL ?_; (case aP => exact Kd.M_row (Kd.R_mono (Kd.R_tight rfl (Kd.R_mono (ok' := fun k_ => True ∧ some k_ ≠ (.slice Au xs.length cu : Value).ownBlock) (Kd.R_apart' (HV.out) (Kd.S_typed HO.out) (by decide)) (fun k_ hk => ⟨trivial, hk.2⟩))) (fun _ h_ => h_))); (case aB => exact HB.out); (case aF => exact (fun _ _ => trivial)); (case aO => exact Kd.S_mono HO.out (fun k_ hk => ⟨trivial, fun e_ => hk.2 e_⟩)); (case aS => exact HB.out.size); (case aL => have := HLM.out; omega); intro v35 w278 ho hb hg hat; have m1_ := aM (blk_grown BKgm.out hg (Kd.S_ne HO.out BKgm.out (by decide))); have m2_ := aM ho; have m3_ := aM hb; clear HO BKgm HB HV; have HO := m2_; have BKgm := m1_; have HB := m3_; clear m1_ m2_ m3_ ho hb hg hat))
       go_roundg (a - (x + 1))
       case measure => omega
       case rel => exact ⟨x + 1, _, by omega, by omega, by go_num, rfl, ⟨by rw [palRow, ← EXS.out, EPX.out, palAdd, if_neg (by rw [HBB.out]; decide)]; (with_reducible repeat (first | apply Kd.S_alloc | apply Kd.S_drewN | apply Kd.S_drew)); exact HO.out⟩, ⟨by refine qB ?_; exact BKgm.out⟩, ⟨by exact qW HB.out⟩⟩
end Go.Proofs.Ytohbpilokmppbaa.P
