/- Contracts and row, written by a program of this place out of the translation: the call answers true and its argument reads as before, for every input; no condition. -/
import Derived.Test.YtnamhlcdlbjcfaaK0
import Derived.Test.YtnamhlcdlbjcfaaK1
import Derived.Test.YtnamhlcdlbjcfaaK2
namespace Go.Proofs.Ytnamhlcdlbjcfaa.P
open Go.RowKit Go.Proofs.YtnamhlcdlbjcfaaW.PrintWords Go.Proofs.YtnamhlcdlbjcfaaW.PrintLast Go.Proofs.YtnamhlcdlbjcfaaW.PrintMore
attribute [local go_sem] max2_int min2_int max_two min_two max_three min_three max_four min_four   -- for this text's walks alone
set_option linter.unusedVariables false
set_option linter.unusedSimpArgs false
instance (a b c : Int) (l : List Int) : Decidable (ImgOk a b c l) := by
 unfold ImgOk
 infer_instance
def turnGo (c : Int) : Nat → Int → Int → List Int → Option (Int × Int × List Int)
 | 0, n, m, d => some (n, m, d)
 | k + 1, n, m, d => if ImgOk n m c d then turnGo c k m n (imgOf (fun x y => pixOf d n c y (m - 1 - x)) m.toNat n.toNat) else none
def impl_TurnImage.f (a0_0 : Int) (a0_1 : Int) (a0_2 : Int) (l0_3 : List Int) (a1 : Int) : Option (Int × Int × Int × List Int) := (impl_isImage.f a0_0 a0_1 a0_2 l0_3).bind fun t0 => (if t0 = true then (if 0 ≤ a1 ∧ a1 ≤ 3 then ((turnGo a0_2 a1.toNat a0_0 a0_1 l0_3).bind fun t => some (t.1, t.2.1, a0_2, t.2.2)) else (some (0, 0, 0, ([] : List Int)))) else (some (0, 0, 0, ([] : List Int))))
set_option maxHeartbeats 8000000 in
set_option maxRecDepth 100000 in
theorem impl_TurnImage.calls (a0_0 : Int) (a0_1 : Int) (a0_2 : Int) (A0_3 : Option Addr) (c0_3 : Nat) (l0_3 : List Int) (a1 : Int) (r1 : Int) (r2 : Int) (r3 : Int) (r4 : List Int) (w : World) (hr0_3 : Kd.C (Kd.int .i64) w A0_3 l0_3.length l0_3) (hc0_3 : l0_3.length ≤ c0_3) (h : impl_TurnImage.f a0_0 a0_1 a0_2 l0_3 a1 = some (r1, r2, r3, r4)) :
  Calls Try.prog 42 #[.agg #[.int .i64 a0_0, .int .i64 a0_1, .int .i64 a0_2, .slice A0_3 l0_3.length c0_3], .int .i64 a1] w fun e w' => ∃ v3_ : Value, e = .returned (.agg #[.int .i64 r1, .int .i64 r2, .int .i64 r3, v3_]) ∧ Kd.R (Kd.int .i64) 3 w' w.heap.size (fun _ => True) v3_ r4 ∧ Below w.heap.size w w' := by
 have hu26 := Try.underlying26
 have HR0 := aM hr0_3
 have HC0 := aM hc0_3
 clear hr0_3 hc0_3
 have HB := aM (Below.refl w.heap.size w)
 unfold impl_TurnImage.f at h
 obtain ⟨t0, q0, H⟩ := Option.bind_eq_some_iff.mp h
 clear h
 have A0 := aM q0
 clear q0
 cases t0 with
 | false =>
  rw [if_neg (show ¬ (false = true) by decide)] at H
  simp only [Option.some.injEq, Prod.mk.injEq] at H
  obtain ⟨rfl, rfl, rfl, rfl⟩ := H
  go_enter Try.func42, Try.ntmps42
  go_wp2_with (first | ((with_reducible refine gate_dst (N := 2) rfl ?_); (try (refine gate_guard (by rfl) ?_; dsimp only)); refine bxE (N := 2) (cs := #[.int .i64 a0_0, .int .i64 a0_1, .int .i64 a0_2, .slice A0_3 l0_3.length c0_3]) (t := 26) ?_; intro gm hg w569 hbox hb; have n570 := bS HB hb; have n571 := aM hbox; have n572 := aM ((by rw [hg]; exact (below_size (qW HB.out))) : w.heap.size ≤ gm); clear HB; have HB := n570; have BKgm := n571; have GEgm := n572; clear n570 n571 n572; clear hb hbox hg; have hz573 : w569.cell? ⟨gm, 0, none⟩ = some (.int .i64 a0_0) := (blk_cell BKgm.out 0).trans rfl; have hz574 : w569.cell? ⟨gm, 1, none⟩ = some (.int .i64 a0_1) := (blk_cell BKgm.out 1).trans rfl; have hz575 : w569.cell? ⟨gm, 2, none⟩ = some (.int .i64 a0_2) := (blk_cell BKgm.out 2).trans rfl; have hz576 : w569.cell? ⟨gm, 3, none⟩ = some (.slice A0_3 l0_3.length c0_3) := (blk_cell BKgm.out 3).trans rfl; have hf577 := blk_frozen BKgm.out 0; have hf578 := blk_frozen BKgm.out 1; have hf579 := blk_frozen BKgm.out 2; have hf580 := blk_frozen BKgm.out 3) | ((with_reducible refine gate_dst (N := 4) rfl ?_); (try (refine gate_guard (by rfl) ?_; dsimp only)); refine bxE (N := 4) (cs := #[.int .i64 0, .int .i64 0, .int .i64 0, .slice none 0 0]) (t := 26) ?_; intro gr hg w581 hbox hb; have n582 := bB BKgm hb; have n583 := bS HB hb; have n584 := aM hbox; have n585 := aM ((by rw [hg]; exact (below_size (qW HB.out))) : w.heap.size ≤ gr); have n586 := aM ((by rw [hg]; exact Nat.ne_of_lt (blk_lt (g := gm) (o := .cells #[.int .i64 a0_0, .int .i64 a0_1, .int .i64 a0_2, .slice A0_3 l0_3.length c0_3] 26 (0, 0)) (qB BKgm.out))) : gm ≠ gr); have n587 := aM ((by rw [hg]; exact Nat.ne_of_gt (blk_lt (g := gm) (o := .cells #[.int .i64 a0_0, .int .i64 a0_1, .int .i64 a0_2, .slice A0_3 l0_3.length c0_3] 26 (0, 0)) (qB BKgm.out))) : gr ≠ gm); clear HB BKgm; have BKgm := n582; have HB := n583; have BKgr := n584; have GEgr := n585; have NBgm_gr := n586; have NBgr_gm := n587; clear n582 n583 n584 n585 n586 n587; clear hb hbox hg; have hz588 : w581.cell? ⟨gm, 0, none⟩ = some (.int .i64 a0_0) := (blk_cell BKgm.out 0).trans rfl; have hz589 : w581.cell? ⟨gm, 1, none⟩ = some (.int .i64 a0_1) := (blk_cell BKgm.out 1).trans rfl; have hz590 : w581.cell? ⟨gm, 2, none⟩ = some (.int .i64 a0_2) := (blk_cell BKgm.out 2).trans rfl; have hz591 : w581.cell? ⟨gm, 3, none⟩ = some (.slice A0_3 l0_3.length c0_3) := (blk_cell BKgm.out 3).trans rfl; have hf592 := blk_frozen BKgm.out 0; have hf593 := blk_frozen BKgm.out 1; have hf594 := blk_frozen BKgm.out 2; have hf595 := blk_frozen BKgm.out 3; have hz596 : w581.cell? ⟨gr, 0, none⟩ = some (.int .i64 0) := (blk_cell BKgr.out 0).trans rfl; have hz597 : w581.cell? ⟨gr, 1, none⟩ = some (.int .i64 0) := (blk_cell BKgr.out 1).trans rfl; have hz598 : w581.cell? ⟨gr, 2, none⟩ = some (.int .i64 0) := (blk_cell BKgr.out 2).trans rfl; have hz599 : w581.cell? ⟨gr, 3, none⟩ = some (.slice none 0 0) := (blk_cell BKgr.out 3).trans rfl; have hf600 := blk_frozen BKgr.out 0; have hf601 := blk_frozen BKgr.out 1; have hf602 := blk_frozen BKgr.out 2; have hf603 := blk_frozen BKgr.out 3) | (go_at_call 48; (with_reducible refine (impl_isImage.calls a0_0 a0_1 a0_2 _ _ l0_3 false _ ?side1 ?side2 A0.out).mono ?_); (case side1 => exact (Kd.C_below HR0.out (qW HB.out))); (case side2 => exact HC0.out); rintro e w604 ⟨rfl, hb⟩; have n605 := bB BKgm hb; have n606 := bB BKgr hb; have n607 := bS HB hb; clear HB BKgm BKgr; have BKgm := n605; have BKgr := n606; have HB := n607; clear n605 n606 n607 hb; have hz608 : w604.cell? ⟨gm, 0, none⟩ = some (.int .i64 a0_0) := (blk_cell BKgm.out 0).trans rfl; have hz609 : w604.cell? ⟨gm, 1, none⟩ = some (.int .i64 a0_1) := (blk_cell BKgm.out 1).trans rfl; have hz610 : w604.cell? ⟨gm, 2, none⟩ = some (.int .i64 a0_2) := (blk_cell BKgm.out 2).trans rfl; have hz611 : w604.cell? ⟨gm, 3, none⟩ = some (.slice A0_3 l0_3.length c0_3) := (blk_cell BKgm.out 3).trans rfl; have hf612 := blk_frozen BKgm.out 0; have hf613 := blk_frozen BKgm.out 1; have hf614 := blk_frozen BKgm.out 2; have hf615 := blk_frozen BKgm.out 3; have hz616 : w604.cell? ⟨gr, 0, none⟩ = some (.int .i64 0) := (blk_cell BKgr.out 0).trans rfl; have hz617 : w604.cell? ⟨gr, 1, none⟩ = some (.int .i64 0) := (blk_cell BKgr.out 1).trans rfl; have hz618 : w604.cell? ⟨gr, 2, none⟩ = some (.int .i64 0) := (blk_cell BKgr.out 2).trans rfl; have hz619 : w604.cell? ⟨gr, 3, none⟩ = some (.slice none 0 0) := (blk_cell BKgr.out 3).trans rfl; have hf620 := blk_frozen BKgr.out 0; have hf621 := blk_frozen BKgr.out 1; have hf622 := blk_frozen BKgr.out 2; have hf623 := blk_frozen BKgr.out 3))
  refine bodyPost_ret (results_cell_row rfl _ _ gr 26 #[.int .i64 0, .int .i64 0, .int .i64 0, .slice none 0 0] (0, 0) _ rfl (by exact bP BKgr.out) Try.underlying26 rfl (by kernel_rfl)) rfl ?_
  exact ⟨_, by first | rfl | (simp; done), Kd.R_nil _ _ _ _ _, by exact qW HB.out⟩
 | true =>
  rw [if_pos rfl] at H
  have V := aM (isImage_true A0.out)
  by_cases k1 : 0 ≤ a1 ∧ a1 ≤ 3
  case neg =>
   rw [if_neg k1] at H
   by_cases k2 : a1 < 0
   ·simp only [Option.some.injEq, Prod.mk.injEq] at H
    obtain ⟨rfl, rfl, rfl, rfl⟩ := H
    go_enter Try.func42, Try.ntmps42
    go_wp2_with (first | ((with_reducible refine gate_dst (N := 2) rfl ?_); (try (refine gate_guard (by rfl) ?_; dsimp only)); refine bxE (N := 2) (cs := #[.int .i64 a0_0, .int .i64 a0_1, .int .i64 a0_2, .slice A0_3 l0_3.length c0_3]) (t := 26) ?_; intro gm hg w624 hbox hb; have n625 := bS HB hb; have n626 := aM hbox; have n627 := aM ((by rw [hg]; exact (below_size (qW HB.out))) : w.heap.size ≤ gm); clear HB; have HB := n625; have BKgm := n626; have GEgm := n627; clear n625 n626 n627; clear hb hbox hg; have hz628 : w624.cell? ⟨gm, 0, none⟩ = some (.int .i64 a0_0) := (blk_cell BKgm.out 0).trans rfl; have hz629 : w624.cell? ⟨gm, 1, none⟩ = some (.int .i64 a0_1) := (blk_cell BKgm.out 1).trans rfl; have hz630 : w624.cell? ⟨gm, 2, none⟩ = some (.int .i64 a0_2) := (blk_cell BKgm.out 2).trans rfl; have hz631 : w624.cell? ⟨gm, 3, none⟩ = some (.slice A0_3 l0_3.length c0_3) := (blk_cell BKgm.out 3).trans rfl; have hf632 := blk_frozen BKgm.out 0; have hf633 := blk_frozen BKgm.out 1; have hf634 := blk_frozen BKgm.out 2; have hf635 := blk_frozen BKgm.out 3) | ((with_reducible refine gate_dst (N := 4) rfl ?_); (try (refine gate_guard (by rfl) ?_; dsimp only)); refine bxE (N := 4) (cs := #[.int .i64 0, .int .i64 0, .int .i64 0, .slice none 0 0]) (t := 26) ?_; intro gr hg w636 hbox hb; have n637 := bB BKgm hb; have n638 := bS HB hb; have n639 := aM hbox; have n640 := aM ((by rw [hg]; exact (below_size (qW HB.out))) : w.heap.size ≤ gr); have n641 := aM ((by rw [hg]; exact Nat.ne_of_lt (blk_lt (g := gm) (o := .cells #[.int .i64 a0_0, .int .i64 a0_1, .int .i64 a0_2, .slice A0_3 l0_3.length c0_3] 26 (0, 0)) (qB BKgm.out))) : gm ≠ gr); have n642 := aM ((by rw [hg]; exact Nat.ne_of_gt (blk_lt (g := gm) (o := .cells #[.int .i64 a0_0, .int .i64 a0_1, .int .i64 a0_2, .slice A0_3 l0_3.length c0_3] 26 (0, 0)) (qB BKgm.out))) : gr ≠ gm); clear HB BKgm; have BKgm := n637; have HB := n638; have BKgr := n639; have GEgr := n640; have NBgm_gr := n641; have NBgr_gm := n642; clear n637 n638 n639 n640 n641 n642; clear hb hbox hg; have hz643 : w636.cell? ⟨gm, 0, none⟩ = some (.int .i64 a0_0) := (blk_cell BKgm.out 0).trans rfl; have hz644 : w636.cell? ⟨gm, 1, none⟩ = some (.int .i64 a0_1) := (blk_cell BKgm.out 1).trans rfl; have hz645 : w636.cell? ⟨gm, 2, none⟩ = some (.int .i64 a0_2) := (blk_cell BKgm.out 2).trans rfl; have hz646 : w636.cell? ⟨gm, 3, none⟩ = some (.slice A0_3 l0_3.length c0_3) := (blk_cell BKgm.out 3).trans rfl; have hf647 := blk_frozen BKgm.out 0; have hf648 := blk_frozen BKgm.out 1; have hf649 := blk_frozen BKgm.out 2; have hf650 := blk_frozen BKgm.out 3; have hz651 : w636.cell? ⟨gr, 0, none⟩ = some (.int .i64 0) := (blk_cell BKgr.out 0).trans rfl; have hz652 : w636.cell? ⟨gr, 1, none⟩ = some (.int .i64 0) := (blk_cell BKgr.out 1).trans rfl; have hz653 : w636.cell? ⟨gr, 2, none⟩ = some (.int .i64 0) := (blk_cell BKgr.out 2).trans rfl; have hz654 : w636.cell? ⟨gr, 3, none⟩ = some (.slice none 0 0) := (blk_cell BKgr.out 3).trans rfl; have hf655 := blk_frozen BKgr.out 0; have hf656 := blk_frozen BKgr.out 1; have hf657 := blk_frozen BKgr.out 2; have hf658 := blk_frozen BKgr.out 3) | (go_at_call 48; (with_reducible refine (impl_isImage.calls a0_0 a0_1 a0_2 _ _ l0_3 true _ ?side1 ?side2 A0.out).mono ?_); (case side1 => exact (Kd.C_below HR0.out (qW HB.out))); (case side2 => exact HC0.out); rintro e w659 ⟨rfl, hb⟩; have n660 := bB BKgm hb; have n661 := bB BKgr hb; have n662 := bS HB hb; clear HB BKgm BKgr; have BKgm := n660; have BKgr := n661; have HB := n662; clear n660 n661 n662 hb; have hz663 : w659.cell? ⟨gm, 0, none⟩ = some (.int .i64 a0_0) := (blk_cell BKgm.out 0).trans rfl; have hz664 : w659.cell? ⟨gm, 1, none⟩ = some (.int .i64 a0_1) := (blk_cell BKgm.out 1).trans rfl; have hz665 : w659.cell? ⟨gm, 2, none⟩ = some (.int .i64 a0_2) := (blk_cell BKgm.out 2).trans rfl; have hz666 : w659.cell? ⟨gm, 3, none⟩ = some (.slice A0_3 l0_3.length c0_3) := (blk_cell BKgm.out 3).trans rfl; have hf667 := blk_frozen BKgm.out 0; have hf668 := blk_frozen BKgm.out 1; have hf669 := blk_frozen BKgm.out 2; have hf670 := blk_frozen BKgm.out 3; have hz671 : w659.cell? ⟨gr, 0, none⟩ = some (.int .i64 0) := (blk_cell BKgr.out 0).trans rfl; have hz672 : w659.cell? ⟨gr, 1, none⟩ = some (.int .i64 0) := (blk_cell BKgr.out 1).trans rfl; have hz673 : w659.cell? ⟨gr, 2, none⟩ = some (.int .i64 0) := (blk_cell BKgr.out 2).trans rfl; have hz674 : w659.cell? ⟨gr, 3, none⟩ = some (.slice none 0 0) := (blk_cell BKgr.out 3).trans rfl; have hf675 := blk_frozen BKgr.out 0; have hf676 := blk_frozen BKgr.out 1; have hf677 := blk_frozen BKgr.out 2; have hf678 := blk_frozen BKgr.out 3))
    refine bodyPost_ret (results_cell_row rfl _ _ gr 26 #[.int .i64 0, .int .i64 0, .int .i64 0, .slice none 0 0] (0, 0) _ rfl (by exact bP BKgr.out) Try.underlying26 rfl (by kernel_rfl)) rfl ?_
    exact ⟨_, by first | rfl | (simp; done), Kd.R_nil _ _ _ _ _, by exact qW HB.out⟩
   have k3 : 3 < a1 := by omega
   simp only [Option.some.injEq, Prod.mk.injEq] at H
   obtain ⟨rfl, rfl, rfl, rfl⟩ := H
   go_enter Try.func42, Try.ntmps42
   go_wp2_with (first | ((with_reducible refine gate_dst (N := 2) rfl ?_); (try (refine gate_guard (by rfl) ?_; dsimp only)); refine bxE (N := 2) (cs := #[.int .i64 a0_0, .int .i64 a0_1, .int .i64 a0_2, .slice A0_3 l0_3.length c0_3]) (t := 26) ?_; intro gm hg w679 hbox hb; have n680 := bS HB hb; have n681 := aM hbox; have n682 := aM ((by rw [hg]; exact (below_size (qW HB.out))) : w.heap.size ≤ gm); clear HB; have HB := n680; have BKgm := n681; have GEgm := n682; clear n680 n681 n682; clear hb hbox hg; have hz683 : w679.cell? ⟨gm, 0, none⟩ = some (.int .i64 a0_0) := (blk_cell BKgm.out 0).trans rfl; have hz684 : w679.cell? ⟨gm, 1, none⟩ = some (.int .i64 a0_1) := (blk_cell BKgm.out 1).trans rfl; have hz685 : w679.cell? ⟨gm, 2, none⟩ = some (.int .i64 a0_2) := (blk_cell BKgm.out 2).trans rfl; have hz686 : w679.cell? ⟨gm, 3, none⟩ = some (.slice A0_3 l0_3.length c0_3) := (blk_cell BKgm.out 3).trans rfl; have hf687 := blk_frozen BKgm.out 0; have hf688 := blk_frozen BKgm.out 1; have hf689 := blk_frozen BKgm.out 2; have hf690 := blk_frozen BKgm.out 3) | ((with_reducible refine gate_dst (N := 4) rfl ?_); (try (refine gate_guard (by rfl) ?_; dsimp only)); refine bxE (N := 4) (cs := #[.int .i64 0, .int .i64 0, .int .i64 0, .slice none 0 0]) (t := 26) ?_; intro gr hg w691 hbox hb; have n692 := bB BKgm hb; have n693 := bS HB hb; have n694 := aM hbox; have n695 := aM ((by rw [hg]; exact (below_size (qW HB.out))) : w.heap.size ≤ gr); have n696 := aM ((by rw [hg]; exact Nat.ne_of_lt (blk_lt (g := gm) (o := .cells #[.int .i64 a0_0, .int .i64 a0_1, .int .i64 a0_2, .slice A0_3 l0_3.length c0_3] 26 (0, 0)) (qB BKgm.out))) : gm ≠ gr); have n697 := aM ((by rw [hg]; exact Nat.ne_of_gt (blk_lt (g := gm) (o := .cells #[.int .i64 a0_0, .int .i64 a0_1, .int .i64 a0_2, .slice A0_3 l0_3.length c0_3] 26 (0, 0)) (qB BKgm.out))) : gr ≠ gm); clear HB BKgm; have BKgm := n692; have HB := n693; have BKgr := n694; have GEgr := n695; have NBgm_gr := n696; have NBgr_gm := n697; clear n692 n693 n694 n695 n696 n697; clear hb hbox hg; have hz698 : w691.cell? ⟨gm, 0, none⟩ = some (.int .i64 a0_0) := (blk_cell BKgm.out 0).trans rfl; have hz699 : w691.cell? ⟨gm, 1, none⟩ = some (.int .i64 a0_1) := (blk_cell BKgm.out 1).trans rfl; have hz700 : w691.cell? ⟨gm, 2, none⟩ = some (.int .i64 a0_2) := (blk_cell BKgm.out 2).trans rfl; have hz701 : w691.cell? ⟨gm, 3, none⟩ = some (.slice A0_3 l0_3.length c0_3) := (blk_cell BKgm.out 3).trans rfl; have hf702 := blk_frozen BKgm.out 0; have hf703 := blk_frozen BKgm.out 1; have hf704 := blk_frozen BKgm.out 2; have hf705 := blk_frozen BKgm.out 3; have hz706 : w691.cell? ⟨gr, 0, none⟩ = some (.int .i64 0) := (blk_cell BKgr.out 0).trans rfl; have hz707 : w691.cell? ⟨gr, 1, none⟩ = some (.int .i64 0) := (blk_cell BKgr.out 1).trans rfl; have hz708 : w691.cell? ⟨gr, 2, none⟩ = some (.int .i64 0) := (blk_cell BKgr.out 2).trans rfl; have hz709 : w691.cell? ⟨gr, 3, none⟩ = some (.slice none 0 0) := (blk_cell BKgr.out 3).trans rfl; have hf710 := blk_frozen BKgr.out 0; have hf711 := blk_frozen BKgr.out 1; have hf712 := blk_frozen BKgr.out 2; have hf713 := blk_frozen BKgr.out 3) | (go_at_call 48; (with_reducible refine (impl_isImage.calls a0_0 a0_1 a0_2 _ _ l0_3 true _ ?side1 ?side2 A0.out).mono ?_); (case side1 => exact (Kd.C_below HR0.out (qW HB.out))); (case side2 => exact HC0.out); rintro e w714 ⟨rfl, hb⟩; have n715 := bB BKgm hb; have n716 := bB BKgr hb; have n717 := bS HB hb; clear HB BKgm BKgr; have BKgm := n715; have BKgr := n716; have HB := n717; clear n715 n716 n717 hb; have hz718 : w714.cell? ⟨gm, 0, none⟩ = some (.int .i64 a0_0) := (blk_cell BKgm.out 0).trans rfl; have hz719 : w714.cell? ⟨gm, 1, none⟩ = some (.int .i64 a0_1) := (blk_cell BKgm.out 1).trans rfl; have hz720 : w714.cell? ⟨gm, 2, none⟩ = some (.int .i64 a0_2) := (blk_cell BKgm.out 2).trans rfl; have hz721 : w714.cell? ⟨gm, 3, none⟩ = some (.slice A0_3 l0_3.length c0_3) := (blk_cell BKgm.out 3).trans rfl; have hf722 := blk_frozen BKgm.out 0; have hf723 := blk_frozen BKgm.out 1; have hf724 := blk_frozen BKgm.out 2; have hf725 := blk_frozen BKgm.out 3; have hz726 : w714.cell? ⟨gr, 0, none⟩ = some (.int .i64 0) := (blk_cell BKgr.out 0).trans rfl; have hz727 : w714.cell? ⟨gr, 1, none⟩ = some (.int .i64 0) := (blk_cell BKgr.out 1).trans rfl; have hz728 : w714.cell? ⟨gr, 2, none⟩ = some (.int .i64 0) := (blk_cell BKgr.out 2).trans rfl; have hz729 : w714.cell? ⟨gr, 3, none⟩ = some (.slice none 0 0) := (blk_cell BKgr.out 3).trans rfl; have hf730 := blk_frozen BKgr.out 0; have hf731 := blk_frozen BKgr.out 1; have hf732 := blk_frozen BKgr.out 2; have hf733 := blk_frozen BKgr.out 3))
   refine bodyPost_ret (results_cell_row rfl _ _ gr 26 #[.int .i64 0, .int .i64 0, .int .i64 0, .slice none 0 0] (0, 0) _ rfl (by exact bP BKgr.out) Try.underlying26 rfl (by kernel_rfl)) rfl ?_
   exact ⟨_, by first | rfl | (simp; done), Kd.R_nil _ _ _ _ _, by exact qW HB.out⟩
  rw [if_pos k1] at H
  obtain ⟨k10, k11⟩ := k1
  obtain ⟨k, rfl⟩ := Int.eq_ofNat_of_zero_le k10
  rw [Int.toNat_natCast] at H
  obtain ⟨⟨z1, z2, z3⟩, hz, H⟩ := Option.bind_eq_some_iff.mp H
  simp only [Option.some.injEq, Prod.mk.injEq] at H
  obtain ⟨rfl, rfl, rfl, rfl⟩ := H
  have HT := aM hz
  clear hz
  have HLB := aM (show l0_3.length < 17592186044416 by have b_ := V.out; obtain ⟨v0, v1, v2, v3, _⟩ := b_; have := img_bounds v0 v1 v2; omega)
  have HCP : Aside0 (impl_copyImage.f a0_0 a0_1 a0_2 l0_3 = some (a0_0, a0_1, a0_2, l0_3)) := ⟨by unfold impl_copyImage.f; rw [Option.bind_some, if_pos (by simpa using HLB.out)]; rfl⟩
  go_enter Try.func42, Try.ntmps42
  go_wp2_with (first | ((with_reducible refine gate_dst (N := 2) rfl ?_); (try (refine gate_guard (by rfl) ?_; dsimp only)); refine bxE (N := 2) (cs := #[.int .i64 a0_0, .int .i64 a0_1, .int .i64 a0_2, .slice A0_3 l0_3.length c0_3]) (t := 26) ?_; intro gm hg w734 hbox hb; have n735 := bS HB hb; have n736 := aM hbox; have n737 := aM ((by rw [hg]; exact (below_size (qW HB.out))) : w.heap.size ≤ gm); clear HB; have HB := n735; have BKgm := n736; have GEgm := n737; clear n735 n736 n737; clear hb hbox hg; have hz738 : w734.cell? ⟨gm, 0, none⟩ = some (.int .i64 a0_0) := (blk_cell BKgm.out 0).trans rfl; have hz739 : w734.cell? ⟨gm, 1, none⟩ = some (.int .i64 a0_1) := (blk_cell BKgm.out 1).trans rfl; have hz740 : w734.cell? ⟨gm, 2, none⟩ = some (.int .i64 a0_2) := (blk_cell BKgm.out 2).trans rfl; have hz741 : w734.cell? ⟨gm, 3, none⟩ = some (.slice A0_3 l0_3.length c0_3) := (blk_cell BKgm.out 3).trans rfl; have hf742 := blk_frozen BKgm.out 0; have hf743 := blk_frozen BKgm.out 1; have hf744 := blk_frozen BKgm.out 2; have hf745 := blk_frozen BKgm.out 3) | ((with_reducible refine gate_dst (N := 4) rfl ?_); (try (refine gate_guard (by rfl) ?_; dsimp only)); refine bxE (N := 4) (cs := #[.int .i64 0, .int .i64 0, .int .i64 0, .slice none 0 0]) (t := 26) ?_; intro gr hg w746 hbox hb; have n747 := bB BKgm hb; have n748 := bS HB hb; have n749 := aM hbox; have n750 := aM ((by rw [hg]; exact (below_size (qW HB.out))) : w.heap.size ≤ gr); have n751 := aM ((by rw [hg]; exact Nat.ne_of_lt (blk_lt (g := gm) (o := .cells #[.int .i64 a0_0, .int .i64 a0_1, .int .i64 a0_2, .slice A0_3 l0_3.length c0_3] 26 (0, 0)) (qB BKgm.out))) : gm ≠ gr); have n752 := aM ((by rw [hg]; exact Nat.ne_of_gt (blk_lt (g := gm) (o := .cells #[.int .i64 a0_0, .int .i64 a0_1, .int .i64 a0_2, .slice A0_3 l0_3.length c0_3] 26 (0, 0)) (qB BKgm.out))) : gr ≠ gm); clear HB BKgm; have BKgm := n747; have HB := n748; have BKgr := n749; have GEgr := n750; have NBgm_gr := n751; have NBgr_gm := n752; clear n747 n748 n749 n750 n751 n752; clear hb hbox hg; have hz753 : w746.cell? ⟨gm, 0, none⟩ = some (.int .i64 a0_0) := (blk_cell BKgm.out 0).trans rfl; have hz754 : w746.cell? ⟨gm, 1, none⟩ = some (.int .i64 a0_1) := (blk_cell BKgm.out 1).trans rfl; have hz755 : w746.cell? ⟨gm, 2, none⟩ = some (.int .i64 a0_2) := (blk_cell BKgm.out 2).trans rfl; have hz756 : w746.cell? ⟨gm, 3, none⟩ = some (.slice A0_3 l0_3.length c0_3) := (blk_cell BKgm.out 3).trans rfl; have hf757 := blk_frozen BKgm.out 0; have hf758 := blk_frozen BKgm.out 1; have hf759 := blk_frozen BKgm.out 2; have hf760 := blk_frozen BKgm.out 3; have hz761 : w746.cell? ⟨gr, 0, none⟩ = some (.int .i64 0) := (blk_cell BKgr.out 0).trans rfl; have hz762 : w746.cell? ⟨gr, 1, none⟩ = some (.int .i64 0) := (blk_cell BKgr.out 1).trans rfl; have hz763 : w746.cell? ⟨gr, 2, none⟩ = some (.int .i64 0) := (blk_cell BKgr.out 2).trans rfl; have hz764 : w746.cell? ⟨gr, 3, none⟩ = some (.slice none 0 0) := (blk_cell BKgr.out 3).trans rfl; have hf765 := blk_frozen BKgr.out 0; have hf766 := blk_frozen BKgr.out 1; have hf767 := blk_frozen BKgr.out 2; have hf768 := blk_frozen BKgr.out 3) | (go_at_call 48; (with_reducible refine (impl_isImage.calls a0_0 a0_1 a0_2 _ _ l0_3 true _ ?side1 ?side2 A0.out).mono ?_); (case side1 => exact (Kd.C_below HR0.out (qW HB.out))); (case side2 => exact HC0.out); rintro e w769 ⟨rfl, hb⟩; have n770 := bB BKgm hb; have n771 := bB BKgr hb; have n772 := bS HB hb; clear HB BKgm BKgr; have BKgm := n770; have BKgr := n771; have HB := n772; clear n770 n771 n772 hb; have hz773 : w769.cell? ⟨gm, 0, none⟩ = some (.int .i64 a0_0) := (blk_cell BKgm.out 0).trans rfl; have hz774 : w769.cell? ⟨gm, 1, none⟩ = some (.int .i64 a0_1) := (blk_cell BKgm.out 1).trans rfl; have hz775 : w769.cell? ⟨gm, 2, none⟩ = some (.int .i64 a0_2) := (blk_cell BKgm.out 2).trans rfl; have hz776 : w769.cell? ⟨gm, 3, none⟩ = some (.slice A0_3 l0_3.length c0_3) := (blk_cell BKgm.out 3).trans rfl; have hf777 := blk_frozen BKgm.out 0; have hf778 := blk_frozen BKgm.out 1; have hf779 := blk_frozen BKgm.out 2; have hf780 := blk_frozen BKgm.out 3; have hz781 : w769.cell? ⟨gr, 0, none⟩ = some (.int .i64 0) := (blk_cell BKgr.out 0).trans rfl; have hz782 : w769.cell? ⟨gr, 1, none⟩ = some (.int .i64 0) := (blk_cell BKgr.out 1).trans rfl; have hz783 : w769.cell? ⟨gr, 2, none⟩ = some (.int .i64 0) := (blk_cell BKgr.out 2).trans rfl; have hz784 : w769.cell? ⟨gr, 3, none⟩ = some (.slice none 0 0) := (blk_cell BKgr.out 3).trans rfl; have hf785 := blk_frozen BKgr.out 0; have hf786 := blk_frozen BKgr.out 1; have hf787 := blk_frozen BKgr.out 2; have hf788 := blk_frozen BKgr.out 3) | (go_at_call 75; (with_reducible refine (impl_copyImage.calls a0_0 a0_1 a0_2 _ _ l0_3 _ _ _ _ _ ?side1 ?side2 HCP.out).mono ?_); (case side1 => exact (Kd.C_below HR0.out (qW HB.out))); (case side2 => exact HC0.out); rintro e w789 ⟨v3, rfl, ho, hb⟩; have ho := Kd.R_lower ho (below_size (qW HB.out)); have n790 := bB BKgm hb; have n791 := bB BKgr hb; have n792 := bS HB hb; clear HB BKgm BKgr; have BKgm := n790; have BKgr := n791; have HB := n792; clear n790 n791 n792 hb; have hz793 : w789.cell? ⟨gm, 0, none⟩ = some (.int .i64 a0_0) := (blk_cell BKgm.out 0).trans rfl; have hz794 : w789.cell? ⟨gm, 1, none⟩ = some (.int .i64 a0_1) := (blk_cell BKgm.out 1).trans rfl; have hz795 : w789.cell? ⟨gm, 2, none⟩ = some (.int .i64 a0_2) := (blk_cell BKgm.out 2).trans rfl; have hz796 : w789.cell? ⟨gm, 3, none⟩ = some (.slice A0_3 l0_3.length c0_3) := (blk_cell BKgm.out 3).trans rfl; have hf797 := blk_frozen BKgm.out 0; have hf798 := blk_frozen BKgm.out 1; have hf799 := blk_frozen BKgm.out 2; have hf800 := blk_frozen BKgm.out 3; have hz801 : w789.cell? ⟨gr, 0, none⟩ = some (.int .i64 0) := (blk_cell BKgr.out 0).trans rfl; have hz802 : w789.cell? ⟨gr, 1, none⟩ = some (.int .i64 0) := (blk_cell BKgr.out 1).trans rfl; have hz803 : w789.cell? ⟨gr, 2, none⟩ = some (.int .i64 0) := (blk_cell BKgr.out 2).trans rfl; have hz804 : w789.cell? ⟨gr, 3, none⟩ = some (.slice none 0 0) := (blk_cell BKgr.out 3).trans rfl; have hf805 := blk_frozen BKgr.out 0; have hf806 := blk_frozen BKgr.out 1; have hf807 := blk_frozen BKgr.out 2; have hf808 := blk_frozen BKgr.out 3; obtain ⟨Ao, co, eo⟩ := Kd.R_slice ho; subst eo; have HO := aM ho; clear ho) | ((with_reducible refine gate_dst (N := 5) rfl ?_); (try (refine gate_guard (by rfl) ?_; dsimp only)); refine bxE (N := 5) (cs := #[.int .i64 0, .int .i64 0, .int .i64 0, .slice none 0 0]) (t := 26) ?_; intro gt hg w809 hbox hb; have n810 := bB BKgm hb; have n811 := bB BKgr hb; have n812 := bS HB hb; have n813 := aM hbox; have n814 := aM ((by rw [hg]; exact (below_size (qW HB.out))) : w.heap.size ≤ gt); have n815 := aM ((by rw [hg]; exact Nat.ne_of_lt (blk_lt (g := gm) (o := .cells #[.int .i64 a0_0, .int .i64 a0_1, .int .i64 a0_2, .slice A0_3 l0_3.length c0_3] 26 (0, 0)) (qB BKgm.out))) : gm ≠ gt); have n816 := aM ((by rw [hg]; exact Nat.ne_of_gt (blk_lt (g := gm) (o := .cells #[.int .i64 a0_0, .int .i64 a0_1, .int .i64 a0_2, .slice A0_3 l0_3.length c0_3] 26 (0, 0)) (qB BKgm.out))) : gt ≠ gm); have n817 := aM ((by rw [hg]; exact Nat.ne_of_lt (blk_lt (g := gr) (o := .cells #[.int .i64 0, .int .i64 0, .int .i64 0, .slice none 0 0] 26 (0, 0)) (qB BKgr.out))) : gr ≠ gt); have n818 := aM ((by rw [hg]; exact Nat.ne_of_gt (blk_lt (g := gr) (o := .cells #[.int .i64 0, .int .i64 0, .int .i64 0, .slice none 0 0] 26 (0, 0)) (qB BKgr.out))) : gt ≠ gr); have r_ := aM (Kd.R_below (qR HO.out) hb); clear HO; have HO := r_; clear r_; clear HB BKgm BKgr; have BKgm := n810; have BKgr := n811; have HB := n812; have BKgt := n813; have GEgt := n814; have NBgm_gt := n815; have NBgt_gm := n816; have NBgr_gt := n817; have NBgt_gr := n818; clear n810 n811 n812 n813 n814 n815 n816 n817 n818; clear hb hbox hg; have hz819 : w809.cell? ⟨gm, 0, none⟩ = some (.int .i64 a0_0) := (blk_cell BKgm.out 0).trans rfl; have hz820 : w809.cell? ⟨gm, 1, none⟩ = some (.int .i64 a0_1) := (blk_cell BKgm.out 1).trans rfl; have hz821 : w809.cell? ⟨gm, 2, none⟩ = some (.int .i64 a0_2) := (blk_cell BKgm.out 2).trans rfl; have hz822 : w809.cell? ⟨gm, 3, none⟩ = some (.slice A0_3 l0_3.length c0_3) := (blk_cell BKgm.out 3).trans rfl; have hf823 := blk_frozen BKgm.out 0; have hf824 := blk_frozen BKgm.out 1; have hf825 := blk_frozen BKgm.out 2; have hf826 := blk_frozen BKgm.out 3; have hz827 : w809.cell? ⟨gr, 0, none⟩ = some (.int .i64 0) := (blk_cell BKgr.out 0).trans rfl; have hz828 : w809.cell? ⟨gr, 1, none⟩ = some (.int .i64 0) := (blk_cell BKgr.out 1).trans rfl; have hz829 : w809.cell? ⟨gr, 2, none⟩ = some (.int .i64 0) := (blk_cell BKgr.out 2).trans rfl; have hz830 : w809.cell? ⟨gr, 3, none⟩ = some (.slice none 0 0) := (blk_cell BKgr.out 3).trans rfl; have hf831 := blk_frozen BKgr.out 0; have hf832 := blk_frozen BKgr.out 1; have hf833 := blk_frozen BKgr.out 2; have hf834 := blk_frozen BKgr.out 3) | ((with_reducible refine gate_store (t := 26) (p := 5) rfl ?_); have hzs0_ : w809.cell? ⟨gt, 0, none⟩ = some (.int .i64 0) := (blk_cell BKgt.out 0).trans rfl; have hfs0_ := blk_frozen BKgt.out 0; have hzs1_ : w809.cell? ⟨gt, 1, none⟩ = some (.int .i64 0) := (blk_cell BKgt.out 1).trans rfl; have hfs1_ := blk_frozen BKgt.out 1; have hzs2_ : w809.cell? ⟨gt, 2, none⟩ = some (.int .i64 0) := (blk_cell BKgt.out 2).trans rfl; have hfs2_ := blk_frozen BKgt.out 2; have hzs3_ : w809.cell? ⟨gt, 3, none⟩ = some (.slice none 0 0) := (blk_cell BKgt.out 3).trans rfl; have hfs3_ := blk_frozen BKgt.out 3; refine store_event (t := 26) (p := 5) (v := ?vo_w843) (w1 := ((((w809.setCell ⟨gt, 0, none⟩ (.int .i64 a0_0)).setCell ⟨gt, 1, none⟩ (.int .i64 a0_1)).setCell ⟨gt, 2, none⟩ (.int .i64 a0_2)).setCell ⟨gt, 3, none⟩ (.slice Ao l0_3.length co))) ?hg ?ho ?hn ?hr ?_; (case ho => rfl); (case hg => rfl); (case hn => rfl); (case hr => first | (go_simp; done) | (go_simp; rfl)); intro w843 hw; have r_ := aM (show Kd.R (Kd.int .i64) 3 w843 w.heap.size (fun _ => True) (.slice Ao l0_3.length co) l0_3 by rw [hw]; exact Kd.R_mono (Kd.R_far (p := ⟨gt, 3, none⟩) (Kd.R_far (p := ⟨gt, 2, none⟩) (Kd.R_far (p := ⟨gt, 1, none⟩) (Kd.R_far (p := ⟨gt, 0, none⟩) (Kd.R_types HO.out BKgt.out (by decide)) (fun _ hk => hk.2) _) (fun _ hk => hk.2) _) (fun _ hk => hk.2) _) (fun _ hk => hk.2) _) (fun _ hk => trivial)); clear HO; have HO := r_; clear r_; have n844 := aM (show w843.heap[gm]? = some (.cells #[.int .i64 a0_0, .int .i64 a0_1, .int .i64 a0_2, .slice A0_3 l0_3.length c0_3] 26 (0, 0)) by rw [hw]; exact blk_far (blk_far (blk_far (blk_far (BKgm.out) NBgm_gt.out _) NBgm_gt.out _) NBgm_gt.out _) NBgm_gt.out _); have n845 := aM (show w843.heap[gr]? = some (.cells #[.int .i64 0, .int .i64 0, .int .i64 0, .slice none 0 0] 26 (0, 0)) by rw [hw]; exact blk_far (blk_far (blk_far (blk_far (BKgr.out) NBgr_gt.out _) NBgr_gt.out _) NBgr_gt.out _) NBgr_gt.out _); have n846 := aM (show w843.heap[gt]? = some (.cells #[.int .i64 a0_0, .int .i64 a0_1, .int .i64 a0_2, .slice Ao l0_3.length co] 26 (0, 0)) by rw [hw]; refine blk_put (cs := #[.int .i64 a0_0, .int .i64 a0_1, .int .i64 a0_2, .slice none 0 0]) ?_ 3 _ rfl; refine blk_put (cs := #[.int .i64 a0_0, .int .i64 a0_1, .int .i64 0, .slice none 0 0]) ?_ 2 _ rfl; refine blk_put (cs := #[.int .i64 a0_0, .int .i64 0, .int .i64 0, .slice none 0 0]) ?_ 1 _ rfl; refine blk_put (cs := #[.int .i64 0, .int .i64 0, .int .i64 0, .slice none 0 0]) ?_ 0 _ rfl; exact BKgt.out); have n847 := aM (show Below w.heap.size w w843 by rw [hw]; exact below_set (below_set (below_set (below_set (HB.out) GEgt.out) GEgt.out) GEgt.out) GEgt.out); clear hzs0_ hfs0_ hzs1_ hfs1_ hzs2_ hfs2_ hzs3_ hfs3_; clear HB BKgm BKgr BKgt hw; have BKgm := n844; have BKgr := n845; have BKgt := n846; have HB := n847; clear n844 n845 n846 n847; have hz848 : w843.cell? ⟨gm, 0, none⟩ = some (.int .i64 a0_0) := (blk_cell BKgm.out 0).trans rfl; have hz849 : w843.cell? ⟨gm, 1, none⟩ = some (.int .i64 a0_1) := (blk_cell BKgm.out 1).trans rfl; have hz850 : w843.cell? ⟨gm, 2, none⟩ = some (.int .i64 a0_2) := (blk_cell BKgm.out 2).trans rfl; have hz851 : w843.cell? ⟨gm, 3, none⟩ = some (.slice A0_3 l0_3.length c0_3) := (blk_cell BKgm.out 3).trans rfl; have hf852 := blk_frozen BKgm.out 0; have hf853 := blk_frozen BKgm.out 1; have hf854 := blk_frozen BKgm.out 2; have hf855 := blk_frozen BKgm.out 3; have hz856 : w843.cell? ⟨gr, 0, none⟩ = some (.int .i64 0) := (blk_cell BKgr.out 0).trans rfl; have hz857 : w843.cell? ⟨gr, 1, none⟩ = some (.int .i64 0) := (blk_cell BKgr.out 1).trans rfl; have hz858 : w843.cell? ⟨gr, 2, none⟩ = some (.int .i64 0) := (blk_cell BKgr.out 2).trans rfl; have hz859 : w843.cell? ⟨gr, 3, none⟩ = some (.slice none 0 0) := (blk_cell BKgr.out 3).trans rfl; have hf860 := blk_frozen BKgr.out 0; have hf861 := blk_frozen BKgr.out 1; have hf862 := blk_frozen BKgr.out 2; have hf863 := blk_frozen BKgr.out 3; have hz864 : w843.cell? ⟨gt, 0, none⟩ = some (.int .i64 a0_0) := (blk_cell BKgt.out 0).trans rfl; have hz865 : w843.cell? ⟨gt, 1, none⟩ = some (.int .i64 a0_1) := (blk_cell BKgt.out 1).trans rfl; have hz866 : w843.cell? ⟨gt, 2, none⟩ = some (.int .i64 a0_2) := (blk_cell BKgt.out 2).trans rfl; have hz867 : w843.cell? ⟨gt, 3, none⟩ = some (.slice Ao l0_3.length co) := (blk_cell BKgt.out 3).trans rfl; have hf868 := blk_frozen BKgt.out 0; have hf869 := blk_frozen BKgt.out 1; have hf870 := blk_frozen BKgt.out 2; have hf871 := blk_frozen BKgt.out 3))
  go_loopg [22] k (fun gg s22 w' => ∃ (i : Nat) (n m : Int) (d : List Int) (A : Option Addr) (cc : Nat), i ≤ k ∧ k - i ≤ gg ∧ s22 = .int .i64 i ∧ Aside0 (turnGo a0_2 (k - i) n m d = some (z1, z2, z3)) ∧ Aside0 (Kd.R (Kd.int .i64) 3 w' w.heap.size (fun _ => True) (.slice A d.length cc) d) ∧ Aside0 (w'.heap[gm]? = some (.cells #[.int .i64 a0_0, .int .i64 a0_1, .int .i64 a0_2, .slice A0_3 l0_3.length c0_3] 26 (0, 0))) ∧ Aside0 (w'.heap[gr]? = some (.cells #[.int .i64 0, .int .i64 0, .int .i64 0, .slice none 0 0] 26 (0, 0))) ∧ Aside0 (w'.heap[gt]? = some (.cells #[.int .i64 n, .int .i64 m, .int .i64 a0_2, .slice A d.length cc] 26 (0, 0))) ∧ Aside0 (Below w.heap.size w w'))
  case atStart => exact ⟨0, a0_0, a0_1, l0_3, Ao, co, Nat.zero_le _, by omega, rfl, HT, ⟨by refine qR ?_; exact HO.out⟩, ⟨by refine qB ?_; exact BKgm.out⟩, ⟨by refine qB ?_; exact BKgr.out⟩, ⟨by refine qB ?_; exact BKgt.out⟩, ⟨by exact qW HB.out⟩⟩
  case round =>
   clear HO HB BKgm BKgr BKgt HT
   obtain ⟨i, n, m, d, A, cc, hi, hg, rfl, HT, HO, BKgm, BKgr, BKgt, HB⟩ := hrel
   by_cases hlt : i < k
   case neg =>
    have hltz : ¬ (i : Int) < (k : Int) := by omega
    have ek : i = k := by omega
    subst ek
    have h_ := HT.out
    rw [Nat.sub_self] at h_
    simp only [turnGo, Option.some.injEq, Prod.mk.injEq] at h_
    obtain ⟨rfl, rfl, rfl⟩ := h_
    have hz872 : wr.cell? ⟨gm, 0, none⟩ = some (.int .i64 a0_0) := (blk_cell BKgm.out 0).trans rfl
    have hz873 : wr.cell? ⟨gm, 1, none⟩ = some (.int .i64 a0_1) := (blk_cell BKgm.out 1).trans rfl
    have hz874 : wr.cell? ⟨gm, 2, none⟩ = some (.int .i64 a0_2) := (blk_cell BKgm.out 2).trans rfl
    have hz875 : wr.cell? ⟨gm, 3, none⟩ = some (.slice A0_3 l0_3.length c0_3) := (blk_cell BKgm.out 3).trans rfl
    have hf876 := blk_frozen BKgm.out 0
    have hf877 := blk_frozen BKgm.out 1
    have hf878 := blk_frozen BKgm.out 2
    have hf879 := blk_frozen BKgm.out 3
    have hz880 : wr.cell? ⟨gr, 0, none⟩ = some (.int .i64 0) := (blk_cell BKgr.out 0).trans rfl
    have hz881 : wr.cell? ⟨gr, 1, none⟩ = some (.int .i64 0) := (blk_cell BKgr.out 1).trans rfl
    have hz882 : wr.cell? ⟨gr, 2, none⟩ = some (.int .i64 0) := (blk_cell BKgr.out 2).trans rfl
    have hz883 : wr.cell? ⟨gr, 3, none⟩ = some (.slice none 0 0) := (blk_cell BKgr.out 3).trans rfl
    have hf884 := blk_frozen BKgr.out 0
    have hf885 := blk_frozen BKgr.out 1
    have hf886 := blk_frozen BKgr.out 2
    have hf887 := blk_frozen BKgr.out 3
    have hz888 : wr.cell? ⟨gt, 0, none⟩ = some (.int .i64 n) := (blk_cell BKgt.out 0).trans rfl
    have hz889 : wr.cell? ⟨gt, 1, none⟩ = some (.int .i64 m) := (blk_cell BKgt.out 1).trans rfl
    have hz890 : wr.cell? ⟨gt, 2, none⟩ = some (.int .i64 a0_2) := (blk_cell BKgt.out 2).trans rfl
    have hz891 : wr.cell? ⟨gt, 3, none⟩ = some (.slice A d.length cc) := (blk_cell BKgt.out 3).trans rfl
    have hf892 := blk_frozen BKgt.out 0
    have hf893 := blk_frozen BKgt.out 1
    have hf894 := blk_frozen BKgt.out 2
    have hf895 := blk_frozen BKgt.out 3
    go_wp2
    refine bodyPost_ret (results_cell_row rfl _ _ gr 26 #[.int .i64 n, .int .i64 m, .int .i64 a0_2, .slice A d.length cc] (0, 0) _ rfl (by exact bP BKgr.out) Try.underlying26 rfl (by kernel_rfl)) rfl ?_
    exact ⟨_, by first | rfl | (simp; done), by refine qR ?_; exact Kd.R_mono (Kd.R_far (p := ⟨gr, 3, none⟩) (Kd.R_far (p := ⟨gr, 2, none⟩) (Kd.R_far (p := ⟨gr, 1, none⟩) (Kd.R_far (p := ⟨gr, 0, none⟩) (Kd.R_types HO.out BKgr.out (by decide)) (fun _ hk => hk.2) _) (fun _ hk => hk.2) _) (fun _ hk => hk.2) _) (fun _ hk => hk.2) _) (fun _ hk => trivial), by exact qW HB.out⟩
   case pos =>
    have hltz : (i : Int) < (k : Int) := by omega
    obtain ⟨j, hj⟩ : ∃ j, k - i = j + 1 := ⟨k - i - 1, by omega⟩
    have H := HT.out
    rw [hj, turnGo] at H
    by_cases V2 : ImgOk n m a0_2 d
    case neg => rw [if_neg V2] at H; cases H
    rw [if_pos V2] at H
    have HT2 := aM H
    have HV := aM V2
    have HJ := aM hj
    clear HT H hj
    obtain ⟨v0, v1, v2, _⟩ := V2
    obtain ⟨v0a, v0b⟩ := v0
    obtain ⟨v1a, v1b⟩ := v1
    obtain ⟨v2a, v2b⟩ := v2
    have hR := Kd.R_reads' HO.out
    have HRd := aM hR.2.2
    have HCd := aM hR.2.1
    clear hR
    have HB0 := HB
    clear HB
    have HB := aM (Below.refl wr.heap.size wr)
    obtain ⟨wo, ewo⟩ : ∃ wo : World, wo = wr := ⟨_, rfl⟩
    subst ewo
    generalize hyl : imgOf (fun x y => pixOf d n a0_2 y (m - 1 - x)) m.toNat n.toNat = yl at HT2
    have HYL := aM hyl
    clear hyl
    have HF : Aside0 (∀ x y : Int, ((fun x y => pixOf d n a0_2 y (m - 1 - x)) x y).length ≤ 100) := ⟨fun _ _ => pixOf_len _ _ _ _ _ (by omega) (by omega)⟩
    have hz896 : wo.cell? ⟨gm, 0, none⟩ = some (.int .i64 a0_0) := (blk_cell BKgm.out 0).trans rfl
    have hz897 : wo.cell? ⟨gm, 1, none⟩ = some (.int .i64 a0_1) := (blk_cell BKgm.out 1).trans rfl
    have hz898 : wo.cell? ⟨gm, 2, none⟩ = some (.int .i64 a0_2) := (blk_cell BKgm.out 2).trans rfl
    have hz899 : wo.cell? ⟨gm, 3, none⟩ = some (.slice A0_3 l0_3.length c0_3) := (blk_cell BKgm.out 3).trans rfl
    have hf900 := blk_frozen BKgm.out 0
    have hf901 := blk_frozen BKgm.out 1
    have hf902 := blk_frozen BKgm.out 2
    have hf903 := blk_frozen BKgm.out 3
    have hz904 : wo.cell? ⟨gr, 0, none⟩ = some (.int .i64 0) := (blk_cell BKgr.out 0).trans rfl
    have hz905 : wo.cell? ⟨gr, 1, none⟩ = some (.int .i64 0) := (blk_cell BKgr.out 1).trans rfl
    have hz906 : wo.cell? ⟨gr, 2, none⟩ = some (.int .i64 0) := (blk_cell BKgr.out 2).trans rfl
    have hz907 : wo.cell? ⟨gr, 3, none⟩ = some (.slice none 0 0) := (blk_cell BKgr.out 3).trans rfl
    have hf908 := blk_frozen BKgr.out 0
    have hf909 := blk_frozen BKgr.out 1
    have hf910 := blk_frozen BKgr.out 2
    have hf911 := blk_frozen BKgr.out 3
    have hz912 : wo.cell? ⟨gt, 0, none⟩ = some (.int .i64 n) := (blk_cell BKgt.out 0).trans rfl
    have hz913 : wo.cell? ⟨gt, 1, none⟩ = some (.int .i64 m) := (blk_cell BKgt.out 1).trans rfl
    have hz914 : wo.cell? ⟨gt, 2, none⟩ = some (.int .i64 a0_2) := (blk_cell BKgt.out 2).trans rfl
    have hz915 : wo.cell? ⟨gt, 3, none⟩ = some (.slice A d.length cc) := (blk_cell BKgt.out 3).trans rfl
    have hf916 := blk_frozen BKgt.out 0
    have hf917 := blk_frozen BKgt.out 1
    have hf918 := blk_frozen BKgt.out 2
    have hf919 := blk_frozen BKgt.out 3
    go_wp2_with (first | ((with_reducible refine gate_dst (N := 6) rfl ?_); (try (refine gate_guard (by rfl) ?_; dsimp only)); refine bxE (N := 6) (cs := #[.int .i64 0, .int .i64 0, .int .i64 0, .slice none 0 0]) (t := 26) ?_; intro gb hg w920 hbox hb; have n921 := bB BKgm hb; have n922 := bB BKgr hb; have n923 := bB BKgt hb; have n924 := bS HB hb; have n925 := aM hbox; have n926 := aM ((by rw [hg]; exact (below_size (qW HB.out))) : wo.heap.size ≤ gb); have n927 := aM ((by rw [hg]; exact Nat.ne_of_lt (blk_lt (g := gm) (o := .cells #[.int .i64 a0_0, .int .i64 a0_1, .int .i64 a0_2, .slice A0_3 l0_3.length c0_3] 26 (0, 0)) (qB BKgm.out))) : gm ≠ gb); have n928 := aM ((by rw [hg]; exact Nat.ne_of_gt (blk_lt (g := gm) (o := .cells #[.int .i64 a0_0, .int .i64 a0_1, .int .i64 a0_2, .slice A0_3 l0_3.length c0_3] 26 (0, 0)) (qB BKgm.out))) : gb ≠ gm); have n929 := aM ((by rw [hg]; exact Nat.ne_of_lt (blk_lt (g := gr) (o := .cells #[.int .i64 0, .int .i64 0, .int .i64 0, .slice none 0 0] 26 (0, 0)) (qB BKgr.out))) : gr ≠ gb); have n930 := aM ((by rw [hg]; exact Nat.ne_of_gt (blk_lt (g := gr) (o := .cells #[.int .i64 0, .int .i64 0, .int .i64 0, .slice none 0 0] 26 (0, 0)) (qB BKgr.out))) : gb ≠ gr); have n931 := aM ((by rw [hg]; exact Nat.ne_of_lt (blk_lt (g := gt) (o := .cells #[.int .i64 n, .int .i64 m, .int .i64 a0_2, .slice A d.length cc] 26 (0, 0)) (qB BKgt.out))) : gt ≠ gb); have n932 := aM ((by rw [hg]; exact Nat.ne_of_gt (blk_lt (g := gt) (o := .cells #[.int .i64 n, .int .i64 m, .int .i64 a0_2, .slice A d.length cc] 26 (0, 0)) (qB BKgt.out))) : gb ≠ gt); clear HB BKgm BKgr BKgt; have BKgm := n921; have BKgr := n922; have BKgt := n923; have HB := n924; have BKgb := n925; have GEgb := n926; have NBgm_gb := n927; have NBgb_gm := n928; have NBgr_gb := n929; have NBgb_gr := n930; have NBgt_gb := n931; have NBgb_gt := n932; clear n921 n922 n923 n924 n925 n926 n927 n928 n929 n930 n931 n932; clear hb hbox hg; have hz933 : w920.cell? ⟨gm, 0, none⟩ = some (.int .i64 a0_0) := (blk_cell BKgm.out 0).trans rfl; have hz934 : w920.cell? ⟨gm, 1, none⟩ = some (.int .i64 a0_1) := (blk_cell BKgm.out 1).trans rfl; have hz935 : w920.cell? ⟨gm, 2, none⟩ = some (.int .i64 a0_2) := (blk_cell BKgm.out 2).trans rfl; have hz936 : w920.cell? ⟨gm, 3, none⟩ = some (.slice A0_3 l0_3.length c0_3) := (blk_cell BKgm.out 3).trans rfl; have hf937 := blk_frozen BKgm.out 0; have hf938 := blk_frozen BKgm.out 1; have hf939 := blk_frozen BKgm.out 2; have hf940 := blk_frozen BKgm.out 3; have hz941 : w920.cell? ⟨gr, 0, none⟩ = some (.int .i64 0) := (blk_cell BKgr.out 0).trans rfl; have hz942 : w920.cell? ⟨gr, 1, none⟩ = some (.int .i64 0) := (blk_cell BKgr.out 1).trans rfl; have hz943 : w920.cell? ⟨gr, 2, none⟩ = some (.int .i64 0) := (blk_cell BKgr.out 2).trans rfl; have hz944 : w920.cell? ⟨gr, 3, none⟩ = some (.slice none 0 0) := (blk_cell BKgr.out 3).trans rfl; have hf945 := blk_frozen BKgr.out 0; have hf946 := blk_frozen BKgr.out 1; have hf947 := blk_frozen BKgr.out 2; have hf948 := blk_frozen BKgr.out 3; have hz949 : w920.cell? ⟨gt, 0, none⟩ = some (.int .i64 n) := (blk_cell BKgt.out 0).trans rfl; have hz950 : w920.cell? ⟨gt, 1, none⟩ = some (.int .i64 m) := (blk_cell BKgt.out 1).trans rfl; have hz951 : w920.cell? ⟨gt, 2, none⟩ = some (.int .i64 a0_2) := (blk_cell BKgt.out 2).trans rfl; have hz952 : w920.cell? ⟨gt, 3, none⟩ = some (.slice A d.length cc) := (blk_cell BKgt.out 3).trans rfl; have hf953 := blk_frozen BKgt.out 0; have hf954 := blk_frozen BKgt.out 1; have hf955 := blk_frozen BKgt.out 2; have hf956 := blk_frozen BKgt.out 3) | ((with_reducible refine gate_store (t := 26) (p := 6) rfl ?_); have hzs0_ : w920.cell? ⟨gb, 0, none⟩ = some (.int .i64 0) := (blk_cell BKgb.out 0).trans rfl; have hfs0_ := blk_frozen BKgb.out 0; have hzs1_ : w920.cell? ⟨gb, 1, none⟩ = some (.int .i64 0) := (blk_cell BKgb.out 1).trans rfl; have hfs1_ := blk_frozen BKgb.out 1; have hzs2_ : w920.cell? ⟨gb, 2, none⟩ = some (.int .i64 0) := (blk_cell BKgb.out 2).trans rfl; have hfs2_ := blk_frozen BKgb.out 2; have hzs3_ : w920.cell? ⟨gb, 3, none⟩ = some (.slice none 0 0) := (blk_cell BKgb.out 3).trans rfl; have hfs3_ := blk_frozen BKgb.out 3; refine store_event (t := 26) (p := 6) (v := ?vo_w965) (w1 := ((((w920.setCell ⟨gb, 0, none⟩ (.int .i64 n)).setCell ⟨gb, 1, none⟩ (.int .i64 m)).setCell ⟨gb, 2, none⟩ (.int .i64 a0_2)).setCell ⟨gb, 3, none⟩ (.slice A d.length cc))) ?hg ?ho ?hn ?hr ?_; (case ho => rfl); (case hg => rfl); (case hn => rfl); (case hr => first | (go_simp; done) | (go_simp; rfl)); intro w965 hw; have n966 := aM (show w965.heap[gm]? = some (.cells #[.int .i64 a0_0, .int .i64 a0_1, .int .i64 a0_2, .slice A0_3 l0_3.length c0_3] 26 (0, 0)) by rw [hw]; exact blk_far (blk_far (blk_far (blk_far (BKgm.out) NBgm_gb.out _) NBgm_gb.out _) NBgm_gb.out _) NBgm_gb.out _); have n967 := aM (show w965.heap[gr]? = some (.cells #[.int .i64 0, .int .i64 0, .int .i64 0, .slice none 0 0] 26 (0, 0)) by rw [hw]; exact blk_far (blk_far (blk_far (blk_far (BKgr.out) NBgr_gb.out _) NBgr_gb.out _) NBgr_gb.out _) NBgr_gb.out _); have n968 := aM (show w965.heap[gt]? = some (.cells #[.int .i64 n, .int .i64 m, .int .i64 a0_2, .slice A d.length cc] 26 (0, 0)) by rw [hw]; exact blk_far (blk_far (blk_far (blk_far (BKgt.out) NBgt_gb.out _) NBgt_gb.out _) NBgt_gb.out _) NBgt_gb.out _); have n969 := aM (show w965.heap[gb]? = some (.cells #[.int .i64 n, .int .i64 m, .int .i64 a0_2, .slice A d.length cc] 26 (0, 0)) by rw [hw]; refine blk_put (cs := #[.int .i64 n, .int .i64 m, .int .i64 a0_2, .slice none 0 0]) ?_ 3 _ rfl; refine blk_put (cs := #[.int .i64 n, .int .i64 m, .int .i64 0, .slice none 0 0]) ?_ 2 _ rfl; refine blk_put (cs := #[.int .i64 n, .int .i64 0, .int .i64 0, .slice none 0 0]) ?_ 1 _ rfl; refine blk_put (cs := #[.int .i64 0, .int .i64 0, .int .i64 0, .slice none 0 0]) ?_ 0 _ rfl; exact BKgb.out); have n970 := aM (show Below wo.heap.size wo w965 by rw [hw]; exact below_set (below_set (below_set (below_set (HB.out) GEgb.out) GEgb.out) GEgb.out) GEgb.out); clear hzs0_ hfs0_ hzs1_ hfs1_ hzs2_ hfs2_ hzs3_ hfs3_; clear HB BKgm BKgr BKgt BKgb hw; have BKgm := n966; have BKgr := n967; have BKgt := n968; have BKgb := n969; have HB := n970; clear n966 n967 n968 n969 n970; have hz971 : w965.cell? ⟨gm, 0, none⟩ = some (.int .i64 a0_0) := (blk_cell BKgm.out 0).trans rfl; have hz972 : w965.cell? ⟨gm, 1, none⟩ = some (.int .i64 a0_1) := (blk_cell BKgm.out 1).trans rfl; have hz973 : w965.cell? ⟨gm, 2, none⟩ = some (.int .i64 a0_2) := (blk_cell BKgm.out 2).trans rfl; have hz974 : w965.cell? ⟨gm, 3, none⟩ = some (.slice A0_3 l0_3.length c0_3) := (blk_cell BKgm.out 3).trans rfl; have hf975 := blk_frozen BKgm.out 0; have hf976 := blk_frozen BKgm.out 1; have hf977 := blk_frozen BKgm.out 2; have hf978 := blk_frozen BKgm.out 3; have hz979 : w965.cell? ⟨gr, 0, none⟩ = some (.int .i64 0) := (blk_cell BKgr.out 0).trans rfl; have hz980 : w965.cell? ⟨gr, 1, none⟩ = some (.int .i64 0) := (blk_cell BKgr.out 1).trans rfl; have hz981 : w965.cell? ⟨gr, 2, none⟩ = some (.int .i64 0) := (blk_cell BKgr.out 2).trans rfl; have hz982 : w965.cell? ⟨gr, 3, none⟩ = some (.slice none 0 0) := (blk_cell BKgr.out 3).trans rfl; have hf983 := blk_frozen BKgr.out 0; have hf984 := blk_frozen BKgr.out 1; have hf985 := blk_frozen BKgr.out 2; have hf986 := blk_frozen BKgr.out 3; have hz987 : w965.cell? ⟨gt, 0, none⟩ = some (.int .i64 n) := (blk_cell BKgt.out 0).trans rfl; have hz988 : w965.cell? ⟨gt, 1, none⟩ = some (.int .i64 m) := (blk_cell BKgt.out 1).trans rfl; have hz989 : w965.cell? ⟨gt, 2, none⟩ = some (.int .i64 a0_2) := (blk_cell BKgt.out 2).trans rfl; have hz990 : w965.cell? ⟨gt, 3, none⟩ = some (.slice A d.length cc) := (blk_cell BKgt.out 3).trans rfl; have hf991 := blk_frozen BKgt.out 0; have hf992 := blk_frozen BKgt.out 1; have hf993 := blk_frozen BKgt.out 2; have hf994 := blk_frozen BKgt.out 3; have hz995 : w965.cell? ⟨gb, 0, none⟩ = some (.int .i64 n) := (blk_cell BKgb.out 0).trans rfl; have hz996 : w965.cell? ⟨gb, 1, none⟩ = some (.int .i64 m) := (blk_cell BKgb.out 1).trans rfl; have hz997 : w965.cell? ⟨gb, 2, none⟩ = some (.int .i64 a0_2) := (blk_cell BKgb.out 2).trans rfl; have hz998 : w965.cell? ⟨gb, 3, none⟩ = some (.slice A d.length cc) := (blk_cell BKgb.out 3).trans rfl; have hf999 := blk_frozen BKgb.out 0; have hf1000 := blk_frozen BKgb.out 1; have hf1001 := blk_frozen BKgb.out 2; have hf1002 := blk_frozen BKgb.out 3) | (go_at_call 49; refine (impl_imageBy.calls 76 #[.pointer (some ⟨gb, 0, none⟩)] (enters_of Try.func76 (by kernel_rfl) rfl) _ m n a0_2 _ ?b0 ?b1 ?b2 ?b3 ?bf (turnImagePix _ gb n m a0_2 _ _ d (qB BKgb.out) (Kd.C_below HRd.out (qW HB.out)) HCd.out HV.out)).mono ?_; (case b0 => omega); (case b1 => omega); (case b2 => omega); (case b3 => omega); (case bf => exact HF.out); rintro e w1003 ⟨v3, rfl, ho, hb⟩; rw [HYL.out] at ho; have ho := Kd.R_lower ho (below_size (qW HB.out)); obtain ⟨A2, c2, eo⟩ := Kd.R_slice ho; subst eo; have HO2 := aM ho; clear ho; have n1004 := bB BKgm hb; have n1005 := bB BKgr hb; have n1006 := bB BKgt hb; have n1007 := bB BKgb hb; have n1008 := bS HB hb; clear HB BKgm BKgr BKgt BKgb; have BKgm := n1004; have BKgr := n1005; have BKgt := n1006; have BKgb := n1007; have HB := n1008; clear n1004 n1005 n1006 n1007 n1008 hb; have hz1009 : w1003.cell? ⟨gm, 0, none⟩ = some (.int .i64 a0_0) := (blk_cell BKgm.out 0).trans rfl; have hz1010 : w1003.cell? ⟨gm, 1, none⟩ = some (.int .i64 a0_1) := (blk_cell BKgm.out 1).trans rfl; have hz1011 : w1003.cell? ⟨gm, 2, none⟩ = some (.int .i64 a0_2) := (blk_cell BKgm.out 2).trans rfl; have hz1012 : w1003.cell? ⟨gm, 3, none⟩ = some (.slice A0_3 l0_3.length c0_3) := (blk_cell BKgm.out 3).trans rfl; have hf1013 := blk_frozen BKgm.out 0; have hf1014 := blk_frozen BKgm.out 1; have hf1015 := blk_frozen BKgm.out 2; have hf1016 := blk_frozen BKgm.out 3; have hz1017 : w1003.cell? ⟨gr, 0, none⟩ = some (.int .i64 0) := (blk_cell BKgr.out 0).trans rfl; have hz1018 : w1003.cell? ⟨gr, 1, none⟩ = some (.int .i64 0) := (blk_cell BKgr.out 1).trans rfl; have hz1019 : w1003.cell? ⟨gr, 2, none⟩ = some (.int .i64 0) := (blk_cell BKgr.out 2).trans rfl; have hz1020 : w1003.cell? ⟨gr, 3, none⟩ = some (.slice none 0 0) := (blk_cell BKgr.out 3).trans rfl; have hf1021 := blk_frozen BKgr.out 0; have hf1022 := blk_frozen BKgr.out 1; have hf1023 := blk_frozen BKgr.out 2; have hf1024 := blk_frozen BKgr.out 3; have hz1033 : w1003.cell? ⟨gb, 0, none⟩ = some (.int .i64 n) := (blk_cell BKgb.out 0).trans rfl; have hz1034 : w1003.cell? ⟨gb, 1, none⟩ = some (.int .i64 m) := (blk_cell BKgb.out 1).trans rfl; have hz1035 : w1003.cell? ⟨gb, 2, none⟩ = some (.int .i64 a0_2) := (blk_cell BKgb.out 2).trans rfl; have hz1036 : w1003.cell? ⟨gb, 3, none⟩ = some (.slice A d.length cc) := (blk_cell BKgb.out 3).trans rfl; have hf1037 := blk_frozen BKgb.out 0; have hf1038 := blk_frozen BKgb.out 1; have hf1039 := blk_frozen BKgb.out 2; have hf1040 := blk_frozen BKgb.out 3) | ((with_reducible refine gate_store (t := 26) (p := 5) rfl ?_); have hzs0_ : w1003.cell? ⟨gt, 0, none⟩ = some (.int .i64 n) := (blk_cell BKgt.out 0).trans rfl; have hfs0_ := blk_frozen BKgt.out 0; have hzs1_ : w1003.cell? ⟨gt, 1, none⟩ = some (.int .i64 m) := (blk_cell BKgt.out 1).trans rfl; have hfs1_ := blk_frozen BKgt.out 1; have hzs2_ : w1003.cell? ⟨gt, 2, none⟩ = some (.int .i64 a0_2) := (blk_cell BKgt.out 2).trans rfl; have hfs2_ := blk_frozen BKgt.out 2; have hzs3_ : w1003.cell? ⟨gt, 3, none⟩ = some (.slice A d.length cc) := (blk_cell BKgt.out 3).trans rfl; have hfs3_ := blk_frozen BKgt.out 3; refine store_event (t := 26) (p := 5) (v := ?vo_w1041) (w1 := ((((w1003.setCell ⟨gt, 0, none⟩ (.int .i64 m)).setCell ⟨gt, 1, none⟩ (.int .i64 n)).setCell ⟨gt, 2, none⟩ (.int .i64 a0_2)).setCell ⟨gt, 3, none⟩ (.slice A2 yl.length c2))) ?hg ?ho ?hn ?hr ?_; (case ho => rfl); (case hg => rfl); (case hn => rfl); (case hr => first | (go_simp; done) | (go_simp; rfl)); intro w1041 hw; have b1_ := aM (show w1041.heap[gm]? = some (.cells #[.int .i64 a0_0, .int .i64 a0_1, .int .i64 a0_2, .slice A0_3 l0_3.length c0_3] 26 (0, 0)) by rw [hw]; exact blk_far (blk_far (blk_far (blk_far (BKgm.out) NBgm_gt.out _) NBgm_gt.out _) NBgm_gt.out _) NBgm_gt.out _); have b2_ := aM (show w1041.heap[gr]? = some (.cells #[.int .i64 0, .int .i64 0, .int .i64 0, .slice none 0 0] 26 (0, 0)) by rw [hw]; exact blk_far (blk_far (blk_far (blk_far (BKgr.out) NBgr_gt.out _) NBgr_gt.out _) NBgr_gt.out _) NBgr_gt.out _); have b3_ := aM (show w1041.heap[gt]? = some (.cells #[.int .i64 m, .int .i64 n, .int .i64 a0_2, .slice A2 yl.length c2] 26 (0, 0)) by rw [hw]; refine blk_put (cs := #[.int .i64 m, .int .i64 n, .int .i64 a0_2, .slice A d.length cc]) ?_ 3 _ rfl; refine blk_put (cs := #[.int .i64 m, .int .i64 n, .int .i64 a0_2, .slice A d.length cc]) ?_ 2 _ rfl; refine blk_put (cs := #[.int .i64 m, .int .i64 m, .int .i64 a0_2, .slice A d.length cc]) ?_ 1 _ rfl; refine blk_put (cs := #[.int .i64 n, .int .i64 m, .int .i64 a0_2, .slice A d.length cc]) ?_ 0 _ rfl; exact BKgt.out); have b4_ := aM (show Kd.R (Kd.int .i64) 3 w1041 w.heap.size (fun _ => True) (.slice A2 yl.length c2) yl by rw [hw]; exact Kd.R_mono (Kd.R_far (p := ⟨gt, 3, none⟩) (Kd.R_far (p := ⟨gt, 2, none⟩) (Kd.R_far (p := ⟨gt, 1, none⟩) (Kd.R_far (p := ⟨gt, 0, none⟩) (Kd.R_types (Kd.R_lower HO2.out HB0.out.size) BKgt.out (by decide)) (fun _ hk => hk.2) _) (fun _ hk => hk.2) _) (fun _ hk => hk.2) _) (fun _ hk => hk.2) _) (fun _ hk => trivial)); have b5_ := aM (show Below w.heap.size w w1041 by rw [hw]; exact below_set (below_set (below_set (below_set (below_step HB0.out HB.out) GEgt.out) GEgt.out) GEgt.out) GEgt.out); clear hw))
    go_roundg (k - (i + 1))
    case measure => omega
    case rel => exact ⟨i + 1, m, n, yl, A2, c2, by omega, by omega, by go_num, ⟨by rw [show k - (i + 1) = j by have := HJ.out; omega]; exact HT2.out⟩, ⟨by refine qR ?_; exact b4_.out⟩, ⟨by refine qB ?_; exact b1_.out⟩, ⟨by refine qB ?_; exact b2_.out⟩, ⟨by refine qB ?_; exact b3_.out⟩, ⟨by repeat (first | exact b5_.out | apply below_alloc | apply pw_below_drewN | apply below_drew1)⟩⟩
def IsS72 (w0 W : World) (g : Nat) (f0 : List Int) (f1 : Int) : Prop := ∃ A0 c0, W.heap[g]? = some (.cells #[.slice A0 f0.length c0, .int .i64 f1] 72 (0, 0)) ∧ w0.heap.size ≤ g ∧ Kd.C (Kd.int .u8) w0 A0 f0.length f0
theorem IsS72.grown {w0 W : World} {g : Nat} {f0 : List Int} {f1 : Int} {W1 : World} {row : Option Nat} (h : IsS72 w0 W g f0 f1) (hw : W.grownBy W1 row) (hne : some g ≠ row) : IsS72 w0 W1 g f0 f1 := by
 obtain ⟨A0, c0, hb, hg, hr0⟩ := h
 exact ⟨A0, c0, blk_grown hb hw hne, hg, hr0⟩
theorem IsS72.own_neN {w0 W : World} {g : Nat} {f0 : List Int} {f1 : Int} {α : Type} {d : Kd α} {e : Nat} {base : Nat} {ok : Nat → Prop} {v : Value} {xs : List α} (h : IsS72 w0 W g f0 f1) (ho : Kd.N d e W base ok v xs) (ht : e ≠ 72) : some g ≠ v.ownBlock := by
 obtain ⟨A0, c0, hb, hg, hr0⟩ := h
 exact Kd.N_ne ho hb ht
theorem IsS72.fresh {w0 W : World} {g : Nat} {f0 : List Int} {f1 : Int} (h : IsS72 w0 W g f0 f1) : ∀ k, W.heap.size ≤ k → k ≠ g := by
 obtain ⟨A0, c0, hb, hg, hr0⟩ := h
 exact Kd.freshB hb
theorem IsS72.kept {w0 W : World} {g : Nat} {f0 : List Int} {f1 : Int} {W1 : World} {S : Nat → Prop} (h : IsS72 w0 W g f0 f1) (hk : Kept W W1 S) (hne : ¬ S g) : IsS72 w0 W1 g f0 f1 := by
 obtain ⟨A0, c0, hb, hg, hr0⟩ := h
 exact ⟨A0, c0, blk_kept hb hk hne, hg, hr0⟩
theorem IsS72.below {w0 W : World} {g : Nat} {f0 : List Int} {f1 : Int} {W1 : World} (h : IsS72 w0 W g f0 f1) (hw : Below W.heap.size W W1) : IsS72 w0 W1 g f0 f1 := h.grown (grown_of_below hw none) (by simp)
theorem IsS72.alloc {w0 W : World} {g : Nat} {f0 : List Int} {f1 : Int} (h : IsS72 w0 W g f0 f1) (o : Obj) : IsS72 w0 (W.alloc o) g f0 f1 := h.below (below_alloc (Below.refl _ _) o)
theorem IsS72.drewN {w0 W : World} {g : Nat} {f0 : List Int} {f1 : Int} (h : IsS72 w0 W g f0 f1) (m : Nat) : IsS72 w0 (W.drewN m) g f0 f1 := h
theorem IsS72.drew {w0 W : World} {g : Nat} {f0 : List Int} {f1 : Int} (h : IsS72 w0 W g f0 f1) : IsS72 w0 W.drew g f0 f1 := h
theorem IsS72.at_ {w0 W : World} {g : Nat} {f0 : List Int} {f1 : Int} {w' : World} {m : Nat} (hq : W.drewN m = w') (h : IsS72 w0 W g f0 f1) : IsS72 w0 w' g f0 f1 := by subst hq; exact IsS72.drewN h m
theorem IsS72.apart {w0 W : World} {g : Nat} {f0 : List Int} {f1 : Int} {α : Type} {d : Kd α} {e : Nat} {base : Nat} {ok : Nat → Prop} {v : Value} {xs : List α} (h : IsS72 w0 W g f0 f1) (ho : d.R e W base ok v xs) (ht : ∀ q, q ∈ e :: d.E → q ≠ 72) : d.R e W base (fun k => ok k ∧ k ≠ g) v xs := by
 obtain ⟨A0, c0, hb, hg, hr0⟩ := h
 exact Kd.R_types ho hb ht
theorem IsS72.own_ne {w0 W : World} {g : Nat} {f0 : List Int} {f1 : Int} {α : Type} {d : Kd α} {e : Nat} {base : Nat} {ok : Nat → Prop} {v : Value} {xs : List α} (h : IsS72 w0 W g f0 f1) (ho : d.R e W base ok v xs) (ht : e ≠ 72) : some g ≠ v.ownBlock := by
 obtain ⟨A0, c0, hb, hg, hr0⟩ := h
 exact Kd.R_ne ho hb ht
theorem IsS72.apartQ {w0 W : World} {g : Nat} {f0 : List Int} {f1 : Int} {α : Type} {d : Kd α} {e : Nat} {base : Nat} {ok : Nat → Prop} {v : Value} {xs : List α} (h : IsS72 w0 W g f0 f1) (ho : d.Q e W base ok v xs) (ht : ∀ q, q ∈ e :: d.E → q ≠ 72) : d.Q e W base (fun k => ok k ∧ k ≠ g) v xs := by
 obtain ⟨A0, c0, hb, hg, hr0⟩ := h
 exact Kd.Q_types ho hb ht
theorem IsS72.own_neQ {w0 W : World} {g : Nat} {f0 : List Int} {f1 : Int} {α : Type} {d : Kd α} {e : Nat} {base : Nat} {ok : Nat → Prop} {v : Value} {xs : List α} (h : IsS72 w0 W g f0 f1) (ho : d.Q e W base ok v xs) (ht : e ≠ 72) : some g ≠ v.ownBlock := by
 obtain ⟨A0, c0, hb, hg, hr0⟩ := h
 exact Kd.Q_ne ho hb ht
theorem IsS72.apartS {w0 W : World} {g : Nat} {f0 : List Int} {f1 : Int} {α : Type} {d : Kd α} {e : Nat} {base : Nat} {ok : Nat → Prop} {v : Value} {xs : List α} (h : IsS72 w0 W g f0 f1) (ho : d.S e W base ok v xs) (ht : ∀ q, q ∈ e :: d.E → q ≠ 72) : d.S e W base (fun k => ok k ∧ k ≠ g) v xs := by
 obtain ⟨A0, c0, hb, hg, hr0⟩ := h
 exact Kd.S_types ho hb ht
theorem IsS72.own_neS {w0 W : World} {g : Nat} {f0 : List Int} {f1 : Int} {α : Type} {d : Kd α} {e : Nat} {base : Nat} {ok : Nat → Prop} {v : Value} {xs : List α} (h : IsS72 w0 W g f0 f1) (ho : d.S e W base ok v xs) (ht : e ≠ 72) : some g ≠ v.ownBlock := by
 obtain ⟨A0, c0, hb, hg, hr0⟩ := h
 exact Kd.S_ne ho hb ht
theorem IsS72.lt {w0 W : World} {g : Nat} {f0 : List Int} {f1 : Int} (h : IsS72 w0 W g f0 f1) : g < W.heap.size := by
 obtain ⟨A0, c0, hb, hg, hr0⟩ := h
 exact blk_lt hb
theorem IsS72.ge {w0 W : World} {g : Nat} {f0 : List Int} {f1 : Int} (h : IsS72 w0 W g f0 f1) : w0.heap.size ≤ g := by
 obtain ⟨A0, c0, hb, hg, hr0⟩ := h
 exact hg
theorem IsS72.ne_blk {w0 W : World} {g : Nat} {f0 : List Int} {f1 : Int} {a : Nat} {cs : Array Value} {t : TypeId} {fr : Nat × Nat} (h : IsS72 w0 W g f0 f1) (hb2 : W.heap[a]? = some (.cells cs t fr)) (ht : t ≠ 72) : g ≠ a := by
 obtain ⟨A0, c0, hb, hg, hr0⟩ := h
 rintro rfl
 rw [hb] at hb2
 injection hb2 with hb2
 injection hb2 with _ ht2
 exact ht ht2.symm
theorem IsS72.far {w0 W : World} {g : Nat} {f0 : List Int} {f1 : Int} {p : Addr} (h : IsS72 w0 W g f0 f1) (hne : g ≠ p.block) (u : Value) : IsS72 w0 (W.setCell p u) g f0 f1 := by
 obtain ⟨A0, c0, hb, hg, hr0⟩ := h
 exact ⟨A0, c0, blk_far hb hne u, hg, hr0⟩
theorem cellS72_0 {W : World} {g : Nat} {A0 : Option Addr} {c0 : Nat} {f0 : List Int} {f1 : Int} (h : W.heap[g]? = some (.cells #[.slice A0 f0.length c0, .int .i64 f1] 72 (0, 0))) : W.cell? ⟨g, 0, none⟩ = some (.slice A0 f0.length c0) := (blk_cell h 0).trans rfl
theorem cellS72_1 {W : World} {g : Nat} {A0 : Option Addr} {c0 : Nat} {f0 : List Int} {f1 : Int} (h : W.heap[g]? = some (.cells #[.slice A0 f0.length c0, .int .i64 f1] 72 (0, 0))) : W.cell? ⟨g, 1, none⟩ = some (.int .i64 f1) := (blk_cell h 1).trans rfl
theorem IsS72.set_1 {w0 W : World} {g : Nat} {f0 : List Int} {f1 : Int} (h : IsS72 w0 W g f0 f1) (x : Int) : IsS72 w0 (W.setCell ⟨g, 1, none⟩ (.int .i64 x)) g f0 x := by
 obtain ⟨A0, c0, hb, hg, hr0⟩ := h
 exact ⟨A0, c0, by simpa using blk_set hb 1 (.int .i64 x), hg, hr0⟩
theorem IsS72.new (w0 W : World) (A0 : Option Addr) (c0 : Nat) (f0 : List Int) (f1 : Int) (hB : Below w0.heap.size w0 W) (hr0 : Kd.C (Kd.int .u8) w0 A0 f0.length f0) : IsS72 w0 (W.alloc (.cells #[.slice A0 f0.length c0, .int .i64 f1] 72)) W.heap.size f0 f1 := ⟨A0, c0, by simpa using heap_alloc_new W _, hB.size, hr0⟩
theorem farA72 {w0 W : World} {g : Nat} {f0 : List Int} {f1 : Int} {g2 j : Nat} {u : Value} (h : IsS72 w0 W g f0 f1) (hn : Aside0 (g ≠ g2)) : IsS72 w0 (W.setCell ⟨g2, j, none⟩ u) g f0 f1 := IsS72.far h hn.out u
theorem iS72 {w0 W W2 : World} {g : Nat} {f0 : List Int} {f1 : Int} {f0' : List Int} {f1' : Int} (a : IsS72 w0 W g f0 f1) (f : IsS72 w0 W g f0 f1 → IsS72 w0 W2 g f0' f1' := by intro h_; repeat (first | (with_reducible first | exact h_ | apply IsS72.alloc | apply IsS72.drewN | apply IsS72.drew | apply IsS72.set_1 | (refine farA72 ?_ ?_; rotate_left; assumption)) | exact h_)) : IsS72 w0 W2 g f0' f1' := f a
theorem wS72 {n : Nat} {w w' W : World} (a : Below n w w') (f : Below n w w' → Below n w W := by intro h_; repeat (first | (with_reducible first | exact h_ | apply below_alloc | apply pw_below_drewN | apply below_drew1 | (refine below_set ?_ ?_; rotate_left; exact IsS72.ge (Aside0.out (by assumption))) | (refine below_setA ?_ ?_; rotate_left; assumption)) | exact h_)) : Below n w W := f a
def spec_newReader.f (l0 : List Int) : Option (List Int × Int) := if (l0.length : Int) > 2000 then (if 2000 ≤ (l0.length : Int) then (some (l0.take 2000, 0)) else (none)) else (some (l0, 0))
set_option maxHeartbeats 8000000 in
set_option maxRecDepth 100000 in
theorem spec_newReader.calls (A0 : Option Addr) (c0 : Nat) (l0 : List Int) (r1 : List Int) (r2 : Int) (w0 w : World) (hB : Below w0.heap.size w0 w) (hr0 : Kd.C (Kd.int .u8) w0 A0 l0.length l0) (hc0 : l0.length ≤ c0) (h : spec_newReader.f l0 = some (r1, r2)) :
  Calls Try.prog 56 #[.slice A0 l0.length c0] w fun e w' => ∃ g_ : Nat, e = .returned (.pointer (some ⟨g_, 0, none⟩)) ∧ IsS72 w0 w' g_ r1 r2 ∧ Below w0.heap.size w0 w' ∧ Below w.heap.size w w' := by
 have hu72 := Try.underlying72
 have HR0 := aM hr0
 have HC0 := aM hc0
 clear hr0 hc0
 have HBW := aM (Below.refl w.heap.size w)
 have HW0 := aM hB.size
 have HB := aM hB
 clear hB
 unfold spec_newReader.f at h
 have H := h
 clear h
 by_cases c2 : (l0.length : Int) > 2000
 rotate_left
 ·rw [if_neg c2] at H
  have c2b0 : decide (2000 < (l0.length : Int)) = false := decide_eq_false c2
  have c2b1 : decide (2000 < l0.length) = false := decide_eq_false (by omega)
  clear c2
  simp only [Option.some.injEq, Prod.mk.injEq] at H
  obtain ⟨rfl, rfl⟩ := H
  go_enter Try.func56, Try.ntmps56
  go_wp2_with (first | ((with_reducible refine gate_dst (N := 10) rfl ?_); refine bxE (N := 10) (cs := #[.slice A0 l0.length c0, .int .i64 0]) (t := 72) ?_; intro gb220 hg w6 hbox hb; replace HB := bS HB hb; have BK220 := aM (hbox); have GW220 := aM ((by rw [hg]; exact (below_size (qW HBW.out)) : w.heap.size ≤ gb220)); have GE220 := aM ((Nat.le_trans HW0.out (by rw [hg]; exact (below_size (qW HBW.out)) : w.heap.size ≤ gb220) : w0.heap.size ≤ gb220)); replace HBW := aM (below_step HBW.out hb); clear hb hbox hg))
  go_ret
  exact ⟨_, rfl, (show IsS72 w0 _ gb220 l0 0 from ⟨_, _, by refine qB ?_; exact BK220.out, GE220.out, HR0.out⟩), by exact qW HB.out, by exact qW HBW.out⟩
 rw [if_pos c2] at H
 have c2b0 : decide (2000 < (l0.length : Int)) = true := decide_eq_true c2
 have c2b1 : decide (2000 < l0.length) = true := decide_eq_true (by omega)
 clear c2
 replace H := iS H
 obtain ⟨c3, H⟩ := H
 have c3b0 := eq_true c3
 have c3b1 : decide (2000 ≤ (l0.length : Int)) = true := decide_eq_true c3
 clear c3
 simp only [Option.some.injEq, Prod.mk.injEq] at H
 obtain ⟨rfl, rfl⟩ := H
 obtain ⟨i04, hi04, _, hsz4, _⟩ := info_parts info5
 obtain ⟨hcut4, hA4, hC4⟩ := print_take_of (P := Try.prog) (Value.int .u8) 0 32 5 .i64 Try.underlying32 hi04 hsz4 A0 c0 l0 2000 (by omega) oD HC0.out
 have HR218 := aM (Kd.C_of_reads (h1 := fun _ => rfl) (hA4 _ (Kd.reads_of_C HR0.out)))
 have HC218 := aM hC4
 clear hA4 hC4 hi04 hsz4
 go_enter Try.func56, Try.ntmps56
 go_wp2_with (first | ((with_reducible refine gate_dst (N := 10) rfl ?_); refine bxE (N := 10) (cs := #[.slice A0 (l0.take 2000).length c0, .int .i64 0]) (t := 72) ?_; intro gb219 hg w5 hbox hb; replace HB := bS HB hb; have BK219 := aM (hbox); have GW219 := aM ((by rw [hg]; exact (below_size (qW HBW.out)) : w.heap.size ≤ gb219)); have GE219 := aM ((Nat.le_trans HW0.out (by rw [hg]; exact (below_size (qW HBW.out)) : w.heap.size ≤ gb219) : w0.heap.size ≤ gb219)); replace HBW := aM (below_step HBW.out hb); clear hb hbox hg))
 go_ret
 exact ⟨_, rfl, (show IsS72 w0 _ gb219 (l0.take 2000) 0 from ⟨_, _, by refine qB ?_; exact BK219.out, GE219.out, HR218.out⟩), by exact qW HB.out, by exact qW HBW.out⟩
def spec_reader_pick.j0 : Nat → Int → Bool → List Int → Int → Option (Int × Int)
 | 0, _, _, _, _ => none
 | k + 1, x1, x24, x1000, x1001 => if x24 = true then (some (0, x1001)) else (if (wrap64 (x1001 - 1)) < (x1000.length : Int) then (if 0 ≤ (wrap64 (x1001 - 1)) then (if x1 = 0 then (none) else (some (Int.tmod (wrap64 (rd x1000 (wrap64 (x1001 - 1)))) x1, x1001))) else (none)) else (if (x1000.length : Int) = 0 then (none) else (if 0 ≤ (Int.tmod (wrap64 (x1001 - 1)) (x1000.length : Int)) then (if (Int.tmod (wrap64 (x1001 - 1)) (x1000.length : Int)) < (x1000.length : Int) then (if 0 ≤ (Int.tmod (wrap64 ((wrap64 ((wrap64 (x1001 - 1)) * 7)) + 3)) (x1000.length : Int)) then (if (Int.tmod (wrap64 ((wrap64 ((wrap64 (x1001 - 1)) * 7)) + 3)) (x1000.length : Int)) < (x1000.length : Int) then (if x1 = 0 then (none) else (some (Int.tmod (Go.bits .xor .i64 (wrap64 ((wrap64 ((wrap64 ((wrap64 ((wrap64 (rd x1000 (Int.tmod (wrap64 (x1001 - 1)) (x1000.length : Int)))) * 131)) + (wrap64 ((wrap64 (rd x1000 (Int.tmod (wrap64 ((wrap64 ((wrap64 (x1001 - 1)) * 7)) + 3)) (x1000.length : Int)))) * 1117)))) + (wrap64 ((wrap64 (x1001 - 1)) * 29)))) + (wrap64 ((wrap64 (Int.tdiv (wrap64 (x1001 - 1)) (x1000.length : Int))) * 53)))) (wrap64 (Int.tdiv (wrap64 ((wrap64 ((wrap64 ((wrap64 ((wrap64 (rd x1000 (Int.tmod (wrap64 (x1001 - 1)) (x1000.length : Int)))) * 131)) + (wrap64 ((wrap64 (rd x1000 (Int.tmod (wrap64 ((wrap64 ((wrap64 (x1001 - 1)) * 7)) + 3)) (x1000.length : Int)))) * 1117)))) + (wrap64 ((wrap64 (x1001 - 1)) * 29)))) + (wrap64 ((wrap64 (Int.tdiv (wrap64 (x1001 - 1)) (x1000.length : Int))) * 53)))) 64))) x1, x1001))) else (none)) else (none)) else (none)) else (none))))
def spec_reader_pick.f (k : Nat) (s0_0 : List Int) (s0_1 : Int) (a1 : Int) : Option (Int × Int) := if a1 < 1 then (spec_reader_pick.j0 k a1 true s0_0 (wrap64 (s0_1 + 1))) else (spec_reader_pick.j0 k a1 ((s0_0.length : Int) == 0) s0_0 (wrap64 (s0_1 + 1)))
theorem spec_reader_pick.mono_l : ∀ k, (∀ y0 y1 y2 y3, LeO (spec_reader_pick.j0 k y0 y1 y2 y3) (spec_reader_pick.j0 (k + 1) y0 y1 y2 y3))
 | 0 => fun _ _ _ _ r h => by simp [spec_reader_pick.j0] at h
 | k + 1 => by
  have ih0 := spec_reader_pick.mono_l k
  ·intro y0 y1 y2 y3
   unfold spec_reader_pick.j0
   repeat' first | (with_reducible first | exact ih0 _ _ _ _ | exact lR | exact lN | refine lI ?_ ?_ | refine lB ?_ fun _ => ?_) | exact ih0 _ _ _ _ | exact lN | refine lI ?_ ?_ | refine lB ?_ fun _ => ?_
theorem spec_reader_pick.mono : ∀ a0 a1 a2 k, LeO (spec_reader_pick.f k a0 a1 a2) (spec_reader_pick.f (k + 1) a0 a1 a2) := by
 intro a0 a1 a2 k
 have ih0 := spec_reader_pick.mono_l k
 unfold spec_reader_pick.f
 repeat' first | (with_reducible first | exact ih0 _ _ _ _ | exact lR | exact lN | refine lI ?_ ?_ | refine lB ?_ fun _ => ?_) | exact ih0 _ _ _ _ | exact lN | refine lI ?_ ?_ | refine lB ?_ fun _ => ?_
set_option maxHeartbeats 8000000 in
set_option maxRecDepth 100000 in
theorem spec_reader_pick.calls (k : Nat) (g : Nat) (s0_0 : List Int) (s0_1 : Int) (a1 : Int) (r1 : Int) (r2 : Int) (w0 w : World) (hI : IsS72 w0 w g s0_0 s0_1) (hB : Below w0.heap.size w0 w) (h : spec_reader_pick.f k s0_0 s0_1 a1 = some (r1, r2)) :
  Calls Try.prog 57 #[.pointer (some ⟨g, 0, none⟩), .int .i64 a1] w fun e w' => e = .returned (.int .i64 r1) ∧ IsS72 w0 w' g s0_0 r2 ∧ Below w0.heap.size w0 w' ∧ KeepBut w w' g none := by
 have HI0 := aM hI
 have HK := aM (KeepBut.refl w g none)
 have HL := aM hB.size
 clear hI
 have HW0 := aM hB.size
 have HB := aM hB
 clear hB
 unfold spec_reader_pick.f at h
 have H := h
 clear h
 have HC3 := aM H
 clear H
 obtain ⟨ASz4_0, cSz4_0, HGz4, hgz4, HSz4_0⟩ := HI0.out
 have hcz4_0 := cellS72_0 HGz4
 have hcz4_1 := cellS72_1 HGz4
 have hfz4_1 := blk_frozen HGz4 1
 clear HGz4 hgz4
 go_enter Try.func57, Try.ntmps57
 go_upto_region 2 with (fail)
 repeat (go_quiet (fail); go_upto_region 2 with (fail))
 go_cut [24] (fun v24 wc => ∃ (kq : Nat) (x24_2 : Bool), v24 = .bool x24_2 ∧ Aside0 (spec_reader_pick.j0 kq a1 x24_2 s0_0 (wrap64 (s0_1 + 1)) = some (r1, r2)) ∧ Aside0 (kq ≤ k) ∧ Aside0 (IsS72 w0 wc g s0_0 (wrap64 (s0_1 + 1))) ∧ Aside0 (KeepBut w wc g none) ∧ Aside0 (Below w0.heap.size w0 wc))
 case first =>
  have H := HC3.out
  clear HC3
  by_cases c5 : a1 < 1
  ·rw [if_pos c5] at H
   have c5b0 : decide (a1 < 1) = true := decide_eq_true c5
   clear c5
   (first | rw [c5b0] | (simp only [i64_w, i32_w]; rw [c5b0]) | skip)
   have H' := aM H
   clear H
   go_wp2
   repeat (go_quiet (fail); try go_wp2)
   go_meet
   case rel => exact ⟨_, (true), qE, H', ⟨by first | omega | exact Nat.le_refl _⟩, ⟨iS72 HI0.out⟩, ⟨kB HK.out⟩, ⟨wS72 HB.out⟩⟩
  rw [if_neg c5] at H
  have c5b0 : decide (a1 < 1) = false := decide_eq_false c5
  clear c5
  (first | rw [c5b0] | (simp only [i64_w, i32_w]; rw [c5b0]) | skip)
  have H' := aM H
  clear H
  obtain ⟨ASz6_0, cSz6_0, HGz6, hgz6, HSz6_0⟩ := HI0.out
  have hcz6_0 := cellS72_0 HGz6
  have hcz6_1 := cellS72_1 HGz6
  have hfz6_1 := blk_frozen HGz6 1
  clear HGz6 hgz6
  go_wp2
  repeat (go_quiet (fail); try go_wp2)
  go_meet
  case rel => exact ⟨_, (((s0_0.length : Int) == 0)), qE, H', ⟨by first | omega | exact Nat.le_refl _⟩, ⟨iS72 HI0.out⟩, ⟨kB HK.out⟩, ⟨wS72 HB.out⟩⟩
 case rest =>
  clear HC3
  try clear c5
  try clear c5b0
  try clear hcz4_0 hcz4_1 hfz4_1
  try clear hcz6_0 hcz6_1 hfz6_1
  obtain ⟨kq, x24_2, rfl, HA, HJ2, HI0, HK, HB⟩ := hcut
  cases kq with
  | zero => exact absurd HA.out (by simp [spec_reader_pick.j0])
  | succ kj2 =>
   have H := HA.out
   clear HA
   simp only [spec_reader_pick.j0] at H
   by_cases c7 : x24_2 = true
   ·subst c7
    have H1 : (some (0, (wrap64 (s0_1 + 1)))) = some (r1, r2) := by rw [if_pos rfl] at H; exact H
    clear H
    have H := H1
    clear H1
    simp only [Option.some.injEq, Prod.mk.injEq] at H
    obtain ⟨rfl, rfl⟩ := H
    go_wp2
    repeat (go_quiet (fail); try go_wp2)
    go_ret
    exact ⟨qX, iS72 HI0.out, wS72 HB.out, kB HK.out⟩
   replace c7 := Bool.eq_false_iff.mpr c7
   subst c7
   have H1 : (if (wrap64 ((wrap64 (s0_1 + 1)) - 1)) < (s0_0.length : Int) then (if 0 ≤ (wrap64 ((wrap64 (s0_1 + 1)) - 1)) then (if a1 = 0 then (none) else (some (Int.tmod (wrap64 (rd s0_0 (wrap64 ((wrap64 (s0_1 + 1)) - 1)))) a1, (wrap64 (s0_1 + 1))))) else (none)) else (if (s0_0.length : Int) = 0 then (none) else (if 0 ≤ (Int.tmod (wrap64 ((wrap64 (s0_1 + 1)) - 1)) (s0_0.length : Int)) then (if (Int.tmod (wrap64 ((wrap64 (s0_1 + 1)) - 1)) (s0_0.length : Int)) < (s0_0.length : Int) then (if 0 ≤ (Int.tmod (wrap64 ((wrap64 ((wrap64 ((wrap64 (s0_1 + 1)) - 1)) * 7)) + 3)) (s0_0.length : Int)) then (if (Int.tmod (wrap64 ((wrap64 ((wrap64 ((wrap64 (s0_1 + 1)) - 1)) * 7)) + 3)) (s0_0.length : Int)) < (s0_0.length : Int) then (if a1 = 0 then (none) else (some (Int.tmod (Go.bits .xor .i64 (wrap64 ((wrap64 ((wrap64 ((wrap64 ((wrap64 (rd s0_0 (Int.tmod (wrap64 ((wrap64 (s0_1 + 1)) - 1)) (s0_0.length : Int)))) * 131)) + (wrap64 ((wrap64 (rd s0_0 (Int.tmod (wrap64 ((wrap64 ((wrap64 ((wrap64 (s0_1 + 1)) - 1)) * 7)) + 3)) (s0_0.length : Int)))) * 1117)))) + (wrap64 ((wrap64 ((wrap64 (s0_1 + 1)) - 1)) * 29)))) + (wrap64 ((wrap64 (Int.tdiv (wrap64 ((wrap64 (s0_1 + 1)) - 1)) (s0_0.length : Int))) * 53)))) (wrap64 (Int.tdiv (wrap64 ((wrap64 ((wrap64 ((wrap64 ((wrap64 (rd s0_0 (Int.tmod (wrap64 ((wrap64 (s0_1 + 1)) - 1)) (s0_0.length : Int)))) * 131)) + (wrap64 ((wrap64 (rd s0_0 (Int.tmod (wrap64 ((wrap64 ((wrap64 ((wrap64 (s0_1 + 1)) - 1)) * 7)) + 3)) (s0_0.length : Int)))) * 1117)))) + (wrap64 ((wrap64 ((wrap64 (s0_1 + 1)) - 1)) * 29)))) + (wrap64 ((wrap64 (Int.tdiv (wrap64 ((wrap64 (s0_1 + 1)) - 1)) (s0_0.length : Int))) * 53)))) 64))) a1, (wrap64 (s0_1 + 1))))) else (none)) else (none)) else (none)) else (none)))) = some (r1, r2) := by rw [if_neg (show ¬ (false = true) by decide)] at H; exact H
   clear H
   have H := H1
   clear H1
   by_cases c8 : (wrap64 ((wrap64 (s0_1 + 1)) - 1)) < (s0_0.length : Int)
   ·rw [if_pos c8] at H
    have c8b0 : decide ((wrap64 ((wrap64 (s0_1 + 1)) - 1)) < (s0_0.length : Int)) = true := decide_eq_true c8
    clear c8
    obtain ⟨ji9, hji9⟩ : ∃ j_ : Int, (wrap64 ((wrap64 (s0_1 + 1)) - 1)) = j_ := ⟨_, rfl⟩
    replace H : (if 0 ≤ (ji9) then (if a1 = 0 then (none) else (some (Int.tmod (wrap64 (rd s0_0 (ji9))) a1, (wrap64 (s0_1 + 1))))) else (none)) = some (r1, r2) := by first | (rw [hji9] at H; exact H) | (simp only [hji9] at H ⊢; exact H)
    (try rw [hji9] at c8b0)
    have hji9w : (IntKind.i64.wrap ((wrap64 (s0_1 + 1)) - 1)) = ji9 := (i64_w _).trans hji9
    replace H := iD H
    obtain ⟨c10b0, H⟩ := H
    by_cases c11 : a1 = 0
    ·rw [if_pos c11] at H
     exact absurd H (by simp)
    rw [if_neg c11] at H
    have c11b0 : (a1 == 0) = false := beq_eq_false_iff_ne.mpr c11
    have c11b1 : (a1 != 0) = true := bne_iff_ne.mpr c11
    simp only [Option.some.injEq, Prod.mk.injEq] at H
    obtain ⟨rfl, rfl⟩ := H
    obtain ⟨ASz12_0, cSz12_0, HGz12, hgz12, HSz12_0⟩ := HI0.out
    have hcz12_0 := cellS72_0 HGz12
    have hcz12_1 := cellS72_1 HGz12
    have hfz12_1 := blk_frozen HGz12 1
    clear HGz12 hgz12
    obtain ⟨ad221, e221, hx221_0⟩ := Kd.at_int HSz12_0 (ji9) oD oD
    cases e221
    replace hx221_0 := pw_cell_below HB.out hx221_0
    have p221 := eq_true (oD : 0 ≤ ((ji9) : Int))
    have q221 := eq_true (oD : (ji9) < (s0_0.length : Int))
    go_wp2
    repeat (go_quiet (fail); try go_wp2)
    go_ret
    exact ⟨by first | rfl | (simp [errW_none, errW_some] <;> rfl) | (simp only [← hji9]; first | rfl | (simp [errW_none, errW_some] <;> rfl)) | (simp [*, errW_none, errW_some] <;> rfl), iS72 HI0.out, wS72 HB.out, kB HK.out⟩
   rw [if_neg c8] at H
   have c8b0 : decide ((wrap64 ((wrap64 (s0_1 + 1)) - 1)) < (s0_0.length : Int)) = false := decide_eq_false c8
   clear c8
   by_cases c13 : (s0_0.length : Int) = 0
   ·rw [if_pos c13] at H
    exact absurd H (by simp)
   rw [if_neg c13] at H
   have c13b0 : ((s0_0.length : Int) == 0) = false := beq_eq_false_iff_ne.mpr c13
   have c13b1 : ((s0_0.length : Int) != 0) = true := bne_iff_ne.mpr c13
   have c13b2 : ¬ (s0_0 = []) := fun h_ => c13 (by rw [h_]; rfl)
   obtain ⟨ji14, hji14⟩ : ∃ j_ : Int, (Int.tmod (wrap64 ((wrap64 (s0_1 + 1)) - 1)) (s0_0.length : Int)) = j_ := ⟨_, rfl⟩
   replace H : (if 0 ≤ (ji14) then (if (ji14) < (s0_0.length : Int) then (if 0 ≤ (Int.tmod (wrap64 ((wrap64 ((wrap64 ((wrap64 (s0_1 + 1)) - 1)) * 7)) + 3)) (s0_0.length : Int)) then (if (Int.tmod (wrap64 ((wrap64 ((wrap64 ((wrap64 (s0_1 + 1)) - 1)) * 7)) + 3)) (s0_0.length : Int)) < (s0_0.length : Int) then (if a1 = 0 then (none) else (some (Int.tmod (Go.bits .xor .i64 (wrap64 ((wrap64 ((wrap64 ((wrap64 ((wrap64 (rd s0_0 (ji14))) * 131)) + (wrap64 ((wrap64 (rd s0_0 (Int.tmod (wrap64 ((wrap64 ((wrap64 ((wrap64 (s0_1 + 1)) - 1)) * 7)) + 3)) (s0_0.length : Int)))) * 1117)))) + (wrap64 ((wrap64 ((wrap64 (s0_1 + 1)) - 1)) * 29)))) + (wrap64 ((wrap64 (Int.tdiv (wrap64 ((wrap64 (s0_1 + 1)) - 1)) (s0_0.length : Int))) * 53)))) (wrap64 (Int.tdiv (wrap64 ((wrap64 ((wrap64 ((wrap64 ((wrap64 (rd s0_0 (ji14))) * 131)) + (wrap64 ((wrap64 (rd s0_0 (Int.tmod (wrap64 ((wrap64 ((wrap64 ((wrap64 (s0_1 + 1)) - 1)) * 7)) + 3)) (s0_0.length : Int)))) * 1117)))) + (wrap64 ((wrap64 ((wrap64 (s0_1 + 1)) - 1)) * 29)))) + (wrap64 ((wrap64 (Int.tdiv (wrap64 ((wrap64 (s0_1 + 1)) - 1)) (s0_0.length : Int))) * 53)))) 64))) a1, (wrap64 (s0_1 + 1))))) else (none)) else (none)) else (none)) else (none)) = some (r1, r2) := by first | (rw [hji14] at H; exact H) | (simp only [hji14] at H ⊢; exact H)
   replace H := iD H
   obtain ⟨c15b0, H⟩ := H
   replace H := iD H
   obtain ⟨c16b0, H⟩ := H
   obtain ⟨ji17, hji17⟩ : ∃ j_ : Int, (Int.tmod (wrap64 ((wrap64 ((wrap64 ((wrap64 (s0_1 + 1)) - 1)) * 7)) + 3)) (s0_0.length : Int)) = j_ := ⟨_, rfl⟩
   replace H : (if 0 ≤ (ji17) then (if (ji17) < (s0_0.length : Int) then (if a1 = 0 then (none) else (some (Int.tmod (Go.bits .xor .i64 (wrap64 ((wrap64 ((wrap64 ((wrap64 ((wrap64 (rd s0_0 (ji14))) * 131)) + (wrap64 ((wrap64 (rd s0_0 (ji17))) * 1117)))) + (wrap64 ((wrap64 ((wrap64 (s0_1 + 1)) - 1)) * 29)))) + (wrap64 ((wrap64 (Int.tdiv (wrap64 ((wrap64 (s0_1 + 1)) - 1)) (s0_0.length : Int))) * 53)))) (wrap64 (Int.tdiv (wrap64 ((wrap64 ((wrap64 ((wrap64 ((wrap64 (rd s0_0 (ji14))) * 131)) + (wrap64 ((wrap64 (rd s0_0 (ji17))) * 1117)))) + (wrap64 ((wrap64 ((wrap64 (s0_1 + 1)) - 1)) * 29)))) + (wrap64 ((wrap64 (Int.tdiv (wrap64 ((wrap64 (s0_1 + 1)) - 1)) (s0_0.length : Int))) * 53)))) 64))) a1, (wrap64 (s0_1 + 1))))) else (none)) else (none)) = some (r1, r2) := by first | (rw [hji17] at H; exact H) | (simp only [hji17] at H ⊢; exact H)
   replace H := iD H
   obtain ⟨c18b0, H⟩ := H
   replace H := iD H
   obtain ⟨c19b0, H⟩ := H
   by_cases c20 : a1 = 0
   ·rw [if_pos c20] at H
    exact absurd H (by simp)
   rw [if_neg c20] at H
   have c20b0 : (a1 == 0) = false := beq_eq_false_iff_ne.mpr c20
   have c20b1 : (a1 != 0) = true := bne_iff_ne.mpr c20
   simp only [Option.some.injEq, Prod.mk.injEq] at H
   obtain ⟨rfl, rfl⟩ := H
   obtain ⟨ASz21_0, cSz21_0, HGz21, hgz21, HSz21_0⟩ := HI0.out
   have hcz21_0 := cellS72_0 HGz21
   have hcz21_1 := cellS72_1 HGz21
   have hfz21_1 := blk_frozen HGz21 1
   clear HGz21 hgz21
   obtain ⟨ad222, e222, hx222_0⟩ := Kd.at_int HSz21_0 (ji14) oD oD
   cases e222
   replace hx222_0 := pw_cell_below HB.out hx222_0
   have p222 := eq_true (oD : 0 ≤ ((ji14) : Int))
   have q222 := eq_true (oD : (ji14) < (s0_0.length : Int))
   obtain ⟨ad223, e223, hx223_0⟩ := Kd.at_int HSz21_0 (ji17) oD oD
   obtain rfl : ad222 = ad223 := (by injection e223)
   replace hx223_0 := pw_cell_below HB.out hx223_0
   have p223 := eq_true (oD : 0 ≤ ((ji17) : Int))
   have q223 := eq_true (oD : (ji17) < (s0_0.length : Int))
   go_wp2
   repeat (go_quiet (fail); try go_wp2)
   go_ret
   exact ⟨by first | rfl | (simp [errW_none, errW_some] <;> rfl) | (simp only [← hji14, ← hji17]; first | rfl | (simp [errW_none, errW_some] <;> rfl)) | (simp [*, errW_none, errW_some] <;> rfl), iS72 HI0.out, wS72 HB.out, kB HK.out⟩
def spec_reader_one.f (k : Nat) (s0_0 : List Int) (s0_1 : Int) (l1 : List Int) : Option (Int × Int) := (spec_reader_pick.f k s0_0 s0_1 (l1.length : Int)).bind fun bt224 => (if 0 ≤ bt224.1 then (if bt224.1 < (l1.length : Int) then (some (rd l1 bt224.1, bt224.2)) else (none)) else (none))
theorem spec_reader_one.mono : ∀ a0 a1 a2 k, LeO (spec_reader_one.f k a0 a1 a2) (spec_reader_one.f (k + 1) a0 a1 a2) := by
 intro a0 a1 a2 k
 unfold spec_reader_one.f
 repeat' first | (with_reducible first | exact spec_reader_pick.mono _ _ _ _ | exact lR | exact lN | refine lI ?_ ?_ | refine lB ?_ fun _ => ?_) | exact spec_reader_pick.mono _ _ _ _ | exact lN | refine lI ?_ ?_ | refine lB ?_ fun _ => ?_
set_option maxHeartbeats 8000000 in
set_option maxRecDepth 100000 in
theorem spec_reader_one.calls (k : Nat) (g : Nat) (s0_0 : List Int) (s0_1 : Int) (A1 : Option Addr) (c1 : Nat) (l1 : List Int) (r1 : Int) (r2 : Int) (w0 w : World) (hI : IsS72 w0 w g s0_0 s0_1) (hB : Below w0.heap.size w0 w) (hr1 : Kd.C (Kd.int .i64) w A1 l1.length l1) (hc1 : l1.length ≤ c1) (hf1 : ∀ ad, A1 = some ad → 0 < l1.length → ad.block ≠ g) (h : spec_reader_one.f k s0_0 s0_1 l1 = some (r1, r2)) :
  Calls Try.prog 81 #[.pointer (some ⟨g, 0, none⟩), .slice A1 l1.length c1] w fun e w' => e = .returned (.int .i64 r1) ∧ IsS72 w0 w' g s0_0 r2 ∧ Below w0.heap.size w0 w' ∧ KeepBut w w' g none := by
 have HR1 := aM hr1
 have HC1 := aM hc1
 clear hr1 hc1
 have HI0 := aM hI
 have HK := aM (KeepBut.refl w g none)
 have HL := aM hB.size
 clear hI
 have HW0 := aM hB.size
 have HB := aM hB
 clear hB
 unfold spec_reader_one.f at h
 have H := h
 clear h
 replace H := Option.bind_eq_some_iff.mp H
 obtain ⟨⟨t224, t225⟩, A30, H⟩ := H
 replace H : (if 0 ≤ t224 then (if t224 < (l1.length : Int) then (some (rd l1 t224, t225)) else (none)) else (none)) = some (r1, r2) := H
 have A3 := aM A30
 clear A30
 replace H := iD H
 obtain ⟨c4b0, H⟩ := H
 replace H := iD H
 obtain ⟨c5b0, H⟩ := H
 simp only [Option.some.injEq, Prod.mk.injEq] at H
 obtain ⟨rfl, rfl⟩ := H
 go_enter Try.func81, Try.ntmps81
 go_wp2_with (first | ((with_reducible refine gate_callee (f := 57) rfl ?_); refine gL (some 9) Try.func57 #[.pointer (some ⟨g, 0, none⟩), .int .i64 (l1.length : Int)] ?_; (with_reducible refine (spec_reader_pick.calls k g s0_0 s0_1 (l1.length : Int) t224 t225 w0 _ ?side1 ?side2 A3.out).mono ?_); (case side1 => exact iS72 HI0.out); (case side2 => exact wS72 HB.out); rintro e w6 ⟨rfl, hi, hb, hk⟩; refine ⟨_, rfl, ?_⟩; replace HK := aM (KeepBut.trans (kB HK.out) hk (.inl rfl)); replace HB := aM (hb); replace HI0 := aM (hi); clear hb hk hi; have p226 : 0 ≤ (t224 : Int) := oD; have q226 : t224 < (l1.length : Int) := oD; obtain ⟨ad226, e226, hx226_0⟩ := Kd.at_int HR1.out t224 p226 q226; cases e226; replace hx226_0 := keep_cell HK.out hx226_0 (by first | (rw [add_block]; exact hf1 _ rfl (by omega)) | exact hf1 _ rfl (by omega) | exact hf1 ad226 rfl (by omega)); replace p226 := eq_true p226; replace q226 := eq_true q226))
 go_ret
 exact ⟨qX, iS72 HI0.out, wS72 HB.out, kB HK.out⟩
end Go.Proofs.Ytnamhlcdlbjcfaa.P
