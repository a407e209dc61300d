/- Contracts and row, written by a program of this place out of the translation: the call answers true and its argument reads as before, for every input; no condition. -/
import Derived.Test.YtchahbdmdcllaaaK0
import Derived.Test.YtchahbdmdcllaaaK1
import Derived.Test.YtchahbdmdcllaaaK2
import Derived.Test.YtchahbdmdcllaaaK3
namespace Go.Proofs.Ytchahbdmdcllaaa.P
open Go.RowKit Go.Proofs.YtchahbdmdcllaaaW.PrintWords Go.Proofs.YtchahbdmdcllaaaW.PrintLast Go.Proofs.YtchahbdmdcllaaaW.PrintMore
attribute [local go_sem] max2_int min2_int max_two min_two max_three min_three max_four min_four   -- for this text's walks alone
set_option linter.unusedVariables false
set_option linter.unusedSimpArgs false
def spec_spoilImage.f (k : Nat) (s0_0 : List Int) (s0_1 : Int) (a1_0 : Int) (a1_1 : Int) (a1_2 : Int) (l1_3 : List Int) : Option (Int × Int × Int × List Int × Int) := (spec_reader_pick.f k s0_0 s0_1 40).bind fun bt603 => (if bt603.1 = 0 then ((spec_reader_one.f k s0_0 bt603.2 (([0, 17, wrap64 (a1_0 + 1)] : List Int))).bind fun bt608 => (some (bt608.1, a1_1, a1_2, l1_3, bt608.2))) else (if bt603.1 = 1 then (if 1 ≤ (l1_3.length : Int) then (some (a1_0, a1_1, a1_2, (l1_3.drop (1 : Int).toNat), bt603.2)) else (none)) else (if bt603.1 = 2 then ((spec_reader_one.f k s0_0 bt603.2 (([(-1), 256] : List Int))).bind fun bt616 => (if 0 < (l1_3.length : Int) then (some (a1_0, a1_1, a1_2, (l1_3.set (0 : Int).toNat bt616.1), bt616.2)) else (none))) else (if bt603.1 = 3 then ((spec_reader_one.f k s0_0 bt603.2 (([0, 5] : List Int))).bind fun bt622 => (some (a1_0, a1_1, bt622.1, l1_3, bt622.2))) else (some (a1_0, a1_1, a1_2, l1_3, bt603.2))))))
theorem spec_spoilImage.mono : ∀ a0 a1 a2 a3 a4 a5 k, LeO (spec_spoilImage.f k a0 a1 a2 a3 a4 a5) (spec_spoilImage.f (k + 1) a0 a1 a2 a3 a4 a5) := by
 intro a0 a1 a2 a3 a4 a5 k
 unfold spec_spoilImage.f
 repeat' first | (with_reducible first | exact spec_reader_one.mono _ _ _ _ | exact spec_reader_pick.mono _ _ _ _ | exact lR | exact lN | refine lI ?_ ?_ | refine lB ?_ fun _ => ?_) | exact spec_reader_one.mono _ _ _ _ | exact spec_reader_pick.mono _ _ _ _ | exact lN | refine lI ?_ ?_ | refine lB ?_ fun _ => ?_
set_option maxHeartbeats 8000000 in
set_option maxRecDepth 100000 in
theorem spec_spoilImage.calls (k : Nat) (g : Nat) (s0_0 : List Int) (s0_1 : Int) (a1_0 : Int) (a1_1 : Int) (a1_2 : Int) (P1_3_ : Nat → Prop) (u9000_ : Value) (l1_3 : List Int) (r1 : Int) (r2 : Int) (r3 : Int) (r4 : List Int) (r5 : Int) (w0 w : World) (hI : IsS67 w0 w g s0_0 s0_1) (hB : Below w0.heap.size w0 w) (ho1_3 : Kd.R (Kd.int .i64) 3 w w0.heap.size P1_3_ u9000_ l1_3) (h : spec_spoilImage.f k s0_0 s0_1 a1_0 a1_1 a1_2 l1_3 = some (r1, r2, r3, r4, r5)) :
  Calls Try.prog 71 #[.pointer (some ⟨g, 0, none⟩), .agg #[.int .i64 a1_0, .int .i64 a1_1, .int .i64 a1_2, u9000_]] w fun e w' => ∃ v3_ : Value, e = .returned (.agg #[.int .i64 r1, .int .i64 r2, .int .i64 r3, v3_]) ∧ Kd.Q (Kd.int .i64) 3 w' w0.heap.size (fun k_ => (P1_3_ k_ ∨ w.heap.size ≤ k_)) v3_ r4 ∧ IsS67 w0 w' g s0_0 r5 ∧ Below w0.heap.size w0 w' ∧ Kept w w' (fun k_ => (P1_3_ k_) ∨ k_ = g) := by
 have hu24 := Try.underlying24
 have HO1_3 := aM (show Kd.R (Kd.int .i64) 3 w w0.heap.size (fun k_ => (P1_3_ k_ ∨ w.heap.size ≤ k_)) u9000_ l1_3 from Kd.R_mono ho1_3 (fun k_ hk => (.inl hk)))
 have HI0 := aM hI
 have HL := aM hB.size
 clear hI
 have HK := aM (Kept.refl w (fun k_ => (P1_3_ k_) ∨ k_ = g))
 have HW0 := aM hB.size
 have HB := aM hB
 clear hB
 unfold spec_spoilImage.f at h
 have H := h
 clear h
 replace H := Option.bind_eq_some_iff.mp H
 obtain ⟨⟨t603, t604⟩, A30, H⟩ := H
 replace H : (if t603 = 0 then ((spec_reader_one.f k s0_0 t604 (([0, 17, wrap64 (a1_0 + 1)] : List Int))).bind fun bt608 => (some (bt608.1, a1_1, a1_2, l1_3, bt608.2))) else (if t603 = 1 then (if 1 ≤ (l1_3.length : Int) then (some (a1_0, a1_1, a1_2, (l1_3.drop (1 : Int).toNat), t604)) else (none)) else (if t603 = 2 then ((spec_reader_one.f k s0_0 t604 (([(-1), 256] : List Int))).bind fun bt616 => (if 0 < (l1_3.length : Int) then (some (a1_0, a1_1, a1_2, (l1_3.set (0 : Int).toNat bt616.1), bt616.2)) else (none))) else (if t603 = 3 then ((spec_reader_one.f k s0_0 t604 (([0, 5] : List Int))).bind fun bt622 => (some (a1_0, a1_1, bt622.1, l1_3, bt622.2))) else (some (a1_0, a1_1, a1_2, l1_3, t604)))))) = some (r1, r2, r3, r4, r5) := H
 have A3 := aM A30
 clear A30
 by_cases c4 : t603 = 0
 ·rw [if_pos c4] at H
  have c4b0 : (t603 == 0) = true := beq_iff_eq.mpr c4
  have c4b1 : (t603 != 0) = false := bne_eq_false_iff_eq.mpr c4
  clear c4
  obtain ⟨y605, hy605⟩ : ∃ y_ : List Int, y_ = (([0, 17, wrap64 (a1_0 + 1)] : List Int)) := ⟨_, rfl⟩
  replace H : ((spec_reader_one.f k s0_0 t604 y605).bind fun bt608 => (some (bt608.1, a1_1, a1_2, l1_3, bt608.2))) = some (r1, r2, r3, r4, r5) := rY hy605 H
  have Ny605 := aM hy605
  clear hy605
  replace H := Option.bind_eq_some_iff.mp H
  obtain ⟨⟨t608, t609⟩, A50, H⟩ := H
  replace H : (some (t608, a1_1, a1_2, l1_3, t609)) = some (r1, r2, r3, r4, r5) := H
  have A5 := aM A50
  clear A50
  simp only [Option.some.injEq, Prod.mk.injEq] at H
  obtain ⟨rfl, rfl, rfl, rfl, rfl⟩ := H
  obtain ⟨Ao6, co6, rfl⟩ := sL HO1_3
  go_enter Try.func71, Try.ntmps71
  go_wp2_with (first | ((with_reducible refine gate_dst (N := 3) rfl ?_); refine bxE (N := 3) (cs := #[.int .i64 a1_0, .int .i64 a1_1, .int .i64 a1_2, .slice Ao6 l1_3.length co6]) (t := 24) ?_; intro gb601 hg w7 hbox hb; replace HO1_3 := aM (Kd.R_below (qR HO1_3.out) hb); have BK601 := aM (hbox); have GW601 := aM ((by rw [hg]; exact (by first | exact HK.out.1 | exact (show Kept w _ (fun k_ => (P1_3_ k_) ∨ k_ = g) from kP HK.out).1) : w.heap.size ≤ gb601)); replace HK := aM (Kept.below (S := (fun k_ => (P1_3_ k_) ∨ k_ = g)) (kP HK.out) hb); have GE601 := aM ((by rw [hg]; exact (below_size (wS67 HB.out)) : w0.heap.size ≤ gb601)); replace HB := aM (below_step (wS67 HB.out) hb); have NB0_601 := aM ((by rw [hg]; exact Nat.ne_of_lt (IsS67.lt (show IsS67 w0 _ g s0_0 s0_1 from iS67 HI0.out)) : g ≠ gb601)); have NB601_0 := aM ((by rw [hg]; exact Nat.ne_of_gt (IsS67.lt (show IsS67 w0 _ g s0_0 s0_1 from iS67 HI0.out)) : gb601 ≠ g)); replace HI0 := aM (IsS67.below (iS67 HI0.out) hb); clear hb hbox hg) | ((with_reducible refine gate_dst (N := 4) rfl ?_); refine bxE (N := 4) (cs := #[.int .i64 0, .int .i64 0, .int .i64 0, .slice none 0 0]) (t := 24) ?_; intro gb602 hg w8 hbox hb; replace HO1_3 := aM (Kd.R_below (qR HO1_3.out) hb); have BK602 := aM (hbox); have GW602 := aM ((by rw [hg]; exact (by first | exact HK.out.1 | exact (show Kept w _ (fun k_ => (P1_3_ k_) ∨ k_ = g) from kP HK.out).1) : w.heap.size ≤ gb602)); replace HK := aM (Kept.below (S := (fun k_ => (P1_3_ k_) ∨ k_ = g)) (kP HK.out) hb); have GE602 := aM ((by rw [hg]; exact (below_size (wS67 HB.out)) : w0.heap.size ≤ gb602)); replace HB := aM (below_step (wS67 HB.out) hb); have NB601_602 := nL hg BK601; have NB602_601 := nG hg BK601; replace BK601 := bB BK601 hb; have NB0_602 := aM ((by rw [hg]; exact Nat.ne_of_lt (IsS67.lt (show IsS67 w0 _ g s0_0 s0_1 from iS67 HI0.out)) : g ≠ gb602)); have NB602_0 := aM ((by rw [hg]; exact Nat.ne_of_gt (IsS67.lt (show IsS67 w0 _ g s0_0 s0_1 from iS67 HI0.out)) : gb602 ≠ g)); replace HI0 := aM (IsS67.below (iS67 HI0.out) hb); clear hb hbox hg) | ((with_reducible refine gate_callee (f := 51) rfl ?_); refine gL (some 6) Try.func51 #[.pointer (some ⟨g, 0, none⟩), .int .i64 40] ?_; (with_reducible refine (spec_reader_pick.calls k g s0_0 s0_1 40 t603 t604 w0 _ ?side1 ?side2 A3.out).mono ?_); (case side1 => exact iS67 HI0.out); (case side2 => exact wS67 HB.out); rintro e w9 ⟨rfl, hi, hb, hk⟩; refine ⟨_, rfl, ?_⟩; replace HO1_3 := aM (Kd.R_mono (Kd.R_keep (IsS67.apart (show IsS67 w0 _ g s0_0 s0_1 from iS67 HI0.out) (qR HO1_3.out) (by decide)) hk (fun _ h => h.2)) (fun _ h => h.1)); replace BK601 := bK hk BK601 NB601_0; replace BK602 := bK hk BK602 NB602_0; replace HK := aM (Kept.of_keep (S := (fun k_ => (P1_3_ k_) ∨ k_ = g)) (kP HK.out) hk (.inl (.inr rfl))); replace HB := aM (hb); replace HI0 := aM (hi); clear hb hk hi; have hnb10 := NB601_602.out; have hnc10 := NB602_601.out; have hnb11 := NB601_0.out; have hnc11 := NB0_601.out; obtain ⟨⟨hcz12_0, hcz12_1, hcz12_2, hcz12_3⟩, hfz12_0, hfz12_1, hfz12_2, hfz12_3⟩ := cf4 BK601) | ((with_reducible refine gate_dst (N := 13) rfl ?_); refine iL ([0, 17, wrap64 (a1_0 + 1)] : List Int) [.int .i64 0, .int .i64 17, .int .i64 (wrap64 (a1_0 + 1))] ?_; intro v606 w13 ho14 hb hg_ hnew_; clear hg_ hnew_; (first | rw [← Ny605.out] at ho14 | (simp only [Int.reduceToNat] at ho14; rw [← Ny605.out] at ho14)); have HO607 := aM (Kd.R_lower (Kd.R_new' (Kd.R_newM (M := fun k_ => (P1_3_ k_ ∨ w.heap.size ≤ k_)) ho14 (by first | exact HK.out.1 | exact (show Kept w _ (fun k_ => (P1_3_ k_) ∨ k_ = g) from kP HK.out).1) (fun k_ h_ => .inr h_)) (Kd.R_lt (qR HO1_3.out))) (below_size (wS67 HB.out))); replace HO1_3 := aM (Kd.R_elder' (qR HO1_3.out) (Kd.R_base ho14) hb); replace BK601 := bB BK601 hb; replace BK602 := bB BK602 hb; replace HK := aM (Kept.below (S := (fun k_ => (P1_3_ k_) ∨ k_ = g)) (kP HK.out) hb); replace HB := aM (below_step (wS67 HB.out) hb); replace HI0 := aM (IsS67.below (iS67 HI0.out) hb); clear hb ho14; obtain ⟨Ao15, co15, rfl⟩ := sL HO607) | ((with_reducible refine gate_callee (f := 58) rfl ?_); refine gL (some 14) Try.func58 #[.pointer (some ⟨g, 0, none⟩), .slice Ao15 y605.length co15] ?_; (with_reducible refine (spec_reader_one.calls k g s0_0 t604 _ _ y605 t608 t609 w0 _ ?side1 ?side2 ?side3 ?side4 ?side5 A5.out).mono ?_); (case side1 => exact iS67 HI0.out); (case side2 => exact wS67 HB.out); (case side3 => exact qC (Kd.R_reads' HO607.out).2.2); (case side4 => exact (Kd.R_reads' HO607.out).2.1); (case side5 => exact far_slice (IsS67.own_ne HI0.out HO607.out (by decide))); rintro e w16 ⟨rfl, hi, hb, hk⟩; refine ⟨_, rfl, ?_⟩; replace HO1_3 := aM (Kd.R_mono (Kd.R_keep (IsS67.apart (show IsS67 w0 _ g s0_0 t604 from iS67 HI0.out) (qR HO1_3.out) (by decide)) hk (fun _ h => h.2)) (fun _ h => h.1)); replace BK601 := bK hk BK601 NB601_0; replace BK602 := bK hk BK602 NB602_0; replace HO607 := aM (Kd.R_mono (Kd.R_keep (IsS67.apart (show IsS67 w0 _ g s0_0 t604 from iS67 HI0.out) (qR HO607.out) (by decide)) hk (fun _ h => h.2)) (fun _ h => h.1)); replace HK := aM (Kept.of_keep (S := (fun k_ => (P1_3_ k_) ∨ k_ = g)) (kP HK.out) hk (.inl (.inr rfl))); replace HB := aM (hb); replace HI0 := aM (hi); clear hb hk hi; obtain ⟨⟨hcz17_0, hcz17_1, hcz17_2, hcz17_3⟩, hfz17_0, hfz17_1, hfz17_2, hfz17_3⟩ := cf4 BK601; have hnb18 := NB602_0.out; have hnc18 := NB0_602.out; obtain ⟨⟨hcz19_0, hcz19_1, hcz19_2, hcz19_3⟩, hfz19_0, hfz19_1, hfz19_2, hfz19_3⟩ := cf4 BK602))
  refine bodyPost_ret (results_cell_row rfl _ _ gb602 24 #[.int .i64 t608, .int .i64 a1_1, .int .i64 a1_2, .slice Ao6 l1_3.length co6] (0, 0) _ rfl (by refine qB ?_; refine blk_put (cs := #[.int .i64 t608, .int .i64 a1_1, .int .i64 a1_2, .slice none 0 0]) ?_ 3 _ rfl; refine qB ?_; refine blk_put (cs := #[.int .i64 t608, .int .i64 a1_1, .int .i64 0, .slice none 0 0]) ?_ 2 _ rfl; refine qB ?_; refine blk_put (cs := #[.int .i64 t608, .int .i64 0, .int .i64 0, .slice none 0 0]) ?_ 1 _ rfl; refine qB ?_; refine blk_put (cs := #[.int .i64 0, .int .i64 0, .int .i64 0, .slice none 0 0]) ?_ 0 _ rfl; refine qB ?_; refine blk_far ?_ NB602_601.out _; refine qB ?_; exact BK602.out) Try.underlying24 rfl (by kernel_rfl)) rfl ?_
  exact ⟨_, qX, Kd.Q_of_R (by refine qR ?_; exact Kd.R_mono (Kd.R_far (p := ⟨gb602, 3, none⟩) (Kd.R_far (p := ⟨gb602, 2, none⟩) (Kd.R_far (p := ⟨gb602, 1, none⟩) (Kd.R_far (p := ⟨gb602, 0, none⟩) (Kd.R_far (p := ⟨gb601, 0, none⟩) (Kd.R_types (Kd.R_types HO1_3.out BK601.out (by decide)) BK602.out (by decide)) (fun _ hk => hk.1.2) (.int .i64 t608)) (fun _ hk => hk.2) (.int .i64 t608)) (fun _ hk => hk.2) (.int .i64 a1_1)) (fun _ hk => hk.2) (.int .i64 a1_2)) (fun _ hk => hk.2) (.slice Ao6 l1_3.length co6)) (fun _ hk => hk.1.1.1)), iS67 HI0.out, wS67 HB.out, kP HK.out⟩
 rw [if_neg c4] at H
 have c4b0 : (t603 == 0) = false := beq_eq_false_iff_ne.mpr c4
 have c4b1 : (t603 != 0) = true := bne_iff_ne.mpr c4
 by_cases c20 : t603 = 1
 ·rw [if_pos c20] at H
  have c20b0 : (t603 == 1) = true := beq_iff_eq.mpr c20
  have c20b1 : (t603 != 1) = false := bne_eq_false_iff_eq.mpr c20
  clear c20
  replace H := iS H
  obtain ⟨c21, H⟩ := H
  have c21b0 := eq_true c21
  have c21b1 : decide (1 ≤ (l1_3.length : Int)) = true := decide_eq_true c21
  clear c21
  obtain ⟨y610, hy610⟩ : ∃ y_ : List Int, y_ = (l1_3.drop (1 : Int).toNat) := ⟨_, rfl⟩
  replace H : (some (a1_0, a1_1, a1_2, y610, t604)) = some (r1, r2, r3, r4, r5) := rY hy610 H
  have Ny610 := aM hy610
  clear hy610
  simp only [Option.some.injEq, Prod.mk.injEq] at H
  obtain ⟨rfl, rfl, rfl, rfl, rfl⟩ := H
  obtain ⟨Ao22, co22, rfl⟩ := sL HO1_3
  go_enter Try.func71, Try.ntmps71
  go_wp2_with (first | ((with_reducible refine gate_dst (N := 3) rfl ?_); refine bxE (N := 3) (cs := #[.int .i64 a1_0, .int .i64 a1_1, .int .i64 a1_2, .slice Ao22 l1_3.length co22]) (t := 24) ?_; intro gb601 hg w23 hbox hb; replace HO1_3 := aM (Kd.R_below (qR HO1_3.out) hb); have BK601 := aM (hbox); have GW601 := aM ((by rw [hg]; exact (by first | exact HK.out.1 | exact (show Kept w _ (fun k_ => (P1_3_ k_) ∨ k_ = g) from kP HK.out).1) : w.heap.size ≤ gb601)); replace HK := aM (Kept.below (S := (fun k_ => (P1_3_ k_) ∨ k_ = g)) (kP HK.out) hb); have GE601 := aM ((by rw [hg]; exact (below_size (wS67 HB.out)) : w0.heap.size ≤ gb601)); replace HB := aM (below_step (wS67 HB.out) hb); have NB0_601 := aM ((by rw [hg]; exact Nat.ne_of_lt (IsS67.lt (show IsS67 w0 _ g s0_0 s0_1 from iS67 HI0.out)) : g ≠ gb601)); have NB601_0 := aM ((by rw [hg]; exact Nat.ne_of_gt (IsS67.lt (show IsS67 w0 _ g s0_0 s0_1 from iS67 HI0.out)) : gb601 ≠ g)); replace HI0 := aM (IsS67.below (iS67 HI0.out) hb); clear hb hbox hg) | ((with_reducible refine gate_dst (N := 4) rfl ?_); refine bxE (N := 4) (cs := #[.int .i64 0, .int .i64 0, .int .i64 0, .slice none 0 0]) (t := 24) ?_; intro gb602 hg w24 hbox hb; replace HO1_3 := aM (Kd.R_below (qR HO1_3.out) hb); have BK602 := aM (hbox); have GW602 := aM ((by rw [hg]; exact (by first | exact HK.out.1 | exact (show Kept w _ (fun k_ => (P1_3_ k_) ∨ k_ = g) from kP HK.out).1) : w.heap.size ≤ gb602)); replace HK := aM (Kept.below (S := (fun k_ => (P1_3_ k_) ∨ k_ = g)) (kP HK.out) hb); have GE602 := aM ((by rw [hg]; exact (below_size (wS67 HB.out)) : w0.heap.size ≤ gb602)); replace HB := aM (below_step (wS67 HB.out) hb); have NB601_602 := nL hg BK601; have NB602_601 := nG hg BK601; replace BK601 := bB BK601 hb; have NB0_602 := aM ((by rw [hg]; exact Nat.ne_of_lt (IsS67.lt (show IsS67 w0 _ g s0_0 s0_1 from iS67 HI0.out)) : g ≠ gb602)); have NB602_0 := aM ((by rw [hg]; exact Nat.ne_of_gt (IsS67.lt (show IsS67 w0 _ g s0_0 s0_1 from iS67 HI0.out)) : gb602 ≠ g)); replace HI0 := aM (IsS67.below (iS67 HI0.out) hb); clear hb hbox hg) | ((with_reducible refine gate_callee (f := 51) rfl ?_); refine gL (some 6) Try.func51 #[.pointer (some ⟨g, 0, none⟩), .int .i64 40] ?_; (with_reducible refine (spec_reader_pick.calls k g s0_0 s0_1 40 t603 t604 w0 _ ?side1 ?side2 A3.out).mono ?_); (case side1 => exact iS67 HI0.out); (case side2 => exact wS67 HB.out); rintro e w25 ⟨rfl, hi, hb, hk⟩; refine ⟨_, rfl, ?_⟩; replace HO1_3 := aM (Kd.R_mono (Kd.R_keep (IsS67.apart (show IsS67 w0 _ g s0_0 s0_1 from iS67 HI0.out) (qR HO1_3.out) (by decide)) hk (fun _ h => h.2)) (fun _ h => h.1)); replace BK601 := bK hk BK601 NB601_0; replace BK602 := bK hk BK602 NB602_0; replace HK := aM (Kept.of_keep (S := (fun k_ => (P1_3_ k_) ∨ k_ = g)) (kP HK.out) hk (.inl (.inr rfl))); replace HB := aM (hb); replace HI0 := aM (hi); clear hb hk hi; have hnb26 := NB601_602.out; have hnc26 := NB602_601.out; have hnb27 := NB601_0.out; have hnc27 := NB0_601.out; obtain ⟨⟨hcz28_0, hcz28_1, hcz28_2, hcz28_3⟩, hfz28_0, hfz28_1, hfz28_2, hfz28_3⟩ := cf4 BK601; have q29 : (1 : Int) ≤ ((l1_3.length : Int) : Int) := oD; obtain ⟨i029, hi029, _, hsz29, _⟩ := info_parts info3; have hcut29 := cut_from (P := Try.prog) 22 3 .i64 Try.underlying22 hi029 1 hsz29 Ao22 l1_3.length co22 1 (by omega) q29; have hr29 := Kd.Q_drop (k := (1 : Int).toNat) (Kd.Q_of_R HO1_3.out) (by omega); obtain ⟨A29, hA29⟩ : ∃ A1, A1 = (if co22 = (1 : Int).toNat then Ao22 else (Ao22 : Option Addr).map (·.add ((1 : Int).toNat * 1))) := ⟨_, rfl⟩; obtain ⟨c29, hc29⟩ : ∃ c1, c1 = co22 - (1 : Int).toNat := ⟨_, rfl⟩; have hy29 : y610.length = l1_3.length - (1 : Int).toNat := (by rw [Ny610.out, List.length_drop]); rw [← Ny610.out] at hr29; rw [← hy29, ← hA29, ← hc29] at hcut29; replace hr29 : Kd.Q (Kd.int .i64) 3 w25 w0.heap.size (fun k_ => (P1_3_ k_ ∨ w.heap.size ≤ k_)) (.slice A29 y610.length c29) y610 := (by rw [hA29, hc29, hy29]; exact hr29); have HE29 : Aside0 ((Value.slice A29 y610.length c29).ownBlock = (.slice Ao22 l1_3.length co22 : Value).ownBlock) := ⟨by rw [hA29]; split <;> (cases (Ao22 : Option Addr) <;> rfl)⟩; clear hy29 hi029 hsz29 HO1_3 hA29 hc29; have HO612 := aM hr29; clear hr29; replace q29 := eq_true q29; have hnb30 := NB602_0.out; have hnc30 := NB0_602.out; obtain ⟨⟨hcz31_0, hcz31_1, hcz31_2, hcz31_3⟩, hfz31_0, hfz31_1, hfz31_2, hfz31_3⟩ := cf4 BK602))
  refine bodyPost_ret (results_cell_row rfl _ _ gb602 24 #[.int .i64 a1_0, .int .i64 a1_1, .int .i64 a1_2, .slice A29 y610.length c29] (0, 0) _ rfl (by refine qB ?_; refine blk_put (cs := #[.int .i64 a1_0, .int .i64 a1_1, .int .i64 a1_2, .slice none 0 0]) ?_ 3 _ rfl; refine qB ?_; refine blk_put (cs := #[.int .i64 a1_0, .int .i64 a1_1, .int .i64 0, .slice none 0 0]) ?_ 2 _ rfl; refine qB ?_; refine blk_put (cs := #[.int .i64 a1_0, .int .i64 0, .int .i64 0, .slice none 0 0]) ?_ 1 _ rfl; refine qB ?_; refine blk_put (cs := #[.int .i64 0, .int .i64 0, .int .i64 0, .slice none 0 0]) ?_ 0 _ rfl; refine qB ?_; refine blk_far ?_ NB602_601.out _; refine qB ?_; exact BK602.out) Try.underlying24 rfl (by kernel_rfl)) rfl ?_
  exact ⟨_, qX, by (with_reducible repeat (first | apply Kd.Q_alloc | apply Kd.Q_drewN | apply Kd.Q_drew)); exact Kd.Q_mono (Kd.Q_far (p := ⟨gb602, 3, none⟩) (Kd.Q_far (p := ⟨gb602, 2, none⟩) (Kd.Q_far (p := ⟨gb602, 1, none⟩) (Kd.Q_far (p := ⟨gb602, 0, none⟩) (Kd.Q_far (p := ⟨gb601, 3, none⟩) (Kd.Q_types (Kd.Q_types HO612.out BK601.out (by decide)) BK602.out (by decide)) (fun _ hk => hk.1.2) (.slice A29 y610.length c29)) (fun _ hk => hk.2) (.int .i64 a1_0)) (fun _ hk => hk.2) (.int .i64 a1_1)) (fun _ hk => hk.2) (.int .i64 a1_2)) (fun _ hk => hk.2) (.slice A29 y610.length c29)) (fun _ hk => hk.1.1), iS67 HI0.out, wS67 HB.out, kP HK.out⟩
 rw [if_neg c20] at H
 have c20b0 : (t603 == 1) = false := beq_eq_false_iff_ne.mpr c20
 have c20b1 : (t603 != 1) = true := bne_iff_ne.mpr c20
 by_cases c32 : t603 = 2
 rotate_left
 ·rw [if_neg c32] at H
  have c32b0 : (t603 == 2) = false := beq_eq_false_iff_ne.mpr c32
  have c32b1 : (t603 != 2) = true := bne_iff_ne.mpr c32
  by_cases c52 : t603 = 3
  rotate_left
  ·rw [if_neg c52] at H
   have c52b0 : (t603 == 3) = false := beq_eq_false_iff_ne.mpr c52
   have c52b1 : (t603 != 3) = true := bne_iff_ne.mpr c52
   simp only [Option.some.injEq, Prod.mk.injEq] at H
   obtain ⟨rfl, rfl, rfl, rfl, rfl⟩ := H
   obtain ⟨Ao67, co67, rfl⟩ := sL HO1_3
   go_enter Try.func71, Try.ntmps71
   go_wp2_with (first | ((with_reducible refine gate_dst (N := 3) rfl ?_); refine bxE (N := 3) (cs := #[.int .i64 a1_0, .int .i64 a1_1, .int .i64 a1_2, .slice Ao67 l1_3.length co67]) (t := 24) ?_; intro gb601 hg w68 hbox hb; replace HO1_3 := aM (Kd.R_below (qR HO1_3.out) hb); have BK601 := aM (hbox); have GW601 := aM ((by rw [hg]; exact (by first | exact HK.out.1 | exact (show Kept w _ (fun k_ => (P1_3_ k_) ∨ k_ = g) from kP HK.out).1) : w.heap.size ≤ gb601)); replace HK := aM (Kept.below (S := (fun k_ => (P1_3_ k_) ∨ k_ = g)) (kP HK.out) hb); have GE601 := aM ((by rw [hg]; exact (below_size (wS67 HB.out)) : w0.heap.size ≤ gb601)); replace HB := aM (below_step (wS67 HB.out) hb); have NB0_601 := aM ((by rw [hg]; exact Nat.ne_of_lt (IsS67.lt (show IsS67 w0 _ g s0_0 s0_1 from iS67 HI0.out)) : g ≠ gb601)); have NB601_0 := aM ((by rw [hg]; exact Nat.ne_of_gt (IsS67.lt (show IsS67 w0 _ g s0_0 s0_1 from iS67 HI0.out)) : gb601 ≠ g)); replace HI0 := aM (IsS67.below (iS67 HI0.out) hb); clear hb hbox hg) | ((with_reducible refine gate_dst (N := 4) rfl ?_); refine bxE (N := 4) (cs := #[.int .i64 0, .int .i64 0, .int .i64 0, .slice none 0 0]) (t := 24) ?_; intro gb602 hg w69 hbox hb; replace HO1_3 := aM (Kd.R_below (qR HO1_3.out) hb); have BK602 := aM (hbox); have GW602 := aM ((by rw [hg]; exact (by first | exact HK.out.1 | exact (show Kept w _ (fun k_ => (P1_3_ k_) ∨ k_ = g) from kP HK.out).1) : w.heap.size ≤ gb602)); replace HK := aM (Kept.below (S := (fun k_ => (P1_3_ k_) ∨ k_ = g)) (kP HK.out) hb); have GE602 := aM ((by rw [hg]; exact (below_size (wS67 HB.out)) : w0.heap.size ≤ gb602)); replace HB := aM (below_step (wS67 HB.out) hb); have NB601_602 := nL hg BK601; have NB602_601 := nG hg BK601; replace BK601 := bB BK601 hb; have NB0_602 := aM ((by rw [hg]; exact Nat.ne_of_lt (IsS67.lt (show IsS67 w0 _ g s0_0 s0_1 from iS67 HI0.out)) : g ≠ gb602)); have NB602_0 := aM ((by rw [hg]; exact Nat.ne_of_gt (IsS67.lt (show IsS67 w0 _ g s0_0 s0_1 from iS67 HI0.out)) : gb602 ≠ g)); replace HI0 := aM (IsS67.below (iS67 HI0.out) hb); clear hb hbox hg) | ((with_reducible refine gate_callee (f := 51) rfl ?_); refine gL (some 6) Try.func51 #[.pointer (some ⟨g, 0, none⟩), .int .i64 40] ?_; (with_reducible refine (spec_reader_pick.calls k g s0_0 s0_1 40 t603 t604 w0 _ ?side1 ?side2 A3.out).mono ?_); (case side1 => exact iS67 HI0.out); (case side2 => exact wS67 HB.out); rintro e w70 ⟨rfl, hi, hb, hk⟩; refine ⟨_, rfl, ?_⟩; replace HO1_3 := aM (Kd.R_mono (Kd.R_keep (IsS67.apart (show IsS67 w0 _ g s0_0 s0_1 from iS67 HI0.out) (qR HO1_3.out) (by decide)) hk (fun _ h => h.2)) (fun _ h => h.1)); replace BK601 := bK hk BK601 NB601_0; replace BK602 := bK hk BK602 NB602_0; replace HK := aM (Kept.of_keep (S := (fun k_ => (P1_3_ k_) ∨ k_ = g)) (kP HK.out) hk (.inl (.inr rfl))); replace HB := aM (hb); replace HI0 := aM (hi); clear hb hk hi; have hnb71 := NB601_602.out; have hnc71 := NB602_601.out; have hnb72 := NB601_0.out; have hnc72 := NB0_601.out; obtain ⟨⟨hcz73_0, hcz73_1, hcz73_2, hcz73_3⟩, hfz73_0, hfz73_1, hfz73_2, hfz73_3⟩ := cf4 BK601; have hnb74 := NB602_0.out; have hnc74 := NB0_602.out; obtain ⟨⟨hcz75_0, hcz75_1, hcz75_2, hcz75_3⟩, hfz75_0, hfz75_1, hfz75_2, hfz75_3⟩ := cf4 BK602))
   refine bodyPost_ret (results_cell_row rfl _ _ gb602 24 #[.int .i64 a1_0, .int .i64 a1_1, .int .i64 a1_2, .slice Ao67 l1_3.length co67] (0, 0) _ rfl (by exact bP BK602.out) Try.underlying24 rfl (by kernel_rfl)) rfl ?_
   exact ⟨_, qX, Kd.Q_of_R (by refine qR ?_; exact Kd.R_mono (rT HO1_3 BK602) (fun _ hk => hk.1)), iS67 HI0.out, wS67 HB.out, kP HK.out⟩
  rw [if_pos c52] at H
  have c52b0 : (t603 == 3) = true := beq_iff_eq.mpr c52
  have c52b1 : (t603 != 3) = false := bne_eq_false_iff_eq.mpr c52
  clear c52
  obtain ⟨y619, hy619⟩ : ∃ y_ : List Int, y_ = (([0, 5] : List Int)) := ⟨_, rfl⟩
  replace H : ((spec_reader_one.f k s0_0 t604 y619).bind fun bt622 => (some (a1_0, a1_1, bt622.1, l1_3, bt622.2))) = some (r1, r2, r3, r4, r5) := rY hy619 H
  have Ny619 := aM hy619
  clear hy619
  replace H := Option.bind_eq_some_iff.mp H
  obtain ⟨⟨t622, t623⟩, A530, H⟩ := H
  replace H : (some (a1_0, a1_1, t622, l1_3, t623)) = some (r1, r2, r3, r4, r5) := H
  have A53 := aM A530
  clear A530
  simp only [Option.some.injEq, Prod.mk.injEq] at H
  obtain ⟨rfl, rfl, rfl, rfl, rfl⟩ := H
  obtain ⟨Ao54, co54, rfl⟩ := sL HO1_3
  go_enter Try.func71, Try.ntmps71
  go_wp2_with (first | ((with_reducible refine gate_dst (N := 3) rfl ?_); refine bxE (N := 3) (cs := #[.int .i64 a1_0, .int .i64 a1_1, .int .i64 a1_2, .slice Ao54 l1_3.length co54]) (t := 24) ?_; intro gb601 hg w55 hbox hb; replace HO1_3 := aM (Kd.R_below (qR HO1_3.out) hb); have BK601 := aM (hbox); have GW601 := aM ((by rw [hg]; exact (by first | exact HK.out.1 | exact (show Kept w _ (fun k_ => (P1_3_ k_) ∨ k_ = g) from kP HK.out).1) : w.heap.size ≤ gb601)); replace HK := aM (Kept.below (S := (fun k_ => (P1_3_ k_) ∨ k_ = g)) (kP HK.out) hb); have GE601 := aM ((by rw [hg]; exact (below_size (wS67 HB.out)) : w0.heap.size ≤ gb601)); replace HB := aM (below_step (wS67 HB.out) hb); have NB0_601 := aM ((by rw [hg]; exact Nat.ne_of_lt (IsS67.lt (show IsS67 w0 _ g s0_0 s0_1 from iS67 HI0.out)) : g ≠ gb601)); have NB601_0 := aM ((by rw [hg]; exact Nat.ne_of_gt (IsS67.lt (show IsS67 w0 _ g s0_0 s0_1 from iS67 HI0.out)) : gb601 ≠ g)); replace HI0 := aM (IsS67.below (iS67 HI0.out) hb); clear hb hbox hg) | ((with_reducible refine gate_dst (N := 4) rfl ?_); refine bxE (N := 4) (cs := #[.int .i64 0, .int .i64 0, .int .i64 0, .slice none 0 0]) (t := 24) ?_; intro gb602 hg w56 hbox hb; replace HO1_3 := aM (Kd.R_below (qR HO1_3.out) hb); have BK602 := aM (hbox); have GW602 := aM ((by rw [hg]; exact (by first | exact HK.out.1 | exact (show Kept w _ (fun k_ => (P1_3_ k_) ∨ k_ = g) from kP HK.out).1) : w.heap.size ≤ gb602)); replace HK := aM (Kept.below (S := (fun k_ => (P1_3_ k_) ∨ k_ = g)) (kP HK.out) hb); have GE602 := aM ((by rw [hg]; exact (below_size (wS67 HB.out)) : w0.heap.size ≤ gb602)); replace HB := aM (below_step (wS67 HB.out) hb); have NB601_602 := nL hg BK601; have NB602_601 := nG hg BK601; replace BK601 := bB BK601 hb; have NB0_602 := aM ((by rw [hg]; exact Nat.ne_of_lt (IsS67.lt (show IsS67 w0 _ g s0_0 s0_1 from iS67 HI0.out)) : g ≠ gb602)); have NB602_0 := aM ((by rw [hg]; exact Nat.ne_of_gt (IsS67.lt (show IsS67 w0 _ g s0_0 s0_1 from iS67 HI0.out)) : gb602 ≠ g)); replace HI0 := aM (IsS67.below (iS67 HI0.out) hb); clear hb hbox hg) | ((with_reducible refine gate_callee (f := 51) rfl ?_); refine gL (some 6) Try.func51 #[.pointer (some ⟨g, 0, none⟩), .int .i64 40] ?_; (with_reducible refine (spec_reader_pick.calls k g s0_0 s0_1 40 t603 t604 w0 _ ?side1 ?side2 A3.out).mono ?_); (case side1 => exact iS67 HI0.out); (case side2 => exact wS67 HB.out); rintro e w57 ⟨rfl, hi, hb, hk⟩; refine ⟨_, rfl, ?_⟩; replace HO1_3 := aM (Kd.R_mono (Kd.R_keep (IsS67.apart (show IsS67 w0 _ g s0_0 s0_1 from iS67 HI0.out) (qR HO1_3.out) (by decide)) hk (fun _ h => h.2)) (fun _ h => h.1)); replace BK601 := bK hk BK601 NB601_0; replace BK602 := bK hk BK602 NB602_0; replace HK := aM (Kept.of_keep (S := (fun k_ => (P1_3_ k_) ∨ k_ = g)) (kP HK.out) hk (.inl (.inr rfl))); replace HB := aM (hb); replace HI0 := aM (hi); clear hb hk hi) | ((with_reducible refine gate_dst (N := 33) rfl ?_); refine iL ([0, 5] : List Int) [.int .i64 0, .int .i64 5] ?_; intro v620 w58 ho59 hb hg_ hnew_; clear hg_ hnew_; (first | rw [← Ny619.out] at ho59 | (simp only [Int.reduceToNat] at ho59; rw [← Ny619.out] at ho59)); have HO621 := aM (Kd.R_lower (Kd.R_new' (Kd.R_newM (M := fun k_ => (P1_3_ k_ ∨ w.heap.size ≤ k_)) ho59 (by first | exact HK.out.1 | exact (show Kept w _ (fun k_ => (P1_3_ k_) ∨ k_ = g) from kP HK.out).1) (fun k_ h_ => .inr h_)) (Kd.R_lt (qR HO1_3.out))) (below_size (wS67 HB.out))); replace HO1_3 := aM (Kd.R_elder' (qR HO1_3.out) (Kd.R_base ho59) hb); replace BK601 := bB BK601 hb; replace BK602 := bB BK602 hb; replace HK := aM (Kept.below (S := (fun k_ => (P1_3_ k_) ∨ k_ = g)) (kP HK.out) hb); replace HB := aM (below_step (wS67 HB.out) hb); replace HI0 := aM (IsS67.below (iS67 HI0.out) hb); clear hb ho59; obtain ⟨Ao60, co60, rfl⟩ := sL HO621) | ((with_reducible refine gate_callee (f := 58) rfl ?_); refine gL (some 34) Try.func58 #[.pointer (some ⟨g, 0, none⟩), .slice Ao60 y619.length co60] ?_; (with_reducible refine (spec_reader_one.calls k g s0_0 t604 _ _ y619 t622 t623 w0 _ ?side1 ?side2 ?side3 ?side4 ?side5 A53.out).mono ?_); (case side1 => exact iS67 HI0.out); (case side2 => exact wS67 HB.out); (case side3 => exact qC (Kd.R_reads' HO621.out).2.2); (case side4 => exact (Kd.R_reads' HO621.out).2.1); (case side5 => exact far_slice (IsS67.own_ne HI0.out HO621.out (by decide))); rintro e w61 ⟨rfl, hi, hb, hk⟩; refine ⟨_, rfl, ?_⟩; replace HO1_3 := aM (Kd.R_mono (Kd.R_keep (IsS67.apart (show IsS67 w0 _ g s0_0 t604 from iS67 HI0.out) (qR HO1_3.out) (by decide)) hk (fun _ h => h.2)) (fun _ h => h.1)); replace BK601 := bK hk BK601 NB601_0; replace BK602 := bK hk BK602 NB602_0; replace HO621 := aM (Kd.R_mono (Kd.R_keep (IsS67.apart (show IsS67 w0 _ g s0_0 t604 from iS67 HI0.out) (qR HO621.out) (by decide)) hk (fun _ h => h.2)) (fun _ h => h.1)); replace HK := aM (Kept.of_keep (S := (fun k_ => (P1_3_ k_) ∨ k_ = g)) (kP HK.out) hk (.inl (.inr rfl))); replace HB := aM (hb); replace HI0 := aM (hi); clear hb hk hi; have hnb62 := NB601_602.out; have hnc62 := NB602_601.out; have hnb63 := NB601_0.out; have hnc63 := NB0_601.out; obtain ⟨⟨hcz64_0, hcz64_1, hcz64_2, hcz64_3⟩, hfz64_0, hfz64_1, hfz64_2, hfz64_3⟩ := cf4 BK601; have hnb65 := NB602_0.out; have hnc65 := NB0_602.out; obtain ⟨⟨hcz66_0, hcz66_1, hcz66_2, hcz66_3⟩, hfz66_0, hfz66_1, hfz66_2, hfz66_3⟩ := cf4 BK602))
  refine bodyPost_ret (results_cell_row rfl _ _ gb602 24 #[.int .i64 a1_0, .int .i64 a1_1, .int .i64 t622, .slice Ao54 l1_3.length co54] (0, 0) _ rfl (by refine qB ?_; refine blk_put (cs := #[.int .i64 a1_0, .int .i64 a1_1, .int .i64 t622, .slice none 0 0]) ?_ 3 _ rfl; refine qB ?_; refine blk_put (cs := #[.int .i64 a1_0, .int .i64 a1_1, .int .i64 0, .slice none 0 0]) ?_ 2 _ rfl; refine qB ?_; refine blk_put (cs := #[.int .i64 a1_0, .int .i64 0, .int .i64 0, .slice none 0 0]) ?_ 1 _ rfl; refine qB ?_; refine blk_put (cs := #[.int .i64 0, .int .i64 0, .int .i64 0, .slice none 0 0]) ?_ 0 _ rfl; refine qB ?_; refine blk_far ?_ NB602_601.out _; refine qB ?_; exact BK602.out) Try.underlying24 rfl (by kernel_rfl)) rfl ?_
  exact ⟨_, qX, Kd.Q_of_R (by refine qR ?_; exact Kd.R_mono (Kd.R_far (p := ⟨gb602, 3, none⟩) (Kd.R_far (p := ⟨gb602, 2, none⟩) (Kd.R_far (p := ⟨gb602, 1, none⟩) (Kd.R_far (p := ⟨gb602, 0, none⟩) (Kd.R_far (p := ⟨gb601, 2, none⟩) (Kd.R_types (Kd.R_types HO1_3.out BK601.out (by decide)) BK602.out (by decide)) (fun _ hk => hk.1.2) (.int .i64 t622)) (fun _ hk => hk.2) (.int .i64 a1_0)) (fun _ hk => hk.2) (.int .i64 a1_1)) (fun _ hk => hk.2) (.int .i64 t622)) (fun _ hk => hk.2) (.slice Ao54 l1_3.length co54)) (fun _ hk => hk.1.1.1)), iS67 HI0.out, wS67 HB.out, kP HK.out⟩
 rw [if_pos c32] at H
 have c32b0 : (t603 == 2) = true := beq_iff_eq.mpr c32
 have c32b1 : (t603 != 2) = false := bne_eq_false_iff_eq.mpr c32
 clear c32
 obtain ⟨y613, hy613⟩ : ∃ y_ : List Int, y_ = (([(-1), 256] : List Int)) := ⟨_, rfl⟩
 replace H : ((spec_reader_one.f k s0_0 t604 y613).bind fun bt616 => (if 0 < (l1_3.length : Int) then (some (a1_0, a1_1, a1_2, (l1_3.set (0 : Int).toNat bt616.1), bt616.2)) else (none))) = some (r1, r2, r3, r4, r5) := rY hy613 H
 have Ny613 := aM hy613
 clear hy613
 replace H := Option.bind_eq_some_iff.mp H
 obtain ⟨⟨t616, t617⟩, A330, H⟩ := H
 replace H : (if 0 < (l1_3.length : Int) then (some (a1_0, a1_1, a1_2, (l1_3.set (0 : Int).toNat t616), t617)) else (none)) = some (r1, r2, r3, r4, r5) := H
 have A33 := aM A330
 clear A330
 replace H := iS H
 obtain ⟨c34, H⟩ := H
 have c34b0 : decide (0 < (l1_3.length : Int)) = true := decide_eq_true c34
 have c34b1 : decide (0 < l1_3.length) = true := decide_eq_true (by omega)
 clear c34
 obtain ⟨y618, hy618⟩ : ∃ y_ : List Int, y_ = (l1_3.set (0 : Int).toNat t616) := ⟨_, rfl⟩
 replace H : (some (a1_0, a1_1, a1_2, y618, t617)) = some (r1, r2, r3, r4, r5) := rY hy618 H
 have Ny618 := aM hy618
 clear hy618
 simp only [Option.some.injEq, Prod.mk.injEq] at H
 obtain ⟨rfl, rfl, rfl, rfl, rfl⟩ := H
 obtain ⟨Ao36, co36, rfl⟩ := sL HO1_3
 go_enter Try.func71, Try.ntmps71
 try go_wp2_with (first | ((with_reducible refine gate_dst (N := 3) rfl ?_); refine bxE (N := 3) (cs := #[.int .i64 a1_0, .int .i64 a1_1, .int .i64 a1_2, .slice Ao36 l1_3.length co36]) (t := 24) ?_; intro gb601 hg w37 hbox hb; replace HO1_3 := aM (Kd.R_below (qR HO1_3.out) hb); have BK601 := aM (hbox); have GW601 := aM ((by rw [hg]; exact (by first | exact HK.out.1 | exact (show Kept w _ (fun k_ => (P1_3_ k_) ∨ k_ = g) from kP HK.out).1) : w.heap.size ≤ gb601)); replace HK := aM (Kept.below (S := (fun k_ => (P1_3_ k_) ∨ k_ = g)) (kP HK.out) hb); have GE601 := aM ((by rw [hg]; exact (below_size (wS67 HB.out)) : w0.heap.size ≤ gb601)); replace HB := aM (below_step (wS67 HB.out) hb); have NB0_601 := aM ((by rw [hg]; exact Nat.ne_of_lt (IsS67.lt (show IsS67 w0 _ g s0_0 s0_1 from iS67 HI0.out)) : g ≠ gb601)); have NB601_0 := aM ((by rw [hg]; exact Nat.ne_of_gt (IsS67.lt (show IsS67 w0 _ g s0_0 s0_1 from iS67 HI0.out)) : gb601 ≠ g)); replace HI0 := aM (IsS67.below (iS67 HI0.out) hb); clear hb hbox hg) | ((with_reducible refine gate_dst (N := 4) rfl ?_); refine bxE (N := 4) (cs := #[.int .i64 0, .int .i64 0, .int .i64 0, .slice none 0 0]) (t := 24) ?_; intro gb602 hg w38 hbox hb; replace HO1_3 := aM (Kd.R_below (qR HO1_3.out) hb); have BK602 := aM (hbox); have GW602 := aM ((by rw [hg]; exact (by first | exact HK.out.1 | exact (show Kept w _ (fun k_ => (P1_3_ k_) ∨ k_ = g) from kP HK.out).1) : w.heap.size ≤ gb602)); replace HK := aM (Kept.below (S := (fun k_ => (P1_3_ k_) ∨ k_ = g)) (kP HK.out) hb); have GE602 := aM ((by rw [hg]; exact (below_size (wS67 HB.out)) : w0.heap.size ≤ gb602)); replace HB := aM (below_step (wS67 HB.out) hb); have NB601_602 := nL hg BK601; have NB602_601 := nG hg BK601; replace BK601 := bB BK601 hb; have NB0_602 := aM ((by rw [hg]; exact Nat.ne_of_lt (IsS67.lt (show IsS67 w0 _ g s0_0 s0_1 from iS67 HI0.out)) : g ≠ gb602)); have NB602_0 := aM ((by rw [hg]; exact Nat.ne_of_gt (IsS67.lt (show IsS67 w0 _ g s0_0 s0_1 from iS67 HI0.out)) : gb602 ≠ g)); replace HI0 := aM (IsS67.below (iS67 HI0.out) hb); clear hb hbox hg) | ((with_reducible refine gate_callee (f := 51) rfl ?_); refine gL (some 6) Try.func51 #[.pointer (some ⟨g, 0, none⟩), .int .i64 40] ?_; (with_reducible refine (spec_reader_pick.calls k g s0_0 s0_1 40 t603 t604 w0 _ ?side1 ?side2 A3.out).mono ?_); (case side1 => exact iS67 HI0.out); (case side2 => exact wS67 HB.out); rintro e w39 ⟨rfl, hi, hb, hk⟩; refine ⟨_, rfl, ?_⟩; replace HO1_3 := aM (Kd.R_mono (Kd.R_keep (IsS67.apart (show IsS67 w0 _ g s0_0 s0_1 from iS67 HI0.out) (qR HO1_3.out) (by decide)) hk (fun _ h => h.2)) (fun _ h => h.1)); replace BK601 := bK hk BK601 NB601_0; replace BK602 := bK hk BK602 NB602_0; replace HK := aM (Kept.of_keep (S := (fun k_ => (P1_3_ k_) ∨ k_ = g)) (kP HK.out) hk (.inl (.inr rfl))); replace HB := aM (hb); replace HI0 := aM (hi); clear hb hk hi))
 replace HO1_3 := aM (Kd.R_drew HO1_3.out)
 replace BK601 := aM (blk_drew BK601.out)
 replace BK602 := aM (blk_drew BK602.out)
 replace HI0 := aM (IsS67.drew HI0.out)
 replace HK := aM (Kept.drew HK.out)
 replace HB := aM (below_drew1 HB.out)
 refine start_ (n := 7) (S := fun w' => w'.cell? ⟨gb601, 0, none⟩ = some (.int .i64 a1_0) ∧ w'.cell? ⟨gb601, 1, none⟩ = some (.int .i64 a1_1) ∧ w'.cell? ⟨gb601, 2, none⟩ = some (.int .i64 a1_2) ∧ w'.cell? ⟨gb601, 3, none⟩ = some (.slice Ao36 l1_3.length co36)) (ds := [6]) (bA 7 0) (by kernel_rfl) rfl rfl ⟨(blk_cell BK601.out 0).trans rfl, (blk_cell BK601.out 1).trans rfl, (blk_cell BK601.out 2).trans rfl, (blk_cell BK601.out 3).trans rfl⟩ (fun hHeld => ?_)
 generalize w39.drew = w40 at HO1_3 BK601 BK602 HI0 HK HB hHeld ⊢
 refine pure_ (i := 0) (N := some 24) (v := ?_) (a' := ?_) (bA 7 1) rfl rfl (by kernel_rfl) (fun _ _ _ h => h) (Or.inl ⟨by rfl, ?_⟩) ?_ ?_
 rotate_left
 ·intro w'
  go_simp
  with_reducible rfl
 rotate_left
 ·refine pZ ?_
  rfl
 refine pure_ (i := 2) (N := some 26) (v := ?_) (a' := ?_) (bA 7 5) rfl rfl (by kernel_rfl) (fun _ _ _ h => h) (Or.inl ⟨by rfl, ?_⟩) ?_ ?_
 rotate_left
 ·intro w'
  go_simp
  with_reducible rfl
 rotate_left
 ·refine pZ ?_
  rfl
 refine take_ (i := 1) (N := some 25) (v := ?_) (a' := ?_) (bA 7 7) rfl rfl (by kernel_rfl) (fun _ _ _ h => h) (Or.inl ⟨by rfl, ?_⟩) hHeld ?_ ?_
 rotate_left
 ·rintro w' ⟨s0, s1, s2, s3⟩
  go_simp
  with_reducible rfl
 rotate_left
 ·refine pZ ?_
  rfl
 refine one_ (i := 3) (N := some 27) (bA 7 15) rfl rfl (by kernel_rfl) (by decide) (fun K hK => ?_)
 refine Kd.R_lit_step (Kd.int .i64) _ 3 ?hg (N := 27) ?hd (xs := ([(-1), 256] : List Int)) (inner := [.int .i64 (-1), .int .i64 256]) (ok := fun _ => True) (okp := fun _ => True) ?hr ?hp (fun _ hk => hk) trivial (Below.refl _ _) (Nat.le_refl _) (by simp) ?_; (case hd => rfl); (case hg => rfl); (case hr => first | (go_simp; done) | (go_simp; rfl)); (case hp => exact (Reps.one (show Kd.M (Kd.int .i64) _ _ _ (-1) [.int .i64 (-1)] from rfl) (Reps.one (show Kd.M (Kd.int .i64) _ _ _ 256 [.int .i64 256] from rfl) (Reps.none _ _))))
 intro v614 w41 ho42 hb hg_ hnew_
 clear hg_ hnew_
 (first | rw [← Ny613.out] at ho42 | (simp only [Int.reduceToNat] at ho42; rw [← Ny613.out] at ho42))
 have HO615 := aM (Kd.R_lower (Kd.R_new' (Kd.R_newM (M := fun k_ => (P1_3_ k_ ∨ w.heap.size ≤ k_)) ho42 (by first | exact HK.out.1 | exact (show Kept w _ (fun k_ => (P1_3_ k_) ∨ k_ = g) from kP HK.out).1) (fun k_ h_ => .inr h_)) (Kd.R_lt (qR HO1_3.out))) (below_size (wS67 HB.out)))
 replace HO1_3 := aM (Kd.R_elder' (qR HO1_3.out) (Kd.R_base ho42) hb)
 replace BK601 := bB BK601 hb
 replace BK602 := bB BK602 hb
 replace HK := aM (Kept.below (S := (fun k_ => (P1_3_ k_) ∨ k_ = g)) (kP HK.out) hb)
 replace HB := aM (below_step (wS67 HB.out) hb)
 replace HI0 := aM (IsS67.below (iS67 HI0.out) hb)
 clear hb ho42
 obtain ⟨Ao43, co43, eo43⟩ := Kd.R_slice HO615.out
 (first | subst eo43 | (injection eo43 with f1_ f2_ f3_; have f4_ := f1_.symm; have f5_ := f3_.symm; clear f1_ f2_ f3_; subst f4_; subst f5_))
 refine hK.out _ _ ⟨(blk_cell BK601.out 0).trans rfl, (blk_cell BK601.out 1).trans rfl, (blk_cell BK601.out 2).trans rfl, (blk_cell BK601.out 3).trans rfl⟩ (fun hHeld => ?_)
 clear hK K
 refine norm_ (a' := ?_) ?_ ?_
 rotate_left
 ·show Act.put _ (some 27) _ = _
  refine pZ ?_
  rfl
 refine one_ (i := 4) (N := some 28) (bA 7 31) rfl rfl (by kernel_rfl) (by decide) (fun K hK => ?_)
 refine goes_ Try.func58 (by kernel_rfl) rfl #[.pointer (some ⟨g, 0, none⟩), .slice Ao43 y613.length co43] (by rfl) rfl rfl qM ?_
 with_reducible refine (spec_reader_one.calls k g s0_0 t604 _ _ y613 t616 t617 w0 _ ?side1 ?side2 ?side3 ?side4 ?side5 A33.out).mono ?_
 (case side1 => exact iS67 HI0.out)
 (case side2 => exact wS67 HB.out)
 (case side3 => exact qC (Kd.R_reads' HO615.out).2.2)
 (case side4 => exact (Kd.R_reads' HO615.out).2.1)
 (case side5 => exact far_slice (IsS67.own_ne HI0.out HO615.out (by decide)))
 rintro e w44 ⟨rfl, hi, hb, hk⟩
 refine ⟨_, rfl, ?_⟩
 replace HO1_3 := aM (Kd.R_mono (Kd.R_keep (IsS67.apart (show IsS67 w0 _ g s0_0 t604 from iS67 HI0.out) (qR HO1_3.out) (by decide)) hk (fun _ h => h.2)) (fun _ h => h.1))
 replace BK601 := bK hk BK601 NB601_0
 replace BK602 := bK hk BK602 NB602_0
 replace HO615 := aM (Kd.R_mono (Kd.R_keep (IsS67.apart (show IsS67 w0 _ g s0_0 t604 from iS67 HI0.out) (qR HO615.out) (by decide)) hk (fun _ h => h.2)) (fun _ h => h.1))
 replace HK := aM (Kept.of_keep (S := (fun k_ => (P1_3_ k_) ∨ k_ = g)) (kP HK.out) hk (.inl (.inr rfl)))
 replace HB := aM (hb)
 replace HI0 := aM (hi)
 (try clear hb)
 (try clear hb2)
 (try clear hk)
 (try clear hi)
 have p35 : 0 ≤ (0 : Int) := (by omega)
 have q35 : (0 : Int) < ((l1_3.length : Int) : Int) := oD
 have qi35 : (0 < l1_3.length) = True := eq_true (by omega)
 obtain ⟨go35, co35, eo35, gb35, gl35, cl35, HG35⟩ := Kd.R_form HO1_3.out (by omega)
 (first | cases eo35 | (injection eo35 with ea_ en_ ec_; (first | subst ea_ | (injection ea_ with ea_; subst ea_)); subst ec_; clear en_))
 have GB35 := aM gb35
 have GG35 := aM HG35
 clear gb35 gl35 HG35
 have HMgo35 := aM (show (P1_3_ go35 ∨ w.heap.size ≤ go35) from (HO1_3.out.1 _ rfl).1)
 obtain ⟨hx35_0, hf35_0⟩ := Kd.R_celln 0 HO1_3.out (0 : Int) p35 q35
 (try rw [show ((0 : Int)).toNat = 0 from rfl] at hx35_0)
 (try simp only [Nat.reduceMul, Nat.zero_mul, Nat.zero_add, Nat.reduceAdd] at hx35_0)
 (try rw [show ((0 : Int)).toNat = 0 from rfl] at hf35_0)
 (try simp only [Nat.reduceMul, Nat.zero_mul, Nat.zero_add, Nat.reduceAdd] at hf35_0)
 replace p35 := eq_true p35
 replace q35 := eq_true q35
 have HN0_go35 := aM (show g ≠ go35 from by have h_ := IsS67.own_ne HI0.out HO1_3.out (by decide); intro e_; exact h_ (by rw [e_]; rfl))
 have HP45 := Kd.R_putn HO1_3.out (0 : Int) t616
 rw [← Ny618.out] at HP45
 have HQ45 := aM HP45
 clear HP45
 refine hK.out _ _ ⟨(blk_cell BK601.out 0).trans rfl, (blk_cell BK601.out 1).trans rfl, (blk_cell BK601.out 2).trans rfl, (blk_cell BK601.out 3).trans rfl⟩ (fun hHeld => ?_)
 clear hK K
 refine norm_ (a' := ?_) ?_ ?_
 rotate_left
 ·show Act.put _ (some 28) _ = _
  refine pZ ?_
  rfl
 refine pure_ (i := 5) (N := some 29) (v := ?_) (a' := ?_) (bA 7 63) rfl rfl (by kernel_rfl) (fun _ _ _ h => h) (Or.inl ⟨by rfl, ?_⟩) ?_ ?_
 rotate_left
 ·intro w'
  go_simp
  with_reducible rfl
 rotate_left
 ·refine pZ ?_
  rfl
 refine last_ (i := 6) (N := none) (bA 7 127) rfl rfl (by kernel_rfl) (by decide) (fun K hK => ?_)
 refine skip_ (w1 := ?_) (by rfl) rfl ?_ ?_
 rotate_left
 ·go_simp
  rfl
 refine hK.out _ _ ?_
 clear hK K
 refine done_ (by kernel_rfl) ?_
 have n0_ : Aside0 (Kd.R (Kd.int .i64) 3 (w44.setCell ⟨go35, 0, none⟩ (.int .i64 t616)) w0.heap.size (fun k_ => (P1_3_ k_ ∨ w.heap.size ≤ k_) ∧ some k_ ≠ (.slice Ao43 y613.length co43 : Value).ownBlock) (.slice (some ⟨go35, 0, none⟩) l1_3.length co36) y618) := ⟨by refine qR ?_; exact HQ45.out⟩
 have n1_ : Aside0 (Kd.R (Kd.int .i64) 3 (w44.setCell ⟨go35, 0, none⟩ (.int .i64 t616)) w0.heap.size (fun k_ => (P1_3_ k_ ∨ w.heap.size ≤ k_) ∧ some k_ ≠ (.slice (some ⟨go35, 0, none⟩) l1_3.length co36 : Value).ownBlock) (.slice Ao43 y613.length co43) y613) := ⟨by refine qR ?_; exact Kd.R_mono (Kd.R_far (p := ⟨go35, 0, none⟩) (Kd.R_mono HO615.out (fun k_ hk => (⟨hk, fun e_ => hk.2 (by rw [e_]; rfl)⟩ : _ ∧ k_ ≠ go35))) (fun _ hk => hk.2) (.int .i64 t616)) (fun _ hk => by first | exact ⟨hk.1.1.1, hk.1.2⟩ | (revert hk; simp only [and_imp]; intros; and_intros <;> assumption))⟩
 have n2_ : Aside0 ((w44.setCell ⟨go35, 0, none⟩ (.int .i64 t616)).heap[gb601]? = some (.cells #[.int .i64 a1_0, .int .i64 a1_1, .int .i64 a1_2, .slice (some ⟨go35, 0, none⟩) l1_3.length co36] 24 (0, 0))) := ⟨by refine qB ?_; refine blk_far ?_ (by have h_ := Kd.R_ne HO1_3.out BK601.out (by decide); intro e_; exact h_ (by rw [e_]; rfl)) _; refine qB ?_; exact BK601.out⟩
 have n3_ : Aside0 ((w44.setCell ⟨go35, 0, none⟩ (.int .i64 t616)).heap[gb602]? = some (.cells #[.int .i64 0, .int .i64 0, .int .i64 0, .slice none 0 0] 24 (0, 0))) := ⟨by refine qB ?_; refine blk_far ?_ (by have h_ := Kd.R_ne HO1_3.out BK602.out (by decide); intro e_; exact h_ (by rw [e_]; rfl)) _; refine qB ?_; exact BK602.out⟩
 have n4_ : Aside0 (IsS67 w0 (w44.setCell ⟨go35, 0, none⟩ (.int .i64 t616)) g s0_0 t617) := ⟨by repeat (first | (with_reducible first | exact HI0.out | apply IsS67.alloc | apply IsS67.drewN | apply IsS67.drew | apply IsS67.set_1 | refine IsS67.far ?_ HN0_go35.out _ | refine IsS67.far ?_ NB0_601.out _ | refine IsS67.far ?_ NB0_602.out _) | exact HI0.out)⟩
 have n5_ : Aside0 (Kept w (w44.setCell ⟨go35, 0, none⟩ (.int .i64 t616)) (fun k_ => (P1_3_ k_) ∨ k_ = g)) := ⟨by repeat (first | (with_reducible first | exact HK.out | apply Kept.alloc | apply Kept.drewN | apply Kept.drew | refine Kept.setCell ?_ (Or.imp_left Or.inl HMgo35.out) _ | refine Kept.setCell ?_ (.inl (.inr rfl)) _ | refine Kept.setCell ?_ (.inr GW601.out) _ | refine Kept.setCell ?_ (.inr GW602.out) _) | exact HK.out)⟩
 have n6_ : Aside0 (Below w0.heap.size w0 (w44.setCell ⟨go35, 0, none⟩ (.int .i64 t616))) := ⟨wS67 HB.out⟩
 (try clear HO1_3)
 (try clear HO615)
 (try clear BK601)
 (try clear BK602)
 (try clear HI0)
 (try clear HK)
 (try clear HB)
 generalize (w44.setCell ⟨go35, 0, none⟩ (.int .i64 t616)) = w46 at n0_ n1_ n2_ n3_ n4_ n5_ n6_ ⊢
 have HO1_3 := n0_
 have HO615 := n1_
 have BK601 := n2_
 have BK602 := n3_
 have HI0 := n4_
 have HK := n5_
 have HB := n6_
 clear n0_ n1_ n2_ n3_ n4_ n5_ n6_
 have hnb47 := NB601_602.out
 have hnc47 := NB602_601.out
 have hnb48 := NB601_0.out
 have hnc48 := NB0_601.out
 obtain ⟨⟨hcz49_0, hcz49_1, hcz49_2, hcz49_3⟩, hfz49_0, hfz49_1, hfz49_2, hfz49_3⟩ := cf4 BK601
 have hnb50 := NB602_0.out
 have hnc50 := NB0_602.out
 obtain ⟨⟨hcz51_0, hcz51_1, hcz51_2, hcz51_3⟩, hfz51_0, hfz51_1, hfz51_2, hfz51_3⟩ := cf4 BK602
 try go_wp2
 refine bodyPost_ret (results_cell_row rfl _ _ gb602 24 #[.int .i64 a1_0, .int .i64 a1_1, .int .i64 a1_2, .slice (some ⟨go35, 0, none⟩) l1_3.length co36] (0, 0) _ rfl (by exact bP BK602.out) Try.underlying24 rfl (by kernel_rfl)) rfl ?_
 exact ⟨_, qX, Kd.Q_of_R (by refine qR ?_; exact Kd.R_mono (rT HO1_3 BK602) (fun _ hk => hk.1.1)), iS67 HI0.out, wS67 HB.out, kP HK.out⟩
def spec_randomImage.l0 : Nat → Int → Int → Int → List Int → Int → Int → Int → Int → List Int → Option (Int × Int × Int × List Int × Int)
 | 0, _, _, _, _, _, _, _, _, _ => none
 | k + 1, x6, x7, x8, x1000, x1001, x642000, x642001, x642002, x642003 => if x8 < (x642003.length : Int) then (if x6 = 0 then ((spec_reader_pick.f k x1000 x1001 256).bind fun bt646 => (if 0 ≤ x8 then (spec_randomImage.l0 k x6 bt646.1 (wrap64 (x8 + 1)) x1000 bt646.2 x642000 x642001 x642002 (x642003.set (x8 : Int).toNat bt646.1)) else (none))) else (if x6 = 1 then ((spec_reader_pick.f k x1000 x1001 5).bind fun bt649 => (if 0 ≤ x8 then (spec_randomImage.l0 k x6 (Int.tmod (wrap64 ((wrap64 (x7 + bt649.1)) + 254)) 256) (wrap64 (x8 + 1)) x1000 bt649.2 x642000 x642001 x642002 (x642003.set (x8 : Int).toNat (Int.tmod (wrap64 ((wrap64 (x7 + bt649.1)) + 254)) 256))) else (none))) else (if x6 = 2 then ((spec_reader_pick.f k x1000 x1001 4).bind fun bt652 => (if 0 ≤ x8 then (spec_randomImage.l0 k x6 (wrap64 (60 * bt652.1)) (wrap64 (x8 + 1)) x1000 bt652.2 x642000 x642001 x642002 (x642003.set (x8 : Int).toNat (wrap64 (60 * bt652.1)))) else (none))) else (if 0 ≤ x8 then (spec_randomImage.l0 k x6 x7 (wrap64 (x8 + 1)) x1000 x1001 x642000 x642001 x642002 (x642003.set (x8 : Int).toNat x7)) else (none))))) else (some (x642000, x642001, x642002, x642003, x1001))
def spec_randomImage.f (k : Nat) (s0_0 : List Int) (s0_1 : Int) (a1 : Int) : Option (Int × Int × Int × List Int × Int) := (spec_reader_one.f k s0_0 s0_1 (([3, 4, 2, 5, 1, 8, 6] : List Int))).bind fun bt628 => ((spec_reader_one.f k s0_0 bt628.2 (([3, 2, 4, 1, 5, 8] : List Int))).bind fun bt633 => ((spec_newImage.f bt628.1 bt633.1 a1).bind fun bt635 => ((spec_reader_pick.f k s0_0 bt633.2 4).bind fun bt642 => ((spec_reader_pick.f k s0_0 bt642.2 256).bind fun bt644 => (spec_randomImage.l0 k bt642.1 bt644.1 0 s0_0 bt644.2 bt635.1 bt635.2.1 bt635.2.2.1 bt635.2.2.2)))))
theorem spec_randomImage.mono_l : ∀ k, (∀ y0 y1 y2 y3 y4 y5 y6 y7 y8, LeO (spec_randomImage.l0 k y0 y1 y2 y3 y4 y5 y6 y7 y8) (spec_randomImage.l0 (k + 1) y0 y1 y2 y3 y4 y5 y6 y7 y8))
 | 0 => fun _ _ _ _ _ _ _ _ _ r h => by simp [spec_randomImage.l0] at h
 | k + 1 => by
  have ih0 := spec_randomImage.mono_l k
  ·intro y0 y1 y2 y3 y4 y5 y6 y7 y8
   unfold spec_randomImage.l0
   repeat' first | (with_reducible first | exact ih0 _ _ _ _ _ _ _ _ _ | exact spec_reader_one.mono _ _ _ _ | exact spec_reader_pick.mono _ _ _ _ | exact lR | exact lN | refine lI ?_ ?_ | refine lB ?_ fun _ => ?_) | exact ih0 _ _ _ _ _ _ _ _ _ | exact spec_reader_one.mono _ _ _ _ | exact spec_reader_pick.mono _ _ _ _ | exact lN | refine lI ?_ ?_ | refine lB ?_ fun _ => ?_
theorem spec_randomImage.mono : ∀ a0 a1 a2 k, LeO (spec_randomImage.f k a0 a1 a2) (spec_randomImage.f (k + 1) a0 a1 a2) := by
 intro a0 a1 a2 k
 have ih0 := spec_randomImage.mono_l k
 unfold spec_randomImage.f
 repeat' first | (with_reducible first | exact ih0 _ _ _ _ _ _ _ _ _ | exact spec_reader_one.mono _ _ _ _ | exact spec_reader_pick.mono _ _ _ _ | exact lR | exact lN | refine lI ?_ ?_ | refine lB ?_ fun _ => ?_) | exact ih0 _ _ _ _ _ _ _ _ _ | exact spec_reader_one.mono _ _ _ _ | exact spec_reader_pick.mono _ _ _ _ | exact lN | refine lI ?_ ?_ | refine lB ?_ fun _ => ?_
set_option maxHeartbeats 8000000 in
set_option maxRecDepth 100000 in
theorem spec_randomImage.calls (k : Nat) (g : Nat) (s0_0 : List Int) (s0_1 : Int) (a1 : Int) (r1 : Int) (r2 : Int) (r3 : Int) (r4 : List Int) (r5 : Int) (w0 w : World) (hI : IsS67 w0 w g s0_0 s0_1) (hB : Below w0.heap.size w0 w) (h : spec_randomImage.f k s0_0 s0_1 a1 = some (r1, r2, r3, r4, r5)) :
  Calls Try.prog 72 #[.pointer (some ⟨g, 0, none⟩), .int .i64 a1] w fun e w' => ∃ v3_ : Value, e = .returned (.agg #[.int .i64 r1, .int .i64 r2, .int .i64 r3, v3_]) ∧ Kd.R (Kd.int .i64) 3 w' w.heap.size (fun _ => True) v3_ r4 ∧ IsS67 w0 w' g s0_0 r5 ∧ Below w0.heap.size w0 w' ∧ KeepBut w w' g none := by
 have hu24 := Try.underlying24
 have HI0 := aM hI
 have HK := aM (KeepBut.refl w g none)
 have HL := aM hB.size
 clear hI
 have HW0 := aM hB.size
 have HB := aM hB
 clear hB
 unfold spec_randomImage.f at h
 have H := h
 clear h
 obtain ⟨y625, hy625⟩ : ∃ y_ : List Int, y_ = (([3, 4, 2, 5, 1, 8, 6] : List Int)) := ⟨_, rfl⟩
 replace H : ((spec_reader_one.f k s0_0 s0_1 y625).bind fun bt628 => ((spec_reader_one.f k s0_0 bt628.2 (([3, 2, 4, 1, 5, 8] : List Int))).bind fun bt633 => ((spec_newImage.f bt628.1 bt633.1 a1).bind fun bt635 => ((spec_reader_pick.f k s0_0 bt633.2 4).bind fun bt642 => ((spec_reader_pick.f k s0_0 bt642.2 256).bind fun bt644 => (spec_randomImage.l0 k bt642.1 bt644.1 0 s0_0 bt644.2 bt635.1 bt635.2.1 bt635.2.2.1 bt635.2.2.2)))))) = some (r1, r2, r3, r4, r5) := rY hy625 H
 have Ny625 := aM hy625
 clear hy625
 replace H := Option.bind_eq_some_iff.mp H
 obtain ⟨⟨t628, t629⟩, A30, H⟩ := H
 replace H : ((spec_reader_one.f k s0_0 t629 (([3, 2, 4, 1, 5, 8] : List Int))).bind fun bt633 => ((spec_newImage.f t628 bt633.1 a1).bind fun bt635 => ((spec_reader_pick.f k s0_0 bt633.2 4).bind fun bt642 => ((spec_reader_pick.f k s0_0 bt642.2 256).bind fun bt644 => (spec_randomImage.l0 k bt642.1 bt644.1 0 s0_0 bt644.2 bt635.1 bt635.2.1 bt635.2.2.1 bt635.2.2.2))))) = some (r1, r2, r3, r4, r5) := H
 have A3 := aM A30
 clear A30
 obtain ⟨y630, hy630⟩ : ∃ y_ : List Int, y_ = (([3, 2, 4, 1, 5, 8] : List Int)) := ⟨_, rfl⟩
 replace H : ((spec_reader_one.f k s0_0 t629 y630).bind fun bt633 => ((spec_newImage.f t628 bt633.1 a1).bind fun bt635 => ((spec_reader_pick.f k s0_0 bt633.2 4).bind fun bt642 => ((spec_reader_pick.f k s0_0 bt642.2 256).bind fun bt644 => (spec_randomImage.l0 k bt642.1 bt644.1 0 s0_0 bt644.2 bt635.1 bt635.2.1 bt635.2.2.1 bt635.2.2.2))))) = some (r1, r2, r3, r4, r5) := rY hy630 H
 have Ny630 := aM hy630
 clear hy630
 replace H := Option.bind_eq_some_iff.mp H
 obtain ⟨⟨t633, t634⟩, A40, H⟩ := H
 replace H : ((spec_newImage.f t628 t633 a1).bind fun bt635 => ((spec_reader_pick.f k s0_0 t634 4).bind fun bt642 => ((spec_reader_pick.f k s0_0 bt642.2 256).bind fun bt644 => (spec_randomImage.l0 k bt642.1 bt644.1 0 s0_0 bt644.2 bt635.1 bt635.2.1 bt635.2.2.1 bt635.2.2.2)))) = some (r1, r2, r3, r4, r5) := H
 have A4 := aM A40
 clear A40
 replace H := Option.bind_eq_some_iff.mp H
 obtain ⟨⟨t635, t636, t637, t638⟩, A50, H⟩ := H
 replace H : ((spec_reader_pick.f k s0_0 t634 4).bind fun bt642 => ((spec_reader_pick.f k s0_0 bt642.2 256).bind fun bt644 => (spec_randomImage.l0 k bt642.1 bt644.1 0 s0_0 bt644.2 t635 t636 t637 t638))) = some (r1, r2, r3, r4, r5) := H
 have A5 := aM A50
 clear A50
 replace H := Option.bind_eq_some_iff.mp H
 obtain ⟨⟨t642, t643⟩, A60, H⟩ := H
 replace H : ((spec_reader_pick.f k s0_0 t643 256).bind fun bt644 => (spec_randomImage.l0 k t642 bt644.1 0 s0_0 bt644.2 t635 t636 t637 t638)) = some (r1, r2, r3, r4, r5) := H
 have A6 := aM A60
 clear A60
 replace H := Option.bind_eq_some_iff.mp H
 obtain ⟨⟨t644, t645⟩, A70, H⟩ := H
 replace H : (spec_randomImage.l0 k t642 t644 0 s0_0 t645 t635 t636 t637 t638) = some (r1, r2, r3, r4, r5) := H
 have A7 := aM A70
 clear A70
 have H' := aM H
 clear H
 go_enter Try.func72, Try.ntmps72
 go_wp2_with (first | ((with_reducible refine gate_dst (N := 4) rfl ?_); refine bxE (N := 4) (cs := #[.int .i64 0, .int .i64 0, .int .i64 0, .slice none 0 0]) (t := 24) ?_; intro gb624 hg w8 hbox hb; replace HB := aM (below_step (wS67 HB.out) hb); have BK624 := aM (hbox); have GW624 := aM ((by rw [hg]; exact (keep_size (w := w) (g := g) (row := none) (kB HK.out)) : w.heap.size ≤ gb624)); have GE624 := aM ((Nat.le_trans HW0.out (by rw [hg]; exact (keep_size (w := w) (g := g) (row := none) (kB HK.out)) : w.heap.size ≤ gb624) : w0.heap.size ≤ gb624)); replace HK := aM (KeepBut.trans (kB HK.out) (KeepBut.of_below hb g none) (.inl rfl)); have NB0_624 := aM ((by rw [hg]; exact Nat.ne_of_lt (IsS67.lt (show IsS67 w0 _ g s0_0 s0_1 from iS67 HI0.out)) : g ≠ gb624)); have NB624_0 := aM ((by rw [hg]; exact Nat.ne_of_gt (IsS67.lt (show IsS67 w0 _ g s0_0 s0_1 from iS67 HI0.out)) : gb624 ≠ g)); replace HI0 := aM (IsS67.below (iS67 HI0.out) hb); clear hb hbox hg) | ((with_reducible refine gate_dst (N := 10) rfl ?_); refine iL ([3, 4, 2, 5, 1, 8, 6] : List Int) [.int .i64 3, .int .i64 4, .int .i64 2, .int .i64 5, .int .i64 1, .int .i64 8, .int .i64 6] ?_; intro v626 w9 ho10 hb hg_ hnew_; clear hg_ hnew_; (first | rw [← Ny625.out] at ho10 | (simp only [Int.reduceToNat] at ho10; rw [← Ny625.out] at ho10)); have HO627 := lK ho10 HK; replace BK624 := bB BK624 hb; replace HK := aM (KeepBut.trans (kB HK.out) (KeepBut.of_below hb g none) (.inl rfl)); replace HB := aM (below_step (wS67 HB.out) hb); replace HI0 := aM (IsS67.below (iS67 HI0.out) hb); clear hb ho10; obtain ⟨Ao11, co11, rfl⟩ := sL HO627) | ((with_reducible refine gate_callee (f := 58) rfl ?_); refine gL (some 11) Try.func58 #[.pointer (some ⟨g, 0, none⟩), .slice Ao11 y625.length co11] ?_; (with_reducible refine (spec_reader_one.calls k g s0_0 s0_1 _ _ y625 t628 t629 w0 _ ?side1 ?side2 ?side3 ?side4 ?side5 A3.out).mono ?_); (case side1 => exact iS67 HI0.out); (case side2 => exact wS67 HB.out); (case side3 => exact qC (Kd.R_reads' HO627.out).2.2); (case side4 => exact (Kd.R_reads' HO627.out).2.1); (case side5 => exact far_slice (IsS67.own_ne HI0.out HO627.out (by decide))); rintro e w12 ⟨rfl, hi, hb, hk⟩; refine ⟨_, rfl, ?_⟩; replace BK624 := bK hk BK624 NB624_0; replace HO627 := aM (Kd.R_mono (Kd.R_keep (IsS67.apart (show IsS67 w0 _ g s0_0 s0_1 from iS67 HI0.out) (qR HO627.out) (by decide)) hk (fun _ h => h.2)) (fun _ h => h.1)); replace HK := aM (KeepBut.trans (kB HK.out) hk (.inl rfl)); replace HB := aM (hb); replace HI0 := aM (hi); clear hb hk hi) | ((with_reducible refine gate_dst (N := 13) rfl ?_); refine iL ([3, 2, 4, 1, 5, 8] : List Int) [.int .i64 3, .int .i64 2, .int .i64 4, .int .i64 1, .int .i64 5, .int .i64 8] ?_; intro v631 w13 ho14 hb hg_ hnew_; clear hg_ hnew_; (first | rw [← Ny630.out] at ho14 | (simp only [Int.reduceToNat] at ho14; rw [← Ny630.out] at ho14)); have HO632 := aM (Kd.R_lower (Kd.R_new' ho14 (Kd.R_lt (qR HO627.out))) (keep_size (w := w) (g := g) (row := none) (kB HK.out))); replace HO627 := aM (Kd.R_elder' (qR HO627.out) (Kd.R_base ho14) hb); replace BK624 := bB BK624 hb; replace HK := aM (KeepBut.trans (kB HK.out) (KeepBut.of_below hb g none) (.inl rfl)); replace HB := aM (below_step (wS67 HB.out) hb); replace HI0 := aM (IsS67.below (iS67 HI0.out) hb); clear hb ho14; obtain ⟨Ao15, co15, rfl⟩ := sL HO632) | ((with_reducible refine gate_callee (f := 58) rfl ?_); refine gL (some 14) Try.func58 #[.pointer (some ⟨g, 0, none⟩), .slice Ao15 y630.length co15] ?_; (with_reducible refine (spec_reader_one.calls k g s0_0 t629 _ _ y630 t633 t634 w0 _ ?side1 ?side2 ?side3 ?side4 ?side5 A4.out).mono ?_); (case side1 => exact iS67 HI0.out); (case side2 => exact wS67 HB.out); (case side3 => exact qC (Kd.R_reads' HO632.out).2.2); (case side4 => exact (Kd.R_reads' HO632.out).2.1); (case side5 => exact far_slice (IsS67.own_ne HI0.out HO632.out (by decide))); rintro e w16 ⟨rfl, hi, hb, hk⟩; refine ⟨_, rfl, ?_⟩; replace BK624 := bK hk BK624 NB624_0; replace HO627 := aM (Kd.R_mono (Kd.R_keep (IsS67.apart (show IsS67 w0 _ g s0_0 t629 from iS67 HI0.out) (qR HO627.out) (by decide)) hk (fun _ h => h.2)) (fun _ h => h.1)); replace HO632 := aM (Kd.R_mono (Kd.R_keep (IsS67.apart (show IsS67 w0 _ g s0_0 t629 from iS67 HI0.out) (qR HO632.out) (by decide)) hk (fun _ h => h.2)) (fun _ h => h.1)); replace HK := aM (KeepBut.trans (kB HK.out) hk (.inl rfl)); replace HB := aM (hb); replace HI0 := aM (hi); clear hb hk hi) | ((with_reducible refine gate_callee (f := 61) rfl ?_); refine gL (some 16) Try.func61 #[.int .i64 t628, .int .i64 t633, .int .i64 a1] ?_; (with_reducible refine (spec_newImage.calls t628 t633 a1 t635 t636 t637 t638 _ A5.out).mono ?_); rintro e w17 ⟨v639, rfl, ho0, hb⟩; refine ⟨_, rfl, ?_⟩; have HO640 := aM (Kd.R_lower (Kd.R_new' (Kd.R_new' ho0 (Kd.R_lt (qR HO627.out))) (Kd.R_lt (qR HO632.out))) (keep_size (w := w) (g := g) (row := none) (kB HK.out))); replace HO627 := aM (Kd.R_elder' (qR HO627.out) (Kd.R_base ho0) hb); replace HO632 := aM (Kd.R_elder' (qR HO632.out) (Kd.R_base ho0) hb); replace BK624 := bB BK624 hb; replace HK := aM (KeepBut.trans (kB HK.out) (KeepBut.of_below hb g none) (.inl rfl)); replace HB := aM (below_step (wS67 HB.out) hb); replace HI0 := aM (IsS67.below (iS67 HI0.out) hb); clear hb ho0) | ((with_reducible refine gate_dst (N := 5) rfl ?_); refine bxE (N := 5) (cs := #[.int .i64 0, .int .i64 0, .int .i64 0, .slice none 0 0]) (t := 24) ?_; intro gb641 hg w18 hbox hb; replace HO627 := aM (Kd.R_below (qR HO627.out) hb); replace HO632 := aM (Kd.R_below (qR HO632.out) hb); replace HO640 := aM (Kd.R_below (qR HO640.out) hb); replace HB := aM (below_step (wS67 HB.out) hb); have BK641 := aM (hbox); have GW641 := aM ((by rw [hg]; exact (keep_size (w := w) (g := g) (row := none) (kB HK.out)) : w.heap.size ≤ gb641)); have GE641 := aM ((Nat.le_trans HW0.out (by rw [hg]; exact (keep_size (w := w) (g := g) (row := none) (kB HK.out)) : w.heap.size ≤ gb641) : w0.heap.size ≤ gb641)); replace HK := aM (KeepBut.trans (kB HK.out) (KeepBut.of_below hb g none) (.inl rfl)); have NB624_641 := nL hg BK624; have NB641_624 := nG hg BK624; replace BK624 := bB BK624 hb; have NB0_641 := aM ((by rw [hg]; exact Nat.ne_of_lt (IsS67.lt (show IsS67 w0 _ g s0_0 t634 from iS67 HI0.out)) : g ≠ gb641)); have NB641_0 := aM ((by rw [hg]; exact Nat.ne_of_gt (IsS67.lt (show IsS67 w0 _ g s0_0 t634 from iS67 HI0.out)) : gb641 ≠ g)); replace HI0 := aM (IsS67.below (iS67 HI0.out) hb); clear hb hbox hg; have hnb19 := NB641_624.out; have hnc19 := NB624_641.out; have hnb20 := NB641_0.out; have hnc20 := NB0_641.out; obtain ⟨⟨hcz21_0, hcz21_1, hcz21_2, hcz21_3⟩, hfz21_0, hfz21_1, hfz21_2, hfz21_3⟩ := cf4 BK641; obtain ⟨Ao22, co22, rfl⟩ := sL HO640) | ((with_reducible refine gate_callee (f := 51) rfl ?_); refine gL (some 18) Try.func51 #[.pointer (some ⟨g, 0, none⟩), .int .i64 4] ?_; (with_reducible refine (spec_reader_pick.calls k g s0_0 t634 4 t642 t643 w0 _ ?side1 ?side2 A6.out).mono ?_); (case side1 => exact iS67 HI0.out); (case side2 => exact wS67 HB.out); rintro e w23 ⟨rfl, hi, hb, hk⟩; refine ⟨_, rfl, ?_⟩; replace BK624 := aM (KeepBut.blk hk (g' := gb624) (o := .cells #[.int .i64 0, .int .i64 0, .int .i64 0, .slice none 0 0] 24 (0, 0)) (by refine qB ?_; refine blk_far ?_ NB624_641.out _; refine qB ?_; refine blk_far ?_ NB624_641.out _; refine qB ?_; refine blk_far ?_ NB624_641.out _; refine qB ?_; refine blk_far ?_ NB624_641.out _; refine qB ?_; exact BK624.out) NB624_0.out (by simp)); replace HO627 := aM (Kd.R_mono (Kd.R_keep (IsS67.apart (show IsS67 w0 _ g s0_0 t634 from iS67 HI0.out) (by refine qR ?_; exact (fr4 HO627 BK641)) (by decide)) hk (fun _ h => h.2)) (fun _ h => h.1)); replace HO632 := aM (Kd.R_mono (Kd.R_keep (IsS67.apart (show IsS67 w0 _ g s0_0 t634 from iS67 HI0.out) (by refine qR ?_; exact (fr4 HO632 BK641)) (by decide)) hk (fun _ h => h.2)) (fun _ h => h.1)); replace HO640 := aM (Kd.R_mono (Kd.R_keep (IsS67.apart (show IsS67 w0 _ g s0_0 t634 from iS67 HI0.out) (by refine qR ?_; exact (fr4 HO640 BK641)) (by decide)) hk (fun _ h => h.2)) (fun _ h => h.1)); replace BK641 := aM (KeepBut.blk hk (g' := gb641) (o := .cells #[.int .i64 t635, .int .i64 t636, .int .i64 t637, .slice Ao22 t638.length co22] 24 (0, 0)) (by exact bP BK641.out) NB641_0.out (by simp)); replace HK := aM (KeepBut.trans (kB HK.out) hk (.inl rfl)); replace HB := aM (hb); replace HI0 := aM (hi); clear hb hk hi) | ((with_reducible refine gate_callee (f := 51) rfl ?_); refine gL (some 20) Try.func51 #[.pointer (some ⟨g, 0, none⟩), .int .i64 256] ?_; (with_reducible refine (spec_reader_pick.calls k g s0_0 t643 256 t644 t645 w0 _ ?side1 ?side2 A7.out).mono ?_); (case side1 => exact iS67 HI0.out); (case side2 => exact wS67 HB.out); rintro e w24 ⟨rfl, hi, hb, hk⟩; refine ⟨_, rfl, ?_⟩; replace BK624 := bK hk BK624 NB624_0; replace HO627 := aM (Kd.R_mono (Kd.R_keep (IsS67.apart (show IsS67 w0 _ g s0_0 t643 from iS67 HI0.out) (qR HO627.out) (by decide)) hk (fun _ h => h.2)) (fun _ h => h.1)); replace HO632 := aM (Kd.R_mono (Kd.R_keep (IsS67.apart (show IsS67 w0 _ g s0_0 t643 from iS67 HI0.out) (qR HO632.out) (by decide)) hk (fun _ h => h.2)) (fun _ h => h.1)); replace HO640 := aM (Kd.R_mono (Kd.R_keep (IsS67.apart (show IsS67 w0 _ g s0_0 t643 from iS67 HI0.out) (qR HO640.out) (by decide)) hk (fun _ h => h.2)) (fun _ h => h.1)); replace BK641 := bK hk BK641 NB641_0; replace HK := aM (KeepBut.trans (kB HK.out) hk (.inl rfl)); replace HB := aM (hb); replace HI0 := aM (hi); clear hb hk hi))
 go_loopg [7, 8] k (fun kq v7 v8 w' => ∃ (x7_1 : Int) (x8_1 : Int) (x1001_1 : Int) (x642003_1 : List Int) (u642003 : Value), v7 = .int .i64 x7_1 ∧ v8 = .int .i64 x8_1 ∧ Aside0 (spec_randomImage.l0 kq t642 x7_1 x8_1 s0_0 x1001_1 t635 t636 t637 x642003_1 = some (r1, r2, r3, r4, r5)) ∧ Aside0 (kq ≤ k) ∧ Aside0 (Kd.R (Kd.int .i64) 3 w' w.heap.size (fun _ => True) u642003 x642003_1) ∧ Aside0 (w'.heap[gb624]? = some (.cells #[.int .i64 0, .int .i64 0, .int .i64 0, (.slice none 0 0)] 24 (0, 0))) ∧ Aside0 (w'.heap[gb641]? = some (.cells #[.int .i64 t635, .int .i64 t636, .int .i64 t637, u642003] 24 (0, 0))) ∧ Aside0 (IsS67 w0 w' g s0_0 x1001_1) ∧ Aside0 (KeepBut w w' g none) ∧ Aside0 (Below w0.heap.size w0 w'))
 case atStart => exact ⟨(t644), (0), (t645), (t638), (.slice Ao22 t638.length co22), qE, qE, H', ⟨Nat.le_refl _⟩, ⟨by refine qR ?_; exact Kd.R_mono HO640.out (fun _ hk => trivial)⟩, ⟨by refine qB ?_; exact BK624.out⟩, ⟨by refine qB ?_; exact BK641.out⟩, ⟨iS67 HI0.out⟩, ⟨kB HK.out⟩, ⟨wS67 HB.out⟩⟩
 case round =>
  clear H'
  try clear hcz21_0 hcz21_1 hcz21_2 hcz21_3 hfz21_0 hfz21_1 hfz21_2 hfz21_3
  obtain ⟨x7_1, x8_1, x1001_1, x642003_1, u642003, rfl, rfl, HA, HK1, HO_642003, BK624, BK641, HI0, HK, HB⟩ := hrel
  cases gk with
  | zero => exact absurd HA.out (by simp [spec_randomImage.l0])
  | succ k1 =>
   have H := HA.out
   clear HA
   simp only [spec_randomImage.l0] at H
   by_cases c25 : x8_1 < (x642003_1.length : Int)
   rotate_left
   ·rw [if_neg c25] at H
    have c25b0 : decide (x8_1 < (x642003_1.length : Int)) = false := decide_eq_false c25
    clear c25
    simp only [Option.some.injEq, Prod.mk.injEq] at H
    obtain ⟨rfl, rfl, rfl, rfl, rfl⟩ := H
    have hnb70 := NB641_624.out
    have hnc70 := NB624_641.out
    have hnb71 := NB641_0.out
    have hnc71 := NB0_641.out
    obtain ⟨⟨hcz72_0, hcz72_1, hcz72_2, hcz72_3⟩, hfz72_0, hfz72_1, hfz72_2, hfz72_3⟩ := cf4 BK641
    obtain ⟨Ao73, co73, rfl⟩ := sL HO_642003
    have hnb74 := NB624_0.out
    have hnc74 := NB0_624.out
    obtain ⟨⟨hcz75_0, hcz75_1, hcz75_2, hcz75_3⟩, hfz75_0, hfz75_1, hfz75_2, hfz75_3⟩ := cf4 BK624
    go_wp2
    refine bodyPost_ret (results_cell_row rfl _ _ gb624 24 #[.int .i64 t635, .int .i64 t636, .int .i64 t637, .slice Ao73 x642003_1.length co73] (0, 0) _ rfl (by exact bP BK624.out) Try.underlying24 rfl (by kernel_rfl)) rfl ?_
    exact ⟨_, qX, by refine qR ?_; exact Kd.R_mono (rT HO_642003 BK624) (fun _ hk => trivial), iS67 HI0.out, wS67 HB.out, kB HK.out⟩
   rw [if_pos c25] at H
   have c25b0 : decide (x8_1 < (x642003_1.length : Int)) = true := decide_eq_true c25
   clear c25
   by_cases c26 : t642 = 0
   ·rw [if_pos c26] at H
    have c26b0 : (t642 == 0) = true := beq_iff_eq.mpr c26
    have c26b1 : (t642 != 0) = false := bne_eq_false_iff_eq.mpr c26
    clear c26
    replace H := Option.bind_eq_some_iff.mp H
    obtain ⟨⟨t646, t647⟩, A270, H⟩ := H
    replace H : (if 0 ≤ x8_1 then (spec_randomImage.l0 k1 t642 t646 (wrap64 (x8_1 + 1)) s0_0 t647 t635 t636 t637 (x642003_1.set (x8_1 : Int).toNat t646)) else (none)) = some (r1, r2, r3, r4, r5) := H
    have A27 := aM A270
    clear A270
    replace H := iD H
    obtain ⟨c28b0, H⟩ := H
    obtain ⟨y648, hy648⟩ : ∃ y_ : List Int, y_ = (x642003_1.set (x8_1 : Int).toNat t646) := ⟨_, rfl⟩
    replace H : (spec_randomImage.l0 k1 t642 t646 (wrap64 (x8_1 + 1)) s0_0 t647 t635 t636 t637 y648) = some (r1, r2, r3, r4, r5) := rY hy648 H
    have Ny648 := aM hy648
    clear hy648
    have H' := aM H
    clear H
    have hnb30 := NB641_624.out
    have hnc30 := NB624_641.out
    have hnb31 := NB641_0.out
    have hnc31 := NB0_641.out
    obtain ⟨⟨hcz32_0, hcz32_1, hcz32_2, hcz32_3⟩, hfz32_0, hfz32_1, hfz32_2, hfz32_3⟩ := cf4 BK641
    obtain ⟨Ao33, co33, rfl⟩ := sL HO_642003
    go_wp2_with (first | ((with_reducible refine gate_callee (f := 51) rfl ?_); refine gL (some 32) Try.func51 #[.pointer (some ⟨g, 0, none⟩), .int .i64 256] ?_; (with_reducible refine (spec_reader_pick.calls k1 g s0_0 x1001_1 256 t646 t647 w0 _ ?side1 ?side2 A27.out).mono ?_); (case side1 => exact iS67 HI0.out); (case side2 => exact wS67 HB.out); rintro e w34 ⟨rfl, hi, hb, hk⟩; refine ⟨_, rfl, ?_⟩; replace HO_642003 := aM (Kd.R_mono (Kd.R_keep (IsS67.apart (show IsS67 w0 _ g s0_0 x1001_1 from iS67 HI0.out) (qR HO_642003.out) (by decide)) hk (fun _ h => h.2)) (fun _ h => h.1)); replace BK624 := bK hk BK624 NB624_0; replace BK641 := bK hk BK641 NB641_0; replace HK := aM (KeepBut.trans (kB HK.out) hk (.inl rfl)); replace HB := aM (hb); replace HI0 := aM (hi); clear hb hk hi; obtain ⟨⟨hcz35_0, hcz35_1, hcz35_2, hcz35_3⟩, hfz35_0, hfz35_1, hfz35_2, hfz35_3⟩ := cf4 BK641; have p29 : 0 ≤ (x8_1 : Int) := oD; have q29 : (x8_1 : Int) < ((x642003_1.length : Int) : Int) := oD; obtain ⟨go29, co29, eo29, gb29, gl29, cl29, HG29⟩ := Kd.R_form HO_642003.out (by omega); (first | cases eo29 | (injection eo29 with ea_ en_ ec_; (first | subst ea_ | (injection ea_ with ea_; subst ea_)); subst ec_; clear en_)); have GB29 := aM gb29; have GG29 := aM HG29; clear gb29 gl29 HG29; obtain ⟨hx29_0, hf29_0⟩ := Kd.R_celln 0 HO_642003.out (x8_1 : Int) p29 q29; replace p29 := eq_true p29; replace q29 := eq_true q29; obtain ⟨hy36_, hz36_⟩ := Kd.R_celln 0 HO_642003.out (x8_1 : Int) oD oD; have HP36 := Kd.R_putg HO_642003.out (x8_1 : Int) t646) | ((with_reducible refine gate_store (t := 3) (p := 50) rfl ?_); refine store_event (t := 3) (p := 50) (v := ?vo_w37) (w1 := (w34.setCell ⟨go29, (x8_1 : Int).toNat, none⟩ (.int .i64 t646))) ?hg ?ho ?hn ?hr ?_; (case ho => rfl); (case hg => rfl); (case hn => rfl); (case hr => first | (go_simp; done) | (go_simp; rfl)); intro w37 hw; have hg : w34.grownBy w37 (some go29) := (by rw [hw]; exact HP36.2); have hp_ : Kd.R (Kd.int .i64) 3 w37 w.heap.size (fun _ => True) (.slice (some ⟨go29, 0, none⟩) x642003_1.length co33) y648 := (by rw [hw, Ny648.out]; exact HP36.1); clear HP36; replace BK624 := gB BK624 hg (Kd.R_ne HO_642003.out BK624.out (by decide)); replace BK641 := gB BK641 hg (Kd.R_ne HO_642003.out BK641.out (by decide)); replace HI0 := aM (IsS67.grown (iS67 HI0.out) hg (IsS67.own_ne HI0.out HO_642003.out (by decide))); replace HB := aM ((by rw [hw]; exact below_set (HB.out) (Nat.le_trans HL.out GB29.out) : Below w0.heap.size w0 w37)); replace HK := aM (KeepBut.trans (kB HK.out) (KeepBut.of_grown hg g) (Kd.R_base2 HO_642003.out)); replace HO_642003 := aM (hp_); clear hg hw hp_))
    go_roundg k1
    case measure => have := HK1.out; omega
    case rel => exact ⟨(t646), (wrap64 (x8_1 + 1)), (t647), (y648), (.slice (some ⟨go29, 0, none⟩) x642003_1.length co33), qE, qE, H', ⟨by have := HK1.out; omega⟩, ⟨by refine qR ?_; exact HO_642003.out⟩, ⟨by refine qB ?_; exact BK624.out⟩, ⟨by refine qB ?_; exact BK641.out⟩, ⟨iS67 HI0.out⟩, ⟨kB HK.out⟩, ⟨wS67 HB.out⟩⟩
   rw [if_neg c26] at H
   have c26b0 : (t642 == 0) = false := beq_eq_false_iff_ne.mpr c26
   have c26b1 : (t642 != 0) = true := bne_iff_ne.mpr c26
   by_cases c38 : t642 = 1
   ·rw [if_pos c38] at H
    have c38b0 : (t642 == 1) = true := beq_iff_eq.mpr c38
    have c38b1 : (t642 != 1) = false := bne_eq_false_iff_eq.mpr c38
    clear c38
    replace H := Option.bind_eq_some_iff.mp H
    obtain ⟨⟨t649, t650⟩, A390, H⟩ := H
    replace H : (if 0 ≤ x8_1 then (spec_randomImage.l0 k1 t642 (Int.tmod (wrap64 ((wrap64 (x7_1 + t649)) + 254)) 256) (wrap64 (x8_1 + 1)) s0_0 t650 t635 t636 t637 (x642003_1.set (x8_1 : Int).toNat (Int.tmod (wrap64 ((wrap64 (x7_1 + t649)) + 254)) 256))) else (none)) = some (r1, r2, r3, r4, r5) := H
    have A39 := aM A390
    clear A390
    replace H := iD H
    obtain ⟨c40b0, H⟩ := H
    obtain ⟨y651, hy651⟩ : ∃ y_ : List Int, y_ = (x642003_1.set (x8_1 : Int).toNat (Int.tmod (wrap64 ((wrap64 (x7_1 + t649)) + 254)) 256)) := ⟨_, rfl⟩
    replace H : (spec_randomImage.l0 k1 t642 (Int.tmod (wrap64 ((wrap64 (x7_1 + t649)) + 254)) 256) (wrap64 (x8_1 + 1)) s0_0 t650 t635 t636 t637 y651) = some (r1, r2, r3, r4, r5) := rY hy651 H
    have Ny651 := aM hy651
    clear hy651
    have H' := aM H
    clear H
    have hnb42 := NB641_624.out
    have hnc42 := NB624_641.out
    have hnb43 := NB641_0.out
    have hnc43 := NB0_641.out
    obtain ⟨⟨hcz44_0, hcz44_1, hcz44_2, hcz44_3⟩, hfz44_0, hfz44_1, hfz44_2, hfz44_3⟩ := cf4 BK641
    obtain ⟨Ao45, co45, rfl⟩ := sL HO_642003
    go_wp2_with (first | ((with_reducible refine gate_callee (f := 51) rfl ?_); refine gL (some 37) Try.func51 #[.pointer (some ⟨g, 0, none⟩), .int .i64 5] ?_; (with_reducible refine (spec_reader_pick.calls k1 g s0_0 x1001_1 5 t649 t650 w0 _ ?side1 ?side2 A39.out).mono ?_); (case side1 => exact iS67 HI0.out); (case side2 => exact wS67 HB.out); rintro e w46 ⟨rfl, hi, hb, hk⟩; refine ⟨_, rfl, ?_⟩; replace HO_642003 := aM (Kd.R_mono (Kd.R_keep (IsS67.apart (show IsS67 w0 _ g s0_0 x1001_1 from iS67 HI0.out) (qR HO_642003.out) (by decide)) hk (fun _ h => h.2)) (fun _ h => h.1)); replace BK624 := bK hk BK624 NB624_0; replace BK641 := bK hk BK641 NB641_0; replace HK := aM (KeepBut.trans (kB HK.out) hk (.inl rfl)); replace HB := aM (hb); replace HI0 := aM (hi); clear hb hk hi; obtain ⟨⟨hcz47_0, hcz47_1, hcz47_2, hcz47_3⟩, hfz47_0, hfz47_1, hfz47_2, hfz47_3⟩ := cf4 BK641; have p41 : 0 ≤ (x8_1 : Int) := oD; have q41 : (x8_1 : Int) < ((x642003_1.length : Int) : Int) := oD; obtain ⟨go41, co41, eo41, gb41, gl41, cl41, HG41⟩ := Kd.R_form HO_642003.out (by omega); (first | cases eo41 | (injection eo41 with ea_ en_ ec_; (first | subst ea_ | (injection ea_ with ea_; subst ea_)); subst ec_; clear en_)); have GB41 := aM gb41; have GG41 := aM HG41; clear gb41 gl41 HG41; obtain ⟨hx41_0, hf41_0⟩ := Kd.R_celln 0 HO_642003.out (x8_1 : Int) p41 q41; replace p41 := eq_true p41; replace q41 := eq_true q41; obtain ⟨hy48_, hz48_⟩ := Kd.R_celln 0 HO_642003.out (x8_1 : Int) oD oD; have HP48 := Kd.R_putg HO_642003.out (x8_1 : Int) (Int.tmod (wrap64 ((wrap64 (x7_1 + t649)) + 254)) 256)) | ((with_reducible refine gate_store (t := 3) (p := 50) rfl ?_); refine store_event (t := 3) (p := 50) (v := ?vo_w49) (w1 := (w46.setCell ⟨go41, (x8_1 : Int).toNat, none⟩ (.int .i64 (Int.tmod (wrap64 ((wrap64 (x7_1 + t649)) + 254)) 256)))) ?hg ?ho ?hn ?hr ?_; (case ho => rfl); (case hg => rfl); (case hn => rfl); (case hr => first | (go_simp; done) | (go_simp; rfl)); intro w49 hw; have hg : w46.grownBy w49 (some go41) := (by rw [hw]; exact HP48.2); have hp_ : Kd.R (Kd.int .i64) 3 w49 w.heap.size (fun _ => True) (.slice (some ⟨go41, 0, none⟩) x642003_1.length co45) y651 := (by rw [hw, Ny651.out]; exact HP48.1); clear HP48; replace BK624 := gB BK624 hg (Kd.R_ne HO_642003.out BK624.out (by decide)); replace BK641 := gB BK641 hg (Kd.R_ne HO_642003.out BK641.out (by decide)); replace HI0 := aM (IsS67.grown (iS67 HI0.out) hg (IsS67.own_ne HI0.out HO_642003.out (by decide))); replace HB := aM ((by rw [hw]; exact below_set (HB.out) (Nat.le_trans HL.out GB41.out) : Below w0.heap.size w0 w49)); replace HK := aM (KeepBut.trans (kB HK.out) (KeepBut.of_grown hg g) (Kd.R_base2 HO_642003.out)); replace HO_642003 := aM (hp_); clear hg hw hp_))
    go_roundg k1
    case measure => have := HK1.out; omega
    case rel => exact ⟨(Int.tmod (wrap64 ((wrap64 (x7_1 + t649)) + 254)) 256), (wrap64 (x8_1 + 1)), (t650), (y651), (.slice (some ⟨go41, 0, none⟩) x642003_1.length co45), qE, qE, H', ⟨by have := HK1.out; omega⟩, ⟨by refine qR ?_; exact HO_642003.out⟩, ⟨by refine qB ?_; exact BK624.out⟩, ⟨by refine qB ?_; exact BK641.out⟩, ⟨iS67 HI0.out⟩, ⟨kB HK.out⟩, ⟨wS67 HB.out⟩⟩
   rw [if_neg c38] at H
   have c38b0 : (t642 == 1) = false := beq_eq_false_iff_ne.mpr c38
   have c38b1 : (t642 != 1) = true := bne_iff_ne.mpr c38
   by_cases c50 : t642 = 2
   rotate_left
   ·rw [if_neg c50] at H
    have c50b0 : (t642 == 2) = false := beq_eq_false_iff_ne.mpr c50
    have c50b1 : (t642 != 2) = true := bne_iff_ne.mpr c50
    replace H := iD H
    obtain ⟨c62b0, H⟩ := H
    obtain ⟨y655, hy655⟩ : ∃ y_ : List Int, y_ = (x642003_1.set (x8_1 : Int).toNat x7_1) := ⟨_, rfl⟩
    replace H : (spec_randomImage.l0 k1 t642 x7_1 (wrap64 (x8_1 + 1)) s0_0 x1001_1 t635 t636 t637 y655) = some (r1, r2, r3, r4, r5) := rY hy655 H
    have Ny655 := aM hy655
    clear hy655
    have H' := aM H
    clear H
    have hnb64 := NB641_624.out
    have hnc64 := NB624_641.out
    have hnb65 := NB641_0.out
    have hnc65 := NB0_641.out
    obtain ⟨⟨hcz66_0, hcz66_1, hcz66_2, hcz66_3⟩, hfz66_0, hfz66_1, hfz66_2, hfz66_3⟩ := cf4 BK641
    obtain ⟨Ao67, co67, rfl⟩ := sL HO_642003
    have p63 : 0 ≤ (x8_1 : Int) := oD
    have q63 : (x8_1 : Int) < ((x642003_1.length : Int) : Int) := oD
    obtain ⟨go63, co63, eo63, gb63, gl63, cl63, HG63⟩ := Kd.R_form HO_642003.out (by omega)
    (first | cases eo63 | (injection eo63 with ea_ en_ ec_; (first | subst ea_ | (injection ea_ with ea_; subst ea_)); subst ec_; clear en_))
    have GB63 := aM gb63
    have GG63 := aM HG63
    clear gb63 gl63 HG63
    obtain ⟨hx63_0, hf63_0⟩ := Kd.R_celln 0 HO_642003.out (x8_1 : Int) p63 q63
    replace p63 := eq_true p63
    replace q63 := eq_true q63
    have HP68 := Kd.R_putg HO_642003.out (x8_1 : Int) x7_1
    go_wp2_with (first | ((with_reducible refine gate_store (t := 3) (p := 50) rfl ?_); refine store_event (t := 3) (p := 50) (v := ?vo_w69) (w1 := (wr.setCell ⟨go63, (x8_1 : Int).toNat, none⟩ (.int .i64 x7_1))) ?hg ?ho ?hn ?hr ?_; (case ho => rfl); (case hg => rfl); (case hn => rfl); (case hr => first | (go_simp; done) | (go_simp; rfl)); intro w69 hw; have hg : wr.grownBy w69 (some go63) := (by rw [hw]; exact HP68.2); have hp_ : Kd.R (Kd.int .i64) 3 w69 w.heap.size (fun _ => True) (.slice (some ⟨go63, 0, none⟩) x642003_1.length co67) y655 := (by rw [hw, Ny655.out]; exact HP68.1); clear HP68; replace BK624 := gB BK624 hg (Kd.R_ne HO_642003.out BK624.out (by decide)); replace BK641 := gB BK641 hg (Kd.R_ne HO_642003.out BK641.out (by decide)); replace HI0 := aM (IsS67.grown (iS67 HI0.out) hg (IsS67.own_ne HI0.out HO_642003.out (by decide))); replace HB := aM ((by rw [hw]; exact below_set (HB.out) (Nat.le_trans HL.out GB63.out) : Below w0.heap.size w0 w69)); replace HK := aM (KeepBut.trans (kB HK.out) (KeepBut.of_grown hg g) (Kd.R_base2 HO_642003.out)); replace HO_642003 := aM (hp_); clear hg hw hp_))
    go_roundg k1
    case measure => have := HK1.out; omega
    case rel => exact ⟨(x7_1), (wrap64 (x8_1 + 1)), (x1001_1), (y655), (.slice (some ⟨go63, 0, none⟩) x642003_1.length co67), qE, qE, H', ⟨by have := HK1.out; omega⟩, ⟨by refine qR ?_; exact HO_642003.out⟩, ⟨by refine qB ?_; exact BK624.out⟩, ⟨by refine qB ?_; exact BK641.out⟩, ⟨iS67 HI0.out⟩, ⟨kB HK.out⟩, ⟨wS67 HB.out⟩⟩
   rw [if_pos c50] at H
   have c50b0 : (t642 == 2) = true := beq_iff_eq.mpr c50
   have c50b1 : (t642 != 2) = false := bne_eq_false_iff_eq.mpr c50
   clear c50
   replace H := Option.bind_eq_some_iff.mp H
   obtain ⟨⟨t652, t653⟩, A510, H⟩ := H
   replace H : (if 0 ≤ x8_1 then (spec_randomImage.l0 k1 t642 (wrap64 (60 * t652)) (wrap64 (x8_1 + 1)) s0_0 t653 t635 t636 t637 (x642003_1.set (x8_1 : Int).toNat (wrap64 (60 * t652)))) else (none)) = some (r1, r2, r3, r4, r5) := H
   have A51 := aM A510
   clear A510
   replace H := iD H
   obtain ⟨c52b0, H⟩ := H
   obtain ⟨y654, hy654⟩ : ∃ y_ : List Int, y_ = (x642003_1.set (x8_1 : Int).toNat (wrap64 (60 * t652))) := ⟨_, rfl⟩
   replace H : (spec_randomImage.l0 k1 t642 (wrap64 (60 * t652)) (wrap64 (x8_1 + 1)) s0_0 t653 t635 t636 t637 y654) = some (r1, r2, r3, r4, r5) := rY hy654 H
   have Ny654 := aM hy654
   clear hy654
   have H' := aM H
   clear H
   have hnb54 := NB641_624.out
   have hnc54 := NB624_641.out
   have hnb55 := NB641_0.out
   have hnc55 := NB0_641.out
   obtain ⟨⟨hcz56_0, hcz56_1, hcz56_2, hcz56_3⟩, hfz56_0, hfz56_1, hfz56_2, hfz56_3⟩ := cf4 BK641
   obtain ⟨Ao57, co57, rfl⟩ := sL HO_642003
   go_wp2_with (first | ((with_reducible refine gate_callee (f := 51) rfl ?_); refine gL (some 44) Try.func51 #[.pointer (some ⟨g, 0, none⟩), .int .i64 4] ?_; (with_reducible refine (spec_reader_pick.calls k1 g s0_0 x1001_1 4 t652 t653 w0 _ ?side1 ?side2 A51.out).mono ?_); (case side1 => exact iS67 HI0.out); (case side2 => exact wS67 HB.out); rintro e w58 ⟨rfl, hi, hb, hk⟩; refine ⟨_, rfl, ?_⟩; replace HO_642003 := aM (Kd.R_mono (Kd.R_keep (IsS67.apart (show IsS67 w0 _ g s0_0 x1001_1 from iS67 HI0.out) (qR HO_642003.out) (by decide)) hk (fun _ h => h.2)) (fun _ h => h.1)); replace BK624 := bK hk BK624 NB624_0; replace BK641 := bK hk BK641 NB641_0; replace HK := aM (KeepBut.trans (kB HK.out) hk (.inl rfl)); replace HB := aM (hb); replace HI0 := aM (hi); clear hb hk hi; obtain ⟨⟨hcz59_0, hcz59_1, hcz59_2, hcz59_3⟩, hfz59_0, hfz59_1, hfz59_2, hfz59_3⟩ := cf4 BK641; have p53 : 0 ≤ (x8_1 : Int) := oD; have q53 : (x8_1 : Int) < ((x642003_1.length : Int) : Int) := oD; obtain ⟨go53, co53, eo53, gb53, gl53, cl53, HG53⟩ := Kd.R_form HO_642003.out (by omega); (first | cases eo53 | (injection eo53 with ea_ en_ ec_; (first | subst ea_ | (injection ea_ with ea_; subst ea_)); subst ec_; clear en_)); have GB53 := aM gb53; have GG53 := aM HG53; clear gb53 gl53 HG53; obtain ⟨hx53_0, hf53_0⟩ := Kd.R_celln 0 HO_642003.out (x8_1 : Int) p53 q53; replace p53 := eq_true p53; replace q53 := eq_true q53; obtain ⟨hy60_, hz60_⟩ := Kd.R_celln 0 HO_642003.out (x8_1 : Int) oD oD; have HP60 := Kd.R_putg HO_642003.out (x8_1 : Int) (wrap64 (60 * t652))) | ((with_reducible refine gate_store (t := 3) (p := 50) rfl ?_); refine store_event (t := 3) (p := 50) (v := ?vo_w61) (w1 := (w58.setCell ⟨go53, (x8_1 : Int).toNat, none⟩ (.int .i64 (wrap64 (60 * t652))))) ?hg ?ho ?hn ?hr ?_; (case ho => rfl); (case hg => rfl); (case hn => rfl); (case hr => first | (go_simp; done) | (go_simp; rfl)); intro w61 hw; have hg : w58.grownBy w61 (some go53) := (by rw [hw]; exact HP60.2); have hp_ : Kd.R (Kd.int .i64) 3 w61 w.heap.size (fun _ => True) (.slice (some ⟨go53, 0, none⟩) x642003_1.length co57) y654 := (by rw [hw, Ny654.out]; exact HP60.1); clear HP60; replace BK624 := gB BK624 hg (Kd.R_ne HO_642003.out BK624.out (by decide)); replace BK641 := gB BK641 hg (Kd.R_ne HO_642003.out BK641.out (by decide)); replace HI0 := aM (IsS67.grown (iS67 HI0.out) hg (IsS67.own_ne HI0.out HO_642003.out (by decide))); replace HB := aM ((by rw [hw]; exact below_set (HB.out) (Nat.le_trans HL.out GB53.out) : Below w0.heap.size w0 w61)); replace HK := aM (KeepBut.trans (kB HK.out) (KeepBut.of_grown hg g) (Kd.R_base2 HO_642003.out)); replace HO_642003 := aM (hp_); clear hg hw hp_))
   go_roundg k1
   case measure => have := HK1.out; omega
   case rel => exact ⟨(wrap64 (60 * t652)), (wrap64 (x8_1 + 1)), (t653), (y654), (.slice (some ⟨go53, 0, none⟩) x642003_1.length co57), qE, qE, H', ⟨by have := HK1.out; omega⟩, ⟨by refine qR ?_; exact HO_642003.out⟩, ⟨by refine qB ?_; exact BK624.out⟩, ⟨by refine qB ?_; exact BK641.out⟩, ⟨iS67 HI0.out⟩, ⟨kB HK.out⟩, ⟨wS67 HB.out⟩⟩
def spec_anyPlanes.f (k : Nat) (s0_0 : List Int) (s0_1 : Int) : Option (Int × Int) := (spec_reader_one.f k s0_0 s0_1 (([1, 3, 1, 4, 2] : List Int))).bind fun bt659 => (some (bt659.1, bt659.2))
theorem spec_anyPlanes.mono : ∀ a0 a1 k, LeO (spec_anyPlanes.f k a0 a1) (spec_anyPlanes.f (k + 1) a0 a1) := by
 intro a0 a1 k
 unfold spec_anyPlanes.f
 repeat' first | (with_reducible first | exact spec_reader_one.mono _ _ _ _ | exact lR | exact lN | refine lI ?_ ?_ | refine lB ?_ fun _ => ?_) | exact spec_reader_one.mono _ _ _ _ | exact lN | refine lI ?_ ?_ | refine lB ?_ fun _ => ?_
set_option maxHeartbeats 8000000 in
set_option maxRecDepth 100000 in
theorem spec_anyPlanes.calls (k : Nat) (g : Nat) (s0_0 : List Int) (s0_1 : Int) (r1 : Int) (r2 : Int) (w0 w : World) (hI : IsS67 w0 w g s0_0 s0_1) (hB : Below w0.heap.size w0 w) (h : spec_anyPlanes.f k s0_0 s0_1 = some (r1, r2)) :
  Calls Try.prog 73 #[.pointer (some ⟨g, 0, none⟩)] w fun e w' => e = .returned (.int .i64 r1) ∧ IsS67 w0 w' g s0_0 r2 ∧ Below w0.heap.size w0 w' ∧ KeepBut w w' g none := by
 have HI0 := aM hI
 have HK := aM (KeepBut.refl w g none)
 have HL := aM hB.size
 clear hI
 have HW0 := aM hB.size
 have HB := aM hB
 clear hB
 unfold spec_anyPlanes.f at h
 have H := h
 clear h
 obtain ⟨y656, hy656⟩ : ∃ y_ : List Int, y_ = (([1, 3, 1, 4, 2] : List Int)) := ⟨_, rfl⟩
 replace H : ((spec_reader_one.f k s0_0 s0_1 y656).bind fun bt659 => (some (bt659.1, bt659.2))) = some (r1, r2) := rY hy656 H
 have Ny656 := aM hy656
 clear hy656
 replace H := Option.bind_eq_some_iff.mp H
 obtain ⟨⟨t659, t660⟩, A20, H⟩ := H
 replace H : (some (t659, t660)) = some (r1, r2) := H
 have A2 := aM A20
 clear A20
 simp only [Option.some.injEq, Prod.mk.injEq] at H
 obtain ⟨rfl, rfl⟩ := H
 go_enter Try.func73, Try.ntmps73
 go_wp2_with (first | ((with_reducible refine gate_dst (N := 4) rfl ?_); refine iL ([1, 3, 1, 4, 2] : List Int) [.int .i64 1, .int .i64 3, .int .i64 1, .int .i64 4, .int .i64 2] ?_; intro v657 w3 ho4 hb hg_ hnew_; clear hg_ hnew_; (first | rw [← Ny656.out] at ho4 | (simp only [Int.reduceToNat] at ho4; rw [← Ny656.out] at ho4)); have HO658 := lK ho4 HK; replace HK := aM (KeepBut.trans (kB HK.out) (KeepBut.of_below hb g none) (.inl rfl)); replace HB := aM (below_step (wS67 HB.out) hb); replace HI0 := aM (IsS67.below (iS67 HI0.out) hb); clear hb ho4; obtain ⟨Ao5, co5, rfl⟩ := sL HO658) | ((with_reducible refine gate_callee (f := 58) rfl ?_); refine gL (some 5) Try.func58 #[.pointer (some ⟨g, 0, none⟩), .slice Ao5 y656.length co5] ?_; (with_reducible refine (spec_reader_one.calls k g s0_0 s0_1 _ _ y656 t659 t660 w0 _ ?side1 ?side2 ?side3 ?side4 ?side5 A2.out).mono ?_); (case side1 => exact iS67 HI0.out); (case side2 => exact wS67 HB.out); (case side3 => exact qC (Kd.R_reads' HO658.out).2.2); (case side4 => exact (Kd.R_reads' HO658.out).2.1); (case side5 => exact far_slice (IsS67.own_ne HI0.out HO658.out (by decide))); rintro e w6 ⟨rfl, hi, hb, hk⟩; refine ⟨_, rfl, ?_⟩; replace HO658 := aM (Kd.R_mono (Kd.R_keep (IsS67.apart (show IsS67 w0 _ g s0_0 s0_1 from iS67 HI0.out) (qR HO658.out) (by decide)) hk (fun _ h => h.2)) (fun _ h => h.1)); replace HK := aM (KeepBut.trans (kB HK.out) hk (.inl rfl)); replace HB := aM (hb); replace HI0 := aM (hi); clear hb hk hi))
 go_ret
 exact ⟨qX, iS67 HI0.out, wS67 HB.out, kB HK.out⟩
def spec_anyImage.f (k : Nat) (s0_0 : List Int) (s0_1 : Int) : Option (Int × Int × Int × List Int × Int) := (spec_anyPlanes.f k s0_0 s0_1).bind fun bt662 => ((spec_randomImage.f k s0_0 bt662.2 bt662.1).bind fun bt664 => ((spec_spoilImage.f k s0_0 bt664.2.2.2.2 bt664.1 bt664.2.1 bt664.2.2.1 bt664.2.2.2.1).bind fun bt671 => (some (bt671.1, bt671.2.1, bt671.2.2.1, bt671.2.2.2.1, bt671.2.2.2.2))))
theorem spec_anyImage.mono : ∀ a0 a1 k, LeO (spec_anyImage.f k a0 a1) (spec_anyImage.f (k + 1) a0 a1) := by
 intro a0 a1 k
 unfold spec_anyImage.f
 repeat' first | (with_reducible first | exact spec_anyPlanes.mono _ _ _ | exact spec_randomImage.mono _ _ _ _ | exact spec_spoilImage.mono _ _ _ _ _ _ _ | exact lR | exact lN | refine lI ?_ ?_ | refine lB ?_ fun _ => ?_) | exact spec_anyPlanes.mono _ _ _ | exact spec_randomImage.mono _ _ _ _ | exact spec_spoilImage.mono _ _ _ _ _ _ _ | exact lN | refine lI ?_ ?_ | refine lB ?_ fun _ => ?_
set_option maxHeartbeats 8000000 in
set_option maxRecDepth 100000 in
theorem spec_anyImage.calls (k : Nat) (g : Nat) (s0_0 : List Int) (s0_1 : Int) (r1 : Int) (r2 : Int) (r3 : Int) (r4 : List Int) (r5 : Int) (w0 w : World) (hI : IsS67 w0 w g s0_0 s0_1) (hB : Below w0.heap.size w0 w) (h : spec_anyImage.f k s0_0 s0_1 = some (r1, r2, r3, r4, r5)) :
  Calls Try.prog 49 #[.pointer (some ⟨g, 0, none⟩)] w fun e w' => ∃ v3_ : Value, e = .returned (.agg #[.int .i64 r1, .int .i64 r2, .int .i64 r3, v3_]) ∧ Kd.Q (Kd.int .i64) 3 w' w.heap.size (fun _ => True) v3_ r4 ∧ IsS67 w0 w' g s0_0 r5 ∧ Below w0.heap.size w0 w' ∧ KeepBut w w' g none := by
 have hu24 := Try.underlying24
 have HI0 := aM hI
 have HK := aM (KeepBut.refl w g none)
 have HL := aM hB.size
 clear hI
 have HW0 := aM hB.size
 have HB := aM hB
 clear hB
 unfold spec_anyImage.f at h
 have H := h
 clear h
 replace H := Option.bind_eq_some_iff.mp H
 obtain ⟨⟨t662, t663⟩, A20, H⟩ := H
 replace H : ((spec_randomImage.f k s0_0 t663 t662).bind fun bt664 => ((spec_spoilImage.f k s0_0 bt664.2.2.2.2 bt664.1 bt664.2.1 bt664.2.2.1 bt664.2.2.2.1).bind fun bt671 => (some (bt671.1, bt671.2.1, bt671.2.2.1, bt671.2.2.2.1, bt671.2.2.2.2)))) = some (r1, r2, r3, r4, r5) := H
 have A2 := aM A20
 clear A20
 replace H := Option.bind_eq_some_iff.mp H
 obtain ⟨⟨t664, t665, t666, t667, t670⟩, A30, H⟩ := H
 replace H : ((spec_spoilImage.f k s0_0 t670 t664 t665 t666 t667).bind fun bt671 => (some (bt671.1, bt671.2.1, bt671.2.2.1, bt671.2.2.2.1, bt671.2.2.2.2))) = some (r1, r2, r3, r4, r5) := H
 have A3 := aM A30
 clear A30
 replace H := Option.bind_eq_some_iff.mp H
 obtain ⟨⟨t671, t672, t673, t674, t677⟩, A40, H⟩ := H
 replace H : (some (t671, t672, t673, t674, t677)) = some (r1, r2, r3, r4, r5) := H
 have A4 := aM A40
 clear A40
 simp only [Option.some.injEq, Prod.mk.injEq] at H
 obtain ⟨rfl, rfl, rfl, rfl, rfl⟩ := H
 go_enter Try.func49, Try.ntmps49
 go_wp2_with (first | ((with_reducible refine gate_dst (N := 2) rfl ?_); refine bxE (N := 2) (cs := #[.int .i64 0, .int .i64 0, .int .i64 0, .slice none 0 0]) (t := 24) ?_; intro gb661 hg w5 hbox hb; replace HB := aM (below_step (wS67 HB.out) hb); have BK661 := aM (hbox); have GW661 := aM ((by rw [hg]; exact (keep_size (w := w) (g := g) (row := none) (kB HK.out)) : w.heap.size ≤ gb661)); have GE661 := aM ((Nat.le_trans HW0.out (by rw [hg]; exact (keep_size (w := w) (g := g) (row := none) (kB HK.out)) : w.heap.size ≤ gb661) : w0.heap.size ≤ gb661)); replace HK := aM (KeepBut.trans (kB HK.out) (KeepBut.of_below hb g none) (.inl rfl)); have NB0_661 := aM ((by rw [hg]; exact Nat.ne_of_lt (IsS67.lt (show IsS67 w0 _ g s0_0 s0_1 from iS67 HI0.out)) : g ≠ gb661)); have NB661_0 := aM ((by rw [hg]; exact Nat.ne_of_gt (IsS67.lt (show IsS67 w0 _ g s0_0 s0_1 from iS67 HI0.out)) : gb661 ≠ g)); replace HI0 := aM (IsS67.below (iS67 HI0.out) hb); clear hb hbox hg) | ((with_reducible refine gate_callee (f := 73) rfl ?_); refine gL (some 6) Try.func73 #[.pointer (some ⟨g, 0, none⟩)] ?_; (with_reducible refine (spec_anyPlanes.calls k g s0_0 s0_1 t662 t663 w0 _ ?side1 ?side2 A2.out).mono ?_); (case side1 => exact iS67 HI0.out); (case side2 => exact wS67 HB.out); rintro e w6 ⟨rfl, hi, hb, hk⟩; refine ⟨_, rfl, ?_⟩; replace BK661 := bK hk BK661 NB661_0; replace HK := aM (KeepBut.trans (kB HK.out) hk (.inl rfl)); replace HB := aM (hb); replace HI0 := aM (hi); clear hb hk hi) | ((with_reducible refine gate_callee (f := 72) rfl ?_); refine gL (some 7) Try.func72 #[.pointer (some ⟨g, 0, none⟩), .int .i64 t662] ?_; (with_reducible refine (spec_randomImage.calls k g s0_0 t663 t662 t664 t665 t666 t667 t670 w0 _ ?side1 ?side2 A3.out).mono ?_); (case side1 => exact iS67 HI0.out); (case side2 => exact wS67 HB.out); rintro e w7 ⟨v668, rfl, ho0, hi, hb, hk⟩; refine ⟨_, rfl, ?_⟩; replace BK661 := bK hk BK661 NB661_0; have HO669 := lK ho0 HK; replace HK := aM (KeepBut.trans (kB HK.out) hk (.inl rfl)); replace HB := aM (hb); replace HI0 := aM (hi); clear hb hk hi ho0; obtain ⟨Ao8, co8, rfl⟩ := sL HO669) | ((with_reducible refine gate_callee (f := 71) rfl ?_); refine gL (some 8) Try.func71 #[.pointer (some ⟨g, 0, none⟩), .agg #[.int .i64 t664, .int .i64 t665, .int .i64 t666, .slice Ao8 t667.length co8]] ?_; (with_reducible refine (spec_spoilImage.calls k g s0_0 t670 t664 t665 t666 (fun k_ => some k_ = (.slice Ao8 t667.length co8 : Value).ownBlock) (.slice Ao8 t667.length co8) t667 t671 t672 t673 t674 t677 w0 _ ?side1 ?side2 ?side3 A4.out).mono ?_); (case side1 => exact iS67 HI0.out); (case side2 => exact wS67 HB.out); (case side3 => exact Kd.R_lower (Kd.R_tight rfl HO669.out) HL.out); rintro e w9 ⟨v675, rfl, ho0, hi, hb, hkp⟩; refine ⟨_, rfl, ?_⟩; replace HI0 := aM (hi); replace BK661 := aM (blk_kept (qB BK661.out) hkp (fun hs_ => Or.elim hs_ (fun hs_ => (fun e_ => (Kd.R_ne HO669.out BK661.out (by decide)) e_) hs_) (fun e_ => NB661_0.out e_))); have HO676 := aM (Kd.Q_mono (ok' := fun k_ => True) (Kd.Q_raise (d := (Kd.int .i64)) (b := w0.heap.size) (b' := w.heap.size) (fun _ _ _ _ h_ => h_) ho0 (fun k_ e_ => Or.elim (ho0.1 k_ e_) (fun hs_ => (fun e_ => Kd.R_base HO669.out k_ e_.symm) hs_) (fun hn_ => Nat.le_trans (keep_size (w := w) (g := g) (row := none) (kB HK.out)) hn_))) (fun k_ hk_ => trivial)); replace HK := aM (Kept.keepG (kB HK.out) hkp (fun k_ hs_ => Or.elim hs_ (fun hs_ => (fun e_ => .inr (Kd.R_base HO669.out k_ e_.symm)) hs_) (fun e_ => .inl e_))); replace HB := aM (hb); clear HO669; clear hb hkp ho0; have hnb10 := NB661_0.out; have hnc10 := NB0_661.out; obtain ⟨⟨hcz11_0, hcz11_1, hcz11_2, hcz11_3⟩, hfz11_0, hfz11_1, hfz11_2, hfz11_3⟩ := cf4 BK661; obtain ⟨Ao12, co12, eo12, _⟩ := Kd.Q_slice HO676.out; subst eo12))
 refine bodyPost_ret (results_cell_row rfl _ _ gb661 24 #[.int .i64 t671, .int .i64 t672, .int .i64 t673, .slice Ao12 t674.length co12] (0, 0) _ rfl (by exact bP BK661.out) Try.underlying24 rfl (by kernel_rfl)) rfl ?_
 exact ⟨_, qX, by (with_reducible repeat (first | apply Kd.Q_alloc | apply Kd.Q_drewN | apply Kd.Q_drew)); exact Kd.Q_mono (qT HO676 BK661) (fun _ hk => trivial), iS67 HI0.out, wS67 HB.out, kB HK.out⟩
def spec_reader_spoil.f (k : Nat) (s0_0 : List Int) (s0_1 : Int) (l1 : List Int) (a2 : Int) : Option (List Int × Int) := (spec_copyInts.f l1).bind fun t678 => ((spec_reader_pick.f k s0_0 s0_1 20).bind fun bt681 => (if bt681.1 = 0 then (if t678.length < 17592186044416 then (some ((t678 ++ [a2]), bt681.2)) else (none)) else (if bt681.1 = 1 then (if (t678.length : Int) > 0 then (if 1 ≤ (t678.length : Int) then (some ((t678.drop (1 : Int).toNat), bt681.2)) else (none)) else (some (t678, bt681.2))) else (if bt681.1 = 2 then (if (t678.length : Int) > 0 then ((spec_reader_pick.f k s0_0 bt681.2 (t678.length : Int)).bind fun bt689 => ((spec_reader_one.f k s0_0 bt689.2 (([(-1), a2, 0, 1] : List Int))).bind fun bt694 => (if 0 ≤ bt689.1 then (if bt689.1 < (t678.length : Int) then (some ((t678.set (bt689.1 : Int).toNat bt694.1), bt694.2)) else (none)) else (none)))) else (some (t678, bt681.2))) else (some (t678, bt681.2))))))
theorem spec_reader_spoil.mono : ∀ a0 a1 a2 a3 k, LeO (spec_reader_spoil.f k a0 a1 a2 a3) (spec_reader_spoil.f (k + 1) a0 a1 a2 a3) := by
 intro a0 a1 a2 a3 k
 unfold spec_reader_spoil.f
 repeat' first | (with_reducible first | exact spec_reader_one.mono _ _ _ _ | exact spec_reader_pick.mono _ _ _ _ | exact lR | exact lN | refine lI ?_ ?_ | refine lB ?_ fun _ => ?_) | exact spec_reader_one.mono _ _ _ _ | exact spec_reader_pick.mono _ _ _ _ | exact lN | refine lI ?_ ?_ | refine lB ?_ fun _ => ?_
set_option maxHeartbeats 8000000 in
set_option maxRecDepth 100000 in
theorem spec_reader_spoil.calls (k : Nat) (g : Nat) (s0_0 : List Int) (s0_1 : Int) (A1 : Option Addr) (c1 : Nat) (l1 : List Int) (a2 : Int) (r1 : List Int) (r2 : Int) (w0 w : World) (hI : IsS67 w0 w g s0_0 s0_1) (hB : Below w0.heap.size w0 w) (hr1 : Kd.C (Kd.int .i64) w A1 l1.length l1) (hc1 : l1.length ≤ c1) (hf1 : ∀ ad, A1 = some ad → 0 < l1.length → ad.block ≠ g) (h : spec_reader_spoil.f k s0_0 s0_1 l1 a2 = some (r1, r2)) :
  Calls Try.prog 50 #[.pointer (some ⟨g, 0, none⟩), .slice A1 l1.length c1, .int .i64 a2] w fun e w' => ∃ v0_ : Value, e = .returned (v0_) ∧ Kd.Q (Kd.int .i64) 3 w' w.heap.size (fun _ => True) v0_ r1 ∧ IsS67 w0 w' g s0_0 r2 ∧ Below w0.heap.size w0 w' ∧ KeepBut w w' g none := by
 have HR1 := aM hr1
 have HC1 := aM hc1
 clear hr1 hc1
 have HI0 := aM hI
 have HK := aM (KeepBut.refl w g none)
 have HL := aM hB.size
 clear hI
 have HW0 := aM hB.size
 have HB := aM hB
 clear hB
 unfold spec_reader_spoil.f at h
 have H := h
 clear h
 replace H := Option.bind_eq_some_iff.mp H
 obtain ⟨t678, A40, H⟩ := H
 replace H : ((spec_reader_pick.f k s0_0 s0_1 20).bind fun bt681 => (if bt681.1 = 0 then (if t678.length < 17592186044416 then (some ((t678 ++ [a2]), bt681.2)) else (none)) else (if bt681.1 = 1 then (if (t678.length : Int) > 0 then (if 1 ≤ (t678.length : Int) then (some ((t678.drop (1 : Int).toNat), bt681.2)) else (none)) else (some (t678, bt681.2))) else (if bt681.1 = 2 then (if (t678.length : Int) > 0 then ((spec_reader_pick.f k s0_0 bt681.2 (t678.length : Int)).bind fun bt689 => ((spec_reader_one.f k s0_0 bt689.2 (([(-1), a2, 0, 1] : List Int))).bind fun bt694 => (if 0 ≤ bt689.1 then (if bt689.1 < (t678.length : Int) then (some ((t678.set (bt689.1 : Int).toNat bt694.1), bt694.2)) else (none)) else (none)))) else (some (t678, bt681.2))) else (some (t678, bt681.2)))))) = some (r1, r2) := H
 have A4 := aM A40
 clear A40
 replace H := Option.bind_eq_some_iff.mp H
 obtain ⟨⟨t681, t682⟩, A50, H⟩ := H
 replace H : (if t681 = 0 then (if t678.length < 17592186044416 then (some ((t678 ++ [a2]), t682)) else (none)) else (if t681 = 1 then (if (t678.length : Int) > 0 then (if 1 ≤ (t678.length : Int) then (some ((t678.drop (1 : Int).toNat), t682)) else (none)) else (some (t678, t682))) else (if t681 = 2 then (if (t678.length : Int) > 0 then ((spec_reader_pick.f k s0_0 t682 (t678.length : Int)).bind fun bt689 => ((spec_reader_one.f k s0_0 bt689.2 (([(-1), a2, 0, 1] : List Int))).bind fun bt694 => (if 0 ≤ bt689.1 then (if bt689.1 < (t678.length : Int) then (some ((t678.set (bt689.1 : Int).toNat bt694.1), bt694.2)) else (none)) else (none)))) else (some (t678, t682))) else (some (t678, t682))))) = some (r1, r2) := H
 have A5 := aM A50
 clear A50
 by_cases c6 : t681 = 0
 ·rw [if_pos c6] at H
  have c6b0 : (t681 == 0) = true := beq_iff_eq.mpr c6
  have c6b1 : (t681 != 0) = false := bne_eq_false_iff_eq.mpr c6
  clear c6
  replace H := iS H
  obtain ⟨c7, H⟩ := H
  have LMc7 := aM c7
  clear c7
  obtain ⟨y683, hy683⟩ : ∃ y_ : List Int, y_ = (t678 ++ [a2]) := ⟨_, rfl⟩
  replace H : (some (y683, t682)) = some (r1, r2) := rY hy683 H
  have Ny683 := aM hy683
  clear hy683
  simp only [Option.some.injEq, Prod.mk.injEq] at H
  obtain ⟨rfl, rfl⟩ := H
  go_enter Try.func50, Try.ntmps50
  go_wp2_with (first | ((with_reducible refine gate_callee (f := 74) rfl ?_); refine gL (some 9) Try.func74 #[.slice A1 l1.length c1] ?_; (with_reducible refine (spec_copyInts.calls _ _ l1 t678 _ ?side1 ?side2 A4.out).mono ?_); (case side1 => exact Kd.C_keep 0 HR1.out (kB HK.out) hf1); (case side2 => exact HC1.out); rintro e w8 ⟨v679, rfl, ho0, hb⟩; refine ⟨_, rfl, ?_⟩; have HO680 := lK ho0 HK; replace HK := aM (KeepBut.trans (kB HK.out) (KeepBut.of_below hb g none) (.inl rfl)); replace HB := aM (below_step (wS67 HB.out) hb); replace HI0 := aM (IsS67.below (iS67 HI0.out) hb); clear hb ho0) | ((with_reducible refine gate_callee (f := 51) rfl ?_); refine gL (some 11) Try.func51 #[.pointer (some ⟨g, 0, none⟩), .int .i64 20] ?_; (with_reducible refine (spec_reader_pick.calls k g s0_0 s0_1 20 t681 t682 w0 _ ?side1 ?side2 A5.out).mono ?_); (case side1 => exact iS67 HI0.out); (case side2 => exact wS67 HB.out); rintro e w9 ⟨rfl, hi, hb, hk⟩; refine ⟨_, rfl, ?_⟩; replace HO680 := aM (Kd.R_mono (Kd.R_keep (IsS67.apart (show IsS67 w0 _ g s0_0 s0_1 from iS67 HI0.out) (qR HO680.out) (by decide)) hk (fun _ h => h.2)) (fun _ h => h.1)); replace HK := aM (KeepBut.trans (kB HK.out) hk (.inl rfl)); replace HB := aM (hb); replace HI0 := aM (hi); clear hb hk hi) | ((with_reducible refine gate_builtin (b := .append) (xs := #[.tmp 14, .tmp 16]) rfl ?_); at_builtin; refine Kd.R_append (Kd.int .i64) w.heap.size rfl (.tmp 14) (.tmp 16) 22 3 (.int .i64 0) 8 rfl Try.underlying22 info3 rfl (by decide) (by omega) v679 t678 a2 [.int .i64 a2] (fun _ => True) (fun _ => False) rfl rfl ?aP (fun _ hk => hk.elim) ?aF ?aO (Below.refl _ _) ?aS ?aL ?_; (case aP => exact rfl); (case aF => exact (fun _ _ => trivial)); (case aO => exact (qR HO680.out)); (case aS => exact (keep_size (w := w) (g := g) (row := none) (kB HK.out))); (case aL => have := LMc7.out; omega); intro v684 w10 ho hb hg hat; rw [← Ny683.out] at ho; replace HB := aM (below_weaken (wS67 HB.out) HL.out hb); replace HI0 := aM (IsS67.grown (iS67 HI0.out) hg (IsS67.own_ne HI0.out HO680.out (by decide))); replace HK := aM (KeepBut.trans (kB HK.out) (KeepBut.of_grown hg g) (Kd.R_base2 HO680.out)); have HO685 := aM (ho); clear HO680; clear ho hb hg hat))
  go_ret
  exact ⟨_, qX, Kd.Q_of_R (qR HO685.out), iS67 HI0.out, wS67 HB.out, kB HK.out⟩
 rw [if_neg c6] at H
 have c6b0 : (t681 == 0) = false := beq_eq_false_iff_ne.mpr c6
 have c6b1 : (t681 != 0) = true := bne_iff_ne.mpr c6
 by_cases c11 : t681 = 1
 ·rw [if_pos c11] at H
  have c11b0 : (t681 == 1) = true := beq_iff_eq.mpr c11
  have c11b1 : (t681 != 1) = false := bne_eq_false_iff_eq.mpr c11
  clear c11
  by_cases c12 : (t678.length : Int) > 0
  rotate_left
  ·rw [if_neg c12] at H
   have c12b0 : decide (0 < (t678.length : Int)) = false := decide_eq_false c12
   have c12b1 : decide (0 < t678.length) = false := decide_eq_false (by omega)
   clear c12
   simp only [Option.some.injEq, Prod.mk.injEq] at H
   obtain ⟨rfl, rfl⟩ := H
   go_enter Try.func50, Try.ntmps50
   go_wp2_with (first | ((with_reducible refine gate_callee (f := 74) rfl ?_); refine gL (some 9) Try.func74 #[.slice A1 l1.length c1] ?_; (with_reducible refine (spec_copyInts.calls _ _ l1 t678 _ ?side1 ?side2 A4.out).mono ?_); (case side1 => exact Kd.C_keep 0 HR1.out (kB HK.out) hf1); (case side2 => exact HC1.out); rintro e w18 ⟨v679, rfl, ho0, hb⟩; refine ⟨_, rfl, ?_⟩; have HO680 := lK ho0 HK; replace HK := aM (KeepBut.trans (kB HK.out) (KeepBut.of_below hb g none) (.inl rfl)); replace HB := aM (below_step (wS67 HB.out) hb); replace HI0 := aM (IsS67.below (iS67 HI0.out) hb); clear hb ho0) | ((with_reducible refine gate_callee (f := 51) rfl ?_); refine gL (some 11) Try.func51 #[.pointer (some ⟨g, 0, none⟩), .int .i64 20] ?_; (with_reducible refine (spec_reader_pick.calls k g s0_0 s0_1 20 t681 t682 w0 _ ?side1 ?side2 A5.out).mono ?_); (case side1 => exact iS67 HI0.out); (case side2 => exact wS67 HB.out); rintro e w19 ⟨rfl, hi, hb, hk⟩; refine ⟨_, rfl, ?_⟩; replace HO680 := aM (Kd.R_mono (Kd.R_keep (IsS67.apart (show IsS67 w0 _ g s0_0 s0_1 from iS67 HI0.out) (qR HO680.out) (by decide)) hk (fun _ h => h.2)) (fun _ h => h.1)); replace HK := aM (KeepBut.trans (kB HK.out) hk (.inl rfl)); replace HB := aM (hb); replace HI0 := aM (hi); clear hb hk hi; obtain ⟨Ao20, co20, rfl⟩ := sL HO680))
   go_ret
   exact ⟨_, qX, Kd.Q_of_R (qR HO680.out), iS67 HI0.out, wS67 HB.out, kB HK.out⟩
  rw [if_pos c12] at H
  have c12b0 : decide (0 < (t678.length : Int)) = true := decide_eq_true c12
  have c12b1 : decide (0 < t678.length) = true := decide_eq_true (by omega)
  clear c12
  replace H := iS H
  obtain ⟨c13, H⟩ := H
  have c13b0 := eq_true c13
  have c13b1 : decide (1 ≤ (t678.length : Int)) = true := decide_eq_true c13
  clear c13
  obtain ⟨y686, hy686⟩ : ∃ y_ : List Int, y_ = (t678.drop (1 : Int).toNat) := ⟨_, rfl⟩
  replace H : (some (y686, t682)) = some (r1, r2) := rY hy686 H
  have Ny686 := aM hy686
  clear hy686
  simp only [Option.some.injEq, Prod.mk.injEq] at H
  obtain ⟨rfl, rfl⟩ := H
  go_enter Try.func50, Try.ntmps50
  go_wp2_with (first | ((with_reducible refine gate_callee (f := 74) rfl ?_); refine gL (some 9) Try.func74 #[.slice A1 l1.length c1] ?_; (with_reducible refine (spec_copyInts.calls _ _ l1 t678 _ ?side1 ?side2 A4.out).mono ?_); (case side1 => exact Kd.C_keep 0 HR1.out (kB HK.out) hf1); (case side2 => exact HC1.out); rintro e w14 ⟨v679, rfl, ho0, hb⟩; refine ⟨_, rfl, ?_⟩; have HO680 := lK ho0 HK; replace HK := aM (KeepBut.trans (kB HK.out) (KeepBut.of_below hb g none) (.inl rfl)); replace HB := aM (below_step (wS67 HB.out) hb); replace HI0 := aM (IsS67.below (iS67 HI0.out) hb); clear hb ho0) | ((with_reducible refine gate_callee (f := 51) rfl ?_); refine gL (some 11) Try.func51 #[.pointer (some ⟨g, 0, none⟩), .int .i64 20] ?_; (with_reducible refine (spec_reader_pick.calls k g s0_0 s0_1 20 t681 t682 w0 _ ?side1 ?side2 A5.out).mono ?_); (case side1 => exact iS67 HI0.out); (case side2 => exact wS67 HB.out); rintro e w15 ⟨rfl, hi, hb, hk⟩; refine ⟨_, rfl, ?_⟩; replace HO680 := aM (Kd.R_mono (Kd.R_keep (IsS67.apart (show IsS67 w0 _ g s0_0 s0_1 from iS67 HI0.out) (qR HO680.out) (by decide)) hk (fun _ h => h.2)) (fun _ h => h.1)); replace HK := aM (KeepBut.trans (kB HK.out) hk (.inl rfl)); replace HB := aM (hb); replace HI0 := aM (hi); clear hb hk hi; obtain ⟨Ao16, co16, rfl⟩ := sL HO680; have q17 : (1 : Int) ≤ ((t678.length : Int) : Int) := oD; obtain ⟨i017, hi017, _, hsz17, _⟩ := info_parts info3; have hcut17 := cut_from (P := Try.prog) 22 3 .i64 Try.underlying22 hi017 1 hsz17 Ao16 t678.length co16 1 (by omega) q17; have hr17 := Kd.Q_drop (k := (1 : Int).toNat) (Kd.Q_of_R HO680.out) (by omega); obtain ⟨A17, hA17⟩ : ∃ A1, A1 = (if co16 = (1 : Int).toNat then Ao16 else (Ao16 : Option Addr).map (·.add ((1 : Int).toNat * 1))) := ⟨_, rfl⟩; obtain ⟨c17, hc17⟩ : ∃ c1, c1 = co16 - (1 : Int).toNat := ⟨_, rfl⟩; have hy17 : y686.length = t678.length - (1 : Int).toNat := (by rw [Ny686.out, List.length_drop]); rw [← Ny686.out] at hr17; rw [← hy17, ← hA17, ← hc17] at hcut17; replace hr17 : Kd.Q (Kd.int .i64) 3 w15 w.heap.size (fun _ => True) (.slice A17 y686.length c17) y686 := (by rw [hA17, hc17, hy17]; exact hr17); have HE17 : Aside0 ((Value.slice A17 y686.length c17).ownBlock = (.slice Ao16 t678.length co16 : Value).ownBlock) := ⟨by rw [hA17]; split <;> (cases (Ao16 : Option Addr) <;> rfl)⟩; clear hy17 hi017 hsz17 HO680 hA17 hc17; have HO688 := aM hr17; clear hr17; replace q17 := eq_true q17))
  go_ret
  exact ⟨_, qX, by (with_reducible repeat (first | apply Kd.Q_alloc | apply Kd.Q_drewN | apply Kd.Q_drew)); exact HO688.out, iS67 HI0.out, wS67 HB.out, kB HK.out⟩
 rw [if_neg c11] at H
 have c11b0 : (t681 == 1) = false := beq_eq_false_iff_ne.mpr c11
 have c11b1 : (t681 != 1) = true := bne_iff_ne.mpr c11
 by_cases c21 : t681 = 2
 rotate_left
 ·rw [if_neg c21] at H
  have c21b0 : (t681 == 2) = false := beq_eq_false_iff_ne.mpr c21
  have c21b1 : (t681 != 2) = true := bne_iff_ne.mpr c21
  simp only [Option.some.injEq, Prod.mk.injEq] at H
  obtain ⟨rfl, rfl⟩ := H
  go_enter Try.func50, Try.ntmps50
  go_wp2_with (first | ((with_reducible refine gate_callee (f := 74) rfl ?_); refine gL (some 9) Try.func74 #[.slice A1 l1.length c1] ?_; (with_reducible refine (spec_copyInts.calls _ _ l1 t678 _ ?side1 ?side2 A4.out).mono ?_); (case side1 => exact Kd.C_keep 0 HR1.out (kB HK.out) hf1); (case side2 => exact HC1.out); rintro e w41 ⟨v679, rfl, ho0, hb⟩; refine ⟨_, rfl, ?_⟩; have HO680 := lK ho0 HK; replace HK := aM (KeepBut.trans (kB HK.out) (KeepBut.of_below hb g none) (.inl rfl)); replace HB := aM (below_step (wS67 HB.out) hb); replace HI0 := aM (IsS67.below (iS67 HI0.out) hb); clear hb ho0) | ((with_reducible refine gate_callee (f := 51) rfl ?_); refine gL (some 11) Try.func51 #[.pointer (some ⟨g, 0, none⟩), .int .i64 20] ?_; (with_reducible refine (spec_reader_pick.calls k g s0_0 s0_1 20 t681 t682 w0 _ ?side1 ?side2 A5.out).mono ?_); (case side1 => exact iS67 HI0.out); (case side2 => exact wS67 HB.out); rintro e w42 ⟨rfl, hi, hb, hk⟩; refine ⟨_, rfl, ?_⟩; replace HO680 := aM (Kd.R_mono (Kd.R_keep (IsS67.apart (show IsS67 w0 _ g s0_0 s0_1 from iS67 HI0.out) (qR HO680.out) (by decide)) hk (fun _ h => h.2)) (fun _ h => h.1)); replace HK := aM (KeepBut.trans (kB HK.out) hk (.inl rfl)); replace HB := aM (hb); replace HI0 := aM (hi); clear hb hk hi))
  go_ret
  exact ⟨_, qX, Kd.Q_of_R (qR HO680.out), iS67 HI0.out, wS67 HB.out, kB HK.out⟩
 rw [if_pos c21] at H
 have c21b0 : (t681 == 2) = true := beq_iff_eq.mpr c21
 have c21b1 : (t681 != 2) = false := bne_eq_false_iff_eq.mpr c21
 clear c21
 by_cases c22 : (t678.length : Int) > 0
 rotate_left
 ·rw [if_neg c22] at H
  have c22b0 : decide (0 < (t678.length : Int)) = false := decide_eq_false c22
  have c22b1 : decide (0 < t678.length) = false := decide_eq_false (by omega)
  clear c22
  simp only [Option.some.injEq, Prod.mk.injEq] at H
  obtain ⟨rfl, rfl⟩ := H
  go_enter Try.func50, Try.ntmps50
  go_wp2_with (first | ((with_reducible refine gate_callee (f := 74) rfl ?_); refine gL (some 9) Try.func74 #[.slice A1 l1.length c1] ?_; (with_reducible refine (spec_copyInts.calls _ _ l1 t678 _ ?side1 ?side2 A4.out).mono ?_); (case side1 => exact Kd.C_keep 0 HR1.out (kB HK.out) hf1); (case side2 => exact HC1.out); rintro e w38 ⟨v679, rfl, ho0, hb⟩; refine ⟨_, rfl, ?_⟩; have HO680 := lK ho0 HK; replace HK := aM (KeepBut.trans (kB HK.out) (KeepBut.of_below hb g none) (.inl rfl)); replace HB := aM (below_step (wS67 HB.out) hb); replace HI0 := aM (IsS67.below (iS67 HI0.out) hb); clear hb ho0) | ((with_reducible refine gate_callee (f := 51) rfl ?_); refine gL (some 11) Try.func51 #[.pointer (some ⟨g, 0, none⟩), .int .i64 20] ?_; (with_reducible refine (spec_reader_pick.calls k g s0_0 s0_1 20 t681 t682 w0 _ ?side1 ?side2 A5.out).mono ?_); (case side1 => exact iS67 HI0.out); (case side2 => exact wS67 HB.out); rintro e w39 ⟨rfl, hi, hb, hk⟩; refine ⟨_, rfl, ?_⟩; replace HO680 := aM (Kd.R_mono (Kd.R_keep (IsS67.apart (show IsS67 w0 _ g s0_0 s0_1 from iS67 HI0.out) (qR HO680.out) (by decide)) hk (fun _ h => h.2)) (fun _ h => h.1)); replace HK := aM (KeepBut.trans (kB HK.out) hk (.inl rfl)); replace HB := aM (hb); replace HI0 := aM (hi); clear hb hk hi; obtain ⟨Ao40, co40, rfl⟩ := sL HO680))
  go_ret
  exact ⟨_, qX, Kd.Q_of_R (qR HO680.out), iS67 HI0.out, wS67 HB.out, kB HK.out⟩
 rw [if_pos c22] at H
 have c22b0 : decide (0 < (t678.length : Int)) = true := decide_eq_true c22
 have c22b1 : decide (0 < t678.length) = true := decide_eq_true (by omega)
 clear c22
 replace H := Option.bind_eq_some_iff.mp H
 obtain ⟨⟨t689, t690⟩, A230, H⟩ := H
 replace H : ((spec_reader_one.f k s0_0 t690 (([(-1), a2, 0, 1] : List Int))).bind fun bt694 => (if 0 ≤ t689 then (if t689 < (t678.length : Int) then (some ((t678.set (t689 : Int).toNat bt694.1), bt694.2)) else (none)) else (none))) = some (r1, r2) := H
 have A23 := aM A230
 clear A230
 obtain ⟨y691, hy691⟩ : ∃ y_ : List Int, y_ = (([(-1), a2, 0, 1] : List Int)) := ⟨_, rfl⟩
 replace H : ((spec_reader_one.f k s0_0 t690 y691).bind fun bt694 => (if 0 ≤ t689 then (if t689 < (t678.length : Int) then (some ((t678.set (t689 : Int).toNat bt694.1), bt694.2)) else (none)) else (none))) = some (r1, r2) := rY hy691 H
 have Ny691 := aM hy691
 clear hy691
 replace H := Option.bind_eq_some_iff.mp H
 obtain ⟨⟨t694, t695⟩, A240, H⟩ := H
 replace H : (if 0 ≤ t689 then (if t689 < (t678.length : Int) then (some ((t678.set (t689 : Int).toNat t694), t695)) else (none)) else (none)) = some (r1, r2) := H
 have A24 := aM A240
 clear A240
 replace H := iD H
 obtain ⟨c25b0, H⟩ := H
 replace H := iD H
 obtain ⟨c26b0, H⟩ := H
 obtain ⟨y696, hy696⟩ : ∃ y_ : List Int, y_ = (t678.set (t689 : Int).toNat t694) := ⟨_, rfl⟩
 replace H : (some (y696, t695)) = some (r1, r2) := rY hy696 H
 have Ny696 := aM hy696
 clear hy696
 simp only [Option.some.injEq, Prod.mk.injEq] at H
 obtain ⟨rfl, rfl⟩ := H
 go_enter Try.func50, Try.ntmps50
 go_wp2_with (first | ((with_reducible refine gate_callee (f := 74) rfl ?_); refine gL (some 9) Try.func74 #[.slice A1 l1.length c1] ?_; (with_reducible refine (spec_copyInts.calls _ _ l1 t678 _ ?side1 ?side2 A4.out).mono ?_); (case side1 => exact Kd.C_keep 0 HR1.out (kB HK.out) hf1); (case side2 => exact HC1.out); rintro e w28 ⟨v679, rfl, ho0, hb⟩; refine ⟨_, rfl, ?_⟩; have HO680 := lK ho0 HK; replace HK := aM (KeepBut.trans (kB HK.out) (KeepBut.of_below hb g none) (.inl rfl)); replace HB := aM (below_step (wS67 HB.out) hb); replace HI0 := aM (IsS67.below (iS67 HI0.out) hb); clear hb ho0) | ((with_reducible refine gate_callee (f := 51) rfl ?_); refine gL (some 11) Try.func51 #[.pointer (some ⟨g, 0, none⟩), .int .i64 20] ?_; (with_reducible refine (spec_reader_pick.calls k g s0_0 s0_1 20 t681 t682 w0 _ ?side1 ?side2 A5.out).mono ?_); (case side1 => exact iS67 HI0.out); (case side2 => exact wS67 HB.out); rintro e w29 ⟨rfl, hi, hb, hk⟩; refine ⟨_, rfl, ?_⟩; replace HO680 := aM (Kd.R_mono (Kd.R_keep (IsS67.apart (show IsS67 w0 _ g s0_0 s0_1 from iS67 HI0.out) (qR HO680.out) (by decide)) hk (fun _ h => h.2)) (fun _ h => h.1)); replace HK := aM (KeepBut.trans (kB HK.out) hk (.inl rfl)); replace HB := aM (hb); replace HI0 := aM (hi); clear hb hk hi; obtain ⟨Ao30, co30, rfl⟩ := sL HO680) | ((with_reducible refine gate_callee (f := 51) rfl ?_); refine gL (some 34) Try.func51 #[.pointer (some ⟨g, 0, none⟩), .int .i64 (t678.length : Int)] ?_; (with_reducible refine (spec_reader_pick.calls k g s0_0 t682 (t678.length : Int) t689 t690 w0 _ ?side1 ?side2 A23.out).mono ?_); (case side1 => exact iS67 HI0.out); (case side2 => exact wS67 HB.out); rintro e w31 ⟨rfl, hi, hb, hk⟩; refine ⟨_, rfl, ?_⟩; replace HO680 := aM (Kd.R_mono (Kd.R_keep (IsS67.apart (show IsS67 w0 _ g s0_0 t682 from iS67 HI0.out) (qR HO680.out) (by decide)) hk (fun _ h => h.2)) (fun _ h => h.1)); replace HK := aM (KeepBut.trans (kB HK.out) hk (.inl rfl)); replace HB := aM (hb); replace HI0 := aM (hi); clear hb hk hi) | ((with_reducible refine gate_dst (N := 37) rfl ?_); refine iL ([(-1), a2, 0, 1] : List Int) [.int .i64 (-1), .int .i64 a2, .int .i64 0, .int .i64 1] ?_; intro v692 w32 ho33 hb hg_ hnew_; clear hg_ hnew_; (first | rw [← Ny691.out] at ho33 | (simp only [Int.reduceToNat] at ho33; rw [← Ny691.out] at ho33)); have HO693 := aM (Kd.R_lower (Kd.R_new' ho33 (Kd.R_lt (qR HO680.out))) (keep_size (w := w) (g := g) (row := none) (kB HK.out))); replace HO680 := aM (Kd.R_elder' (qR HO680.out) (Kd.R_base ho33) hb); replace HK := aM (KeepBut.trans (kB HK.out) (KeepBut.of_below hb g none) (.inl rfl)); replace HB := aM (below_step (wS67 HB.out) hb); replace HI0 := aM (IsS67.below (iS67 HI0.out) hb); clear hb ho33; obtain ⟨Ao34, co34, rfl⟩ := sL HO693) | ((with_reducible refine gate_callee (f := 58) rfl ?_); refine gL (some 38) Try.func58 #[.pointer (some ⟨g, 0, none⟩), .slice Ao34 y691.length co34] ?_; (with_reducible refine (spec_reader_one.calls k g s0_0 t690 _ _ y691 t694 t695 w0 _ ?side1 ?side2 ?side3 ?side4 ?side5 A24.out).mono ?_); (case side1 => exact iS67 HI0.out); (case side2 => exact wS67 HB.out); (case side3 => exact qC (Kd.R_reads' HO693.out).2.2); (case side4 => exact (Kd.R_reads' HO693.out).2.1); (case side5 => exact far_slice (IsS67.own_ne HI0.out HO693.out (by decide))); rintro e w35 ⟨rfl, hi, hb, hk⟩; refine ⟨_, rfl, ?_⟩; replace HO680 := aM (Kd.R_mono (Kd.R_keep (IsS67.apart (show IsS67 w0 _ g s0_0 t690 from iS67 HI0.out) (qR HO680.out) (by decide)) hk (fun _ h => h.2)) (fun _ h => h.1)); replace HO693 := aM (Kd.R_mono (Kd.R_keep (IsS67.apart (show IsS67 w0 _ g s0_0 t690 from iS67 HI0.out) (qR HO693.out) (by decide)) hk (fun _ h => h.2)) (fun _ h => h.1)); replace HK := aM (KeepBut.trans (kB HK.out) hk (.inl rfl)); replace HB := aM (hb); replace HI0 := aM (hi); clear hb hk hi; have p27 : 0 ≤ (t689 : Int) := oD; have q27 : (t689 : Int) < ((t678.length : Int) : Int) := oD; obtain ⟨go27, co27, eo27, gb27, gl27, cl27, HG27⟩ := Kd.R_form HO680.out (by omega); (first | cases eo27 | (injection eo27 with ea_ en_ ec_; (first | subst ea_ | (injection ea_ with ea_; subst ea_)); subst ec_; clear en_)); have GB27 := aM gb27; have GG27 := aM HG27; clear gb27 gl27 HG27; obtain ⟨hx27_0, hf27_0⟩ := Kd.R_celln 0 HO680.out (t689 : Int) p27 q27; replace p27 := eq_true p27; replace q27 := eq_true q27; have n_ := aM (Kd.R_mono (ok' := (fun k_ => some k_ ≠ (.slice Ao34 y691.length co34 : Value).ownBlock)) HO680.out (fun k_ hk => hk.2)); clear HO680; have HO680 := n_; clear n_; obtain ⟨hy36_, hz36_⟩ := Kd.R_celln 0 HO680.out (t689 : Int) oD oD; have HP36 := Kd.R_putg HO680.out (t689 : Int) t694) | ((with_reducible refine gate_store (t := 3) (p := 39) rfl ?_); refine store_event (t := 3) (p := 39) (v := ?vo_w37) (w1 := (w35.setCell ⟨go27, (t689 : Int).toNat, none⟩ (.int .i64 t694))) ?hg ?ho ?hn ?hr ?_; (case ho => rfl); (case hg => rfl); (case hn => rfl); (case hr => first | (go_simp; done) | (go_simp; rfl)); intro w37 hw; have hg : w35.grownBy w37 (some go27) := (by rw [hw]; exact HP36.2); have hp_ : Kd.R (Kd.int .i64) 3 w37 w.heap.size (fun k_ => some k_ ≠ (.slice Ao34 y691.length co34 : Value).ownBlock) (.slice (some ⟨go27, 0, none⟩) t678.length co30) y696 := (by rw [hw, Ny696.out]; exact HP36.1); clear HP36; replace HI0 := aM (IsS67.grown (iS67 HI0.out) hg (IsS67.own_ne HI0.out HO680.out (by decide))); replace HO693 := aM (Kd.R_after (v := (.slice (some ⟨go27, 0, none⟩) t678.length co30)) (v1 := (.slice (some ⟨go27, 0, none⟩) t678.length co30)) (ok := (fun _ => True)) (qR HO693.out) hg (.inl rfl)); replace HB := aM ((by rw [hw]; exact below_set (HB.out) (Nat.le_trans HL.out GB27.out) : Below w0.heap.size w0 w37)); replace HK := aM (KeepBut.trans (kB HK.out) (KeepBut.of_grown hg g) (Kd.R_base2 HO680.out)); replace HO680 := aM (hp_); clear hg hw hp_))
 go_ret
 exact ⟨_, qX, Kd.Q_of_R (by refine qR ?_; exact Kd.R_mono HO680.out (fun _ hk => trivial)), iS67 HI0.out, wS67 HB.out, kB HK.out⟩
def spec_DrawReadImage.f (k : Nat) (l0 : List Int) : Option (List Int) := (spec_newReader.f l0).bind fun bt697 => ((spec_anyImage.f k bt697.1 bt697.2).bind fun bt700 => ((spec_WriteImage.f k bt700.1 bt700.2.1 bt700.2.2.1 bt700.2.2.2.1).bind fun bt707 => ((spec_reader_pick.f k bt697.1 bt700.2.2.2.2 256).bind fun bt711 => ((spec_reader_spoil.f k bt697.1 bt711.2 bt707.1 bt711.1).bind fun bt713 => (some bt713.1)))))
theorem spec_DrawReadImage.mono : ∀ a0 k, LeO (spec_DrawReadImage.f k a0) (spec_DrawReadImage.f (k + 1) a0) := by
 intro a0 k
 unfold spec_DrawReadImage.f
 repeat' first | (with_reducible first | exact spec_WriteImage.mono _ _ _ _ _ | exact spec_anyImage.mono _ _ _ | exact spec_reader_pick.mono _ _ _ _ | exact spec_reader_spoil.mono _ _ _ _ _ | exact lR | exact lN | refine lI ?_ ?_ | refine lB ?_ fun _ => ?_) | exact spec_WriteImage.mono _ _ _ _ _ | exact spec_anyImage.mono _ _ _ | exact spec_reader_pick.mono _ _ _ _ | exact spec_reader_spoil.mono _ _ _ _ _ | exact lN | refine lI ?_ ?_ | refine lB ?_ fun _ => ?_
set_option maxHeartbeats 8000000 in
set_option maxRecDepth 100000 in
theorem spec_DrawReadImage.calls (k : Nat) (A0 : Option Addr) (c0 : Nat) (l0 : List Int) (r : List Int) (w : World) (hr0 : Kd.C (Kd.int .u8) w A0 l0.length l0) (hc0 : l0.length ≤ c0) (h : spec_DrawReadImage.f k l0 = some r) :
  Calls Try.prog 20 #[.slice A0 l0.length c0] w fun e w' => ∃ v0_ : Value, e = .returned (v0_) ∧ Kd.Q (Kd.int .i64) 3 w' w.heap.size (fun _ => True) v0_ r ∧ Below w.heap.size w w' := by
 have HR0 := aM hr0
 have HC0 := aM hc0
 clear hr0 hc0
 have HB := aM (Below.refl w.heap.size w)
 unfold spec_DrawReadImage.f at h
 have H := h
 clear h
 replace H := Option.bind_eq_some_iff.mp H
 obtain ⟨⟨t697, t698⟩, A20, H⟩ := H
 replace H : ((spec_anyImage.f k t697 t698).bind fun bt700 => ((spec_WriteImage.f k bt700.1 bt700.2.1 bt700.2.2.1 bt700.2.2.2.1).bind fun bt707 => ((spec_reader_pick.f k t697 bt700.2.2.2.2 256).bind fun bt711 => ((spec_reader_spoil.f k t697 bt711.2 bt707.1 bt711.1).bind fun bt713 => (some bt713.1))))) = some r := H
 have A2 := aM A20
 clear A20
 replace H := Option.bind_eq_some_iff.mp H
 obtain ⟨⟨t700, t701, t702, t703, t706⟩, A30, H⟩ := H
 replace H : ((spec_WriteImage.f k t700 t701 t702 t703).bind fun bt707 => ((spec_reader_pick.f k t697 t706 256).bind fun bt711 => ((spec_reader_spoil.f k t697 bt711.2 bt707.1 bt711.1).bind fun bt713 => (some bt713.1)))) = some r := H
 have A3 := aM A30
 clear A30
 replace H := Option.bind_eq_some_iff.mp H
 obtain ⟨⟨t707, t710⟩, A40, H⟩ := H
 replace H : ((spec_reader_pick.f k t697 t706 256).bind fun bt711 => ((spec_reader_spoil.f k t697 bt711.2 t707 bt711.1).bind fun bt713 => (some bt713.1))) = some r := H
 have A4 := aM A40
 clear A40
 replace H := Option.bind_eq_some_iff.mp H
 obtain ⟨⟨t711, t712⟩, A50, H⟩ := H
 replace H : ((spec_reader_spoil.f k t697 t712 t707 t711).bind fun bt713 => (some bt713.1)) = some r := H
 have A5 := aM A50
 clear A50
 replace H := Option.bind_eq_some_iff.mp H
 obtain ⟨⟨t713, t716⟩, A60, H⟩ := H
 replace H : (some t713) = some r := H
 have A6 := aM A60
 clear A60
 obtain rfl := Option.some.inj H
 go_enter Try.func20, Try.ntmps20
 go_wp2_with (first | ((with_reducible refine gate_callee (f := 48) rfl ?_); refine gL (some 7) Try.func48 #[.slice A0 l0.length c0] ?_; (with_reducible refine (spec_newReader.calls _ _ l0 t697 t698 w _ ?side1 ?side2 ?side3 A2.out).mono ?_); (case side1 => exact qW HB.out); (case side2 => exact HR0.out); (case side3 => exact HC0.out); rintro e w7 ⟨g699, rfl, hi, hb, hb2⟩; refine ⟨_, rfl, ?_⟩; replace HB := aM (hb); have HI699 := aM (hi); clear hb hb2 hi) | ((with_reducible refine gate_callee (f := 49) rfl ?_); refine gL (some 10) Try.func49 #[.pointer (some ⟨g699, 0, none⟩)] ?_; (with_reducible refine (spec_anyImage.calls k g699 t697 t698 t700 t701 t702 t703 t706 w _ ?side1 ?side2 A3.out).mono ?_); (case side1 => exact iS67 HI699.out); (case side2 => exact wS67 HB.out); rintro e w8 ⟨v704, rfl, ho0, hi, hb, hk⟩; refine ⟨_, rfl, ?_⟩; have HO705 := aM (Kd.Q_lower ho0 (below_size (wS67 HB.out))); replace HB := aM (hb); replace HI699 := aM (hi); clear hb hk hi ho0; obtain ⟨Ao9, co9, eo9, _⟩ := Kd.Q_slice HO705.out; subst eo9) | ((with_reducible refine gate_callee (f := 34) rfl ?_); refine gL (some 11) Try.func34 #[.agg #[.int .i64 t700, .int .i64 t701, .int .i64 t702, .slice Ao9 t703.length co9]] ?_; (with_reducible refine (spec_WriteImage.calls k t700 t701 t702 _ _ t703 t707 t710 _ ?side1 ?side2 A4.out).mono ?_); (case side1 => exact qC (Kd.Q_reads' HO705.out).2.2); (case side2 => exact (Kd.Q_reads' HO705.out).2.1); rintro e w10 ⟨v708, rfl, ho0, hb⟩; refine ⟨_, rfl, ?_⟩; have HO709 := aM (Kd.R_lower (Kd.R_new' ho0 (Kd.Q_lt (qQ HO705.out))) (below_size (wS67 HB.out))); replace HO705 := aM (Kd.Q_elder' (qQ HO705.out) (Kd.R_base ho0) hb); replace HB := aM (below_step (wS67 HB.out) hb); replace HI699 := aM (IsS67.below (iS67 HI699.out) hb); clear hb ho0) | ((with_reducible refine gate_callee (f := 51) rfl ?_); refine gL (some 17) Try.func51 #[.pointer (some ⟨g699, 0, none⟩), .int .i64 256] ?_; (with_reducible refine (spec_reader_pick.calls k g699 t697 t706 256 t711 t712 w _ ?side1 ?side2 A5.out).mono ?_); (case side1 => exact iS67 HI699.out); (case side2 => exact wS67 HB.out); rintro e w11 ⟨rfl, hi, hb, hk⟩; refine ⟨_, rfl, ?_⟩; replace HO705 := aM (Kd.Q_mono (Kd.Q_keep (IsS67.apartQ (show IsS67 w _ g699 t697 t706 from iS67 HI699.out) (qQ HO705.out) (by decide)) hk (fun _ h => h.2)) (fun _ h => h.1)); replace HO709 := aM (Kd.R_mono (Kd.R_keep (IsS67.apart (show IsS67 w _ g699 t697 t706 from iS67 HI699.out) (qR HO709.out) (by decide)) hk (fun _ h => h.2)) (fun _ h => h.1)); replace HB := aM (hb); replace HI699 := aM (hi); clear hb hk hi; obtain ⟨Ao12, co12, rfl⟩ := sL HO709) | ((with_reducible refine gate_callee (f := 50) rfl ?_); refine gL (some 18) Try.func50 #[.pointer (some ⟨g699, 0, none⟩), .slice Ao12 t707.length co12, .int .i64 t711] ?_; (with_reducible refine (spec_reader_spoil.calls k g699 t697 t712 _ _ t707 t711 t713 t716 w _ ?side1 ?side2 ?side3 ?side4 ?side5 A6.out).mono ?_); (case side1 => exact iS67 HI699.out); (case side2 => exact wS67 HB.out); (case side3 => exact qC (Kd.R_reads' HO709.out).2.2); (case side4 => exact (Kd.R_reads' HO709.out).2.1); (case side5 => exact far_slice (IsS67.own_ne HI699.out HO709.out (by decide))); rintro e w13 ⟨v714, rfl, ho0, hi, hb, hk⟩; refine ⟨_, rfl, ?_⟩; have HO715 := aM (Kd.Q_lower (Kd.Q_new' (Kd.Q_new' ho0 (Kd.Q_lt (qQ HO705.out))) (Kd.R_lt (qR HO709.out))) (below_size (wS67 HB.out))); replace HO705 := aM (Kd.Q_mono (Kd.Q_told (Kd.Q_oldK (IsS67.apartQ (show IsS67 w _ g699 t697 t712 from iS67 HI699.out) (qQ HO705.out) (by decide)) hk) (Kd.Q_base ho0)) (fun _ h_ => h_.1)); replace HO709 := aM (Kd.R_mono (Kd.R_told (Kd.R_oldK (IsS67.apart (show IsS67 w _ g699 t697 t712 from iS67 HI699.out) (qR HO709.out) (by decide)) hk) (Kd.Q_base ho0)) (fun _ h_ => h_.1)); replace HB := aM (hb); replace HI699 := aM (hi); clear hb hk hi ho0))
 go_ret
 exact ⟨_, qX, by (with_reducible repeat (first | apply Kd.Q_alloc | apply Kd.Q_drewN | apply Kd.Q_drew)); exact Kd.Q_mono HO715.out (fun _ hk => trivial), wS67 HB.out⟩
def spec_DrawWriteImage.f (k : Nat) (l0 : List Int) : Option (Int × Int × Int × List Int) := (spec_newReader.f l0).bind fun bt1113 => ((spec_anyImage.f k bt1113.1 bt1113.2).bind fun bt1116 => (some (bt1116.1, bt1116.2.1, bt1116.2.2.1, bt1116.2.2.2.1)))
theorem spec_DrawWriteImage.mono : ∀ a0 k, LeO (spec_DrawWriteImage.f k a0) (spec_DrawWriteImage.f (k + 1) a0) := by
 intro a0 k
 unfold spec_DrawWriteImage.f
 repeat' first | (with_reducible first | exact spec_anyImage.mono _ _ _ | exact lR | exact lN | refine lI ?_ ?_ | refine lB ?_ fun _ => ?_) | exact spec_anyImage.mono _ _ _ | exact lN | refine lI ?_ ?_ | refine lB ?_ fun _ => ?_
set_option maxHeartbeats 8000000 in
set_option maxRecDepth 100000 in
theorem spec_DrawWriteImage.calls (k : Nat) (A0 : Option Addr) (c0 : Nat) (l0 : List Int) (r1 : Int) (r2 : Int) (r3 : Int) (r4 : List Int) (w : World) (hr0 : Kd.C (Kd.int .u8) w A0 l0.length l0) (hc0 : l0.length ≤ c0) (h : spec_DrawWriteImage.f k l0 = some (r1, r2, r3, r4)) :
  Calls Try.prog 35 #[.slice A0 l0.length c0] w fun e w' => ∃ v3_ : Value, e = .returned (.agg #[.int .i64 r1, .int .i64 r2, .int .i64 r3, v3_]) ∧ Kd.Q (Kd.int .i64) 3 w' w.heap.size (fun _ => True) v3_ r4 ∧ Below w.heap.size w w' := by
 have hu24 := Try.underlying24
 have HR0 := aM hr0
 have HC0 := aM hc0
 clear hr0 hc0
 have HB := aM (Below.refl w.heap.size w)
 unfold spec_DrawWriteImage.f at h
 have H := h
 clear h
 replace H := Option.bind_eq_some_iff.mp H
 obtain ⟨⟨t1113, t1114⟩, A20, H⟩ := H
 replace H : ((spec_anyImage.f k t1113 t1114).bind fun bt1116 => (some (bt1116.1, bt1116.2.1, bt1116.2.2.1, bt1116.2.2.2.1))) = some (r1, r2, r3, r4) := H
 have A2 := aM A20
 clear A20
 replace H := Option.bind_eq_some_iff.mp H
 obtain ⟨⟨t1116, t1117, t1118, t1119, t1122⟩, A30, H⟩ := H
 replace H : (some (t1116, t1117, t1118, t1119)) = some (r1, r2, r3, r4) := H
 have A3 := aM A30
 clear A30
 simp only [Option.some.injEq, Prod.mk.injEq] at H
 obtain ⟨rfl, rfl, rfl, rfl⟩ := H
 go_enter Try.func35, Try.ntmps35
 go_wp2_with (first | ((with_reducible refine gate_dst (N := 2) rfl ?_); refine bxE (N := 2) (cs := #[.int .i64 0, .int .i64 0, .int .i64 0, .slice none 0 0]) (t := 24) ?_; intro gb1112 hg w4 hbox hb; have BK1112 := aM (hbox); have GW1112 := gW hg HB; have GE1112 := gW hg HB; replace HB := bS HB hb; clear hb hbox hg) | ((with_reducible refine gate_callee (f := 48) rfl ?_); refine gL (some 4) Try.func48 #[.slice A0 l0.length c0] ?_; (with_reducible refine (spec_newReader.calls _ _ l0 t1113 t1114 w _ ?side1 ?side2 ?side3 A2.out).mono ?_); (case side1 => exact qW HB.out); (case side2 => exact HR0.out); (case side3 => exact HC0.out); rintro e w5 ⟨g1115, rfl, hi, hb, hb2⟩; refine ⟨_, rfl, ?_⟩; replace HB := aM (hb); have HI1115 := aM (hi); have NB1115_1112 := aM (IsS67.ne_blk hi (blk_below (g := gb1112) (o := .cells #[.int .i64 0, .int .i64 0, .int .i64 0, .slice none 0 0] 24 (0, 0)) (qB BK1112.out) hb2) (by decide)); have NB1112_1115 := aM (Ne.symm (IsS67.ne_blk hi (blk_below (g := gb1112) (o := .cells #[.int .i64 0, .int .i64 0, .int .i64 0, .slice none 0 0] 24 (0, 0)) (qB BK1112.out) hb2) (by decide))); replace BK1112 := bB BK1112 hb2; clear hb hb2 hi) | ((with_reducible refine gate_callee (f := 49) rfl ?_); refine gL (some 5) Try.func49 #[.pointer (some ⟨g1115, 0, none⟩)] ?_; (with_reducible refine (spec_anyImage.calls k g1115 t1113 t1114 t1116 t1117 t1118 t1119 t1122 w _ ?side1 ?side2 A3.out).mono ?_); (case side1 => exact iS67 HI1115.out); (case side2 => exact wS67 HB.out); rintro e w6 ⟨v1120, rfl, ho0, hi, hb, hk⟩; refine ⟨_, rfl, ?_⟩; replace BK1112 := bK hk BK1112 NB1112_1115; have HO1121 := aM (Kd.Q_lower ho0 (below_size (wS67 HB.out))); replace HB := aM (hb); replace HI1115 := aM (hi); clear hb hk hi ho0; have hnb7 := NB1112_1115.out; have hnc7 := NB1115_1112.out; obtain ⟨⟨hcz8_0, hcz8_1, hcz8_2, hcz8_3⟩, hfz8_0, hfz8_1, hfz8_2, hfz8_3⟩ := cf4 BK1112; obtain ⟨Ao9, co9, eo9, _⟩ := Kd.Q_slice HO1121.out; subst eo9))
 refine bodyPost_ret (results_cell_row rfl _ _ gb1112 24 #[.int .i64 t1116, .int .i64 t1117, .int .i64 t1118, .slice Ao9 t1119.length co9] (0, 0) _ rfl (by exact bP BK1112.out) Try.underlying24 rfl (by kernel_rfl)) rfl ?_
 exact ⟨_, qX, by (with_reducible repeat (first | apply Kd.Q_alloc | apply Kd.Q_drewN | apply Kd.Q_drew)); exact Kd.Q_mono (qT HO1121 BK1112) (fun _ hk => trivial), wS67 HB.out⟩
def laws_equalImage.f (k : Nat) (a0_0 : Int) (a0_1 : Int) (a0_2 : Int) (l0_3 : List Int) (a1_0 : Int) (a1_1 : Int) (a1_2 : Int) (l1_3 : List Int) : Option (Bool) := if a0_0 = a1_0 then (if a0_1 = a1_1 then (if a0_2 = a1_2 then ((laws_equalInts.f k l0_3 l1_3).bind fun t721 => (some t721)) else (some false)) else (some false)) else (some false)
theorem laws_equalImage.mono : ∀ a0 a1 a2 a3 a4 a5 a6 a7 k, LeO (laws_equalImage.f k a0 a1 a2 a3 a4 a5 a6 a7) (laws_equalImage.f (k + 1) a0 a1 a2 a3 a4 a5 a6 a7) := by
 intro a0 a1 a2 a3 a4 a5 a6 a7 k
 unfold laws_equalImage.f
 repeat' first | (with_reducible first | exact laws_equalInts.mono _ _ _ | exact lR | exact lN | refine lI ?_ ?_ | refine lB ?_ fun _ => ?_) | exact laws_equalInts.mono _ _ _ | exact lN | refine lI ?_ ?_ | refine lB ?_ fun _ => ?_
set_option maxHeartbeats 8000000 in
set_option maxRecDepth 100000 in
theorem laws_equalImage.calls (k : Nat) (a0_0 : Int) (a0_1 : Int) (a0_2 : Int) (A0_3 : Option Addr) (c0_3 : Nat) (l0_3 : List Int) (a1_0 : Int) (a1_1 : Int) (a1_2 : Int) (A1_3 : Option Addr) (c1_3 : Nat) (l1_3 : List Int) (r : Bool) (w : World) (hr0_3 : Kd.C (Kd.int .i64) w A0_3 l0_3.length l0_3) (hc0_3 : l0_3.length ≤ c0_3) (hr1_3 : Kd.C (Kd.int .i64) w A1_3 l1_3.length l1_3) (hc1_3 : l1_3.length ≤ c1_3) (h : laws_equalImage.f k a0_0 a0_1 a0_2 l0_3 a1_0 a1_1 a1_2 l1_3 = some r) :
  Calls Try.prog 21 #[.agg #[.int .i64 a0_0, .int .i64 a0_1, .int .i64 a0_2, .slice A0_3 l0_3.length c0_3], .agg #[.int .i64 a1_0, .int .i64 a1_1, .int .i64 a1_2, .slice A1_3 l1_3.length c1_3]] w fun e w' => e = .returned (.bool r) ∧ Below w.heap.size w w' := by
 have hu24 := Try.underlying24
 have HR0_3 := aM hr0_3
 have HC0_3 := aM hc0_3
 clear hr0_3 hc0_3
 have HR1_3 := aM hr1_3
 have HC1_3 := aM hc1_3
 clear hr1_3 hc1_3
 have HB := aM (Below.refl w.heap.size w)
 unfold laws_equalImage.f at h
 have H := h
 clear h
 by_cases c3 : a0_0 = a1_0
 rotate_left
 ·rw [if_neg c3] at H
  have c3b0 : (a0_0 == a1_0) = false := beq_eq_false_iff_ne.mpr c3
  have c3b1 : (a0_0 != a1_0) = true := bne_iff_ne.mpr c3
  obtain rfl := Option.some.inj H
  go_enter Try.func21, Try.ntmps21
  go_wp2_with (first | ((with_reducible refine gate_dst (N := 2) rfl ?_); refine bxE (N := 2) (cs := #[.int .i64 a0_0, .int .i64 a0_1, .int .i64 a0_2, .slice A0_3 l0_3.length c0_3]) (t := 24) ?_; intro gb719 hg w22 hbox hb; have BK719 := aM (hbox); have GW719 := gW hg HB; have GE719 := gW hg HB; replace HB := bS HB hb; clear hb hbox hg) | ((with_reducible refine gate_dst (N := 3) rfl ?_); refine bxE (N := 3) (cs := #[.int .i64 a1_0, .int .i64 a1_1, .int .i64 a1_2, .slice A1_3 l1_3.length c1_3]) (t := 24) ?_; intro gb720 hg w23 hbox hb; have BK720 := aM (hbox); have GW720 := gW hg HB; have GE720 := gW hg HB; replace HB := bS HB hb; have NB719_720 := nL hg BK719; have NB720_719 := nG hg BK719; replace BK719 := bB BK719 hb; clear hb hbox hg; have hnb24 := NB719_720.out; have hnc24 := NB720_719.out; obtain ⟨⟨hcz25_0, hcz25_1, hcz25_2, hcz25_3⟩, hfz25_0, hfz25_1, hfz25_2, hfz25_3⟩ := cf4 BK719; obtain ⟨⟨hcz26_0, hcz26_1, hcz26_2, hcz26_3⟩, hfz26_0, hfz26_1, hfz26_2, hfz26_3⟩ := cf4 BK720))
  go_ret
  exact ⟨qX, by exact qW HB.out⟩
 rw [if_pos c3] at H
 have c3b0 : (a0_0 == a1_0) = true := beq_iff_eq.mpr c3
 have c3b1 : (a0_0 != a1_0) = false := bne_eq_false_iff_eq.mpr c3
 clear c3
 by_cases c4 : a0_1 = a1_1
 rotate_left
 ·rw [if_neg c4] at H
  have c4b0 : (a0_1 == a1_1) = false := beq_eq_false_iff_ne.mpr c4
  have c4b1 : (a0_1 != a1_1) = true := bne_iff_ne.mpr c4
  obtain rfl := Option.some.inj H
  go_enter Try.func21, Try.ntmps21
  go_wp2_with (first | ((with_reducible refine gate_dst (N := 2) rfl ?_); refine bxE (N := 2) (cs := #[.int .i64 a0_0, .int .i64 a0_1, .int .i64 a0_2, .slice A0_3 l0_3.length c0_3]) (t := 24) ?_; intro gb719 hg w17 hbox hb; have BK719 := aM (hbox); have GW719 := gW hg HB; have GE719 := gW hg HB; replace HB := bS HB hb; clear hb hbox hg) | ((with_reducible refine gate_dst (N := 3) rfl ?_); refine bxE (N := 3) (cs := #[.int .i64 a1_0, .int .i64 a1_1, .int .i64 a1_2, .slice A1_3 l1_3.length c1_3]) (t := 24) ?_; intro gb720 hg w18 hbox hb; have BK720 := aM (hbox); have GW720 := gW hg HB; have GE720 := gW hg HB; replace HB := bS HB hb; have NB719_720 := nL hg BK719; have NB720_719 := nG hg BK719; replace BK719 := bB BK719 hb; clear hb hbox hg; have hnb19 := NB719_720.out; have hnc19 := NB720_719.out; obtain ⟨⟨hcz20_0, hcz20_1, hcz20_2, hcz20_3⟩, hfz20_0, hfz20_1, hfz20_2, hfz20_3⟩ := cf4 BK719; obtain ⟨⟨hcz21_0, hcz21_1, hcz21_2, hcz21_3⟩, hfz21_0, hfz21_1, hfz21_2, hfz21_3⟩ := cf4 BK720))
  go_ret
  exact ⟨qX, by exact qW HB.out⟩
 rw [if_pos c4] at H
 have c4b0 : (a0_1 == a1_1) = true := beq_iff_eq.mpr c4
 have c4b1 : (a0_1 != a1_1) = false := bne_eq_false_iff_eq.mpr c4
 clear c4
 by_cases c5 : a0_2 = a1_2
 rotate_left
 ·rw [if_neg c5] at H
  have c5b0 : (a0_2 == a1_2) = false := beq_eq_false_iff_ne.mpr c5
  have c5b1 : (a0_2 != a1_2) = true := bne_iff_ne.mpr c5
  obtain rfl := Option.some.inj H
  go_enter Try.func21, Try.ntmps21
  go_wp2_with (first | ((with_reducible refine gate_dst (N := 2) rfl ?_); refine bxE (N := 2) (cs := #[.int .i64 a0_0, .int .i64 a0_1, .int .i64 a0_2, .slice A0_3 l0_3.length c0_3]) (t := 24) ?_; intro gb719 hg w12 hbox hb; have BK719 := aM (hbox); have GW719 := gW hg HB; have GE719 := gW hg HB; replace HB := bS HB hb; clear hb hbox hg) | ((with_reducible refine gate_dst (N := 3) rfl ?_); refine bxE (N := 3) (cs := #[.int .i64 a1_0, .int .i64 a1_1, .int .i64 a1_2, .slice A1_3 l1_3.length c1_3]) (t := 24) ?_; intro gb720 hg w13 hbox hb; have BK720 := aM (hbox); have GW720 := gW hg HB; have GE720 := gW hg HB; replace HB := bS HB hb; have NB719_720 := nL hg BK719; have NB720_719 := nG hg BK719; replace BK719 := bB BK719 hb; clear hb hbox hg; have hnb14 := NB719_720.out; have hnc14 := NB720_719.out; obtain ⟨⟨hcz15_0, hcz15_1, hcz15_2, hcz15_3⟩, hfz15_0, hfz15_1, hfz15_2, hfz15_3⟩ := cf4 BK719; obtain ⟨⟨hcz16_0, hcz16_1, hcz16_2, hcz16_3⟩, hfz16_0, hfz16_1, hfz16_2, hfz16_3⟩ := cf4 BK720))
  go_ret
  exact ⟨qX, by exact qW HB.out⟩
 rw [if_pos c5] at H
 have c5b0 : (a0_2 == a1_2) = true := beq_iff_eq.mpr c5
 have c5b1 : (a0_2 != a1_2) = false := bne_eq_false_iff_eq.mpr c5
 clear c5
 replace H := Option.bind_eq_some_iff.mp H
 obtain ⟨t721, A60, H⟩ := H
 replace H : (some t721) = some r := H
 have A6 := aM A60
 clear A60
 obtain rfl := Option.some.inj H
 go_enter Try.func21, Try.ntmps21
 go_wp2_with (first | ((with_reducible refine gate_dst (N := 2) rfl ?_); refine bxE (N := 2) (cs := #[.int .i64 a0_0, .int .i64 a0_1, .int .i64 a0_2, .slice A0_3 l0_3.length c0_3]) (t := 24) ?_; intro gb719 hg w7 hbox hb; have BK719 := aM (hbox); have GW719 := gW hg HB; have GE719 := gW hg HB; replace HB := bS HB hb; clear hb hbox hg) | ((with_reducible refine gate_dst (N := 3) rfl ?_); refine bxE (N := 3) (cs := #[.int .i64 a1_0, .int .i64 a1_1, .int .i64 a1_2, .slice A1_3 l1_3.length c1_3]) (t := 24) ?_; intro gb720 hg w8 hbox hb; have BK720 := aM (hbox); have GW720 := gW hg HB; have GE720 := gW hg HB; replace HB := bS HB hb; have NB719_720 := nL hg BK719; have NB720_719 := nG hg BK719; replace BK719 := bB BK719 hb; clear hb hbox hg; have hnb9 := NB719_720.out; have hnc9 := NB720_719.out; obtain ⟨⟨hcz10_0, hcz10_1, hcz10_2, hcz10_3⟩, hfz10_0, hfz10_1, hfz10_2, hfz10_3⟩ := cf4 BK719; obtain ⟨⟨hcz11_0, hcz11_1, hcz11_2, hcz11_3⟩, hfz11_0, hfz11_1, hfz11_2, hfz11_3⟩ := cf4 BK720) | (go_at_call 23; (with_reducible refine (laws_equalInts.calls k _ _ l0_3 _ _ l1_3 t721 _ ?side1 ?side2 ?side3 ?side4 A6.out).mono ?_); (case side1 => exact qC (Kd.C_below HR0_3.out HB.out)); (case side2 => exact HC0_3.out); (case side3 => exact qC (Kd.C_below HR1_3.out HB.out)); (case side4 => exact HC1_3.out); rintro e w' ⟨rfl, ⟨nd, rfl⟩⟩))
 go_ret
 exact ⟨qX, by exact qW HB.out⟩
def laws_FnReadImageDamage.j0 : Nat → List Int → List Int → Bool → Bool → Bool → Int → Int → Int → List Int → Int → Int → Int → List Int → Option (Bool)
 | 0, _, _, _, _, _, _, _, _, _, _, _, _, _ => none
 | k + 1, x0, x3, x5, x7, x46, x768000, x768001, x768002, x768003, x776000, x776001, x776002, x776003 => if x46 = true then ((laws_equalImage.f k x768000 x768001 x768002 x768003 x776000 x776001 x776002 x776003).bind fun t777 => (if t777 = true then (some (x5 == x7)) else (some false))) else (if (wrap64 ((x3.length : Int) - 2)) = 0 then (none) else ((some (([] : List Int) : List Int)).bind fun y778 => (if y778.length + x3.length < 17592186044416 then ((some (y778 ++ x3 : List Int)).bind fun y781 => (if 0 ≤ (wrap64 (2 + ((x0.length : Int) % (wrap64 ((x3.length : Int) - 2))))) then (if (wrap64 (2 + ((x0.length : Int) % (wrap64 ((x3.length : Int) - 2))))) < (y781.length : Int) then ((some (y781.set ((wrap64 (2 + ((x0.length : Int) % (wrap64 ((x3.length : Int) - 2))))) : Int).toNat (wrap64 ((rd y781 (wrap64 (2 + ((x0.length : Int) % (wrap64 ((x3.length : Int) - 2)))))) + 1)) : List Int)).bind fun y785 => (if (rd y785 (wrap64 (2 + ((x0.length : Int) % (wrap64 ((x3.length : Int) - 2)))))) = 256 then ((impl_ReadImage.f k (y785.set ((wrap64 (2 + ((x0.length : Int) % (wrap64 ((x3.length : Int) - 2))))) : Int).toNat 254)).bind fun bt788 => (if 0 ≤ (wrap64 ((x3.length : Int) - 1)) then (if (wrap64 ((x3.length : Int) - 1)) ≤ (x3.length : Int) then ((impl_ReadImage.f k (x3.take ((wrap64 ((x3.length : Int) - 1)) : Int).toNat)).bind fun bt800 => (if bt788.2.2.2.2 = true then (some false) else (some (!bt800.2.2.2.2)))) else (none)) else (none))) else ((impl_ReadImage.f k y785).bind fun bt808 => (if 0 ≤ (wrap64 ((x3.length : Int) - 1)) then (if (wrap64 ((x3.length : Int) - 1)) ≤ (x3.length : Int) then ((impl_ReadImage.f k (x3.take ((wrap64 ((x3.length : Int) - 1)) : Int).toNat)).bind fun bt820 => (if bt808.2.2.2.2 = true then (some false) else (some (!bt820.2.2.2.2)))) else (none)) else (none))))) else (none)) else (none))) else (none))))
def laws_FnReadImageDamage.f (k : Nat) (l0 : List Int) : Option (Bool) := if (l0.length : Int) > 1048576 then (some true) else ((spec_DrawReadImage.f k l0).bind fun t757 => ((impl_ReadImage.f k t757).bind fun bt760 => ((spec_ReadImage.f k t757).bind fun bt768 => ((laws_equalImage.f k bt760.1 bt760.2.1 bt760.2.2.1 bt760.2.2.2.1 bt768.1 bt768.2.1 bt768.2.2.1 bt768.2.2.2.1).bind fun t776 => (if t776 = true then (if (bt760.2.2.2.2 != bt768.2.2.2.2) = true then (laws_FnReadImageDamage.j0 k l0 t757 bt760.2.2.2.2 bt768.2.2.2.2 true bt760.1 bt760.2.1 bt760.2.2.1 bt760.2.2.2.1 bt768.1 bt768.2.1 bt768.2.2.1 bt768.2.2.2.1) else (if bt760.2.2.2.2 = true then (laws_FnReadImageDamage.j0 k l0 t757 bt760.2.2.2.2 bt768.2.2.2.2 (decide ((t757.length : Int) < 7)) bt760.1 bt760.2.1 bt760.2.2.1 bt760.2.2.2.1 bt768.1 bt768.2.1 bt768.2.2.1 bt768.2.2.2.1) else (laws_FnReadImageDamage.j0 k l0 t757 bt760.2.2.2.2 bt768.2.2.2.2 true bt760.1 bt760.2.1 bt760.2.2.1 bt760.2.2.2.1 bt768.1 bt768.2.1 bt768.2.2.1 bt768.2.2.2.1))) else (laws_FnReadImageDamage.j0 k l0 t757 bt760.2.2.2.2 bt768.2.2.2.2 true bt760.1 bt760.2.1 bt760.2.2.1 bt760.2.2.2.1 bt768.1 bt768.2.1 bt768.2.2.1 bt768.2.2.2.1))))))
theorem laws_FnReadImageDamage.mono_l : ∀ k, (∀ y0 y1 y2 y3 y4 y5 y6 y7 y8 y9 y10 y11 y12, LeO (laws_FnReadImageDamage.j0 k y0 y1 y2 y3 y4 y5 y6 y7 y8 y9 y10 y11 y12) (laws_FnReadImageDamage.j0 (k + 1) y0 y1 y2 y3 y4 y5 y6 y7 y8 y9 y10 y11 y12))
 | 0 => fun _ _ _ _ _ _ _ _ _ _ _ _ _ r h => by simp [laws_FnReadImageDamage.j0] at h
 | k + 1 => by
  have ih0 := laws_FnReadImageDamage.mono_l k
  ·intro y0 y1 y2 y3 y4 y5 y6 y7 y8 y9 y10 y11 y12
   unfold laws_FnReadImageDamage.j0
   repeat' first | (with_reducible first | exact ih0 _ _ _ _ _ _ _ _ _ _ _ _ _ | exact impl_ReadImage.mono _ _ | exact laws_equalImage.mono _ _ _ _ _ _ _ _ _ | exact spec_DrawReadImage.mono _ _ | exact spec_ReadImage.mono _ _ | exact lR | exact lN | refine lI ?_ ?_ | refine lB ?_ fun _ => ?_) | exact ih0 _ _ _ _ _ _ _ _ _ _ _ _ _ | exact impl_ReadImage.mono _ _ | exact laws_equalImage.mono _ _ _ _ _ _ _ _ _ | exact spec_DrawReadImage.mono _ _ | exact spec_ReadImage.mono _ _ | exact lN | refine lI ?_ ?_ | refine lB ?_ fun _ => ?_
theorem laws_FnReadImageDamage.mono : ∀ a0 k, LeO (laws_FnReadImageDamage.f k a0) (laws_FnReadImageDamage.f (k + 1) a0) := by
 intro a0 k
 have ih0 := laws_FnReadImageDamage.mono_l k
 unfold laws_FnReadImageDamage.f
 repeat' first | (with_reducible first | exact ih0 _ _ _ _ _ _ _ _ _ _ _ _ _ | exact impl_ReadImage.mono _ _ | exact laws_equalImage.mono _ _ _ _ _ _ _ _ _ | exact spec_DrawReadImage.mono _ _ | exact spec_ReadImage.mono _ _ | exact lR | exact lN | refine lI ?_ ?_ | refine lB ?_ fun _ => ?_) | exact ih0 _ _ _ _ _ _ _ _ _ _ _ _ _ | exact impl_ReadImage.mono _ _ | exact laws_equalImage.mono _ _ _ _ _ _ _ _ _ | exact spec_DrawReadImage.mono _ _ | exact spec_ReadImage.mono _ _ | exact lN | refine lI ?_ ?_ | refine lB ?_ fun _ => ?_
set_option maxHeartbeats 8000000 in
set_option maxRecDepth 100000 in
theorem laws_FnReadImageDamage.calls (k : Nat) (A0 : Option Addr) (c0 : Nat) (l0 : List Int) (r : Bool) (w : World) (hr0 : Kd.C (Kd.int .u8) w A0 l0.length l0) (hc0 : l0.length ≤ c0) (h : laws_FnReadImageDamage.f k l0 = some r) (hrt : r = true) :
  Calls Try.prog 5 #[.slice A0 l0.length c0] w fun e w' => e = .returned (.bool r) ∧ Below w.heap.size w w' := by
 have hu24 := Try.underlying24
 have HR0 := aM hr0
 have HC0 := aM hc0
 clear hr0 hc0
 have HB := aM (Below.refl w.heap.size w)
 unfold laws_FnReadImageDamage.f at h
 have H := h
 clear h
 by_cases c2 : (l0.length : Int) > 1048576
 ·rw [if_pos c2] at H
  have c2b0 : decide (1048576 < (l0.length : Int)) = true := decide_eq_true c2
  have c2b1 : decide (1048576 < l0.length) = true := decide_eq_true (by omega)
  clear c2
  obtain rfl := Option.some.inj H
  go_enter Try.func5, Try.ntmps5
  go_wp2
  go_ret
  exact ⟨qX, by exact qW HB.out⟩
 rw [if_neg c2] at H
 have c2b0 : decide (1048576 < (l0.length : Int)) = false := decide_eq_false c2
 have c2b1 : decide (1048576 < l0.length) = false := decide_eq_false (by omega)
 clear c2
 replace H := Option.bind_eq_some_iff.mp H
 obtain ⟨t757, A30, H⟩ := H
 replace H : ((impl_ReadImage.f k t757).bind fun bt760 => ((spec_ReadImage.f k t757).bind fun bt768 => ((laws_equalImage.f k bt760.1 bt760.2.1 bt760.2.2.1 bt760.2.2.2.1 bt768.1 bt768.2.1 bt768.2.2.1 bt768.2.2.2.1).bind fun t776 => (if t776 = true then (if (bt760.2.2.2.2 != bt768.2.2.2.2) = true then (laws_FnReadImageDamage.j0 k l0 t757 bt760.2.2.2.2 bt768.2.2.2.2 true bt760.1 bt760.2.1 bt760.2.2.1 bt760.2.2.2.1 bt768.1 bt768.2.1 bt768.2.2.1 bt768.2.2.2.1) else (if bt760.2.2.2.2 = true then (laws_FnReadImageDamage.j0 k l0 t757 bt760.2.2.2.2 bt768.2.2.2.2 (decide ((t757.length : Int) < 7)) bt760.1 bt760.2.1 bt760.2.2.1 bt760.2.2.2.1 bt768.1 bt768.2.1 bt768.2.2.1 bt768.2.2.2.1) else (laws_FnReadImageDamage.j0 k l0 t757 bt760.2.2.2.2 bt768.2.2.2.2 true bt760.1 bt760.2.1 bt760.2.2.1 bt760.2.2.2.1 bt768.1 bt768.2.1 bt768.2.2.1 bt768.2.2.2.1))) else (laws_FnReadImageDamage.j0 k l0 t757 bt760.2.2.2.2 bt768.2.2.2.2 true bt760.1 bt760.2.1 bt760.2.2.1 bt760.2.2.2.1 bt768.1 bt768.2.1 bt768.2.2.1 bt768.2.2.2.1))))) = some r := H
 have A3 := aM A30
 clear A30
 replace H := Option.bind_eq_some_iff.mp H
 obtain ⟨⟨t760, t761, t762, t763, t766⟩, A40, H⟩ := H
 replace H : ((spec_ReadImage.f k t757).bind fun bt768 => ((laws_equalImage.f k t760 t761 t762 t763 bt768.1 bt768.2.1 bt768.2.2.1 bt768.2.2.2.1).bind fun t776 => (if t776 = true then (if (t766 != bt768.2.2.2.2) = true then (laws_FnReadImageDamage.j0 k l0 t757 t766 bt768.2.2.2.2 true t760 t761 t762 t763 bt768.1 bt768.2.1 bt768.2.2.1 bt768.2.2.2.1) else (if t766 = true then (laws_FnReadImageDamage.j0 k l0 t757 t766 bt768.2.2.2.2 (decide ((t757.length : Int) < 7)) t760 t761 t762 t763 bt768.1 bt768.2.1 bt768.2.2.1 bt768.2.2.2.1) else (laws_FnReadImageDamage.j0 k l0 t757 t766 bt768.2.2.2.2 true t760 t761 t762 t763 bt768.1 bt768.2.1 bt768.2.2.1 bt768.2.2.2.1))) else (laws_FnReadImageDamage.j0 k l0 t757 t766 bt768.2.2.2.2 true t760 t761 t762 t763 bt768.1 bt768.2.1 bt768.2.2.1 bt768.2.2.2.1)))) = some r := H
 have A4 := aM A40
 clear A40
 replace H := Option.bind_eq_some_iff.mp H
 obtain ⟨⟨t768, t769, t770, t771, t774⟩, A50, H⟩ := H
 replace H : ((laws_equalImage.f k t760 t761 t762 t763 t768 t769 t770 t771).bind fun t776 => (if t776 = true then (if (t766 != t774) = true then (laws_FnReadImageDamage.j0 k l0 t757 t766 t774 true t760 t761 t762 t763 t768 t769 t770 t771) else (if t766 = true then (laws_FnReadImageDamage.j0 k l0 t757 t766 t774 (decide ((t757.length : Int) < 7)) t760 t761 t762 t763 t768 t769 t770 t771) else (laws_FnReadImageDamage.j0 k l0 t757 t766 t774 true t760 t761 t762 t763 t768 t769 t770 t771))) else (laws_FnReadImageDamage.j0 k l0 t757 t766 t774 true t760 t761 t762 t763 t768 t769 t770 t771))) = some r := H
 have A5 := aM A50
 clear A50
 have HC6 := aM H
 clear H
 go_enter Try.func5, Try.ntmps5
 go_upto_region 6 with (first | ((with_reducible refine gate_callee (f := 20) rfl ?_); refine gL (some 18) Try.func20 #[.slice A0 l0.length c0] ?_; (with_reducible refine (spec_DrawReadImage.calls k _ _ l0 t757 _ ?side1 ?side2 A3.out).mono ?_); (case side1 => exact qC HR0.out); (case side2 => exact HC0.out); rintro e w7 ⟨v758, rfl, ho0, hb⟩; refine ⟨_, rfl, ?_⟩; have HO759 := aM (Kd.Q_lower ho0 (below_size (qW HB.out))); replace HB := bS HB hb; clear hb ho0; obtain ⟨Ao8, co8, eo8, _⟩ := Kd.Q_slice HO759.out; subst eo8) | ((with_reducible refine gate_callee (f := 14) rfl ?_); refine gL (some 21) Try.func14 #[.slice Ao8 t757.length co8] ?_; (with_reducible refine (impl_ReadImage.calls k _ _ t757 t760 t761 t762 t763 t766 _ ?side1 ?side2 A4.out).mono ?_); (case side1 => exact qC (Kd.Q_reads' HO759.out).2.2); (case side2 => exact (Kd.Q_reads' HO759.out).2.1); rintro e w9 ⟨v764, rfl, ho0, hb⟩; refine ⟨_, rfl, ?_⟩; have HO765 := aM (Kd.R_lower (Kd.R_new' ho0 (Kd.Q_lt (qQ HO759.out))) (below_size (qW HB.out))); replace HO759 := aM (Kd.Q_elder' (qQ HO759.out) (Kd.R_base ho0) hb); replace HB := bS HB hb; clear hb ho0) | ((with_reducible refine gate_dst (N := 4) rfl ?_); (try (refine gate_guard (by rfl) ?_; dsimp only)); refine bxE (N := 4) (cs := #[.int .i64 0, .int .i64 0, .int .i64 0, .slice none 0 0]) (t := 24) ?_; intro gb767 hg w10 hbox hb; replace HO759 := aM (Kd.Q_below (qQ HO759.out) hb); replace HO765 := aM (Kd.R_below (qR HO765.out) hb); have BK767 := aM (hbox); have GW767 := gW hg HB; have GE767 := gW hg HB; replace HB := bS HB hb; clear hb hbox hg; obtain ⟨⟨hcz11_0, hcz11_1, hcz11_2, hcz11_3⟩, hfz11_0, hfz11_1, hfz11_2, hfz11_3⟩ := cf4 BK767; obtain ⟨Ao12, co12, rfl⟩ := sL HO765) | ((with_reducible refine gate_callee (f := 12) rfl ?_); refine gL (some 26) Try.func12 #[.slice Ao8 t757.length co8] ?_; (with_reducible refine (spec_ReadImage.calls k _ _ t757 t768 t769 t770 t771 t774 _ ?side1 ?side2 A5.out).mono ?_); (case side1 => refine (Kd.Q_reads' (e := 3) (base := w.heap.size) (ok := fun k_ => (True ∧ some k_ ≠ (.slice Ao12 t763.length co12 : Value).ownBlock)) (n := t757.length) (c := co8) ?_).2.2; exact (by (with_reducible repeat (first | apply Kd.Q_alloc | apply Kd.Q_drewN | apply Kd.Q_drew)); exact (Kd.Q_mono (qT HO759 BK767) (fun _ h_ => h_.1)))); (case side2 => exact (Kd.Q_reads' HO759.out).2.1); rintro e w13 ⟨v772, rfl, ho0, hb⟩; refine ⟨_, rfl, ?_⟩; have HO773 := aM (Kd.R_lower (Kd.R_new' (Kd.R_new' ho0 (Kd.Q_lt (by (with_reducible repeat (first | apply Kd.Q_alloc | apply Kd.Q_drewN | apply Kd.Q_drew)); exact (Kd.Q_mono (qT HO759 BK767) (fun _ h_ => h_.1))))) (Kd.R_lt (by refine qR ?_; exact (fr4 HO765 BK767)))) (below_size (qW HB.out))); replace HO759 := aM (Kd.Q_elder' (by (with_reducible repeat (first | apply Kd.Q_alloc | apply Kd.Q_drewN | apply Kd.Q_drew)); exact (Kd.Q_mono (qT HO759 BK767) (fun _ h_ => h_.1))) (Kd.R_base ho0) hb); replace HO765 := aM (Kd.R_elder' (by refine qR ?_; exact (fr4 HO765 BK767)) (Kd.R_base ho0) hb); replace BK767 := aM (blk_below (g := gb767) (o := .cells #[.int .i64 t760, .int .i64 t761, .int .i64 t762, .slice Ao12 t763.length co12] 24 (0, 0)) (by exact bP BK767.out) hb); replace HB := bS HB hb; clear hb ho0) | ((with_reducible refine gate_dst (N := 6) rfl ?_); (try (refine gate_guard (by rfl) ?_; dsimp only)); refine bxE (N := 6) (cs := #[.int .i64 0, .int .i64 0, .int .i64 0, .slice none 0 0]) (t := 24) ?_; intro gb775 hg w14 hbox hb; replace HO759 := aM (Kd.Q_below (qQ HO759.out) hb); replace HO765 := aM (Kd.R_below (qR HO765.out) hb); replace HO773 := aM (Kd.R_below (qR HO773.out) hb); have BK775 := aM (hbox); have GW775 := gW hg HB; have GE775 := gW hg HB; replace HB := bS HB hb; have NB767_775 := nL hg BK767; have NB775_767 := nG hg BK767; replace BK767 := bB BK767 hb; clear hb hbox hg; have hnb15 := NB775_767.out; have hnc15 := NB767_775.out; obtain ⟨⟨hcz16_0, hcz16_1, hcz16_2, hcz16_3⟩, hfz16_0, hfz16_1, hfz16_2, hfz16_3⟩ := cf4 BK775; obtain ⟨Ao17, co17, rfl⟩ := sL HO773))
 (try simp only [Act.put, List.setIfInBounds_toArray, List.set_cons_zero, List.set_cons_succ])
 go_cut [46] (fun v46 wc => ∃ (kq : Nat) (x46_5 : Bool), v46 = .bool x46_5 ∧ Aside0 (laws_FnReadImageDamage.j0 kq l0 t757 t766 t774 x46_5 t760 t761 t762 t763 t768 t769 t770 t771 = some r) ∧ Aside0 (kq ≤ k) ∧ Aside0 (Kd.Q (Kd.int .i64) 3 wc w.heap.size (fun k_ => some k_ ≠ ((.slice Ao12 t763.length co12) : Value).ownBlock ∧ some k_ ≠ ((.slice Ao17 t771.length co17) : Value).ownBlock) (.slice Ao8 t757.length co8) t757) ∧ Aside0 (Kd.R (Kd.int .i64) 3 wc w.heap.size (fun k_ => some k_ ≠ ((.slice Ao8 t757.length co8) : Value).ownBlock ∧ some k_ ≠ ((.slice Ao17 t771.length co17) : Value).ownBlock) (.slice Ao12 t763.length co12) t763) ∧ Aside0 (Kd.R (Kd.int .i64) 3 wc w.heap.size (fun k_ => some k_ ≠ ((.slice Ao8 t757.length co8) : Value).ownBlock ∧ some k_ ≠ ((.slice Ao12 t763.length co12) : Value).ownBlock) (.slice Ao17 t771.length co17) t771) ∧ Aside0 (wc.heap[gb767]? = some (.cells #[.int .i64 t760, .int .i64 t761, .int .i64 t762, (.slice Ao12 t763.length co12)] 24 (0, 0))) ∧ Aside0 (wc.heap[gb775]? = some (.cells #[.int .i64 t768, .int .i64 t769, .int .i64 t770, (.slice Ao17 t771.length co17)] 24 (0, 0))) ∧ Aside0 (Below w.heap.size w wc))
 case first =>
  have H := HC6.out
  clear HC6
  replace H := Option.bind_eq_some_iff.mp H
  obtain ⟨t776, A180, H⟩ := H
  replace H : (if t776 = true then (if (t766 != t774) = true then (laws_FnReadImageDamage.j0 k l0 t757 t766 t774 true t760 t761 t762 t763 t768 t769 t770 t771) else (if t766 = true then (laws_FnReadImageDamage.j0 k l0 t757 t766 t774 (decide ((t757.length : Int) < 7)) t760 t761 t762 t763 t768 t769 t770 t771) else (laws_FnReadImageDamage.j0 k l0 t757 t766 t774 true t760 t761 t762 t763 t768 t769 t770 t771))) else (laws_FnReadImageDamage.j0 k l0 t757 t766 t774 true t760 t761 t762 t763 t768 t769 t770 t771)) = some r := H
  have A18 := aM A180
  clear A180
  by_cases c19 : t776 = true
  rotate_left
  ·replace c19 := Bool.eq_false_iff.mpr c19
   subst c19
   have H1 : (laws_FnReadImageDamage.j0 k l0 t757 t766 t774 true t760 t761 t762 t763 t768 t769 t770 t771) = some r := by rw [if_neg (show ¬ (false = true) by decide)] at H; exact H
   clear H
   have H := H1
   clear H1
   have H' := aM H
   clear H
   have hnb34 := NB767_775.out
   have hnc34 := NB775_767.out
   obtain ⟨⟨hcz35_0, hcz35_1, hcz35_2, hcz35_3⟩, hfz35_0, hfz35_1, hfz35_2, hfz35_3⟩ := cf4 BK767
   obtain ⟨⟨hcz36_0, hcz36_1, hcz36_2, hcz36_3⟩, hfz36_0, hfz36_1, hfz36_2, hfz36_3⟩ := cf4 BK775
   go_wp2_with (first | ((with_reducible refine gate_callee (f := 21) rfl ?_); refine gL (some 31) Try.func21 #[.agg #[.int .i64 t760, .int .i64 t761, .int .i64 t762, .slice Ao12 t763.length co12], .agg #[.int .i64 t768, .int .i64 t769, .int .i64 t770, .slice Ao17 t771.length co17]] ?_; (with_reducible refine (laws_equalImage.calls k t760 t761 t762 _ _ t763 t768 t769 t770 _ _ t771 false _ ?side1 ?side2 ?side3 ?side4 A18.out).mono ?_); (case side1 => refine (Kd.R_reads' (e := 3) (base := w.heap.size) (ok := fun k_ => ((True ∧ some k_ ≠ (.slice Ao8 t757.length co8 : Value).ownBlock) ∧ some k_ ≠ (.slice Ao17 t771.length co17 : Value).ownBlock)) (n := t763.length) (c := co12) ?_).2.2; exact (by refine qR ?_; exact (fr4 HO765 BK775))); (case side2 => exact (Kd.R_reads' HO765.out).2.1); (case side3 => refine (Kd.R_reads' (e := 3) (base := w.heap.size) (ok := fun k_ => ((True ∧ some k_ ≠ (.slice Ao8 t757.length co8 : Value).ownBlock) ∧ some k_ ≠ (.slice Ao12 t763.length co12 : Value).ownBlock)) (n := t771.length) (c := co17) ?_).2.2; exact (by refine qR ?_; exact (fr4 HO773 BK775))); (case side4 => exact (Kd.R_reads' HO773.out).2.1); rintro e w37 ⟨rfl, hb⟩; refine ⟨_, rfl, ?_⟩; replace HO759 := aM (Kd.Q_below (by (with_reducible repeat (first | apply Kd.Q_alloc | apply Kd.Q_drewN | apply Kd.Q_drew)); exact (Kd.Q_mono (qT HO759 BK775) (fun _ h_ => h_.1))) hb); replace HO765 := aM (Kd.R_below (by refine qR ?_; exact (fr4 HO765 BK775)) hb); replace HO773 := aM (Kd.R_below (by refine qR ?_; exact (fr4 HO773 BK775)) hb); replace BK767 := aM (blk_below (g := gb767) (o := .cells #[.int .i64 t760, .int .i64 t761, .int .i64 t762, .slice Ao12 t763.length co12] 24 (0, 0)) (by refine qB ?_; refine blk_far ?_ NB767_775.out _; refine qB ?_; refine blk_far ?_ NB767_775.out _; refine qB ?_; refine blk_far ?_ NB767_775.out _; refine qB ?_; refine blk_far ?_ NB767_775.out _; refine qB ?_; exact BK767.out) hb); replace BK775 := aM (blk_below (g := gb775) (o := .cells #[.int .i64 t768, .int .i64 t769, .int .i64 t770, .slice Ao17 t771.length co17] 24 (0, 0)) (by exact bP BK775.out) hb); replace HB := bS HB hb; clear hb))
   go_meet
   case rel => exact ⟨_, (true), qE, H', ⟨by first | omega | exact Nat.le_refl _⟩, ⟨by (with_reducible repeat (first | apply Kd.Q_alloc | apply Kd.Q_drewN | apply Kd.Q_drew)); exact Kd.Q_mono HO759.out (fun _ hk => ⟨hk.1.2, hk.2⟩)⟩, ⟨by refine qR ?_; exact Kd.R_mono HO765.out (fun _ hk => ⟨hk.1.2, hk.2⟩)⟩, ⟨by refine qR ?_; exact Kd.R_mono HO773.out (fun _ hk => ⟨hk.1.2, hk.2⟩)⟩, ⟨by refine qB ?_; exact BK767.out⟩, ⟨by refine qB ?_; exact BK775.out⟩, ⟨by exact qW HB.out⟩⟩
  subst c19
  have H1 : (if (t766 != t774) = true then (laws_FnReadImageDamage.j0 k l0 t757 t766 t774 true t760 t761 t762 t763 t768 t769 t770 t771) else (if t766 = true then (laws_FnReadImageDamage.j0 k l0 t757 t766 t774 (decide ((t757.length : Int) < 7)) t760 t761 t762 t763 t768 t769 t770 t771) else (laws_FnReadImageDamage.j0 k l0 t757 t766 t774 true t760 t761 t762 t763 t768 t769 t770 t771))) = some r := by rw [if_pos rfl] at H; exact H
  clear H
  have H := H1
  clear H1
  by_cases c20 : (t766 != t774) = true
  ·rw [if_pos c20] at H
   have c20b0 : (t766 != t774) = true := c20
   (try (have c20b1 : decide (t766 = t774) = false := by simpa using c20))
   (try (have c20b2 : (t766 == t774) = false := by simpa using c20))
   (try (have c20b3 : ¬ (t766 = t774) := by simpa using c20))
   clear c20
   (first | rw [c20b0] | (simp only [i64_w, i32_w]; rw [c20b0]) | skip)
   have H' := aM H
   clear H
   have hnb21 := NB767_775.out
   have hnc21 := NB775_767.out
   obtain ⟨⟨hcz22_0, hcz22_1, hcz22_2, hcz22_3⟩, hfz22_0, hfz22_1, hfz22_2, hfz22_3⟩ := cf4 BK767
   obtain ⟨⟨hcz23_0, hcz23_1, hcz23_2, hcz23_3⟩, hfz23_0, hfz23_1, hfz23_2, hfz23_3⟩ := cf4 BK775
   go_wp2_with (first | ((with_reducible refine gate_callee (f := 21) rfl ?_); refine gL (some 31) Try.func21 #[.agg #[.int .i64 t760, .int .i64 t761, .int .i64 t762, .slice Ao12 t763.length co12], .agg #[.int .i64 t768, .int .i64 t769, .int .i64 t770, .slice Ao17 t771.length co17]] ?_; (with_reducible refine (laws_equalImage.calls k t760 t761 t762 _ _ t763 t768 t769 t770 _ _ t771 true _ ?side1 ?side2 ?side3 ?side4 A18.out).mono ?_); (case side1 => refine (Kd.R_reads' (e := 3) (base := w.heap.size) (ok := fun k_ => ((True ∧ some k_ ≠ (.slice Ao8 t757.length co8 : Value).ownBlock) ∧ some k_ ≠ (.slice Ao17 t771.length co17 : Value).ownBlock)) (n := t763.length) (c := co12) ?_).2.2; exact (by refine qR ?_; exact (fr4 HO765 BK775))); (case side2 => exact (Kd.R_reads' HO765.out).2.1); (case side3 => refine (Kd.R_reads' (e := 3) (base := w.heap.size) (ok := fun k_ => ((True ∧ some k_ ≠ (.slice Ao8 t757.length co8 : Value).ownBlock) ∧ some k_ ≠ (.slice Ao12 t763.length co12 : Value).ownBlock)) (n := t771.length) (c := co17) ?_).2.2; exact (by refine qR ?_; exact (fr4 HO773 BK775))); (case side4 => exact (Kd.R_reads' HO773.out).2.1); rintro e w24 ⟨rfl, hb⟩; refine ⟨_, rfl, ?_⟩; replace HO759 := aM (Kd.Q_below (by (with_reducible repeat (first | apply Kd.Q_alloc | apply Kd.Q_drewN | apply Kd.Q_drew)); exact (Kd.Q_mono (qT HO759 BK775) (fun _ h_ => h_.1))) hb); replace HO765 := aM (Kd.R_below (by refine qR ?_; exact (fr4 HO765 BK775)) hb); replace HO773 := aM (Kd.R_below (by refine qR ?_; exact (fr4 HO773 BK775)) hb); replace BK767 := aM (blk_below (g := gb767) (o := .cells #[.int .i64 t760, .int .i64 t761, .int .i64 t762, .slice Ao12 t763.length co12] 24 (0, 0)) (by refine qB ?_; refine blk_far ?_ NB767_775.out _; refine qB ?_; refine blk_far ?_ NB767_775.out _; refine qB ?_; refine blk_far ?_ NB767_775.out _; refine qB ?_; refine blk_far ?_ NB767_775.out _; refine qB ?_; exact BK767.out) hb); replace BK775 := aM (blk_below (g := gb775) (o := .cells #[.int .i64 t768, .int .i64 t769, .int .i64 t770, .slice Ao17 t771.length co17] 24 (0, 0)) (by exact bP BK775.out) hb); replace HB := bS HB hb; clear hb))
   go_meet
   case rel => exact ⟨_, (true), qE, H', ⟨by first | omega | exact Nat.le_refl _⟩, ⟨by (with_reducible repeat (first | apply Kd.Q_alloc | apply Kd.Q_drewN | apply Kd.Q_drew)); exact Kd.Q_mono HO759.out (fun _ hk => ⟨hk.1.2, hk.2⟩)⟩, ⟨by refine qR ?_; exact Kd.R_mono HO765.out (fun _ hk => ⟨hk.1.2, hk.2⟩)⟩, ⟨by refine qR ?_; exact Kd.R_mono HO773.out (fun _ hk => ⟨hk.1.2, hk.2⟩)⟩, ⟨by refine qB ?_; exact BK767.out⟩, ⟨by refine qB ?_; exact BK775.out⟩, ⟨by exact qW HB.out⟩⟩
  rw [if_neg c20] at H
  have c20b0 : (t766 != t774) = false := by simpa using c20
  (try (have c20b1 : decide (t766 = t774) = true := by simpa using c20))
  (try (have c20b2 : (t766 == t774) = true := by simpa using c20))
  clear c20
  (first | rw [c20b0] | (simp only [i64_w, i32_w]; rw [c20b0]) | skip)
  by_cases c25 : t766 = true
  ·subst c25
   have H1 : (laws_FnReadImageDamage.j0 k l0 t757 true t774 (decide ((t757.length : Int) < 7)) t760 t761 t762 t763 t768 t769 t770 t771) = some r := by rw [if_pos rfl] at H; exact H
   clear H
   have H := H1
   clear H1
   have H' := aM H
   clear H
   have hnb26 := NB767_775.out
   have hnc26 := NB775_767.out
   obtain ⟨⟨hcz27_0, hcz27_1, hcz27_2, hcz27_3⟩, hfz27_0, hfz27_1, hfz27_2, hfz27_3⟩ := cf4 BK767
   obtain ⟨⟨hcz28_0, hcz28_1, hcz28_2, hcz28_3⟩, hfz28_0, hfz28_1, hfz28_2, hfz28_3⟩ := cf4 BK775
   go_wp2_with (first | ((with_reducible refine gate_callee (f := 21) rfl ?_); refine gL (some 31) Try.func21 #[.agg #[.int .i64 t760, .int .i64 t761, .int .i64 t762, .slice Ao12 t763.length co12], .agg #[.int .i64 t768, .int .i64 t769, .int .i64 t770, .slice Ao17 t771.length co17]] ?_; (with_reducible refine (laws_equalImage.calls k t760 t761 t762 _ _ t763 t768 t769 t770 _ _ t771 true _ ?side1 ?side2 ?side3 ?side4 A18.out).mono ?_); (case side1 => refine (Kd.R_reads' (e := 3) (base := w.heap.size) (ok := fun k_ => ((True ∧ some k_ ≠ (.slice Ao8 t757.length co8 : Value).ownBlock) ∧ some k_ ≠ (.slice Ao17 t771.length co17 : Value).ownBlock)) (n := t763.length) (c := co12) ?_).2.2; exact (by refine qR ?_; exact (fr4 HO765 BK775))); (case side2 => exact (Kd.R_reads' HO765.out).2.1); (case side3 => refine (Kd.R_reads' (e := 3) (base := w.heap.size) (ok := fun k_ => ((True ∧ some k_ ≠ (.slice Ao8 t757.length co8 : Value).ownBlock) ∧ some k_ ≠ (.slice Ao12 t763.length co12 : Value).ownBlock)) (n := t771.length) (c := co17) ?_).2.2; exact (by refine qR ?_; exact (fr4 HO773 BK775))); (case side4 => exact (Kd.R_reads' HO773.out).2.1); rintro e w29 ⟨rfl, hb⟩; refine ⟨_, rfl, ?_⟩; replace HO759 := aM (Kd.Q_below (by (with_reducible repeat (first | apply Kd.Q_alloc | apply Kd.Q_drewN | apply Kd.Q_drew)); exact (Kd.Q_mono (qT HO759 BK775) (fun _ h_ => h_.1))) hb); replace HO765 := aM (Kd.R_below (by refine qR ?_; exact (fr4 HO765 BK775)) hb); replace HO773 := aM (Kd.R_below (by refine qR ?_; exact (fr4 HO773 BK775)) hb); replace BK767 := aM (blk_below (g := gb767) (o := .cells #[.int .i64 t760, .int .i64 t761, .int .i64 t762, .slice Ao12 t763.length co12] 24 (0, 0)) (by refine qB ?_; refine blk_far ?_ NB767_775.out _; refine qB ?_; refine blk_far ?_ NB767_775.out _; refine qB ?_; refine blk_far ?_ NB767_775.out _; refine qB ?_; refine blk_far ?_ NB767_775.out _; refine qB ?_; exact BK767.out) hb); replace BK775 := aM (blk_below (g := gb775) (o := .cells #[.int .i64 t768, .int .i64 t769, .int .i64 t770, .slice Ao17 t771.length co17] 24 (0, 0)) (by exact bP BK775.out) hb); replace HB := bS HB hb; clear hb))
   go_meet
   case rel => exact ⟨_, (decide ((t757.length : Int) < 7)), qE, H', ⟨by first | omega | exact Nat.le_refl _⟩, ⟨by (with_reducible repeat (first | apply Kd.Q_alloc | apply Kd.Q_drewN | apply Kd.Q_drew)); exact Kd.Q_mono HO759.out (fun _ hk => ⟨hk.1.2, hk.2⟩)⟩, ⟨by refine qR ?_; exact Kd.R_mono HO765.out (fun _ hk => ⟨hk.1.2, hk.2⟩)⟩, ⟨by refine qR ?_; exact Kd.R_mono HO773.out (fun _ hk => ⟨hk.1.2, hk.2⟩)⟩, ⟨by refine qB ?_; exact BK767.out⟩, ⟨by refine qB ?_; exact BK775.out⟩, ⟨by exact qW HB.out⟩⟩
  replace c25 := Bool.eq_false_iff.mpr c25
  subst c25
  have H1 : (laws_FnReadImageDamage.j0 k l0 t757 false t774 true t760 t761 t762 t763 t768 t769 t770 t771) = some r := by rw [if_neg (show ¬ (false = true) by decide)] at H; exact H
  clear H
  have H := H1
  clear H1
  have H' := aM H
  clear H
  have hnb30 := NB767_775.out
  have hnc30 := NB775_767.out
  obtain ⟨⟨hcz31_0, hcz31_1, hcz31_2, hcz31_3⟩, hfz31_0, hfz31_1, hfz31_2, hfz31_3⟩ := cf4 BK767
  obtain ⟨⟨hcz32_0, hcz32_1, hcz32_2, hcz32_3⟩, hfz32_0, hfz32_1, hfz32_2, hfz32_3⟩ := cf4 BK775
  go_wp2_with (first | ((with_reducible refine gate_callee (f := 21) rfl ?_); refine gL (some 31) Try.func21 #[.agg #[.int .i64 t760, .int .i64 t761, .int .i64 t762, .slice Ao12 t763.length co12], .agg #[.int .i64 t768, .int .i64 t769, .int .i64 t770, .slice Ao17 t771.length co17]] ?_; (with_reducible refine (laws_equalImage.calls k t760 t761 t762 _ _ t763 t768 t769 t770 _ _ t771 true _ ?side1 ?side2 ?side3 ?side4 A18.out).mono ?_); (case side1 => refine (Kd.R_reads' (e := 3) (base := w.heap.size) (ok := fun k_ => ((True ∧ some k_ ≠ (.slice Ao8 t757.length co8 : Value).ownBlock) ∧ some k_ ≠ (.slice Ao17 t771.length co17 : Value).ownBlock)) (n := t763.length) (c := co12) ?_).2.2; exact (by refine qR ?_; exact (fr4 HO765 BK775))); (case side2 => exact (Kd.R_reads' HO765.out).2.1); (case side3 => refine (Kd.R_reads' (e := 3) (base := w.heap.size) (ok := fun k_ => ((True ∧ some k_ ≠ (.slice Ao8 t757.length co8 : Value).ownBlock) ∧ some k_ ≠ (.slice Ao12 t763.length co12 : Value).ownBlock)) (n := t771.length) (c := co17) ?_).2.2; exact (by refine qR ?_; exact (fr4 HO773 BK775))); (case side4 => exact (Kd.R_reads' HO773.out).2.1); rintro e w33 ⟨rfl, hb⟩; refine ⟨_, rfl, ?_⟩; replace HO759 := aM (Kd.Q_below (by (with_reducible repeat (first | apply Kd.Q_alloc | apply Kd.Q_drewN | apply Kd.Q_drew)); exact (Kd.Q_mono (qT HO759 BK775) (fun _ h_ => h_.1))) hb); replace HO765 := aM (Kd.R_below (by refine qR ?_; exact (fr4 HO765 BK775)) hb); replace HO773 := aM (Kd.R_below (by refine qR ?_; exact (fr4 HO773 BK775)) hb); replace BK767 := aM (blk_below (g := gb767) (o := .cells #[.int .i64 t760, .int .i64 t761, .int .i64 t762, .slice Ao12 t763.length co12] 24 (0, 0)) (by refine qB ?_; refine blk_far ?_ NB767_775.out _; refine qB ?_; refine blk_far ?_ NB767_775.out _; refine qB ?_; refine blk_far ?_ NB767_775.out _; refine qB ?_; refine blk_far ?_ NB767_775.out _; refine qB ?_; exact BK767.out) hb); replace BK775 := aM (blk_below (g := gb775) (o := .cells #[.int .i64 t768, .int .i64 t769, .int .i64 t770, .slice Ao17 t771.length co17] 24 (0, 0)) (by exact bP BK775.out) hb); replace HB := bS HB hb; clear hb))
  go_meet
  case rel => exact ⟨_, (true), qE, H', ⟨by first | omega | exact Nat.le_refl _⟩, ⟨by (with_reducible repeat (first | apply Kd.Q_alloc | apply Kd.Q_drewN | apply Kd.Q_drew)); exact Kd.Q_mono HO759.out (fun _ hk => ⟨hk.1.2, hk.2⟩)⟩, ⟨by refine qR ?_; exact Kd.R_mono HO765.out (fun _ hk => ⟨hk.1.2, hk.2⟩)⟩, ⟨by refine qR ?_; exact Kd.R_mono HO773.out (fun _ hk => ⟨hk.1.2, hk.2⟩)⟩, ⟨by refine qB ?_; exact BK767.out⟩, ⟨by refine qB ?_; exact BK775.out⟩, ⟨by exact qW HB.out⟩⟩
 case rest =>
  clear HC6
  try clear c2
  try clear c2b0
  try clear c2b1
  try clear c19
  try clear c20
  try clear c20b0
  try clear c20b1
  try clear c20b2
  try clear c25
  try clear hcz11_0 hcz11_1 hcz11_2 hcz11_3 hfz11_0 hfz11_1 hfz11_2 hfz11_3
  try clear hcz16_0 hcz16_1 hcz16_2 hcz16_3 hfz16_0 hfz16_1 hfz16_2 hfz16_3
  try clear hcz22_0 hcz22_1 hcz22_2 hcz22_3 hfz22_0 hfz22_1 hfz22_2 hfz22_3
  try clear hcz23_0 hcz23_1 hcz23_2 hcz23_3 hfz23_0 hfz23_1 hfz23_2 hfz23_3
  try clear hcz27_0 hcz27_1 hcz27_2 hcz27_3 hfz27_0 hfz27_1 hfz27_2 hfz27_3
  try clear hcz28_0 hcz28_1 hcz28_2 hcz28_3 hfz28_0 hfz28_1 hfz28_2 hfz28_3
  try clear hcz31_0 hcz31_1 hcz31_2 hcz31_3 hfz31_0 hfz31_1 hfz31_2 hfz31_3
  try clear hcz32_0 hcz32_1 hcz32_2 hcz32_3 hfz32_0 hfz32_1 hfz32_2 hfz32_3
  try clear hcz35_0 hcz35_1 hcz35_2 hcz35_3 hfz35_0 hfz35_1 hfz35_2 hfz35_3
  try clear hcz36_0 hcz36_1 hcz36_2 hcz36_3 hfz36_0 hfz36_1 hfz36_2 hfz36_3
  obtain ⟨kq, x46_5, rfl, HA, HJ5, HO_3, HO_768003, HO_776003, BK767, BK775, HB⟩ := hcut
  cases kq with
  | zero => exact absurd HA.out (by simp [laws_FnReadImageDamage.j0])
  | succ kj5 =>
   have H := HA.out
   clear HA
   simp only [laws_FnReadImageDamage.j0] at H
   by_cases c38 : x46_5 = true
   ·subst c38
    have H1 : ((laws_equalImage.f kj5 t760 t761 t762 t763 t768 t769 t770 t771).bind fun t777 => (if t777 = true then (some (t766 == t774)) else (some false))) = some r := by rw [if_pos rfl] at H; exact H
    clear H
    have H := H1
    clear H1
    replace H := Option.bind_eq_some_iff.mp H
    obtain ⟨t777, A390, H⟩ := H
    replace H : (if t777 = true then (some (t766 == t774)) else (some false)) = some r := H
    have A39 := aM A390
    clear A390
    by_cases c40 : t777 = true
    rotate_left
    ·replace c40 := Bool.eq_false_iff.mpr c40
     subst c40
     have H1 : (some false) = some r := by rw [if_neg (show ¬ (false = true) by decide)] at H; exact H
     clear H
     have H := H1
     clear H1
     obtain rfl := Option.some.inj H
     exact absurd hrt (by decide)
    subst c40
    have H1 : (some (t766 == t774)) = some r := by rw [if_pos rfl] at H; exact H
    clear H
    have H := H1
    clear H1
    obtain rfl := Option.some.inj H
    have hnb41 := NB767_775.out
    have hnc41 := NB775_767.out
    obtain ⟨⟨hcz42_0, hcz42_1, hcz42_2, hcz42_3⟩, hfz42_0, hfz42_1, hfz42_2, hfz42_3⟩ := cf4 BK767
    obtain ⟨⟨hcz43_0, hcz43_1, hcz43_2, hcz43_3⟩, hfz43_0, hfz43_1, hfz43_2, hfz43_3⟩ := cf4 BK775
    go_wp2_with (first | ((with_reducible refine gate_callee (f := 21) rfl ?_); refine gL (some 49) Try.func21 #[.agg #[.int .i64 t760, .int .i64 t761, .int .i64 t762, .slice Ao12 t763.length co12], .agg #[.int .i64 t768, .int .i64 t769, .int .i64 t770, .slice Ao17 t771.length co17]] ?_; (with_reducible refine (laws_equalImage.calls kj5 t760 t761 t762 _ _ t763 t768 t769 t770 _ _ t771 true _ ?side1 ?side2 ?side3 ?side4 A39.out).mono ?_); (case side1 => exact qC (Kd.R_reads' HO_768003.out).2.2); (case side2 => exact (Kd.R_reads' HO_768003.out).2.1); (case side3 => exact qC (Kd.R_reads' HO_776003.out).2.2); (case side4 => exact (Kd.R_reads' HO_776003.out).2.1); rintro e w44 ⟨rfl, hb⟩; refine ⟨_, rfl, ?_⟩; replace HO_3 := aM (Kd.Q_below (qQ HO_3.out) hb); replace HO_768003 := aM (Kd.R_below (qR HO_768003.out) hb); replace HO_776003 := aM (Kd.R_below (qR HO_776003.out) hb); replace BK767 := bB BK767 hb; replace BK775 := bB BK775 hb; replace HB := bS HB hb; clear hb))
    go_ret
    exact ⟨qX, by exact qW HB.out⟩
   replace c38 := Bool.eq_false_iff.mpr c38
   subst c38
   have H1 : (if (wrap64 ((t757.length : Int) - 2)) = 0 then (none) else ((some (([] : List Int) : List Int)).bind fun y778 => (if y778.length + t757.length < 17592186044416 then ((some (y778 ++ t757 : List Int)).bind fun y781 => (if 0 ≤ (wrap64 (2 + ((l0.length : Int) % (wrap64 ((t757.length : Int) - 2))))) then (if (wrap64 (2 + ((l0.length : Int) % (wrap64 ((t757.length : Int) - 2))))) < (y781.length : Int) then ((some (y781.set ((wrap64 (2 + ((l0.length : Int) % (wrap64 ((t757.length : Int) - 2))))) : Int).toNat (wrap64 ((rd y781 (wrap64 (2 + ((l0.length : Int) % (wrap64 ((t757.length : Int) - 2)))))) + 1)) : List Int)).bind fun y785 => (if (rd y785 (wrap64 (2 + ((l0.length : Int) % (wrap64 ((t757.length : Int) - 2)))))) = 256 then ((impl_ReadImage.f kj5 (y785.set ((wrap64 (2 + ((l0.length : Int) % (wrap64 ((t757.length : Int) - 2))))) : Int).toNat 254)).bind fun bt788 => (if 0 ≤ (wrap64 ((t757.length : Int) - 1)) then (if (wrap64 ((t757.length : Int) - 1)) ≤ (t757.length : Int) then ((impl_ReadImage.f kj5 (t757.take ((wrap64 ((t757.length : Int) - 1)) : Int).toNat)).bind fun bt800 => (if bt788.2.2.2.2 = true then (some false) else (some (!bt800.2.2.2.2)))) else (none)) else (none))) else ((impl_ReadImage.f kj5 y785).bind fun bt808 => (if 0 ≤ (wrap64 ((t757.length : Int) - 1)) then (if (wrap64 ((t757.length : Int) - 1)) ≤ (t757.length : Int) then ((impl_ReadImage.f kj5 (t757.take ((wrap64 ((t757.length : Int) - 1)) : Int).toNat)).bind fun bt820 => (if bt808.2.2.2.2 = true then (some false) else (some (!bt820.2.2.2.2)))) else (none)) else (none))))) else (none)) else (none))) else (none)))) = some r := by rw [if_neg (show ¬ (false = true) by decide)] at H; exact H
   clear H
   have H := H1
   clear H1
   by_cases c49 : (wrap64 ((t757.length : Int) - 2)) = 0
   ·rw [if_pos c49] at H
    exact absurd H (by simp)
   rw [if_neg c49] at H
   have c49b0 : ((wrap64 ((t757.length : Int) - 2)) == 0) = false := beq_eq_false_iff_ne.mpr c49
   have c49b1 : ((wrap64 ((t757.length : Int) - 2)) != 0) = true := bne_iff_ne.mpr c49
   obtain ⟨y778, hy778⟩ : ∃ y_ : List Int, y_ = (([] : List Int)) := ⟨_, rfl⟩
   replace H : (if y778.length + t757.length < 17592186044416 then ((some (y778 ++ t757 : List Int)).bind fun y781 => (if 0 ≤ (wrap64 (2 + ((l0.length : Int) % (wrap64 ((t757.length : Int) - 2))))) then (if (wrap64 (2 + ((l0.length : Int) % (wrap64 ((t757.length : Int) - 2))))) < (y781.length : Int) then ((some (y781.set ((wrap64 (2 + ((l0.length : Int) % (wrap64 ((t757.length : Int) - 2))))) : Int).toNat (wrap64 ((rd y781 (wrap64 (2 + ((l0.length : Int) % (wrap64 ((t757.length : Int) - 2)))))) + 1)) : List Int)).bind fun y785 => (if (rd y785 (wrap64 (2 + ((l0.length : Int) % (wrap64 ((t757.length : Int) - 2)))))) = 256 then ((impl_ReadImage.f kj5 (y785.set ((wrap64 (2 + ((l0.length : Int) % (wrap64 ((t757.length : Int) - 2))))) : Int).toNat 254)).bind fun bt788 => (if 0 ≤ (wrap64 ((t757.length : Int) - 1)) then (if (wrap64 ((t757.length : Int) - 1)) ≤ (t757.length : Int) then ((impl_ReadImage.f kj5 (t757.take ((wrap64 ((t757.length : Int) - 1)) : Int).toNat)).bind fun bt800 => (if bt788.2.2.2.2 = true then (some false) else (some (!bt800.2.2.2.2)))) else (none)) else (none))) else ((impl_ReadImage.f kj5 y785).bind fun bt808 => (if 0 ≤ (wrap64 ((t757.length : Int) - 1)) then (if (wrap64 ((t757.length : Int) - 1)) ≤ (t757.length : Int) then ((impl_ReadImage.f kj5 (t757.take ((wrap64 ((t757.length : Int) - 1)) : Int).toNat)).bind fun bt820 => (if bt808.2.2.2.2 = true then (some false) else (some (!bt820.2.2.2.2)))) else (none)) else (none))))) else (none)) else (none))) else (none)) = some r := rY hy778 H
   have Ny778 := aM hy778
   clear hy778
   replace H := iS H
   obtain ⟨c50, H⟩ := H
   have LMc50 := aM c50
   clear c50
   obtain ⟨y781, hy781⟩ : ∃ y_ : List Int, y_ = (y778 ++ t757) := ⟨_, rfl⟩
   replace H : (if 0 ≤ (wrap64 (2 + ((l0.length : Int) % (wrap64 ((t757.length : Int) - 2))))) then (if (wrap64 (2 + ((l0.length : Int) % (wrap64 ((t757.length : Int) - 2))))) < (y781.length : Int) then ((some (y781.set ((wrap64 (2 + ((l0.length : Int) % (wrap64 ((t757.length : Int) - 2))))) : Int).toNat (wrap64 ((rd y781 (wrap64 (2 + ((l0.length : Int) % (wrap64 ((t757.length : Int) - 2)))))) + 1)) : List Int)).bind fun y785 => (if (rd y785 (wrap64 (2 + ((l0.length : Int) % (wrap64 ((t757.length : Int) - 2)))))) = 256 then ((impl_ReadImage.f kj5 (y785.set ((wrap64 (2 + ((l0.length : Int) % (wrap64 ((t757.length : Int) - 2))))) : Int).toNat 254)).bind fun bt788 => (if 0 ≤ (wrap64 ((t757.length : Int) - 1)) then (if (wrap64 ((t757.length : Int) - 1)) ≤ (t757.length : Int) then ((impl_ReadImage.f kj5 (t757.take ((wrap64 ((t757.length : Int) - 1)) : Int).toNat)).bind fun bt800 => (if bt788.2.2.2.2 = true then (some false) else (some (!bt800.2.2.2.2)))) else (none)) else (none))) else ((impl_ReadImage.f kj5 y785).bind fun bt808 => (if 0 ≤ (wrap64 ((t757.length : Int) - 1)) then (if (wrap64 ((t757.length : Int) - 1)) ≤ (t757.length : Int) then ((impl_ReadImage.f kj5 (t757.take ((wrap64 ((t757.length : Int) - 1)) : Int).toNat)).bind fun bt820 => (if bt808.2.2.2.2 = true then (some false) else (some (!bt820.2.2.2.2)))) else (none)) else (none))))) else (none)) else (none)) = some r := rY hy781 H
   have Ny781 := aM hy781
   clear hy781
   obtain ⟨ji51, hji51⟩ : ∃ j_ : Int, (wrap64 (2 + ((l0.length : Int) % (wrap64 ((t757.length : Int) - 2))))) = j_ := ⟨_, rfl⟩
   replace H : (if 0 ≤ (ji51) then (if (ji51) < (y781.length : Int) then ((some (y781.set ((ji51) : Int).toNat (wrap64 ((rd y781 (ji51)) + 1)) : List Int)).bind fun y785 => (if (rd y785 (ji51)) = 256 then ((impl_ReadImage.f kj5 (y785.set ((ji51) : Int).toNat 254)).bind fun bt788 => (if 0 ≤ (wrap64 ((t757.length : Int) - 1)) then (if (wrap64 ((t757.length : Int) - 1)) ≤ (t757.length : Int) then ((impl_ReadImage.f kj5 (t757.take ((wrap64 ((t757.length : Int) - 1)) : Int).toNat)).bind fun bt800 => (if bt788.2.2.2.2 = true then (some false) else (some (!bt800.2.2.2.2)))) else (none)) else (none))) else ((impl_ReadImage.f kj5 y785).bind fun bt808 => (if 0 ≤ (wrap64 ((t757.length : Int) - 1)) then (if (wrap64 ((t757.length : Int) - 1)) ≤ (t757.length : Int) then ((impl_ReadImage.f kj5 (t757.take ((wrap64 ((t757.length : Int) - 1)) : Int).toNat)).bind fun bt820 => (if bt808.2.2.2.2 = true then (some false) else (some (!bt820.2.2.2.2)))) else (none)) else (none))))) else (none)) else (none)) = some r := by first | (rw [hji51] at H; exact H) | (simp only [hji51] at H ⊢; exact H)
   have hji51w : (IntKind.i64.wrap (2 + ((l0.length : Int) % (wrap64 ((t757.length : Int) - 2))))) = ji51 := (i64_w _).trans hji51
   replace H := iD H
   obtain ⟨c52b0, H⟩ := H
   replace H := iD H
   obtain ⟨c53b0, H⟩ := H
   obtain ⟨y785, hy785⟩ : ∃ y_ : List Int, y_ = (y781.set ((ji51) : Int).toNat (wrap64 ((rd y781 (ji51)) + 1))) := ⟨_, rfl⟩
   replace H : (if (rd y785 (ji51)) = 256 then ((impl_ReadImage.f kj5 (y785.set ((ji51) : Int).toNat 254)).bind fun bt788 => (if 0 ≤ (wrap64 ((t757.length : Int) - 1)) then (if (wrap64 ((t757.length : Int) - 1)) ≤ (t757.length : Int) then ((impl_ReadImage.f kj5 (t757.take ((wrap64 ((t757.length : Int) - 1)) : Int).toNat)).bind fun bt800 => (if bt788.2.2.2.2 = true then (some false) else (some (!bt800.2.2.2.2)))) else (none)) else (none))) else ((impl_ReadImage.f kj5 y785).bind fun bt808 => (if 0 ≤ (wrap64 ((t757.length : Int) - 1)) then (if (wrap64 ((t757.length : Int) - 1)) ≤ (t757.length : Int) then ((impl_ReadImage.f kj5 (t757.take ((wrap64 ((t757.length : Int) - 1)) : Int).toNat)).bind fun bt820 => (if bt808.2.2.2.2 = true then (some false) else (some (!bt820.2.2.2.2)))) else (none)) else (none)))) = some r := rY hy785 H
   have Ny785 := aM hy785
   clear hy785
   by_cases c55 : (rd y785 (ji51)) = 256
   rotate_left
   ·rw [if_neg c55] at H
    have c55b0 : ((rd y785 (ji51)) == 256) = false := beq_eq_false_iff_ne.mpr c55
    have c55b1 : ((rd y785 (ji51)) != 256) = true := bne_iff_ne.mpr c55
    replace H := Option.bind_eq_some_iff.mp H
    obtain ⟨⟨t808, t809, t810, t811, t814⟩, A1090, H⟩ := H
    replace H : (if 0 ≤ (wrap64 ((t757.length : Int) - 1)) then (if (wrap64 ((t757.length : Int) - 1)) ≤ (t757.length : Int) then ((impl_ReadImage.f kj5 (t757.take ((wrap64 ((t757.length : Int) - 1)) : Int).toNat)).bind fun bt820 => (if t814 = true then (some false) else (some (!bt820.2.2.2.2)))) else (none)) else (none)) = some r := H
    have A109 := aM A1090
    clear A1090
    obtain ⟨ji110, hji110⟩ : ∃ j_ : Int, (wrap64 ((t757.length : Int) - 1)) = j_ := ⟨_, rfl⟩
    replace H : (if 0 ≤ (ji110) then (if (ji110) ≤ (t757.length : Int) then ((impl_ReadImage.f kj5 (t757.take ((ji110) : Int).toNat)).bind fun bt820 => (if t814 = true then (some false) else (some (!bt820.2.2.2.2)))) else (none)) else (none)) = some r := by first | (rw [hji110] at H; exact H) | (simp only [hji110] at H ⊢; exact H)
    (try rw [hji110] at A109)
    have hji110w : (IntKind.i64.wrap ((t757.length : Int) - 1)) = ji110 := (i64_w _).trans hji110
    replace H := iS H
    obtain ⟨c111, H⟩ := H
    have c111b0 := eq_true c111
    have c111b1 : decide (0 ≤ (ji110)) = true := decide_eq_true c111
    clear c111
    replace H := iS H
    obtain ⟨c112, H⟩ := H
    have c112b0 := eq_true c112
    have c112b1 : decide ((ji110) ≤ (t757.length : Int)) = true := decide_eq_true c112
    clear c112
    obtain ⟨y816, hy816⟩ : ∃ y_ : List Int, y_ = (t757.take ((ji110) : Int).toNat) := ⟨_, rfl⟩
    replace H : ((impl_ReadImage.f kj5 y816).bind fun bt820 => (if t814 = true then (some false) else (some (!bt820.2.2.2.2)))) = some r := rY hy816 H
    have Ny816 := aM hy816
    clear hy816
    replace H := Option.bind_eq_some_iff.mp H
    obtain ⟨⟨t820, t821, t822, t823, t826⟩, A1130, H⟩ := H
    replace H : (if t814 = true then (some false) else (some (!t826))) = some r := H
    have A113 := aM A1130
    clear A1130
    by_cases c114 : t814 = true
    ·subst c114
     have H1 : (some false) = some r := by rw [if_pos rfl] at H; exact H
     clear H
     have H := H1
     clear H1
     obtain rfl := Option.some.inj H
     exact absurd hrt (by decide)
    replace c114 := Bool.eq_false_iff.mpr c114
    subst c114
    have H1 : (some (!t826)) = some r := by rw [if_neg (show ¬ (false = true) by decide)] at H; exact H
    clear H
    have H := H1
    clear H1
    obtain rfl := Option.some.inj H
    go_wp2_with (first | ((with_reducible refine gate_dst (N := 62) rfl ?_); (try (refine gate_guard (by rfl) ?_; dsimp only)); refine iL ([] : List Int) [] ?_; intro v779 w136 ho137 hb hg_ hnew_; clear hg_ hnew_; (first | rw [← Ny778.out] at ho137 | (simp only [Int.reduceToNat] at ho137; rw [← Ny778.out] at ho137)); have HO780 := aM (Kd.R_lower (Kd.R_new' (Kd.R_new' (Kd.R_new' ho137 (Kd.Q_lt (qQ HO_3.out))) (Kd.R_lt (qR HO_768003.out))) (Kd.R_lt (qR HO_776003.out))) (below_size (qW HB.out))); replace HO_3 := aM (Kd.Q_elder' (qQ HO_3.out) (Kd.R_base ho137) hb); replace HO_768003 := aM (Kd.R_elder' (qR HO_768003.out) (Kd.R_base ho137) hb); replace HO_776003 := aM (Kd.R_elder' (qR HO_776003.out) (Kd.R_base ho137) hb); replace BK767 := bB BK767 hb; replace BK775 := bB BK775 hb; replace HB := bS HB hb; clear hb ho137) | ((with_reducible refine gate_builtin (b := .append) (xs := #[.tmp 62, .tmp 63]) rfl ?_); (try (refine gate_guard (by rfl) ?_; dsimp only)); at_builtin; refine Kd.R_append_rows (Kd.int .i64) (w0 := w) w.heap.size rfl (.tmp 62) (.tmp 63) 22 3 (.int .i64 0) 8 rfl Try.underlying22 info3 rfl (by decide) (by omega) v779 y778 t757 _ _ _ (fun k_ => some k_ ≠ (.slice Ao8 t757.length co8 : Value).ownBlock ∧ some k_ ≠ (.slice Ao12 t763.length co12 : Value).ownBlock ∧ some k_ ≠ (.slice Ao17 t771.length co17 : Value).ownBlock) (fun _ => False) rfl rfl ?aO ?aR (fun _ _ h => h) (fun _ h => h.elim) ?aF ?aB ?aS ?aL ?_; (case aR => exact qC (Kd.Q_reads' HO_3.out).2.2); (case aB => exact (qW HB.out)); (case aF => exact (fun k_ hk => ⟨Kd.fresh' (Kd.Q_lt (qQ HO_3.out)) k_ hk, Kd.fresh' (Kd.R_lt (qR HO_768003.out)) k_ hk, Kd.fresh' (Kd.R_lt (qR HO_776003.out)) k_ hk⟩)); (case aO => exact (by refine qR ?_; exact Kd.R_mono HO780.out (fun _ hk => ⟨hk.1.1.2, ⟨hk.1.2, hk.2⟩⟩))); (case aS => exact (below_size (qW HB.out))); (case aL => have := LMc50.out; omega); intro v782 w138 ho hb hg hat; rw [← Ny781.out] at ho; replace HO_3 := aM (Kd.Q_after (ok := (fun k_ => some k_ ≠ (.slice Ao12 t763.length co12 : Value).ownBlock ∧ some k_ ≠ (.slice Ao17 t771.length co17 : Value).ownBlock)) (qQ HO_3.out) hg hat); replace HO_768003 := aM (Kd.R_after (ok := (fun k_ => some k_ ≠ (.slice Ao8 t757.length co8 : Value).ownBlock ∧ some k_ ≠ (.slice Ao17 t771.length co17 : Value).ownBlock)) (qR HO_768003.out) hg hat); replace HO_776003 := aM (Kd.R_after (ok := (fun k_ => some k_ ≠ (.slice Ao8 t757.length co8 : Value).ownBlock ∧ some k_ ≠ (.slice Ao12 t763.length co12 : Value).ownBlock)) (qR HO_776003.out) hg hat); replace BK767 := gB BK767 hg (Kd.R_ne HO780.out BK767.out (by decide)); replace BK775 := gB BK775 hg (Kd.R_ne HO780.out BK775.out (by decide)); replace HB := aM (hb); have HO783 := aM (ho); clear HO780; clear ho hb hg hat; obtain ⟨Ao139, co139, rfl⟩ := sL HO783; have p784 : 0 ≤ ((ji51) : Int) := oD; have q784 : (ji51) < (y781.length : Int) := oD; obtain ⟨ad784, e784, hx784_0⟩ := Kd.at_int (Kd.R_reads' HO783.out).2.2 (ji51) p784 q784; cases e784; replace p784 := eq_true p784; replace q784 := eq_true q784; have p54 : 0 ≤ ((ji51) : Int) := oD; have q54 : ((ji51) : Int) < ((y781.length : Int) : Int) := oD; obtain ⟨go54, co54, eo54, gb54, gl54, cl54, HG54⟩ := Kd.R_form HO783.out (by omega); (first | cases eo54 | (injection eo54 with ea_ en_ ec_; (first | subst ea_ | (injection ea_ with ea_; subst ea_)); subst ec_; clear en_)); have GB54 := aM gb54; have GG54 := aM HG54; clear gb54 gl54 HG54; (first | simp only [add_plain] at hx784_0 | skip); obtain ⟨hx54_0, hf54_0⟩ := Kd.R_celln 0 HO783.out ((ji51) : Int) p54 q54; replace p54 := eq_true p54; replace q54 := eq_true q54; obtain ⟨hy140_, hz140_⟩ := Kd.R_celln 0 HO783.out ((ji51) : Int) oD oD; have HP140 := Kd.R_putg HO783.out ((ji51) : Int) (wrap64 ((rd y781 (ji51)) + 1))) | ((with_reducible refine gate_store (t := 3) (p := 72) rfl ?_); refine store_event (t := 3) (p := 72) (v := ?vo_w141) (w1 := (w138.setCell ⟨go54, ((ji51) : Int).toNat, none⟩ (.int .i64 (wrap64 ((rd y781 (ji51)) + 1))))) ?hg ?ho ?hn ?hr ?_; (case ho => rfl); (case hg => rfl); (case hn => rfl); (case hr => first | (go_simp; done) | (go_simp; rfl)); intro w141 hw; have hg : w138.grownBy w141 (some go54) := (by rw [hw]; exact HP140.2); have hp_ : Kd.R (Kd.int .i64) 3 w141 w.heap.size (fun k_ => some k_ ≠ (.slice Ao8 t757.length co8 : Value).ownBlock ∧ some k_ ≠ (.slice Ao12 t763.length co12 : Value).ownBlock ∧ some k_ ≠ (.slice Ao17 t771.length co17 : Value).ownBlock) (.slice (some ⟨go54, 0, none⟩) y781.length co139) y785 := (by rw [hw, Ny785.out]; exact HP140.1); clear HP140; replace HO_3 := aM (Kd.Q_after (v := (.slice (some ⟨go54, 0, none⟩) y781.length co139)) (v1 := (.slice (some ⟨go54, 0, none⟩) y781.length co139)) (ok := (fun k_ => some k_ ≠ (.slice Ao12 t763.length co12 : Value).ownBlock ∧ some k_ ≠ (.slice Ao17 t771.length co17 : Value).ownBlock)) (qQ HO_3.out) hg (.inl rfl)); replace HO_768003 := aM (Kd.R_after (v := (.slice (some ⟨go54, 0, none⟩) y781.length co139)) (v1 := (.slice (some ⟨go54, 0, none⟩) y781.length co139)) (ok := (fun k_ => some k_ ≠ (.slice Ao8 t757.length co8 : Value).ownBlock ∧ some k_ ≠ (.slice Ao17 t771.length co17 : Value).ownBlock)) (qR HO_768003.out) hg (.inl rfl)); replace HO_776003 := aM (Kd.R_after (v := (.slice (some ⟨go54, 0, none⟩) y781.length co139)) (v1 := (.slice (some ⟨go54, 0, none⟩) y781.length co139)) (ok := (fun k_ => some k_ ≠ (.slice Ao8 t757.length co8 : Value).ownBlock ∧ some k_ ≠ (.slice Ao12 t763.length co12 : Value).ownBlock)) (qR HO_776003.out) hg (.inl rfl)); replace BK767 := gB BK767 hg (Kd.R_ne HO783.out BK767.out (by decide)); replace BK775 := gB BK775 hg (Kd.R_ne HO783.out BK775.out (by decide)); replace HO783 := aM (hp_); replace HB := aM ((by rw [hw]; exact below_set (HB.out) GB54.out : Below w.heap.size w w141)); clear hg hw hp_; have p786 : 0 ≤ ((ji51) : Int) := oD; have q786 : (ji51) < (y785.length : Int) := (by have h_ : ((ji51) : Int) < ((y781.length : Int) : Int) := oD; first | (have e_ := (Kd.R_reads' HO783.out).1; omega) | simpa only [Ny785.out, List.length_set] using h_); have ql786 : (((ji51) : Int) < ((y781.length : Int) : Int)) = True := eq_true oD; obtain ⟨ad786, e786, hx786_0⟩ := Kd.at_int (Kd.R_reads' HO783.out).2.2 (ji51) p786 q786; obtain rfl : (⟨go54, 0, none⟩ : Addr) = ad786 := (by injection e786); (first | simp only [add_plain] at hx786_0 | simp only [add_at] at hx786_0 | simp only [Addr.add, Nat.zero_add] at hx786_0 | skip); replace p786 := eq_true p786; replace q786 := eq_true q786) | ((with_reducible refine gate_callee (f := 14) rfl ?_); refine goesL_ (some 83) rfl rfl Try.func14 (by kernel_rfl) rfl #[.slice (some ⟨go54, 0, none⟩) y785.length co139] rfl (by (try simp only [List.map_toArray, List.map_cons, List.map_nil]); first | done | (rw [show y785.length = y781.length from (Kd.R_reads' HO783.out).1.symm] <;> rfl) | rfl | (simp only [List.length_drop, List.length_take]; rfl)) ?_; (with_reducible refine (impl_ReadImage.calls kj5 _ _ y785 t808 t809 t810 t811 false _ ?side1 ?side2 A109.out).mono ?_); (case side1 => exact qC (Kd.R_reads' HO783.out).2.2); (case side2 => rw [show y785.length = y781.length from (Kd.R_reads' HO783.out).1.symm]; exact (Kd.R_reads' HO783.out).2.1); rintro e w142 ⟨v812, rfl, ho0, hb⟩; refine ⟨_, rfl, ?_⟩; have HO813 := aM (Kd.R_lower (Kd.R_new' (Kd.R_new' (Kd.R_new' (Kd.R_new' ho0 (Kd.Q_lt (qQ HO_3.out))) (Kd.R_lt (qR HO_768003.out))) (Kd.R_lt (qR HO_776003.out))) (Kd.R_lt (qR HO783.out))) (below_size (qW HB.out))); replace HO_3 := aM (Kd.Q_elder' (qQ HO_3.out) (Kd.R_base ho0) hb); replace HO_768003 := aM (Kd.R_elder' (qR HO_768003.out) (Kd.R_base ho0) hb); replace HO_776003 := aM (Kd.R_elder' (qR HO_776003.out) (Kd.R_base ho0) hb); replace HO783 := aM (Kd.R_elder' (qR HO783.out) (Kd.R_base ho0) hb); replace BK767 := bB BK767 hb; replace BK775 := bB BK775 hb; replace HB := bS HB hb; clear hb ho0) | ((with_reducible refine gate_dst (N := 10) rfl ?_); (try (refine gate_guard (by rfl) ?_; dsimp only)); refine bxE (N := 10) (cs := #[.int .i64 0, .int .i64 0, .int .i64 0, .slice none 0 0]) (t := 24) ?_; intro gb815 hg w143 hbox hb; replace HO_3 := aM (Kd.Q_below (qQ HO_3.out) hb); replace HO_768003 := aM (Kd.R_below (qR HO_768003.out) hb); replace HO_776003 := aM (Kd.R_below (qR HO_776003.out) hb); replace HO783 := aM (Kd.R_below (qR HO783.out) hb); replace HO813 := aM (Kd.R_below (qR HO813.out) hb); have BK815 := aM (hbox); have GW815 := gW hg HB; have GE815 := gW hg HB; replace HB := bS HB hb; have NB767_815 := nL hg BK767; have NB815_767 := nG hg BK767; replace BK767 := bB BK767 hb; have NB775_815 := nL hg BK775; have NB815_775 := nG hg BK775; replace BK775 := bB BK775 hb; clear hb hbox hg; have hnb144 := NB815_767.out; have hnc144 := NB767_815.out; have hnb145 := NB815_775.out; have hnc145 := NB775_815.out; obtain ⟨⟨hcz146_0, hcz146_1, hcz146_2, hcz146_3⟩, hfz146_0, hfz146_1, hfz146_2, hfz146_3⟩ := cf4 BK815; obtain ⟨Ao147, co147, rfl⟩ := sL HO813) | ((with_reducible refine gate_store (t := 24) (p := 10) rfl ?_); refine store_event (t := 24) (p := 10) (v := ?vo_w148) (w1 := ((((w143.setCell ⟨gb815, 0, none⟩ (.int .i64 t808)).setCell ⟨gb815, 1, none⟩ (.int .i64 t809)).setCell ⟨gb815, 2, none⟩ (.int .i64 t810)).setCell ⟨gb815, 3, none⟩ (.slice Ao147 t811.length co147))) ?hg ?ho ?hn ?hr ?_; (case ho => rfl); (case hg => rfl); (case hn => rfl); (case hr => first | (go_simp; done) | (go_simp; rfl)); intro w148 hw; replace HO_3 : Aside0 (Kd.Q (Kd.int .i64) 3 w148 w.heap.size (fun k_ => some k_ ≠ (.slice Ao12 t763.length co12 : Value).ownBlock ∧ some k_ ≠ (.slice Ao17 t771.length co17 : Value).ownBlock ∧ some k_ ≠ (.slice (some ⟨go54, 0, none⟩) y781.length co139 : Value).ownBlock ∧ some k_ ≠ (.slice Ao147 t811.length co147 : Value).ownBlock) (.slice Ao8 t757.length co8) t757) := ⟨(by rw [hw]; exact (by (with_reducible repeat (first | apply Kd.Q_alloc | apply Kd.Q_drewN | apply Kd.Q_drew)); exact Kd.Q_mono (qT HO_3 BK815) (fun _ hk => ⟨hk.1.1.1.1, ⟨hk.1.1.1.2, ⟨hk.1.1.2, hk.1.2⟩⟩⟩)))⟩; replace HO_768003 : Aside0 (Kd.R (Kd.int .i64) 3 w148 w.heap.size (fun k_ => some k_ ≠ (.slice Ao8 t757.length co8 : Value).ownBlock ∧ some k_ ≠ (.slice Ao17 t771.length co17 : Value).ownBlock ∧ some k_ ≠ (.slice (some ⟨go54, 0, none⟩) y781.length co139 : Value).ownBlock ∧ some k_ ≠ (.slice Ao147 t811.length co147 : Value).ownBlock) (.slice Ao12 t763.length co12) t763) := ⟨(by rw [hw]; exact (by refine qR ?_; exact Kd.R_mono (rT HO_768003 BK815) (fun _ hk => ⟨hk.1.1.1.1, ⟨hk.1.1.1.2, ⟨hk.1.1.2, hk.1.2⟩⟩⟩)))⟩; replace HO_776003 : Aside0 (Kd.R (Kd.int .i64) 3 w148 w.heap.size (fun k_ => some k_ ≠ (.slice Ao8 t757.length co8 : Value).ownBlock ∧ some k_ ≠ (.slice Ao12 t763.length co12 : Value).ownBlock ∧ some k_ ≠ (.slice (some ⟨go54, 0, none⟩) y781.length co139 : Value).ownBlock ∧ some k_ ≠ (.slice Ao147 t811.length co147 : Value).ownBlock) (.slice Ao17 t771.length co17) t771) := ⟨(by rw [hw]; exact (by refine qR ?_; exact Kd.R_mono (rT HO_776003 BK815) (fun _ hk => ⟨hk.1.1.1.1, ⟨hk.1.1.1.2, ⟨hk.1.1.2, hk.1.2⟩⟩⟩)))⟩; replace HO783 : Aside0 (Kd.R (Kd.int .i64) 3 w148 w.heap.size (fun k_ => some k_ ≠ (.slice Ao8 t757.length co8 : Value).ownBlock ∧ some k_ ≠ (.slice Ao12 t763.length co12 : Value).ownBlock ∧ some k_ ≠ (.slice Ao17 t771.length co17 : Value).ownBlock ∧ some k_ ≠ (.slice Ao147 t811.length co147 : Value).ownBlock) (.slice (some ⟨go54, 0, none⟩) y781.length co139) y785) := ⟨(by rw [hw]; exact (by refine qR ?_; exact Kd.R_mono (rT HO783 BK815) (fun _ hk => ⟨hk.1.1.1, ⟨hk.1.1.2.1, ⟨hk.1.1.2.2, hk.1.2⟩⟩⟩)))⟩; replace HO813 : Aside0 (Kd.R (Kd.int .i64) 3 w148 w.heap.size (fun k_ => some k_ ≠ (.slice Ao8 t757.length co8 : Value).ownBlock ∧ some k_ ≠ (.slice Ao12 t763.length co12 : Value).ownBlock ∧ some k_ ≠ (.slice Ao17 t771.length co17 : Value).ownBlock ∧ some k_ ≠ (.slice (some ⟨go54, 0, none⟩) y781.length co139 : Value).ownBlock) (.slice Ao147 t811.length co147) t811) := ⟨(by rw [hw]; exact (by refine qR ?_; exact Kd.R_mono (rT HO813 BK815) (fun _ hk => ⟨hk.1.1.1.1.2, ⟨hk.1.1.1.2, ⟨hk.1.1.2, hk.1.2⟩⟩⟩)))⟩; replace BK767 : Aside0 (w148.heap[gb767]? = some (.cells #[.int .i64 t760, .int .i64 t761, .int .i64 t762, .slice Ao12 t763.length co12] 24 (0, 0))) := ⟨(by rw [hw]; exact (by refine qB ?_; refine blk_far ?_ NB767_815.out _; refine qB ?_; refine blk_far ?_ NB767_815.out _; refine qB ?_; refine blk_far ?_ NB767_815.out _; refine qB ?_; refine blk_far ?_ NB767_815.out _; refine qB ?_; exact BK767.out))⟩; replace BK775 : Aside0 (w148.heap[gb775]? = some (.cells #[.int .i64 t768, .int .i64 t769, .int .i64 t770, .slice Ao17 t771.length co17] 24 (0, 0))) := ⟨(by rw [hw]; exact (by refine qB ?_; refine blk_far ?_ NB775_815.out _; refine qB ?_; refine blk_far ?_ NB775_815.out _; refine qB ?_; refine blk_far ?_ NB775_815.out _; refine qB ?_; refine blk_far ?_ NB775_815.out _; refine qB ?_; exact BK775.out))⟩; replace BK815 : Aside0 (w148.heap[gb815]? = some (.cells #[.int .i64 t808, .int .i64 t809, .int .i64 t810, .slice Ao147 t811.length co147] 24 (0, 0))) := ⟨(by rw [hw]; exact (by exact bP BK815.out))⟩; replace HB : Aside0 (Below w.heap.size w w148) := ⟨(by rw [hw]; exact (qW HB.out))⟩; clear hw; have q149 : ((ji110) : Int) ≤ ((t757.length : Int) : Int) := oD; obtain ⟨i0149, hi0149, _, hsz149, _⟩ := info_parts info3; have hroom149 : t757.length ≤ co8 := (Kd.Q_reads' HO_3.out).2.1; have hC149 : Kd.C (Kd.int .i64) _ Ao8 t757.length t757 := (Kd.Q_reads' HO_3.out).2.2; have hcut149 := cut_to (P := Try.prog) 22 3 .i64 Try.underlying22 hi0149 Ao8 t757.length co8 (ji110) oD q149 hroom149; have hr149 := Kd.C_take (m := ((ji110) : Int).toNat) hC149 (by omega); have hy149 : y816.length = ((ji110) : Int).toNat := (by rw [Ny816.out, List.length_take]; omega); rw [← Ny816.out] at hr149; rw [← hy149] at hcut149; have HR819 := aM hr149; have HC819 := aM (show y816.length ≤ co8 from by omega); clear hr149 hC149 hroom149 hi0149 hsz149; have KY149 := aM hy149; clear hy149; have KL149 := aM (show ((ji110) : Int).toNat ≤ t757.length from by omega); replace q149 := eq_true q149) | ((with_reducible refine gate_callee (f := 14) rfl ?_); refine gL (some 92) Try.func14 #[.slice Ao8 y816.length co8] ?_; (with_reducible refine (impl_ReadImage.calls kj5 _ _ y816 t820 t821 t822 t823 t826 _ ?side1 ?side2 A113.out).mono ?_); (case side1 => repeat (first | exact (by repeat (first | (with_reducible exact HR819.out) | (with_reducible refine Kd.C_alloc ?_ _) | (with_reducible refine Kd.C_drewN ?_ _) | (with_reducible refine Kd.C_drew ?_) | exact HR819.out)) | (with_reducible refine Kd.C_alloc ?_ _) | (with_reducible refine Kd.C_drewN ?_ _) | (with_reducible refine Kd.C_drew ?_))); (case side2 => exact HC819.out); rintro e w150 ⟨v824, rfl, ho0, hb⟩; refine ⟨_, rfl, ?_⟩; have HO825 := aM (Kd.R_lower (Kd.R_new' (Kd.R_new' (Kd.R_new' (Kd.R_new' (Kd.R_new' ho0 (Kd.Q_lt (qQ HO_3.out))) (Kd.R_lt (qR HO_768003.out))) (Kd.R_lt (qR HO_776003.out))) (Kd.R_lt (qR HO783.out))) (Kd.R_lt (qR HO813.out))) (below_size (qW HB.out))); replace HO_3 := aM (Kd.Q_elder' (qQ HO_3.out) (Kd.R_base ho0) hb); replace HO_768003 := aM (Kd.R_elder' (qR HO_768003.out) (Kd.R_base ho0) hb); replace HO_776003 := aM (Kd.R_elder' (qR HO_776003.out) (Kd.R_base ho0) hb); replace HO783 := aM (Kd.R_elder' (qR HO783.out) (Kd.R_base ho0) hb); replace HO813 := aM (Kd.R_elder' (qR HO813.out) (Kd.R_base ho0) hb); replace BK767 := bB BK767 hb; replace BK775 := bB BK775 hb; replace BK815 := bB BK815 hb; replace HR819 := aM (Kd.C_below (by repeat (first | (with_reducible exact HR819.out) | (with_reducible refine Kd.C_alloc ?_ _) | (with_reducible refine Kd.C_drewN ?_ _) | (with_reducible refine Kd.C_drew ?_) | exact HR819.out)) hb); replace HB := bS HB hb; clear hb ho0) | ((with_reducible refine gate_dst (N := 12) rfl ?_); (try (refine gate_guard (by rfl) ?_; dsimp only)); refine bxE (N := 12) (cs := #[.int .i64 0, .int .i64 0, .int .i64 0, .slice none 0 0]) (t := 24) ?_; intro gb827 hg w151 hbox hb; replace HO_3 := aM (Kd.Q_below (qQ HO_3.out) hb); replace HO_768003 := aM (Kd.R_below (qR HO_768003.out) hb); replace HO_776003 := aM (Kd.R_below (qR HO_776003.out) hb); replace HO783 := aM (Kd.R_below (qR HO783.out) hb); replace HO813 := aM (Kd.R_below (qR HO813.out) hb); replace HO825 := aM (Kd.R_below (qR HO825.out) hb); replace HR819 := aM (Kd.C_below (by repeat (first | (with_reducible exact HR819.out) | (with_reducible refine Kd.C_alloc ?_ _) | (with_reducible refine Kd.C_drewN ?_ _) | (with_reducible refine Kd.C_drew ?_) | exact HR819.out)) hb); have BK827 := aM (hbox); have GW827 := gW hg HB; have GE827 := gW hg HB; replace HB := bS HB hb; have NB767_827 := nL hg BK767; have NB827_767 := nG hg BK767; replace BK767 := bB BK767 hb; have NB775_827 := nL hg BK775; have NB827_775 := nG hg BK775; replace BK775 := bB BK775 hb; have NB815_827 := nL hg BK815; have NB827_815 := nG hg BK815; replace BK815 := bB BK815 hb; clear hb hbox hg; have hnb152 := NB827_767.out; have hnc152 := NB767_827.out; have hnb153 := NB827_775.out; have hnc153 := NB775_827.out; have hnb154 := NB827_815.out; have hnc154 := NB815_827.out; obtain ⟨⟨hcz155_0, hcz155_1, hcz155_2, hcz155_3⟩, hfz155_0, hfz155_1, hfz155_2, hfz155_3⟩ := cf4 BK827; obtain ⟨Ao156, co156, rfl⟩ := sL HO825))
    go_ret
    exact ⟨by first | rfl | (simp [errW_none, errW_some] <;> rfl) | (simp only [← hji51, ← hji110]; first | rfl | (simp [errW_none, errW_some] <;> rfl)) | (simp [*, errW_none, errW_some] <;> rfl), by exact qW HB.out⟩
   rw [if_pos c55] at H
   have c55b0 : ((rd y785 (ji51)) == 256) = true := beq_iff_eq.mpr c55
   have c55b1 : ((rd y785 (ji51)) != 256) = false := bne_eq_false_iff_eq.mpr c55
   clear c55
   obtain ⟨y787, hy787⟩ : ∃ y_ : List Int, y_ = (y785.set ((ji51) : Int).toNat 254) := ⟨_, rfl⟩
   replace H : ((impl_ReadImage.f kj5 y787).bind fun bt788 => (if 0 ≤ (wrap64 ((t757.length : Int) - 1)) then (if (wrap64 ((t757.length : Int) - 1)) ≤ (t757.length : Int) then ((impl_ReadImage.f kj5 (t757.take ((wrap64 ((t757.length : Int) - 1)) : Int).toNat)).bind fun bt800 => (if bt788.2.2.2.2 = true then (some false) else (some (!bt800.2.2.2.2)))) else (none)) else (none))) = some r := rY hy787 H
   have Ny787 := aM hy787
   clear hy787
   replace H := Option.bind_eq_some_iff.mp H
   obtain ⟨⟨t788, t789, t790, t791, t794⟩, A570, H⟩ := H
   replace H : (if 0 ≤ (wrap64 ((t757.length : Int) - 1)) then (if (wrap64 ((t757.length : Int) - 1)) ≤ (t757.length : Int) then ((impl_ReadImage.f kj5 (t757.take ((wrap64 ((t757.length : Int) - 1)) : Int).toNat)).bind fun bt800 => (if t794 = true then (some false) else (some (!bt800.2.2.2.2)))) else (none)) else (none)) = some r := H
   have A57 := aM A570
   clear A570
   obtain ⟨ji58, hji58⟩ : ∃ j_ : Int, (wrap64 ((t757.length : Int) - 1)) = j_ := ⟨_, rfl⟩
   replace H : (if 0 ≤ (ji58) then (if (ji58) ≤ (t757.length : Int) then ((impl_ReadImage.f kj5 (t757.take ((ji58) : Int).toNat)).bind fun bt800 => (if t794 = true then (some false) else (some (!bt800.2.2.2.2)))) else (none)) else (none)) = some r := by first | (rw [hji58] at H; exact H) | (simp only [hji58] at H ⊢; exact H)
   (try rw [hji58] at A57)
   have hji58w : (IntKind.i64.wrap ((t757.length : Int) - 1)) = ji58 := (i64_w _).trans hji58
   replace H := iS H
   obtain ⟨c59, H⟩ := H
   have c59b0 := eq_true c59
   have c59b1 : decide (0 ≤ (ji58)) = true := decide_eq_true c59
   clear c59
   replace H := iS H
   obtain ⟨c60, H⟩ := H
   have c60b0 := eq_true c60
   have c60b1 : decide ((ji58) ≤ (t757.length : Int)) = true := decide_eq_true c60
   clear c60
   obtain ⟨y796, hy796⟩ : ∃ y_ : List Int, y_ = (t757.take ((ji58) : Int).toNat) := ⟨_, rfl⟩
   replace H : ((impl_ReadImage.f kj5 y796).bind fun bt800 => (if t794 = true then (some false) else (some (!bt800.2.2.2.2)))) = some r := rY hy796 H
   have Ny796 := aM hy796
   clear hy796
   replace H := Option.bind_eq_some_iff.mp H
   obtain ⟨⟨t800, t801, t802, t803, t806⟩, A610, H⟩ := H
   replace H : (if t794 = true then (some false) else (some (!t806))) = some r := H
   have A61 := aM A610
   clear A610
   by_cases c62 : t794 = true
   ·subst c62
    have H1 : (some false) = some r := by rw [if_pos rfl] at H; exact H
    clear H
    have H := H1
    clear H1
    obtain rfl := Option.some.inj H
    exact absurd hrt (by decide)
   replace c62 := Bool.eq_false_iff.mpr c62
   subst c62
   have H1 : (some (!t806)) = some r := by rw [if_neg (show ¬ (false = true) by decide)] at H; exact H
   clear H
   have H := H1
   clear H1
   obtain rfl := Option.some.inj H
   go_wp2_with (first | ((with_reducible refine gate_dst (N := 62) rfl ?_); (try (refine gate_guard (by rfl) ?_; dsimp only)); refine iL ([] : List Int) [] ?_; intro v779 w86 ho87 hb hg_ hnew_; clear hg_ hnew_; (first | rw [← Ny778.out] at ho87 | (simp only [Int.reduceToNat] at ho87; rw [← Ny778.out] at ho87)); have HO780 := aM (Kd.R_lower (Kd.R_new' (Kd.R_new' (Kd.R_new' ho87 (Kd.Q_lt (qQ HO_3.out))) (Kd.R_lt (qR HO_768003.out))) (Kd.R_lt (qR HO_776003.out))) (below_size (qW HB.out))); replace HO_3 := aM (Kd.Q_elder' (qQ HO_3.out) (Kd.R_base ho87) hb); replace HO_768003 := aM (Kd.R_elder' (qR HO_768003.out) (Kd.R_base ho87) hb); replace HO_776003 := aM (Kd.R_elder' (qR HO_776003.out) (Kd.R_base ho87) hb); replace BK767 := bB BK767 hb; replace BK775 := bB BK775 hb; replace HB := bS HB hb; clear hb ho87) | ((with_reducible refine gate_builtin (b := .append) (xs := #[.tmp 62, .tmp 63]) rfl ?_); (try (refine gate_guard (by rfl) ?_; dsimp only)); at_builtin; refine Kd.R_append_rows (Kd.int .i64) (w0 := w) w.heap.size rfl (.tmp 62) (.tmp 63) 22 3 (.int .i64 0) 8 rfl Try.underlying22 info3 rfl (by decide) (by omega) v779 y778 t757 _ _ _ (fun k_ => some k_ ≠ (.slice Ao8 t757.length co8 : Value).ownBlock ∧ some k_ ≠ (.slice Ao12 t763.length co12 : Value).ownBlock ∧ some k_ ≠ (.slice Ao17 t771.length co17 : Value).ownBlock) (fun _ => False) rfl rfl ?aO ?aR (fun _ _ h => h) (fun _ h => h.elim) ?aF ?aB ?aS ?aL ?_; (case aR => exact qC (Kd.Q_reads' HO_3.out).2.2); (case aB => exact (qW HB.out)); (case aF => exact (fun k_ hk => ⟨Kd.fresh' (Kd.Q_lt (qQ HO_3.out)) k_ hk, Kd.fresh' (Kd.R_lt (qR HO_768003.out)) k_ hk, Kd.fresh' (Kd.R_lt (qR HO_776003.out)) k_ hk⟩)); (case aO => exact (by refine qR ?_; exact Kd.R_mono HO780.out (fun _ hk => ⟨hk.1.1.2, ⟨hk.1.2, hk.2⟩⟩))); (case aS => exact (below_size (qW HB.out))); (case aL => have := LMc50.out; omega); intro v782 w88 ho hb hg hat; rw [← Ny781.out] at ho; replace HO_3 := aM (Kd.Q_after (ok := (fun k_ => some k_ ≠ (.slice Ao12 t763.length co12 : Value).ownBlock ∧ some k_ ≠ (.slice Ao17 t771.length co17 : Value).ownBlock)) (qQ HO_3.out) hg hat); replace HO_768003 := aM (Kd.R_after (ok := (fun k_ => some k_ ≠ (.slice Ao8 t757.length co8 : Value).ownBlock ∧ some k_ ≠ (.slice Ao17 t771.length co17 : Value).ownBlock)) (qR HO_768003.out) hg hat); replace HO_776003 := aM (Kd.R_after (ok := (fun k_ => some k_ ≠ (.slice Ao8 t757.length co8 : Value).ownBlock ∧ some k_ ≠ (.slice Ao12 t763.length co12 : Value).ownBlock)) (qR HO_776003.out) hg hat); replace BK767 := gB BK767 hg (Kd.R_ne HO780.out BK767.out (by decide)); replace BK775 := gB BK775 hg (Kd.R_ne HO780.out BK775.out (by decide)); replace HB := aM (hb); have HO783 := aM (ho); clear HO780; clear ho hb hg hat; obtain ⟨Ao89, co89, rfl⟩ := sL HO783; have p784 : 0 ≤ ((ji51) : Int) := oD; have q784 : (ji51) < (y781.length : Int) := oD; obtain ⟨ad784, e784, hx784_0⟩ := Kd.at_int (Kd.R_reads' HO783.out).2.2 (ji51) p784 q784; cases e784; replace p784 := eq_true p784; replace q784 := eq_true q784; have p54 : 0 ≤ ((ji51) : Int) := oD; have q54 : ((ji51) : Int) < ((y781.length : Int) : Int) := oD; obtain ⟨go54, co54, eo54, gb54, gl54, cl54, HG54⟩ := Kd.R_form HO783.out (by omega); (first | cases eo54 | (injection eo54 with ea_ en_ ec_; (first | subst ea_ | (injection ea_ with ea_; subst ea_)); subst ec_; clear en_)); have GB54 := aM gb54; have GG54 := aM HG54; clear gb54 gl54 HG54; (first | simp only [add_plain] at hx784_0 | skip); obtain ⟨hx54_0, hf54_0⟩ := Kd.R_celln 0 HO783.out ((ji51) : Int) p54 q54; replace p54 := eq_true p54; replace q54 := eq_true q54; obtain ⟨hy90_, hz90_⟩ := Kd.R_celln 0 HO783.out ((ji51) : Int) oD oD; have HP90 := Kd.R_putg HO783.out ((ji51) : Int) (wrap64 ((rd y781 (ji51)) + 1))) | ((with_reducible refine gate_store (t := 3) (p := 72) rfl ?_); refine store_event (t := 3) (p := 72) (v := ?vo_w91) (w1 := (w88.setCell ⟨go54, ((ji51) : Int).toNat, none⟩ (.int .i64 (wrap64 ((rd y781 (ji51)) + 1))))) ?hg ?ho ?hn ?hr ?_; (case ho => rfl); (case hg => rfl); (case hn => rfl); (case hr => first | (go_simp; done) | (go_simp; rfl)); intro w91 hw; have hg : w88.grownBy w91 (some go54) := (by rw [hw]; exact HP90.2); have hp_ : Kd.R (Kd.int .i64) 3 w91 w.heap.size (fun k_ => some k_ ≠ (.slice Ao8 t757.length co8 : Value).ownBlock ∧ some k_ ≠ (.slice Ao12 t763.length co12 : Value).ownBlock ∧ some k_ ≠ (.slice Ao17 t771.length co17 : Value).ownBlock) (.slice (some ⟨go54, 0, none⟩) y781.length co89) y785 := (by rw [hw, Ny785.out]; exact HP90.1); clear HP90; replace HO_3 := aM (Kd.Q_after (v := (.slice (some ⟨go54, 0, none⟩) y781.length co89)) (v1 := (.slice (some ⟨go54, 0, none⟩) y781.length co89)) (ok := (fun k_ => some k_ ≠ (.slice Ao12 t763.length co12 : Value).ownBlock ∧ some k_ ≠ (.slice Ao17 t771.length co17 : Value).ownBlock)) (qQ HO_3.out) hg (.inl rfl)); replace HO_768003 := aM (Kd.R_after (v := (.slice (some ⟨go54, 0, none⟩) y781.length co89)) (v1 := (.slice (some ⟨go54, 0, none⟩) y781.length co89)) (ok := (fun k_ => some k_ ≠ (.slice Ao8 t757.length co8 : Value).ownBlock ∧ some k_ ≠ (.slice Ao17 t771.length co17 : Value).ownBlock)) (qR HO_768003.out) hg (.inl rfl)); replace HO_776003 := aM (Kd.R_after (v := (.slice (some ⟨go54, 0, none⟩) y781.length co89)) (v1 := (.slice (some ⟨go54, 0, none⟩) y781.length co89)) (ok := (fun k_ => some k_ ≠ (.slice Ao8 t757.length co8 : Value).ownBlock ∧ some k_ ≠ (.slice Ao12 t763.length co12 : Value).ownBlock)) (qR HO_776003.out) hg (.inl rfl)); replace BK767 := gB BK767 hg (Kd.R_ne HO783.out BK767.out (by decide)); replace BK775 := gB BK775 hg (Kd.R_ne HO783.out BK775.out (by decide)); replace HO783 := aM (hp_); replace HB := aM ((by rw [hw]; exact below_set (HB.out) GB54.out : Below w.heap.size w w91)); clear hg hw hp_; have p786 : 0 ≤ ((ji51) : Int) := oD; have q786 : (ji51) < (y785.length : Int) := (by have h_ : ((ji51) : Int) < ((y781.length : Int) : Int) := oD; first | (have e_ := (Kd.R_reads' HO783.out).1; omega) | simpa only [Ny785.out, List.length_set] using h_); have ql786 : (((ji51) : Int) < ((y781.length : Int) : Int)) = True := eq_true oD; obtain ⟨ad786, e786, hx786_0⟩ := Kd.at_int (Kd.R_reads' HO783.out).2.2 (ji51) p786 q786; obtain rfl : (⟨go54, 0, none⟩ : Addr) = ad786 := (by injection e786); (first | simp only [add_plain] at hx786_0 | simp only [add_at] at hx786_0 | simp only [Addr.add, Nat.zero_add] at hx786_0 | skip); replace p786 := eq_true p786; replace q786 := eq_true q786; have p56 : 0 ≤ ((ji51) : Int) := oD; have q56 : ((ji51) : Int) < ((y781.length : Int) : Int) := oD; obtain ⟨hx56_0, hf56_0⟩ := Kd.R_celln 0 HO783.out ((ji51) : Int) p56 q56; replace p56 := eq_true p56; replace q56 := eq_true q56; obtain ⟨hy92_, hz92_⟩ := Kd.R_celln 0 HO783.out ((ji51) : Int) oD oD; have HP92 := Kd.R_putg HO783.out ((ji51) : Int) 254) | ((with_reducible refine gate_store (t := 3) (p := 80) rfl ?_); refine store_event (t := 3) (p := 80) (v := ?vo_w93) (w1 := (w91.setCell ⟨go54, ((ji51) : Int).toNat, none⟩ (.int .i64 254))) ?hg ?ho ?hn ?hr ?_; (case ho => rfl); (case hg => rfl); (case hn => rfl); (case hr => first | (go_simp; done) | (go_simp; rfl)); intro w93 hw; have hg : w91.grownBy w93 (some go54) := (by rw [hw]; exact HP92.2); have hp_ : Kd.R (Kd.int .i64) 3 w93 w.heap.size (fun k_ => some k_ ≠ (.slice Ao8 t757.length co8 : Value).ownBlock ∧ some k_ ≠ (.slice Ao12 t763.length co12 : Value).ownBlock ∧ some k_ ≠ (.slice Ao17 t771.length co17 : Value).ownBlock) (.slice (some ⟨go54, 0, none⟩) y781.length co89) y787 := (by rw [hw, Ny787.out]; exact HP92.1); clear HP92; replace HO_3 := aM (Kd.Q_after (v := (.slice (some ⟨go54, 0, none⟩) y781.length co89)) (v1 := (.slice (some ⟨go54, 0, none⟩) y781.length co89)) (ok := (fun k_ => some k_ ≠ (.slice Ao12 t763.length co12 : Value).ownBlock ∧ some k_ ≠ (.slice Ao17 t771.length co17 : Value).ownBlock)) (qQ HO_3.out) hg (.inl rfl)); replace HO_768003 := aM (Kd.R_after (v := (.slice (some ⟨go54, 0, none⟩) y781.length co89)) (v1 := (.slice (some ⟨go54, 0, none⟩) y781.length co89)) (ok := (fun k_ => some k_ ≠ (.slice Ao8 t757.length co8 : Value).ownBlock ∧ some k_ ≠ (.slice Ao17 t771.length co17 : Value).ownBlock)) (qR HO_768003.out) hg (.inl rfl)); replace HO_776003 := aM (Kd.R_after (v := (.slice (some ⟨go54, 0, none⟩) y781.length co89)) (v1 := (.slice (some ⟨go54, 0, none⟩) y781.length co89)) (ok := (fun k_ => some k_ ≠ (.slice Ao8 t757.length co8 : Value).ownBlock ∧ some k_ ≠ (.slice Ao12 t763.length co12 : Value).ownBlock)) (qR HO_776003.out) hg (.inl rfl)); replace BK767 := gB BK767 hg (Kd.R_ne HO783.out BK767.out (by decide)); replace BK775 := gB BK775 hg (Kd.R_ne HO783.out BK775.out (by decide)); replace HO783 := aM (hp_); replace HB := aM ((by rw [hw]; exact below_set (HB.out) GB54.out : Below w.heap.size w w93)); clear hg hw hp_) | ((with_reducible refine gate_callee (f := 14) rfl ?_); refine goesL_ (some 83) rfl rfl Try.func14 (by kernel_rfl) rfl #[.slice (some ⟨go54, 0, none⟩) y787.length co89] rfl (by (try simp only [List.map_toArray, List.map_cons, List.map_nil]); first | done | (rw [show y787.length = y781.length from (Kd.R_reads' HO783.out).1.symm] <;> rfl) | rfl | (simp only [List.length_drop, List.length_take]; rfl)) ?_; (with_reducible refine (impl_ReadImage.calls kj5 _ _ y787 t788 t789 t790 t791 false _ ?side1 ?side2 A57.out).mono ?_); (case side1 => exact qC (Kd.R_reads' HO783.out).2.2); (case side2 => rw [show y787.length = y781.length from (Kd.R_reads' HO783.out).1.symm]; exact (Kd.R_reads' HO783.out).2.1); rintro e w94 ⟨v792, rfl, ho0, hb⟩; refine ⟨_, rfl, ?_⟩; have HO793 := aM (Kd.R_lower (Kd.R_new' (Kd.R_new' (Kd.R_new' (Kd.R_new' ho0 (Kd.Q_lt (qQ HO_3.out))) (Kd.R_lt (qR HO_768003.out))) (Kd.R_lt (qR HO_776003.out))) (Kd.R_lt (qR HO783.out))) (below_size (qW HB.out))); replace HO_3 := aM (Kd.Q_elder' (qQ HO_3.out) (Kd.R_base ho0) hb); replace HO_768003 := aM (Kd.R_elder' (qR HO_768003.out) (Kd.R_base ho0) hb); replace HO_776003 := aM (Kd.R_elder' (qR HO_776003.out) (Kd.R_base ho0) hb); replace HO783 := aM (Kd.R_elder' (qR HO783.out) (Kd.R_base ho0) hb); replace BK767 := bB BK767 hb; replace BK775 := bB BK775 hb; replace HB := bS HB hb; clear hb ho0) | ((with_reducible refine gate_dst (N := 10) rfl ?_); (try (refine gate_guard (by rfl) ?_; dsimp only)); refine bxE (N := 10) (cs := #[.int .i64 0, .int .i64 0, .int .i64 0, .slice none 0 0]) (t := 24) ?_; intro gb795 hg w95 hbox hb; replace HO_3 := aM (Kd.Q_below (qQ HO_3.out) hb); replace HO_768003 := aM (Kd.R_below (qR HO_768003.out) hb); replace HO_776003 := aM (Kd.R_below (qR HO_776003.out) hb); replace HO783 := aM (Kd.R_below (qR HO783.out) hb); replace HO793 := aM (Kd.R_below (qR HO793.out) hb); have BK795 := aM (hbox); have GW795 := gW hg HB; have GE795 := gW hg HB; replace HB := bS HB hb; have NB767_795 := nL hg BK767; have NB795_767 := nG hg BK767; replace BK767 := bB BK767 hb; have NB775_795 := nL hg BK775; have NB795_775 := nG hg BK775; replace BK775 := bB BK775 hb; clear hb hbox hg; have hnb96 := NB795_767.out; have hnc96 := NB767_795.out; have hnb97 := NB795_775.out; have hnc97 := NB775_795.out; obtain ⟨⟨hcz98_0, hcz98_1, hcz98_2, hcz98_3⟩, hfz98_0, hfz98_1, hfz98_2, hfz98_3⟩ := cf4 BK795; obtain ⟨Ao99, co99, rfl⟩ := sL HO793) | ((with_reducible refine gate_store (t := 24) (p := 10) rfl ?_); refine store_event (t := 24) (p := 10) (v := ?vo_w100) (w1 := ((((w95.setCell ⟨gb795, 0, none⟩ (.int .i64 t788)).setCell ⟨gb795, 1, none⟩ (.int .i64 t789)).setCell ⟨gb795, 2, none⟩ (.int .i64 t790)).setCell ⟨gb795, 3, none⟩ (.slice Ao99 t791.length co99))) ?hg ?ho ?hn ?hr ?_; (case ho => rfl); (case hg => rfl); (case hn => rfl); (case hr => first | (go_simp; done) | (go_simp; rfl)); intro w100 hw; replace HO_3 : Aside0 (Kd.Q (Kd.int .i64) 3 w100 w.heap.size (fun k_ => some k_ ≠ (.slice Ao12 t763.length co12 : Value).ownBlock ∧ some k_ ≠ (.slice Ao17 t771.length co17 : Value).ownBlock ∧ some k_ ≠ (.slice (some ⟨go54, 0, none⟩) y781.length co89 : Value).ownBlock ∧ some k_ ≠ (.slice Ao99 t791.length co99 : Value).ownBlock) (.slice Ao8 t757.length co8) t757) := ⟨(by rw [hw]; exact (by (with_reducible repeat (first | apply Kd.Q_alloc | apply Kd.Q_drewN | apply Kd.Q_drew)); exact Kd.Q_mono (qT HO_3 BK795) (fun _ hk => ⟨hk.1.1.1.1, ⟨hk.1.1.1.2, ⟨hk.1.1.2, hk.1.2⟩⟩⟩)))⟩; replace HO_768003 : Aside0 (Kd.R (Kd.int .i64) 3 w100 w.heap.size (fun k_ => some k_ ≠ (.slice Ao8 t757.length co8 : Value).ownBlock ∧ some k_ ≠ (.slice Ao17 t771.length co17 : Value).ownBlock ∧ some k_ ≠ (.slice (some ⟨go54, 0, none⟩) y781.length co89 : Value).ownBlock ∧ some k_ ≠ (.slice Ao99 t791.length co99 : Value).ownBlock) (.slice Ao12 t763.length co12) t763) := ⟨(by rw [hw]; exact (by refine qR ?_; exact Kd.R_mono (rT HO_768003 BK795) (fun _ hk => ⟨hk.1.1.1.1, ⟨hk.1.1.1.2, ⟨hk.1.1.2, hk.1.2⟩⟩⟩)))⟩; replace HO_776003 : Aside0 (Kd.R (Kd.int .i64) 3 w100 w.heap.size (fun k_ => some k_ ≠ (.slice Ao8 t757.length co8 : Value).ownBlock ∧ some k_ ≠ (.slice Ao12 t763.length co12 : Value).ownBlock ∧ some k_ ≠ (.slice (some ⟨go54, 0, none⟩) y781.length co89 : Value).ownBlock ∧ some k_ ≠ (.slice Ao99 t791.length co99 : Value).ownBlock) (.slice Ao17 t771.length co17) t771) := ⟨(by rw [hw]; exact (by refine qR ?_; exact Kd.R_mono (rT HO_776003 BK795) (fun _ hk => ⟨hk.1.1.1.1, ⟨hk.1.1.1.2, ⟨hk.1.1.2, hk.1.2⟩⟩⟩)))⟩; replace HO783 : Aside0 (Kd.R (Kd.int .i64) 3 w100 w.heap.size (fun k_ => some k_ ≠ (.slice Ao8 t757.length co8 : Value).ownBlock ∧ some k_ ≠ (.slice Ao12 t763.length co12 : Value).ownBlock ∧ some k_ ≠ (.slice Ao17 t771.length co17 : Value).ownBlock ∧ some k_ ≠ (.slice Ao99 t791.length co99 : Value).ownBlock) (.slice (some ⟨go54, 0, none⟩) y781.length co89) y787) := ⟨(by rw [hw]; exact (by refine qR ?_; exact Kd.R_mono (rT HO783 BK795) (fun _ hk => ⟨hk.1.1.1, ⟨hk.1.1.2.1, ⟨hk.1.1.2.2, hk.1.2⟩⟩⟩)))⟩; replace HO793 : Aside0 (Kd.R (Kd.int .i64) 3 w100 w.heap.size (fun k_ => some k_ ≠ (.slice Ao8 t757.length co8 : Value).ownBlock ∧ some k_ ≠ (.slice Ao12 t763.length co12 : Value).ownBlock ∧ some k_ ≠ (.slice Ao17 t771.length co17 : Value).ownBlock ∧ some k_ ≠ (.slice (some ⟨go54, 0, none⟩) y781.length co89 : Value).ownBlock) (.slice Ao99 t791.length co99) t791) := ⟨(by rw [hw]; exact (by refine qR ?_; exact Kd.R_mono (rT HO793 BK795) (fun _ hk => ⟨hk.1.1.1.1.2, ⟨hk.1.1.1.2, ⟨hk.1.1.2, hk.1.2⟩⟩⟩)))⟩; replace BK767 : Aside0 (w100.heap[gb767]? = some (.cells #[.int .i64 t760, .int .i64 t761, .int .i64 t762, .slice Ao12 t763.length co12] 24 (0, 0))) := ⟨(by rw [hw]; exact (by refine qB ?_; refine blk_far ?_ NB767_795.out _; refine qB ?_; refine blk_far ?_ NB767_795.out _; refine qB ?_; refine blk_far ?_ NB767_795.out _; refine qB ?_; refine blk_far ?_ NB767_795.out _; refine qB ?_; exact BK767.out))⟩; replace BK775 : Aside0 (w100.heap[gb775]? = some (.cells #[.int .i64 t768, .int .i64 t769, .int .i64 t770, .slice Ao17 t771.length co17] 24 (0, 0))) := ⟨(by rw [hw]; exact (by refine qB ?_; refine blk_far ?_ NB775_795.out _; refine qB ?_; refine blk_far ?_ NB775_795.out _; refine qB ?_; refine blk_far ?_ NB775_795.out _; refine qB ?_; refine blk_far ?_ NB775_795.out _; refine qB ?_; exact BK775.out))⟩; replace BK795 : Aside0 (w100.heap[gb795]? = some (.cells #[.int .i64 t788, .int .i64 t789, .int .i64 t790, .slice Ao99 t791.length co99] 24 (0, 0))) := ⟨(by rw [hw]; exact (by exact bP BK795.out))⟩; replace HB : Aside0 (Below w.heap.size w w100) := ⟨(by rw [hw]; exact (qW HB.out))⟩; clear hw; have q101 : ((ji58) : Int) ≤ ((t757.length : Int) : Int) := oD; obtain ⟨i0101, hi0101, _, hsz101, _⟩ := info_parts info3; have hroom101 : t757.length ≤ co8 := (Kd.Q_reads' HO_3.out).2.1; have hC101 : Kd.C (Kd.int .i64) _ Ao8 t757.length t757 := (Kd.Q_reads' HO_3.out).2.2; have hcut101 := cut_to (P := Try.prog) 22 3 .i64 Try.underlying22 hi0101 Ao8 t757.length co8 (ji58) oD q101 hroom101; have hr101 := Kd.C_take (m := ((ji58) : Int).toNat) hC101 (by omega); have hy101 : y796.length = ((ji58) : Int).toNat := (by rw [Ny796.out, List.length_take]; omega); rw [← Ny796.out] at hr101; rw [← hy101] at hcut101; have HR799 := aM hr101; have HC799 := aM (show y796.length ≤ co8 from by omega); clear hr101 hC101 hroom101 hi0101 hsz101; have KY101 := aM hy101; clear hy101; have KL101 := aM (show ((ji58) : Int).toNat ≤ t757.length from by omega); replace q101 := eq_true q101) | ((with_reducible refine gate_callee (f := 14) rfl ?_); refine gL (some 92) Try.func14 #[.slice Ao8 y796.length co8] ?_; (with_reducible refine (impl_ReadImage.calls kj5 _ _ y796 t800 t801 t802 t803 t806 _ ?side1 ?side2 A61.out).mono ?_); (case side1 => repeat (first | exact (by repeat (first | (with_reducible exact HR799.out) | (with_reducible refine Kd.C_alloc ?_ _) | (with_reducible refine Kd.C_drewN ?_ _) | (with_reducible refine Kd.C_drew ?_) | exact HR799.out)) | (with_reducible refine Kd.C_alloc ?_ _) | (with_reducible refine Kd.C_drewN ?_ _) | (with_reducible refine Kd.C_drew ?_))); (case side2 => exact HC799.out); rintro e w102 ⟨v804, rfl, ho0, hb⟩; refine ⟨_, rfl, ?_⟩; have HO805 := aM (Kd.R_lower (Kd.R_new' (Kd.R_new' (Kd.R_new' (Kd.R_new' (Kd.R_new' ho0 (Kd.Q_lt (qQ HO_3.out))) (Kd.R_lt (qR HO_768003.out))) (Kd.R_lt (qR HO_776003.out))) (Kd.R_lt (qR HO783.out))) (Kd.R_lt (qR HO793.out))) (below_size (qW HB.out))); replace HO_3 := aM (Kd.Q_elder' (qQ HO_3.out) (Kd.R_base ho0) hb); replace HO_768003 := aM (Kd.R_elder' (qR HO_768003.out) (Kd.R_base ho0) hb); replace HO_776003 := aM (Kd.R_elder' (qR HO_776003.out) (Kd.R_base ho0) hb); replace HO783 := aM (Kd.R_elder' (qR HO783.out) (Kd.R_base ho0) hb); replace HO793 := aM (Kd.R_elder' (qR HO793.out) (Kd.R_base ho0) hb); replace BK767 := bB BK767 hb; replace BK775 := bB BK775 hb; replace BK795 := bB BK795 hb; replace HR799 := aM (Kd.C_below (by repeat (first | (with_reducible exact HR799.out) | (with_reducible refine Kd.C_alloc ?_ _) | (with_reducible refine Kd.C_drewN ?_ _) | (with_reducible refine Kd.C_drew ?_) | exact HR799.out)) hb); replace HB := bS HB hb; clear hb ho0) | ((with_reducible refine gate_dst (N := 12) rfl ?_); (try (refine gate_guard (by rfl) ?_; dsimp only)); refine bxE (N := 12) (cs := #[.int .i64 0, .int .i64 0, .int .i64 0, .slice none 0 0]) (t := 24) ?_; intro gb807 hg w103 hbox hb; replace HO_3 := aM (Kd.Q_below (qQ HO_3.out) hb); replace HO_768003 := aM (Kd.R_below (qR HO_768003.out) hb); replace HO_776003 := aM (Kd.R_below (qR HO_776003.out) hb); replace HO783 := aM (Kd.R_below (qR HO783.out) hb); replace HO793 := aM (Kd.R_below (qR HO793.out) hb); replace HO805 := aM (Kd.R_below (qR HO805.out) hb); replace HR799 := aM (Kd.C_below (by repeat (first | (with_reducible exact HR799.out) | (with_reducible refine Kd.C_alloc ?_ _) | (with_reducible refine Kd.C_drewN ?_ _) | (with_reducible refine Kd.C_drew ?_) | exact HR799.out)) hb); have BK807 := aM (hbox); have GW807 := gW hg HB; have GE807 := gW hg HB; replace HB := bS HB hb; have NB767_807 := nL hg BK767; have NB807_767 := nG hg BK767; replace BK767 := bB BK767 hb; have NB775_807 := nL hg BK775; have NB807_775 := nG hg BK775; replace BK775 := bB BK775 hb; have NB795_807 := nL hg BK795; have NB807_795 := nG hg BK795; replace BK795 := bB BK795 hb; clear hb hbox hg; have hnb104 := NB807_767.out; have hnc104 := NB767_807.out; have hnb105 := NB807_775.out; have hnc105 := NB775_807.out; have hnb106 := NB807_795.out; have hnc106 := NB795_807.out; obtain ⟨⟨hcz107_0, hcz107_1, hcz107_2, hcz107_3⟩, hfz107_0, hfz107_1, hfz107_2, hfz107_3⟩ := cf4 BK807; obtain ⟨Ao108, co108, rfl⟩ := sL HO805))
   go_ret
   exact ⟨by first | rfl | (simp [errW_none, errW_some] <;> rfl) | (simp only [← hji51, ← hji58]; first | rfl | (simp [errW_none, errW_some] <;> rfl)) | (simp [*, errW_none, errW_some] <;> rfl), by exact qW HB.out⟩
def laws_FnReadImageDamage.Pure : Prop := ∀ (l0 : List Int), l0.length ≤ maxLen → l0.length * 1 ≤ 140737488351232 → (∀ x ∈ l0, (Lit.int .u8 x).wf = true) → ∃ k, laws_FnReadImageDamage.f k l0 = some true
theorem laws_FnReadImageDamage.walk (P : laws_FnReadImageDamage.Pure) (a0 : Option Addr) (len0 cap0 : Nat) (z0 : List Int) (w : World) (w0 : (a0 = none ∧ len0 = 0 ∧ cap0 = 0 ∧ z0 = []) ∨ ∃ x, a0 = some x ∧ len0 ≤ cap0 ∧ cap0 ≤ maxLen ∧ z0.length = cap0 ∧ (∀ i, i < z0.length → w.cell? (x.add i) = some (.int .u8 (z0.getD i 0))) ∧ ∀ n ∈ z0, (Lit.int .u8 n).wf = true) (y0 : len0 * 1 ≤ 140737488351232) :
  Calls Try.prog 5 #[.slice a0 len0 cap0] w fun e w' => e = .returned (.bool true) ∧ Below w.heap.size w w' := by
 obtain ⟨l0, rfl, hr0, hm0, hw0, hc0⟩ := ReadsInt.ofRowC w0
 obtain ⟨k, h⟩ := P l0 hm0 y0 hw0
 refine (laws_FnReadImageDamage.calls k _ _ l0 true w (Kd.C_of_reads (d := (0 : Int)) (h1 := fun _ => rfl) hr0) hc0 h rfl).mono ?_
 rintro e w' ⟨rfl, hd⟩
 exact ⟨rfl, hd⟩
end Go.Proofs.Ytchahbdmdcllaaa.P
