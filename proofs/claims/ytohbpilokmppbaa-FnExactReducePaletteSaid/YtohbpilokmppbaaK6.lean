/- Contracts and row, written by a program of this place out of the translation: the call answers true and its argument reads as before, for every input; no condition. -/
import Derived.Test.YtohbpilokmppbaaK0
import Derived.Test.YtohbpilokmppbaaK1
import Derived.Test.YtohbpilokmppbaaK4
import Derived.Test.YtohbpilokmppbaaK5
namespace Go.Proofs.Ytohbpilokmppbaa.P
open Go.RowKit Go.Proofs.YtohbpilokmppbaaW.PrintWords Go.Proofs.YtohbpilokmppbaaW.PrintLast Go.Proofs.YtohbpilokmppbaaW.PrintMore
attribute [local go_sem] max2_int min2_int max_two min_two max_three min_three max_four min_four   -- for this text's walks alone
set_option linter.unusedVariables false
set_option linter.unusedSimpArgs false
def spec_spoilImage.f (k : Nat) (s0_0 : List Int) (s0_1 : Int) (a1_0 : Int) (a1_1 : Int) (a1_2 : Int) (l1_3 : List Int) : Option (Int × Int × Int × List Int × Int) := (spec_reader_pick.f k s0_0 s0_1 40).bind fun bt236 => (if bt236.1 = 0 then ((spec_reader_one.f k s0_0 bt236.2 (([0, 17, wrap64 (a1_0 + 1)] : List Int))).bind fun bt241 => (some (bt241.1, a1_1, a1_2, l1_3, bt241.2))) else (if bt236.1 = 1 then (if 1 ≤ (l1_3.length : Int) then (some (a1_0, a1_1, a1_2, (l1_3.drop (1 : Int).toNat), bt236.2)) else (none)) else (if bt236.1 = 2 then ((spec_reader_one.f k s0_0 bt236.2 (([(-1), 256] : List Int))).bind fun bt249 => (if 0 < (l1_3.length : Int) then (some (a1_0, a1_1, a1_2, (l1_3.set (0 : Int).toNat bt249.1), bt249.2)) else (none))) else (if bt236.1 = 3 then ((spec_reader_one.f k s0_0 bt236.2 (([0, 5] : List Int))).bind fun bt255 => (some (a1_0, a1_1, bt255.1, l1_3, bt255.2))) else (some (a1_0, a1_1, a1_2, l1_3, bt236.2))))))
theorem spec_spoilImage.mono : ∀ a0 a1 a2 a3 a4 a5 k, LeO (spec_spoilImage.f k a0 a1 a2 a3 a4 a5) (spec_spoilImage.f (k + 1) a0 a1 a2 a3 a4 a5) := by
 intro a0 a1 a2 a3 a4 a5 k
 unfold spec_spoilImage.f
 repeat' first | (with_reducible first | exact spec_reader_one.mono _ _ _ _ | exact spec_reader_pick.mono _ _ _ _ | exact lR | exact lN | refine lI ?_ ?_ | refine lB ?_ fun _ => ?_) | exact spec_reader_one.mono _ _ _ _ | exact spec_reader_pick.mono _ _ _ _ | exact lN | refine lI ?_ ?_ | refine lB ?_ fun _ => ?_
set_option maxHeartbeats 8000000 in
set_option maxRecDepth 100000 in
theorem spec_spoilImage.calls (k : Nat) (g : Nat) (s0_0 : List Int) (s0_1 : Int) (a1_0 : Int) (a1_1 : Int) (a1_2 : Int) (P1_3_ : Nat → Prop) (u9000_ : Value) (l1_3 : List Int) (r1 : Int) (r2 : Int) (r3 : Int) (r4 : List Int) (r5 : Int) (w0 w : World) (hI : IsS83 w0 w g s0_0 s0_1) (hB : Below w0.heap.size w0 w) (ho1_3 : Kd.R (Kd.int .i64) 3 w w0.heap.size P1_3_ u9000_ l1_3) (h : spec_spoilImage.f k s0_0 s0_1 a1_0 a1_1 a1_2 l1_3 = some (r1, r2, r3, r4, r5)) :
  Calls Try.prog 80 #[.pointer (some ⟨g, 0, none⟩), .agg #[.int .i64 a1_0, .int .i64 a1_1, .int .i64 a1_2, u9000_]] w fun e w' => ∃ v3_ : Value, e = .returned (.agg #[.int .i64 r1, .int .i64 r2, .int .i64 r3, v3_]) ∧ Kd.Q (Kd.int .i64) 3 w' w0.heap.size (fun k_ => (P1_3_ k_ ∨ w.heap.size ≤ k_)) v3_ r4 ∧ IsS83 w0 w' g s0_0 r5 ∧ Below w0.heap.size w0 w' ∧ Kept w w' (fun k_ => (P1_3_ k_) ∨ k_ = g) := by
 have hu29 := Try.underlying29
 have HO1_3 := aM (show Kd.R (Kd.int .i64) 3 w w0.heap.size (fun k_ => (P1_3_ k_ ∨ w.heap.size ≤ k_)) u9000_ l1_3 from Kd.R_mono ho1_3 (fun k_ hk => (.inl hk)))
 have HI0 := aM hI
 have HL := aM hB.size
 clear hI
 have HK := aM (Kept.refl w (fun k_ => (P1_3_ k_) ∨ k_ = g))
 have HW0 := aM hB.size
 have HB := aM hB
 clear hB
 unfold spec_spoilImage.f at h
 have H := h
 clear h
 replace H := Option.bind_eq_some_iff.mp H
 obtain ⟨⟨t236, t237⟩, A30, H⟩ := H
 replace H : (if t236 = 0 then ((spec_reader_one.f k s0_0 t237 (([0, 17, wrap64 (a1_0 + 1)] : List Int))).bind fun bt241 => (some (bt241.1, a1_1, a1_2, l1_3, bt241.2))) else (if t236 = 1 then (if 1 ≤ (l1_3.length : Int) then (some (a1_0, a1_1, a1_2, (l1_3.drop (1 : Int).toNat), t237)) else (none)) else (if t236 = 2 then ((spec_reader_one.f k s0_0 t237 (([(-1), 256] : List Int))).bind fun bt249 => (if 0 < (l1_3.length : Int) then (some (a1_0, a1_1, a1_2, (l1_3.set (0 : Int).toNat bt249.1), bt249.2)) else (none))) else (if t236 = 3 then ((spec_reader_one.f k s0_0 t237 (([0, 5] : List Int))).bind fun bt255 => (some (a1_0, a1_1, bt255.1, l1_3, bt255.2))) else (some (a1_0, a1_1, a1_2, l1_3, t237)))))) = some (r1, r2, r3, r4, r5) := H
 have A3 := aM A30
 clear A30
 by_cases c4 : t236 = 0
 ·rw [if_pos c4] at H
  have c4b0 : (t236 == 0) = true := beq_iff_eq.mpr c4
  have c4b1 : (t236 != 0) = false := bne_eq_false_iff_eq.mpr c4
  clear c4
  obtain ⟨y238, hy238⟩ : ∃ y_ : List Int, y_ = (([0, 17, wrap64 (a1_0 + 1)] : List Int)) := ⟨_, rfl⟩
  replace H : ((spec_reader_one.f k s0_0 t237 y238).bind fun bt241 => (some (bt241.1, a1_1, a1_2, l1_3, bt241.2))) = some (r1, r2, r3, r4, r5) := rY hy238 H
  have Ny238 := aM hy238
  clear hy238
  replace H := Option.bind_eq_some_iff.mp H
  obtain ⟨⟨t241, t242⟩, A50, H⟩ := H
  replace H : (some (t241, a1_1, a1_2, l1_3, t242)) = some (r1, r2, r3, r4, r5) := H
  have A5 := aM A50
  clear A50
  simp only [Option.some.injEq, Prod.mk.injEq] at H
  obtain ⟨rfl, rfl, rfl, rfl, rfl⟩ := H
  obtain ⟨Ao6, co6, rfl⟩ := sL HO1_3
  go_enter Try.func80, Try.ntmps80
  go_wp2_with (first | ((with_reducible refine gate_dst (N := 3) rfl ?_); refine bxE (N := 3) (cs := #[.int .i64 a1_0, .int .i64 a1_1, .int .i64 a1_2, .slice Ao6 l1_3.length co6]) (t := 29) ?_; intro gb234 hg w7 hbox hb; replace HO1_3 := aM (Kd.R_below (qR HO1_3.out) hb); have BK234 := aM (hbox); have GW234 := aM ((by rw [hg]; exact (by first | exact HK.out.1 | exact (show Kept w _ (fun k_ => (P1_3_ k_) ∨ k_ = g) from kP HK.out).1) : w.heap.size ≤ gb234)); replace HK := aM (Kept.below (S := (fun k_ => (P1_3_ k_) ∨ k_ = g)) (kP HK.out) hb); have GE234 := aM ((by rw [hg]; exact (below_size (wS83 HB.out)) : w0.heap.size ≤ gb234)); replace HB := aM (below_step (wS83 HB.out) hb); have NB0_234 := aM ((by rw [hg]; exact Nat.ne_of_lt (IsS83.lt (show IsS83 w0 _ g s0_0 s0_1 from iS83 HI0.out)) : g ≠ gb234)); have NB234_0 := aM ((by rw [hg]; exact Nat.ne_of_gt (IsS83.lt (show IsS83 w0 _ g s0_0 s0_1 from iS83 HI0.out)) : gb234 ≠ g)); replace HI0 := aM (IsS83.below (iS83 HI0.out) hb); clear hb hbox hg) | ((with_reducible refine gate_dst (N := 4) rfl ?_); refine bxE (N := 4) (cs := #[.int .i64 0, .int .i64 0, .int .i64 0, .slice none 0 0]) (t := 29) ?_; intro gb235 hg w8 hbox hb; replace HO1_3 := aM (Kd.R_below (qR HO1_3.out) hb); have BK235 := aM (hbox); have GW235 := aM ((by rw [hg]; exact (by first | exact HK.out.1 | exact (show Kept w _ (fun k_ => (P1_3_ k_) ∨ k_ = g) from kP HK.out).1) : w.heap.size ≤ gb235)); replace HK := aM (Kept.below (S := (fun k_ => (P1_3_ k_) ∨ k_ = g)) (kP HK.out) hb); have GE235 := aM ((by rw [hg]; exact (below_size (wS83 HB.out)) : w0.heap.size ≤ gb235)); replace HB := aM (below_step (wS83 HB.out) hb); have NB234_235 := nL hg BK234; have NB235_234 := nG hg BK234; replace BK234 := bB BK234 hb; have NB0_235 := aM ((by rw [hg]; exact Nat.ne_of_lt (IsS83.lt (show IsS83 w0 _ g s0_0 s0_1 from iS83 HI0.out)) : g ≠ gb235)); have NB235_0 := aM ((by rw [hg]; exact Nat.ne_of_gt (IsS83.lt (show IsS83 w0 _ g s0_0 s0_1 from iS83 HI0.out)) : gb235 ≠ g)); replace HI0 := aM (IsS83.below (iS83 HI0.out) hb); clear hb hbox hg) | ((with_reducible refine gate_callee (f := 66) rfl ?_); refine gL (some 6) Try.func66 #[.pointer (some ⟨g, 0, none⟩), .int .i64 40] ?_; (with_reducible refine (spec_reader_pick.calls k g s0_0 s0_1 40 t236 t237 w0 _ ?side1 ?side2 A3.out).mono ?_); (case side1 => exact iS83 HI0.out); (case side2 => exact wS83 HB.out); rintro e w9 ⟨rfl, hi, hb, hk⟩; refine ⟨_, rfl, ?_⟩; replace HO1_3 := aM (Kd.R_mono (Kd.R_keep (IsS83.apart (show IsS83 w0 _ g s0_0 s0_1 from iS83 HI0.out) (qR HO1_3.out) (by decide)) hk (fun _ h => h.2)) (fun _ h => h.1)); replace BK234 := bK hk BK234 NB234_0; replace BK235 := bK hk BK235 NB235_0; replace HK := aM (Kept.of_keep (S := (fun k_ => (P1_3_ k_) ∨ k_ = g)) (kP HK.out) hk (.inl (.inr rfl))); replace HB := aM (hb); replace HI0 := aM (hi); clear hb hk hi; have hnb10 := NB234_235.out; have hnc10 := NB235_234.out; have hnb11 := NB234_0.out; have hnc11 := NB0_234.out; obtain ⟨⟨hcz12_0, hcz12_1, hcz12_2, hcz12_3⟩, hfz12_0, hfz12_1, hfz12_2, hfz12_3⟩ := cf4 BK234) | ((with_reducible refine gate_dst (N := 13) rfl ?_); refine iL ([0, 17, wrap64 (a1_0 + 1)] : List Int) [.int .i64 0, .int .i64 17, .int .i64 (wrap64 (a1_0 + 1))] ?_; intro v239 w13 ho14 hb hg_ hnew_; clear hg_ hnew_; (first | rw [← Ny238.out] at ho14 | (simp only [Int.reduceToNat] at ho14; rw [← Ny238.out] at ho14)); have HO240 := aM (Kd.R_lower (Kd.R_new' (Kd.R_newM (M := fun k_ => (P1_3_ k_ ∨ w.heap.size ≤ k_)) ho14 (by first | exact HK.out.1 | exact (show Kept w _ (fun k_ => (P1_3_ k_) ∨ k_ = g) from kP HK.out).1) (fun k_ h_ => .inr h_)) (Kd.R_lt (qR HO1_3.out))) (below_size (wS83 HB.out))); replace HO1_3 := aM (Kd.R_elder' (qR HO1_3.out) (Kd.R_base ho14) hb); replace BK234 := bB BK234 hb; replace BK235 := bB BK235 hb; replace HK := aM (Kept.below (S := (fun k_ => (P1_3_ k_) ∨ k_ = g)) (kP HK.out) hb); replace HB := aM (below_step (wS83 HB.out) hb); replace HI0 := aM (IsS83.below (iS83 HI0.out) hb); clear hb ho14; obtain ⟨Ao15, co15, rfl⟩ := sL HO240) | ((with_reducible refine gate_callee (f := 74) rfl ?_); refine gL (some 14) Try.func74 #[.pointer (some ⟨g, 0, none⟩), .slice Ao15 y238.length co15] ?_; (with_reducible refine (spec_reader_one.calls k g s0_0 t237 _ _ y238 t241 t242 w0 _ ?side1 ?side2 ?side3 ?side4 ?side5 A5.out).mono ?_); (case side1 => exact iS83 HI0.out); (case side2 => exact wS83 HB.out); (case side3 => exact qC (Kd.R_reads' HO240.out).2.2); (case side4 => exact (Kd.R_reads' HO240.out).2.1); (case side5 => exact far_slice (IsS83.own_ne HI0.out HO240.out (by decide))); rintro e w16 ⟨rfl, hi, hb, hk⟩; refine ⟨_, rfl, ?_⟩; replace HO1_3 := aM (Kd.R_mono (Kd.R_keep (IsS83.apart (show IsS83 w0 _ g s0_0 t237 from iS83 HI0.out) (qR HO1_3.out) (by decide)) hk (fun _ h => h.2)) (fun _ h => h.1)); replace BK234 := bK hk BK234 NB234_0; replace BK235 := bK hk BK235 NB235_0; replace HO240 := aM (Kd.R_mono (Kd.R_keep (IsS83.apart (show IsS83 w0 _ g s0_0 t237 from iS83 HI0.out) (qR HO240.out) (by decide)) hk (fun _ h => h.2)) (fun _ h => h.1)); replace HK := aM (Kept.of_keep (S := (fun k_ => (P1_3_ k_) ∨ k_ = g)) (kP HK.out) hk (.inl (.inr rfl))); replace HB := aM (hb); replace HI0 := aM (hi); clear hb hk hi; obtain ⟨⟨hcz17_0, hcz17_1, hcz17_2, hcz17_3⟩, hfz17_0, hfz17_1, hfz17_2, hfz17_3⟩ := cf4 BK234; have hnb18 := NB235_0.out; have hnc18 := NB0_235.out; obtain ⟨⟨hcz19_0, hcz19_1, hcz19_2, hcz19_3⟩, hfz19_0, hfz19_1, hfz19_2, hfz19_3⟩ := cf4 BK235))
  refine bodyPost_ret (results_cell_row rfl _ _ gb235 29 #[.int .i64 t241, .int .i64 a1_1, .int .i64 a1_2, .slice Ao6 l1_3.length co6] (0, 0) _ rfl (by refine qB ?_; refine blk_put (cs := #[.int .i64 t241, .int .i64 a1_1, .int .i64 a1_2, .slice none 0 0]) ?_ 3 _ rfl; refine qB ?_; refine blk_put (cs := #[.int .i64 t241, .int .i64 a1_1, .int .i64 0, .slice none 0 0]) ?_ 2 _ rfl; refine qB ?_; refine blk_put (cs := #[.int .i64 t241, .int .i64 0, .int .i64 0, .slice none 0 0]) ?_ 1 _ rfl; refine qB ?_; refine blk_put (cs := #[.int .i64 0, .int .i64 0, .int .i64 0, .slice none 0 0]) ?_ 0 _ rfl; refine qB ?_; refine blk_far ?_ NB235_234.out _; refine qB ?_; exact BK235.out) Try.underlying29 rfl (by kernel_rfl)) rfl ?_
  exact ⟨_, qX, Kd.Q_of_R (by refine qR ?_; exact Kd.R_mono (Kd.R_far (p := ⟨gb235, 3, none⟩) (Kd.R_far (p := ⟨gb235, 2, none⟩) (Kd.R_far (p := ⟨gb235, 1, none⟩) (Kd.R_far (p := ⟨gb235, 0, none⟩) (Kd.R_far (p := ⟨gb234, 0, none⟩) (Kd.R_types (Kd.R_types HO1_3.out BK234.out (by decide)) BK235.out (by decide)) (fun _ hk => hk.1.2) (.int .i64 t241)) (fun _ hk => hk.2) (.int .i64 t241)) (fun _ hk => hk.2) (.int .i64 a1_1)) (fun _ hk => hk.2) (.int .i64 a1_2)) (fun _ hk => hk.2) (.slice Ao6 l1_3.length co6)) (fun _ hk => hk.1.1.1)), iS83 HI0.out, wS83 HB.out, kP HK.out⟩
 rw [if_neg c4] at H
 have c4b0 : (t236 == 0) = false := beq_eq_false_iff_ne.mpr c4
 have c4b1 : (t236 != 0) = true := bne_iff_ne.mpr c4
 by_cases c20 : t236 = 1
 ·rw [if_pos c20] at H
  have c20b0 : (t236 == 1) = true := beq_iff_eq.mpr c20
  have c20b1 : (t236 != 1) = false := bne_eq_false_iff_eq.mpr c20
  clear c20
  replace H := iS H
  obtain ⟨c21, H⟩ := H
  have c21b0 := eq_true c21
  have c21b1 : decide (1 ≤ (l1_3.length : Int)) = true := decide_eq_true c21
  clear c21
  obtain ⟨y243, hy243⟩ : ∃ y_ : List Int, y_ = (l1_3.drop (1 : Int).toNat) := ⟨_, rfl⟩
  replace H : (some (a1_0, a1_1, a1_2, y243, t237)) = some (r1, r2, r3, r4, r5) := rY hy243 H
  have Ny243 := aM hy243
  clear hy243
  simp only [Option.some.injEq, Prod.mk.injEq] at H
  obtain ⟨rfl, rfl, rfl, rfl, rfl⟩ := H
  obtain ⟨Ao22, co22, rfl⟩ := sL HO1_3
  go_enter Try.func80, Try.ntmps80
  go_wp2_with (first | ((with_reducible refine gate_dst (N := 3) rfl ?_); refine bxE (N := 3) (cs := #[.int .i64 a1_0, .int .i64 a1_1, .int .i64 a1_2, .slice Ao22 l1_3.length co22]) (t := 29) ?_; intro gb234 hg w23 hbox hb; replace HO1_3 := aM (Kd.R_below (qR HO1_3.out) hb); have BK234 := aM (hbox); have GW234 := aM ((by rw [hg]; exact (by first | exact HK.out.1 | exact (show Kept w _ (fun k_ => (P1_3_ k_) ∨ k_ = g) from kP HK.out).1) : w.heap.size ≤ gb234)); replace HK := aM (Kept.below (S := (fun k_ => (P1_3_ k_) ∨ k_ = g)) (kP HK.out) hb); have GE234 := aM ((by rw [hg]; exact (below_size (wS83 HB.out)) : w0.heap.size ≤ gb234)); replace HB := aM (below_step (wS83 HB.out) hb); have NB0_234 := aM ((by rw [hg]; exact Nat.ne_of_lt (IsS83.lt (show IsS83 w0 _ g s0_0 s0_1 from iS83 HI0.out)) : g ≠ gb234)); have NB234_0 := aM ((by rw [hg]; exact Nat.ne_of_gt (IsS83.lt (show IsS83 w0 _ g s0_0 s0_1 from iS83 HI0.out)) : gb234 ≠ g)); replace HI0 := aM (IsS83.below (iS83 HI0.out) hb); clear hb hbox hg) | ((with_reducible refine gate_dst (N := 4) rfl ?_); refine bxE (N := 4) (cs := #[.int .i64 0, .int .i64 0, .int .i64 0, .slice none 0 0]) (t := 29) ?_; intro gb235 hg w24 hbox hb; replace HO1_3 := aM (Kd.R_below (qR HO1_3.out) hb); have BK235 := aM (hbox); have GW235 := aM ((by rw [hg]; exact (by first | exact HK.out.1 | exact (show Kept w _ (fun k_ => (P1_3_ k_) ∨ k_ = g) from kP HK.out).1) : w.heap.size ≤ gb235)); replace HK := aM (Kept.below (S := (fun k_ => (P1_3_ k_) ∨ k_ = g)) (kP HK.out) hb); have GE235 := aM ((by rw [hg]; exact (below_size (wS83 HB.out)) : w0.heap.size ≤ gb235)); replace HB := aM (below_step (wS83 HB.out) hb); have NB234_235 := nL hg BK234; have NB235_234 := nG hg BK234; replace BK234 := bB BK234 hb; have NB0_235 := aM ((by rw [hg]; exact Nat.ne_of_lt (IsS83.lt (show IsS83 w0 _ g s0_0 s0_1 from iS83 HI0.out)) : g ≠ gb235)); have NB235_0 := aM ((by rw [hg]; exact Nat.ne_of_gt (IsS83.lt (show IsS83 w0 _ g s0_0 s0_1 from iS83 HI0.out)) : gb235 ≠ g)); replace HI0 := aM (IsS83.below (iS83 HI0.out) hb); clear hb hbox hg) | ((with_reducible refine gate_callee (f := 66) rfl ?_); refine gL (some 6) Try.func66 #[.pointer (some ⟨g, 0, none⟩), .int .i64 40] ?_; (with_reducible refine (spec_reader_pick.calls k g s0_0 s0_1 40 t236 t237 w0 _ ?side1 ?side2 A3.out).mono ?_); (case side1 => exact iS83 HI0.out); (case side2 => exact wS83 HB.out); rintro e w25 ⟨rfl, hi, hb, hk⟩; refine ⟨_, rfl, ?_⟩; replace HO1_3 := aM (Kd.R_mono (Kd.R_keep (IsS83.apart (show IsS83 w0 _ g s0_0 s0_1 from iS83 HI0.out) (qR HO1_3.out) (by decide)) hk (fun _ h => h.2)) (fun _ h => h.1)); replace BK234 := bK hk BK234 NB234_0; replace BK235 := bK hk BK235 NB235_0; replace HK := aM (Kept.of_keep (S := (fun k_ => (P1_3_ k_) ∨ k_ = g)) (kP HK.out) hk (.inl (.inr rfl))); replace HB := aM (hb); replace HI0 := aM (hi); clear hb hk hi; have hnb26 := NB234_235.out; have hnc26 := NB235_234.out; have hnb27 := NB234_0.out; have hnc27 := NB0_234.out; obtain ⟨⟨hcz28_0, hcz28_1, hcz28_2, hcz28_3⟩, hfz28_0, hfz28_1, hfz28_2, hfz28_3⟩ := cf4 BK234; have q29 : (1 : Int) ≤ ((l1_3.length : Int) : Int) := oD; obtain ⟨i029, hi029, _, hsz29, _⟩ := info_parts info3; have hcut29 := cut_from (P := Try.prog) 22 3 .i64 Try.underlying22 hi029 1 hsz29 Ao22 l1_3.length co22 1 (by omega) q29; have hr29 := Kd.Q_drop (k := (1 : Int).toNat) (Kd.Q_of_R HO1_3.out) (by omega); obtain ⟨A29, hA29⟩ : ∃ A1, A1 = (if co22 = (1 : Int).toNat then Ao22 else (Ao22 : Option Addr).map (·.add ((1 : Int).toNat * 1))) := ⟨_, rfl⟩; obtain ⟨c29, hc29⟩ : ∃ c1, c1 = co22 - (1 : Int).toNat := ⟨_, rfl⟩; have hy29 : y243.length = l1_3.length - (1 : Int).toNat := (by rw [Ny243.out, List.length_drop]); rw [← Ny243.out] at hr29; rw [← hy29, ← hA29, ← hc29] at hcut29; replace hr29 : Kd.Q (Kd.int .i64) 3 w25 w0.heap.size (fun k_ => (P1_3_ k_ ∨ w.heap.size ≤ k_)) (.slice A29 y243.length c29) y243 := (by rw [hA29, hc29, hy29]; exact hr29); have HE29 : Aside0 ((Value.slice A29 y243.length c29).ownBlock = (.slice Ao22 l1_3.length co22 : Value).ownBlock) := ⟨by rw [hA29]; split <;> (cases (Ao22 : Option Addr) <;> rfl)⟩; clear hy29 hi029 hsz29 HO1_3 hA29 hc29; have HO245 := aM hr29; clear hr29; replace q29 := eq_true q29; have hnb30 := NB235_0.out; have hnc30 := NB0_235.out; obtain ⟨⟨hcz31_0, hcz31_1, hcz31_2, hcz31_3⟩, hfz31_0, hfz31_1, hfz31_2, hfz31_3⟩ := cf4 BK235))
  refine bodyPost_ret (results_cell_row rfl _ _ gb235 29 #[.int .i64 a1_0, .int .i64 a1_1, .int .i64 a1_2, .slice A29 y243.length c29] (0, 0) _ rfl (by refine qB ?_; refine blk_put (cs := #[.int .i64 a1_0, .int .i64 a1_1, .int .i64 a1_2, .slice none 0 0]) ?_ 3 _ rfl; refine qB ?_; refine blk_put (cs := #[.int .i64 a1_0, .int .i64 a1_1, .int .i64 0, .slice none 0 0]) ?_ 2 _ rfl; refine qB ?_; refine blk_put (cs := #[.int .i64 a1_0, .int .i64 0, .int .i64 0, .slice none 0 0]) ?_ 1 _ rfl; refine qB ?_; refine blk_put (cs := #[.int .i64 0, .int .i64 0, .int .i64 0, .slice none 0 0]) ?_ 0 _ rfl; refine qB ?_; refine blk_far ?_ NB235_234.out _; refine qB ?_; exact BK235.out) Try.underlying29 rfl (by kernel_rfl)) rfl ?_
  exact ⟨_, qX, by (with_reducible repeat (first | apply Kd.Q_alloc | apply Kd.Q_drewN | apply Kd.Q_drew)); exact Kd.Q_mono (Kd.Q_far (p := ⟨gb235, 3, none⟩) (Kd.Q_far (p := ⟨gb235, 2, none⟩) (Kd.Q_far (p := ⟨gb235, 1, none⟩) (Kd.Q_far (p := ⟨gb235, 0, none⟩) (Kd.Q_far (p := ⟨gb234, 3, none⟩) (Kd.Q_types (Kd.Q_types HO245.out BK234.out (by decide)) BK235.out (by decide)) (fun _ hk => hk.1.2) (.slice A29 y243.length c29)) (fun _ hk => hk.2) (.int .i64 a1_0)) (fun _ hk => hk.2) (.int .i64 a1_1)) (fun _ hk => hk.2) (.int .i64 a1_2)) (fun _ hk => hk.2) (.slice A29 y243.length c29)) (fun _ hk => hk.1.1), iS83 HI0.out, wS83 HB.out, kP HK.out⟩
 rw [if_neg c20] at H
 have c20b0 : (t236 == 1) = false := beq_eq_false_iff_ne.mpr c20
 have c20b1 : (t236 != 1) = true := bne_iff_ne.mpr c20
 by_cases c32 : t236 = 2
 rotate_left
 ·rw [if_neg c32] at H
  have c32b0 : (t236 == 2) = false := beq_eq_false_iff_ne.mpr c32
  have c32b1 : (t236 != 2) = true := bne_iff_ne.mpr c32
  by_cases c52 : t236 = 3
  rotate_left
  ·rw [if_neg c52] at H
   have c52b0 : (t236 == 3) = false := beq_eq_false_iff_ne.mpr c52
   have c52b1 : (t236 != 3) = true := bne_iff_ne.mpr c52
   simp only [Option.some.injEq, Prod.mk.injEq] at H
   obtain ⟨rfl, rfl, rfl, rfl, rfl⟩ := H
   obtain ⟨Ao67, co67, rfl⟩ := sL HO1_3
   go_enter Try.func80, Try.ntmps80
   go_wp2_with (first | ((with_reducible refine gate_dst (N := 3) rfl ?_); refine bxE (N := 3) (cs := #[.int .i64 a1_0, .int .i64 a1_1, .int .i64 a1_2, .slice Ao67 l1_3.length co67]) (t := 29) ?_; intro gb234 hg w68 hbox hb; replace HO1_3 := aM (Kd.R_below (qR HO1_3.out) hb); have BK234 := aM (hbox); have GW234 := aM ((by rw [hg]; exact (by first | exact HK.out.1 | exact (show Kept w _ (fun k_ => (P1_3_ k_) ∨ k_ = g) from kP HK.out).1) : w.heap.size ≤ gb234)); replace HK := aM (Kept.below (S := (fun k_ => (P1_3_ k_) ∨ k_ = g)) (kP HK.out) hb); have GE234 := aM ((by rw [hg]; exact (below_size (wS83 HB.out)) : w0.heap.size ≤ gb234)); replace HB := aM (below_step (wS83 HB.out) hb); have NB0_234 := aM ((by rw [hg]; exact Nat.ne_of_lt (IsS83.lt (show IsS83 w0 _ g s0_0 s0_1 from iS83 HI0.out)) : g ≠ gb234)); have NB234_0 := aM ((by rw [hg]; exact Nat.ne_of_gt (IsS83.lt (show IsS83 w0 _ g s0_0 s0_1 from iS83 HI0.out)) : gb234 ≠ g)); replace HI0 := aM (IsS83.below (iS83 HI0.out) hb); clear hb hbox hg) | ((with_reducible refine gate_dst (N := 4) rfl ?_); refine bxE (N := 4) (cs := #[.int .i64 0, .int .i64 0, .int .i64 0, .slice none 0 0]) (t := 29) ?_; intro gb235 hg w69 hbox hb; replace HO1_3 := aM (Kd.R_below (qR HO1_3.out) hb); have BK235 := aM (hbox); have GW235 := aM ((by rw [hg]; exact (by first | exact HK.out.1 | exact (show Kept w _ (fun k_ => (P1_3_ k_) ∨ k_ = g) from kP HK.out).1) : w.heap.size ≤ gb235)); replace HK := aM (Kept.below (S := (fun k_ => (P1_3_ k_) ∨ k_ = g)) (kP HK.out) hb); have GE235 := aM ((by rw [hg]; exact (below_size (wS83 HB.out)) : w0.heap.size ≤ gb235)); replace HB := aM (below_step (wS83 HB.out) hb); have NB234_235 := nL hg BK234; have NB235_234 := nG hg BK234; replace BK234 := bB BK234 hb; have NB0_235 := aM ((by rw [hg]; exact Nat.ne_of_lt (IsS83.lt (show IsS83 w0 _ g s0_0 s0_1 from iS83 HI0.out)) : g ≠ gb235)); have NB235_0 := aM ((by rw [hg]; exact Nat.ne_of_gt (IsS83.lt (show IsS83 w0 _ g s0_0 s0_1 from iS83 HI0.out)) : gb235 ≠ g)); replace HI0 := aM (IsS83.below (iS83 HI0.out) hb); clear hb hbox hg) | ((with_reducible refine gate_callee (f := 66) rfl ?_); refine gL (some 6) Try.func66 #[.pointer (some ⟨g, 0, none⟩), .int .i64 40] ?_; (with_reducible refine (spec_reader_pick.calls k g s0_0 s0_1 40 t236 t237 w0 _ ?side1 ?side2 A3.out).mono ?_); (case side1 => exact iS83 HI0.out); (case side2 => exact wS83 HB.out); rintro e w70 ⟨rfl, hi, hb, hk⟩; refine ⟨_, rfl, ?_⟩; replace HO1_3 := aM (Kd.R_mono (Kd.R_keep (IsS83.apart (show IsS83 w0 _ g s0_0 s0_1 from iS83 HI0.out) (qR HO1_3.out) (by decide)) hk (fun _ h => h.2)) (fun _ h => h.1)); replace BK234 := bK hk BK234 NB234_0; replace BK235 := bK hk BK235 NB235_0; replace HK := aM (Kept.of_keep (S := (fun k_ => (P1_3_ k_) ∨ k_ = g)) (kP HK.out) hk (.inl (.inr rfl))); replace HB := aM (hb); replace HI0 := aM (hi); clear hb hk hi; have hnb71 := NB234_235.out; have hnc71 := NB235_234.out; have hnb72 := NB234_0.out; have hnc72 := NB0_234.out; obtain ⟨⟨hcz73_0, hcz73_1, hcz73_2, hcz73_3⟩, hfz73_0, hfz73_1, hfz73_2, hfz73_3⟩ := cf4 BK234; have hnb74 := NB235_0.out; have hnc74 := NB0_235.out; obtain ⟨⟨hcz75_0, hcz75_1, hcz75_2, hcz75_3⟩, hfz75_0, hfz75_1, hfz75_2, hfz75_3⟩ := cf4 BK235))
   refine bodyPost_ret (results_cell_row rfl _ _ gb235 29 #[.int .i64 a1_0, .int .i64 a1_1, .int .i64 a1_2, .slice Ao67 l1_3.length co67] (0, 0) _ rfl (by exact bP BK235.out) Try.underlying29 rfl (by kernel_rfl)) rfl ?_
   exact ⟨_, qX, Kd.Q_of_R (by refine qR ?_; exact Kd.R_mono (rT HO1_3 BK235) (fun _ hk => hk.1)), iS83 HI0.out, wS83 HB.out, kP HK.out⟩
  rw [if_pos c52] at H
  have c52b0 : (t236 == 3) = true := beq_iff_eq.mpr c52
  have c52b1 : (t236 != 3) = false := bne_eq_false_iff_eq.mpr c52
  clear c52
  obtain ⟨y252, hy252⟩ : ∃ y_ : List Int, y_ = (([0, 5] : List Int)) := ⟨_, rfl⟩
  replace H : ((spec_reader_one.f k s0_0 t237 y252).bind fun bt255 => (some (a1_0, a1_1, bt255.1, l1_3, bt255.2))) = some (r1, r2, r3, r4, r5) := rY hy252 H
  have Ny252 := aM hy252
  clear hy252
  replace H := Option.bind_eq_some_iff.mp H
  obtain ⟨⟨t255, t256⟩, A530, H⟩ := H
  replace H : (some (a1_0, a1_1, t255, l1_3, t256)) = some (r1, r2, r3, r4, r5) := H
  have A53 := aM A530
  clear A530
  simp only [Option.some.injEq, Prod.mk.injEq] at H
  obtain ⟨rfl, rfl, rfl, rfl, rfl⟩ := H
  obtain ⟨Ao54, co54, rfl⟩ := sL HO1_3
  go_enter Try.func80, Try.ntmps80
  go_wp2_with (first | ((with_reducible refine gate_dst (N := 3) rfl ?_); refine bxE (N := 3) (cs := #[.int .i64 a1_0, .int .i64 a1_1, .int .i64 a1_2, .slice Ao54 l1_3.length co54]) (t := 29) ?_; intro gb234 hg w55 hbox hb; replace HO1_3 := aM (Kd.R_below (qR HO1_3.out) hb); have BK234 := aM (hbox); have GW234 := aM ((by rw [hg]; exact (by first | exact HK.out.1 | exact (show Kept w _ (fun k_ => (P1_3_ k_) ∨ k_ = g) from kP HK.out).1) : w.heap.size ≤ gb234)); replace HK := aM (Kept.below (S := (fun k_ => (P1_3_ k_) ∨ k_ = g)) (kP HK.out) hb); have GE234 := aM ((by rw [hg]; exact (below_size (wS83 HB.out)) : w0.heap.size ≤ gb234)); replace HB := aM (below_step (wS83 HB.out) hb); have NB0_234 := aM ((by rw [hg]; exact Nat.ne_of_lt (IsS83.lt (show IsS83 w0 _ g s0_0 s0_1 from iS83 HI0.out)) : g ≠ gb234)); have NB234_0 := aM ((by rw [hg]; exact Nat.ne_of_gt (IsS83.lt (show IsS83 w0 _ g s0_0 s0_1 from iS83 HI0.out)) : gb234 ≠ g)); replace HI0 := aM (IsS83.below (iS83 HI0.out) hb); clear hb hbox hg) | ((with_reducible refine gate_dst (N := 4) rfl ?_); refine bxE (N := 4) (cs := #[.int .i64 0, .int .i64 0, .int .i64 0, .slice none 0 0]) (t := 29) ?_; intro gb235 hg w56 hbox hb; replace HO1_3 := aM (Kd.R_below (qR HO1_3.out) hb); have BK235 := aM (hbox); have GW235 := aM ((by rw [hg]; exact (by first | exact HK.out.1 | exact (show Kept w _ (fun k_ => (P1_3_ k_) ∨ k_ = g) from kP HK.out).1) : w.heap.size ≤ gb235)); replace HK := aM (Kept.below (S := (fun k_ => (P1_3_ k_) ∨ k_ = g)) (kP HK.out) hb); have GE235 := aM ((by rw [hg]; exact (below_size (wS83 HB.out)) : w0.heap.size ≤ gb235)); replace HB := aM (below_step (wS83 HB.out) hb); have NB234_235 := nL hg BK234; have NB235_234 := nG hg BK234; replace BK234 := bB BK234 hb; have NB0_235 := aM ((by rw [hg]; exact Nat.ne_of_lt (IsS83.lt (show IsS83 w0 _ g s0_0 s0_1 from iS83 HI0.out)) : g ≠ gb235)); have NB235_0 := aM ((by rw [hg]; exact Nat.ne_of_gt (IsS83.lt (show IsS83 w0 _ g s0_0 s0_1 from iS83 HI0.out)) : gb235 ≠ g)); replace HI0 := aM (IsS83.below (iS83 HI0.out) hb); clear hb hbox hg) | ((with_reducible refine gate_callee (f := 66) rfl ?_); refine gL (some 6) Try.func66 #[.pointer (some ⟨g, 0, none⟩), .int .i64 40] ?_; (with_reducible refine (spec_reader_pick.calls k g s0_0 s0_1 40 t236 t237 w0 _ ?side1 ?side2 A3.out).mono ?_); (case side1 => exact iS83 HI0.out); (case side2 => exact wS83 HB.out); rintro e w57 ⟨rfl, hi, hb, hk⟩; refine ⟨_, rfl, ?_⟩; replace HO1_3 := aM (Kd.R_mono (Kd.R_keep (IsS83.apart (show IsS83 w0 _ g s0_0 s0_1 from iS83 HI0.out) (qR HO1_3.out) (by decide)) hk (fun _ h => h.2)) (fun _ h => h.1)); replace BK234 := bK hk BK234 NB234_0; replace BK235 := bK hk BK235 NB235_0; replace HK := aM (Kept.of_keep (S := (fun k_ => (P1_3_ k_) ∨ k_ = g)) (kP HK.out) hk (.inl (.inr rfl))); replace HB := aM (hb); replace HI0 := aM (hi); clear hb hk hi) | ((with_reducible refine gate_dst (N := 33) rfl ?_); refine iL ([0, 5] : List Int) [.int .i64 0, .int .i64 5] ?_; intro v253 w58 ho59 hb hg_ hnew_; clear hg_ hnew_; (first | rw [← Ny252.out] at ho59 | (simp only [Int.reduceToNat] at ho59; rw [← Ny252.out] at ho59)); have HO254 := aM (Kd.R_lower (Kd.R_new' (Kd.R_newM (M := fun k_ => (P1_3_ k_ ∨ w.heap.size ≤ k_)) ho59 (by first | exact HK.out.1 | exact (show Kept w _ (fun k_ => (P1_3_ k_) ∨ k_ = g) from kP HK.out).1) (fun k_ h_ => .inr h_)) (Kd.R_lt (qR HO1_3.out))) (below_size (wS83 HB.out))); replace HO1_3 := aM (Kd.R_elder' (qR HO1_3.out) (Kd.R_base ho59) hb); replace BK234 := bB BK234 hb; replace BK235 := bB BK235 hb; replace HK := aM (Kept.below (S := (fun k_ => (P1_3_ k_) ∨ k_ = g)) (kP HK.out) hb); replace HB := aM (below_step (wS83 HB.out) hb); replace HI0 := aM (IsS83.below (iS83 HI0.out) hb); clear hb ho59; obtain ⟨Ao60, co60, rfl⟩ := sL HO254) | ((with_reducible refine gate_callee (f := 74) rfl ?_); refine gL (some 34) Try.func74 #[.pointer (some ⟨g, 0, none⟩), .slice Ao60 y252.length co60] ?_; (with_reducible refine (spec_reader_one.calls k g s0_0 t237 _ _ y252 t255 t256 w0 _ ?side1 ?side2 ?side3 ?side4 ?side5 A53.out).mono ?_); (case side1 => exact iS83 HI0.out); (case side2 => exact wS83 HB.out); (case side3 => exact qC (Kd.R_reads' HO254.out).2.2); (case side4 => exact (Kd.R_reads' HO254.out).2.1); (case side5 => exact far_slice (IsS83.own_ne HI0.out HO254.out (by decide))); rintro e w61 ⟨rfl, hi, hb, hk⟩; refine ⟨_, rfl, ?_⟩; replace HO1_3 := aM (Kd.R_mono (Kd.R_keep (IsS83.apart (show IsS83 w0 _ g s0_0 t237 from iS83 HI0.out) (qR HO1_3.out) (by decide)) hk (fun _ h => h.2)) (fun _ h => h.1)); replace BK234 := bK hk BK234 NB234_0; replace BK235 := bK hk BK235 NB235_0; replace HO254 := aM (Kd.R_mono (Kd.R_keep (IsS83.apart (show IsS83 w0 _ g s0_0 t237 from iS83 HI0.out) (qR HO254.out) (by decide)) hk (fun _ h => h.2)) (fun _ h => h.1)); replace HK := aM (Kept.of_keep (S := (fun k_ => (P1_3_ k_) ∨ k_ = g)) (kP HK.out) hk (.inl (.inr rfl))); replace HB := aM (hb); replace HI0 := aM (hi); clear hb hk hi; have hnb62 := NB234_235.out; have hnc62 := NB235_234.out; have hnb63 := NB234_0.out; have hnc63 := NB0_234.out; obtain ⟨⟨hcz64_0, hcz64_1, hcz64_2, hcz64_3⟩, hfz64_0, hfz64_1, hfz64_2, hfz64_3⟩ := cf4 BK234; have hnb65 := NB235_0.out; have hnc65 := NB0_235.out; obtain ⟨⟨hcz66_0, hcz66_1, hcz66_2, hcz66_3⟩, hfz66_0, hfz66_1, hfz66_2, hfz66_3⟩ := cf4 BK235))
  refine bodyPost_ret (results_cell_row rfl _ _ gb235 29 #[.int .i64 a1_0, .int .i64 a1_1, .int .i64 t255, .slice Ao54 l1_3.length co54] (0, 0) _ rfl (by refine qB ?_; refine blk_put (cs := #[.int .i64 a1_0, .int .i64 a1_1, .int .i64 t255, .slice none 0 0]) ?_ 3 _ rfl; refine qB ?_; refine blk_put (cs := #[.int .i64 a1_0, .int .i64 a1_1, .int .i64 0, .slice none 0 0]) ?_ 2 _ rfl; refine qB ?_; refine blk_put (cs := #[.int .i64 a1_0, .int .i64 0, .int .i64 0, .slice none 0 0]) ?_ 1 _ rfl; refine qB ?_; refine blk_put (cs := #[.int .i64 0, .int .i64 0, .int .i64 0, .slice none 0 0]) ?_ 0 _ rfl; refine qB ?_; refine blk_far ?_ NB235_234.out _; refine qB ?_; exact BK235.out) Try.underlying29 rfl (by kernel_rfl)) rfl ?_
  exact ⟨_, qX, Kd.Q_of_R (by refine qR ?_; exact Kd.R_mono (Kd.R_far (p := ⟨gb235, 3, none⟩) (Kd.R_far (p := ⟨gb235, 2, none⟩) (Kd.R_far (p := ⟨gb235, 1, none⟩) (Kd.R_far (p := ⟨gb235, 0, none⟩) (Kd.R_far (p := ⟨gb234, 2, none⟩) (Kd.R_types (Kd.R_types HO1_3.out BK234.out (by decide)) BK235.out (by decide)) (fun _ hk => hk.1.2) (.int .i64 t255)) (fun _ hk => hk.2) (.int .i64 a1_0)) (fun _ hk => hk.2) (.int .i64 a1_1)) (fun _ hk => hk.2) (.int .i64 t255)) (fun _ hk => hk.2) (.slice Ao54 l1_3.length co54)) (fun _ hk => hk.1.1.1)), iS83 HI0.out, wS83 HB.out, kP HK.out⟩
 rw [if_pos c32] at H
 have c32b0 : (t236 == 2) = true := beq_iff_eq.mpr c32
 have c32b1 : (t236 != 2) = false := bne_eq_false_iff_eq.mpr c32
 clear c32
 obtain ⟨y246, hy246⟩ : ∃ y_ : List Int, y_ = (([(-1), 256] : List Int)) := ⟨_, rfl⟩
 replace H : ((spec_reader_one.f k s0_0 t237 y246).bind fun bt249 => (if 0 < (l1_3.length : Int) then (some (a1_0, a1_1, a1_2, (l1_3.set (0 : Int).toNat bt249.1), bt249.2)) else (none))) = some (r1, r2, r3, r4, r5) := rY hy246 H
 have Ny246 := aM hy246
 clear hy246
 replace H := Option.bind_eq_some_iff.mp H
 obtain ⟨⟨t249, t250⟩, A330, H⟩ := H
 replace H : (if 0 < (l1_3.length : Int) then (some (a1_0, a1_1, a1_2, (l1_3.set (0 : Int).toNat t249), t250)) else (none)) = some (r1, r2, r3, r4, r5) := H
 have A33 := aM A330
 clear A330
 replace H := iS H
 obtain ⟨c34, H⟩ := H
 have c34b0 : decide (0 < (l1_3.length : Int)) = true := decide_eq_true c34
 have c34b1 : decide (0 < l1_3.length) = true := decide_eq_true (by omega)
 clear c34
 obtain ⟨y251, hy251⟩ : ∃ y_ : List Int, y_ = (l1_3.set (0 : Int).toNat t249) := ⟨_, rfl⟩
 replace H : (some (a1_0, a1_1, a1_2, y251, t250)) = some (r1, r2, r3, r4, r5) := rY hy251 H
 have Ny251 := aM hy251
 clear hy251
 simp only [Option.some.injEq, Prod.mk.injEq] at H
 obtain ⟨rfl, rfl, rfl, rfl, rfl⟩ := H
 obtain ⟨Ao36, co36, rfl⟩ := sL HO1_3
 go_enter Try.func80, Try.ntmps80
 try go_wp2_with (first | ((with_reducible refine gate_dst (N := 3) rfl ?_); refine bxE (N := 3) (cs := #[.int .i64 a1_0, .int .i64 a1_1, .int .i64 a1_2, .slice Ao36 l1_3.length co36]) (t := 29) ?_; intro gb234 hg w37 hbox hb; replace HO1_3 := aM (Kd.R_below (qR HO1_3.out) hb); have BK234 := aM (hbox); have GW234 := aM ((by rw [hg]; exact (by first | exact HK.out.1 | exact (show Kept w _ (fun k_ => (P1_3_ k_) ∨ k_ = g) from kP HK.out).1) : w.heap.size ≤ gb234)); replace HK := aM (Kept.below (S := (fun k_ => (P1_3_ k_) ∨ k_ = g)) (kP HK.out) hb); have GE234 := aM ((by rw [hg]; exact (below_size (wS83 HB.out)) : w0.heap.size ≤ gb234)); replace HB := aM (below_step (wS83 HB.out) hb); have NB0_234 := aM ((by rw [hg]; exact Nat.ne_of_lt (IsS83.lt (show IsS83 w0 _ g s0_0 s0_1 from iS83 HI0.out)) : g ≠ gb234)); have NB234_0 := aM ((by rw [hg]; exact Nat.ne_of_gt (IsS83.lt (show IsS83 w0 _ g s0_0 s0_1 from iS83 HI0.out)) : gb234 ≠ g)); replace HI0 := aM (IsS83.below (iS83 HI0.out) hb); clear hb hbox hg) | ((with_reducible refine gate_dst (N := 4) rfl ?_); refine bxE (N := 4) (cs := #[.int .i64 0, .int .i64 0, .int .i64 0, .slice none 0 0]) (t := 29) ?_; intro gb235 hg w38 hbox hb; replace HO1_3 := aM (Kd.R_below (qR HO1_3.out) hb); have BK235 := aM (hbox); have GW235 := aM ((by rw [hg]; exact (by first | exact HK.out.1 | exact (show Kept w _ (fun k_ => (P1_3_ k_) ∨ k_ = g) from kP HK.out).1) : w.heap.size ≤ gb235)); replace HK := aM (Kept.below (S := (fun k_ => (P1_3_ k_) ∨ k_ = g)) (kP HK.out) hb); have GE235 := aM ((by rw [hg]; exact (below_size (wS83 HB.out)) : w0.heap.size ≤ gb235)); replace HB := aM (below_step (wS83 HB.out) hb); have NB234_235 := nL hg BK234; have NB235_234 := nG hg BK234; replace BK234 := bB BK234 hb; have NB0_235 := aM ((by rw [hg]; exact Nat.ne_of_lt (IsS83.lt (show IsS83 w0 _ g s0_0 s0_1 from iS83 HI0.out)) : g ≠ gb235)); have NB235_0 := aM ((by rw [hg]; exact Nat.ne_of_gt (IsS83.lt (show IsS83 w0 _ g s0_0 s0_1 from iS83 HI0.out)) : gb235 ≠ g)); replace HI0 := aM (IsS83.below (iS83 HI0.out) hb); clear hb hbox hg) | ((with_reducible refine gate_callee (f := 66) rfl ?_); refine gL (some 6) Try.func66 #[.pointer (some ⟨g, 0, none⟩), .int .i64 40] ?_; (with_reducible refine (spec_reader_pick.calls k g s0_0 s0_1 40 t236 t237 w0 _ ?side1 ?side2 A3.out).mono ?_); (case side1 => exact iS83 HI0.out); (case side2 => exact wS83 HB.out); rintro e w39 ⟨rfl, hi, hb, hk⟩; refine ⟨_, rfl, ?_⟩; replace HO1_3 := aM (Kd.R_mono (Kd.R_keep (IsS83.apart (show IsS83 w0 _ g s0_0 s0_1 from iS83 HI0.out) (qR HO1_3.out) (by decide)) hk (fun _ h => h.2)) (fun _ h => h.1)); replace BK234 := bK hk BK234 NB234_0; replace BK235 := bK hk BK235 NB235_0; replace HK := aM (Kept.of_keep (S := (fun k_ => (P1_3_ k_) ∨ k_ = g)) (kP HK.out) hk (.inl (.inr rfl))); replace HB := aM (hb); replace HI0 := aM (hi); clear hb hk hi))
 replace HO1_3 := aM (Kd.R_drew HO1_3.out)
 replace BK234 := aM (blk_drew BK234.out)
 replace BK235 := aM (blk_drew BK235.out)
 replace HI0 := aM (IsS83.drew HI0.out)
 replace HK := aM (Kept.drew HK.out)
 replace HB := aM (below_drew1 HB.out)
 refine start_ (n := 7) (S := fun w' => w'.cell? ⟨gb234, 0, none⟩ = some (.int .i64 a1_0) ∧ w'.cell? ⟨gb234, 1, none⟩ = some (.int .i64 a1_1) ∧ w'.cell? ⟨gb234, 2, none⟩ = some (.int .i64 a1_2) ∧ w'.cell? ⟨gb234, 3, none⟩ = some (.slice Ao36 l1_3.length co36)) (ds := [6]) (bA 7 0) (by kernel_rfl) rfl rfl ⟨(blk_cell BK234.out 0).trans rfl, (blk_cell BK234.out 1).trans rfl, (blk_cell BK234.out 2).trans rfl, (blk_cell BK234.out 3).trans rfl⟩ (fun hHeld => ?_)
 generalize w39.drew = w40 at HO1_3 BK234 BK235 HI0 HK HB hHeld ⊢
 refine pure_ (i := 0) (N := some 24) (v := ?_) (a' := ?_) (bA 7 1) rfl rfl (by kernel_rfl) (fun _ _ _ h => h) (Or.inl ⟨by rfl, ?_⟩) ?_ ?_
 rotate_left
 ·intro w'
  go_simp
  with_reducible rfl
 rotate_left
 ·refine pZ ?_
  rfl
 refine pure_ (i := 2) (N := some 26) (v := ?_) (a' := ?_) (bA 7 5) rfl rfl (by kernel_rfl) (fun _ _ _ h => h) (Or.inl ⟨by rfl, ?_⟩) ?_ ?_
 rotate_left
 ·intro w'
  go_simp
  with_reducible rfl
 rotate_left
 ·refine pZ ?_
  rfl
 refine take_ (i := 1) (N := some 25) (v := ?_) (a' := ?_) (bA 7 7) rfl rfl (by kernel_rfl) (fun _ _ _ h => h) (Or.inl ⟨by rfl, ?_⟩) hHeld ?_ ?_
 rotate_left
 ·rintro w' ⟨s0, s1, s2, s3⟩
  go_simp
  with_reducible rfl
 rotate_left
 ·refine pZ ?_
  rfl
 refine one_ (i := 3) (N := some 27) (bA 7 15) rfl rfl (by kernel_rfl) (by decide) (fun K hK => ?_)
 refine Kd.R_lit_step (Kd.int .i64) _ 3 ?hg (N := 27) ?hd (xs := ([(-1), 256] : List Int)) (inner := [.int .i64 (-1), .int .i64 256]) (ok := fun _ => True) (okp := fun _ => True) ?hr ?hp (fun _ hk => hk) trivial (Below.refl _ _) (Nat.le_refl _) (by simp) ?_; (case hd => rfl); (case hg => rfl); (case hr => first | (go_simp; done) | (go_simp; rfl)); (case hp => exact (Reps.one (show Kd.M (Kd.int .i64) _ _ _ (-1) [.int .i64 (-1)] from rfl) (Reps.one (show Kd.M (Kd.int .i64) _ _ _ 256 [.int .i64 256] from rfl) (Reps.none _ _))))
 intro v247 w41 ho42 hb hg_ hnew_
 clear hg_ hnew_
 (first | rw [← Ny246.out] at ho42 | (simp only [Int.reduceToNat] at ho42; rw [← Ny246.out] at ho42))
 have HO248 := aM (Kd.R_lower (Kd.R_new' (Kd.R_newM (M := fun k_ => (P1_3_ k_ ∨ w.heap.size ≤ k_)) ho42 (by first | exact HK.out.1 | exact (show Kept w _ (fun k_ => (P1_3_ k_) ∨ k_ = g) from kP HK.out).1) (fun k_ h_ => .inr h_)) (Kd.R_lt (qR HO1_3.out))) (below_size (wS83 HB.out)))
 replace HO1_3 := aM (Kd.R_elder' (qR HO1_3.out) (Kd.R_base ho42) hb)
 replace BK234 := bB BK234 hb
 replace BK235 := bB BK235 hb
 replace HK := aM (Kept.below (S := (fun k_ => (P1_3_ k_) ∨ k_ = g)) (kP HK.out) hb)
 replace HB := aM (below_step (wS83 HB.out) hb)
 replace HI0 := aM (IsS83.below (iS83 HI0.out) hb)
 clear hb ho42
 obtain ⟨Ao43, co43, eo43⟩ := Kd.R_slice HO248.out
 (first | subst eo43 | (injection eo43 with f1_ f2_ f3_; have f4_ := f1_.symm; have f5_ := f3_.symm; clear f1_ f2_ f3_; subst f4_; subst f5_))
 refine hK.out _ _ ⟨(blk_cell BK234.out 0).trans rfl, (blk_cell BK234.out 1).trans rfl, (blk_cell BK234.out 2).trans rfl, (blk_cell BK234.out 3).trans rfl⟩ (fun hHeld => ?_)
 clear hK K
 refine norm_ (a' := ?_) ?_ ?_
 rotate_left
 ·show Act.put _ (some 27) _ = _
  refine pZ ?_
  rfl
 refine one_ (i := 4) (N := some 28) (bA 7 31) rfl rfl (by kernel_rfl) (by decide) (fun K hK => ?_)
 refine goes_ Try.func74 (by kernel_rfl) rfl #[.pointer (some ⟨g, 0, none⟩), .slice Ao43 y246.length co43] (by rfl) rfl rfl qM ?_
 with_reducible refine (spec_reader_one.calls k g s0_0 t237 _ _ y246 t249 t250 w0 _ ?side1 ?side2 ?side3 ?side4 ?side5 A33.out).mono ?_
 (case side1 => exact iS83 HI0.out)
 (case side2 => exact wS83 HB.out)
 (case side3 => exact qC (Kd.R_reads' HO248.out).2.2)
 (case side4 => exact (Kd.R_reads' HO248.out).2.1)
 (case side5 => exact far_slice (IsS83.own_ne HI0.out HO248.out (by decide)))
 rintro e w44 ⟨rfl, hi, hb, hk⟩
 refine ⟨_, rfl, ?_⟩
 replace HO1_3 := aM (Kd.R_mono (Kd.R_keep (IsS83.apart (show IsS83 w0 _ g s0_0 t237 from iS83 HI0.out) (qR HO1_3.out) (by decide)) hk (fun _ h => h.2)) (fun _ h => h.1))
 replace BK234 := bK hk BK234 NB234_0
 replace BK235 := bK hk BK235 NB235_0
 replace HO248 := aM (Kd.R_mono (Kd.R_keep (IsS83.apart (show IsS83 w0 _ g s0_0 t237 from iS83 HI0.out) (qR HO248.out) (by decide)) hk (fun _ h => h.2)) (fun _ h => h.1))
 replace HK := aM (Kept.of_keep (S := (fun k_ => (P1_3_ k_) ∨ k_ = g)) (kP HK.out) hk (.inl (.inr rfl)))
 replace HB := aM (hb)
 replace HI0 := aM (hi)
 (try clear hb)
 (try clear hb2)
 (try clear hk)
 (try clear hi)
 have p35 : 0 ≤ (0 : Int) := (by omega)
 have q35 : (0 : Int) < ((l1_3.length : Int) : Int) := oD
 have qi35 : (0 < l1_3.length) = True := eq_true (by omega)
 obtain ⟨go35, co35, eo35, gb35, gl35, cl35, HG35⟩ := Kd.R_form HO1_3.out (by omega)
 (first | cases eo35 | (injection eo35 with ea_ en_ ec_; (first | subst ea_ | (injection ea_ with ea_; subst ea_)); subst ec_; clear en_))
 have GB35 := aM gb35
 have GG35 := aM HG35
 clear gb35 gl35 HG35
 have HMgo35 := aM (show (P1_3_ go35 ∨ w.heap.size ≤ go35) from (HO1_3.out.1 _ rfl).1)
 obtain ⟨hx35_0, hf35_0⟩ := Kd.R_celln 0 HO1_3.out (0 : Int) p35 q35
 (try rw [show ((0 : Int)).toNat = 0 from rfl] at hx35_0)
 (try simp only [Nat.reduceMul, Nat.zero_mul, Nat.zero_add, Nat.reduceAdd] at hx35_0)
 (try rw [show ((0 : Int)).toNat = 0 from rfl] at hf35_0)
 (try simp only [Nat.reduceMul, Nat.zero_mul, Nat.zero_add, Nat.reduceAdd] at hf35_0)
 replace p35 := eq_true p35
 replace q35 := eq_true q35
 have HN0_go35 := aM (show g ≠ go35 from by have h_ := IsS83.own_ne HI0.out HO1_3.out (by decide); intro e_; exact h_ (by rw [e_]; rfl))
 have HP45 := Kd.R_putn HO1_3.out (0 : Int) t249
 rw [← Ny251.out] at HP45
 have HQ45 := aM HP45
 clear HP45
 refine hK.out _ _ ⟨(blk_cell BK234.out 0).trans rfl, (blk_cell BK234.out 1).trans rfl, (blk_cell BK234.out 2).trans rfl, (blk_cell BK234.out 3).trans rfl⟩ (fun hHeld => ?_)
 clear hK K
 refine norm_ (a' := ?_) ?_ ?_
 rotate_left
 ·show Act.put _ (some 28) _ = _
  refine pZ ?_
  rfl
 refine pure_ (i := 5) (N := some 29) (v := ?_) (a' := ?_) (bA 7 63) rfl rfl (by kernel_rfl) (fun _ _ _ h => h) (Or.inl ⟨by rfl, ?_⟩) ?_ ?_
 rotate_left
 ·intro w'
  go_simp
  with_reducible rfl
 rotate_left
 ·refine pZ ?_
  rfl
 refine last_ (i := 6) (N := none) (bA 7 127) rfl rfl (by kernel_rfl) (by decide) (fun K hK => ?_)
 refine skip_ (w1 := ?_) (by rfl) rfl ?_ ?_
 rotate_left
 ·go_simp
  rfl
 refine hK.out _ _ ?_
 clear hK K
 refine done_ (by kernel_rfl) ?_
 have n0_ : Aside0 (Kd.R (Kd.int .i64) 3 (w44.setCell ⟨go35, 0, none⟩ (.int .i64 t249)) w0.heap.size (fun k_ => (P1_3_ k_ ∨ w.heap.size ≤ k_) ∧ some k_ ≠ (.slice Ao43 y246.length co43 : Value).ownBlock) (.slice (some ⟨go35, 0, none⟩) l1_3.length co36) y251) := ⟨by refine qR ?_; exact HQ45.out⟩
 have n1_ : Aside0 (Kd.R (Kd.int .i64) 3 (w44.setCell ⟨go35, 0, none⟩ (.int .i64 t249)) w0.heap.size (fun k_ => (P1_3_ k_ ∨ w.heap.size ≤ k_) ∧ some k_ ≠ (.slice (some ⟨go35, 0, none⟩) l1_3.length co36 : Value).ownBlock) (.slice Ao43 y246.length co43) y246) := ⟨by refine qR ?_; exact Kd.R_mono (Kd.R_far (p := ⟨go35, 0, none⟩) (Kd.R_mono HO248.out (fun k_ hk => (⟨hk, fun e_ => hk.2 (by rw [e_]; rfl)⟩ : _ ∧ k_ ≠ go35))) (fun _ hk => hk.2) (.int .i64 t249)) (fun _ hk => by first | exact ⟨hk.1.1.1, hk.1.2⟩ | (revert hk; simp only [and_imp]; intros; and_intros <;> assumption))⟩
 have n2_ : Aside0 ((w44.setCell ⟨go35, 0, none⟩ (.int .i64 t249)).heap[gb234]? = some (.cells #[.int .i64 a1_0, .int .i64 a1_1, .int .i64 a1_2, .slice (some ⟨go35, 0, none⟩) l1_3.length co36] 29 (0, 0))) := ⟨by refine qB ?_; refine blk_far ?_ (by have h_ := Kd.R_ne HO1_3.out BK234.out (by decide); intro e_; exact h_ (by rw [e_]; rfl)) _; refine qB ?_; exact BK234.out⟩
 have n3_ : Aside0 ((w44.setCell ⟨go35, 0, none⟩ (.int .i64 t249)).heap[gb235]? = some (.cells #[.int .i64 0, .int .i64 0, .int .i64 0, .slice none 0 0] 29 (0, 0))) := ⟨by refine qB ?_; refine blk_far ?_ (by have h_ := Kd.R_ne HO1_3.out BK235.out (by decide); intro e_; exact h_ (by rw [e_]; rfl)) _; refine qB ?_; exact BK235.out⟩
 have n4_ : Aside0 (IsS83 w0 (w44.setCell ⟨go35, 0, none⟩ (.int .i64 t249)) g s0_0 t250) := ⟨by repeat (first | (with_reducible first | exact HI0.out | apply IsS83.alloc | apply IsS83.drewN | apply IsS83.drew | apply IsS83.set_1 | refine IsS83.far ?_ HN0_go35.out _ | refine IsS83.far ?_ NB0_234.out _ | refine IsS83.far ?_ NB0_235.out _) | exact HI0.out)⟩
 have n5_ : Aside0 (Kept w (w44.setCell ⟨go35, 0, none⟩ (.int .i64 t249)) (fun k_ => (P1_3_ k_) ∨ k_ = g)) := ⟨by repeat (first | (with_reducible first | exact HK.out | apply Kept.alloc | apply Kept.drewN | apply Kept.drew | refine Kept.setCell ?_ (Or.imp_left Or.inl HMgo35.out) _ | refine Kept.setCell ?_ (.inl (.inr rfl)) _ | refine Kept.setCell ?_ (.inr GW234.out) _ | refine Kept.setCell ?_ (.inr GW235.out) _) | exact HK.out)⟩
 have n6_ : Aside0 (Below w0.heap.size w0 (w44.setCell ⟨go35, 0, none⟩ (.int .i64 t249))) := ⟨wS83 HB.out⟩
 (try clear HO1_3)
 (try clear HO248)
 (try clear BK234)
 (try clear BK235)
 (try clear HI0)
 (try clear HK)
 (try clear HB)
 generalize (w44.setCell ⟨go35, 0, none⟩ (.int .i64 t249)) = w46 at n0_ n1_ n2_ n3_ n4_ n5_ n6_ ⊢
 have HO1_3 := n0_
 have HO248 := n1_
 have BK234 := n2_
 have BK235 := n3_
 have HI0 := n4_
 have HK := n5_
 have HB := n6_
 clear n0_ n1_ n2_ n3_ n4_ n5_ n6_
 have hnb47 := NB234_235.out
 have hnc47 := NB235_234.out
 have hnb48 := NB234_0.out
 have hnc48 := NB0_234.out
 obtain ⟨⟨hcz49_0, hcz49_1, hcz49_2, hcz49_3⟩, hfz49_0, hfz49_1, hfz49_2, hfz49_3⟩ := cf4 BK234
 have hnb50 := NB235_0.out
 have hnc50 := NB0_235.out
 obtain ⟨⟨hcz51_0, hcz51_1, hcz51_2, hcz51_3⟩, hfz51_0, hfz51_1, hfz51_2, hfz51_3⟩ := cf4 BK235
 try go_wp2
 refine bodyPost_ret (results_cell_row rfl _ _ gb235 29 #[.int .i64 a1_0, .int .i64 a1_1, .int .i64 a1_2, .slice (some ⟨go35, 0, none⟩) l1_3.length co36] (0, 0) _ rfl (by exact bP BK235.out) Try.underlying29 rfl (by kernel_rfl)) rfl ?_
 exact ⟨_, qX, Kd.Q_of_R (by refine qR ?_; exact Kd.R_mono (rT HO1_3 BK235) (fun _ hk => hk.1.1)), iS83 HI0.out, wS83 HB.out, kP HK.out⟩
def spec_randomImage.l0 : Nat → Int → Int → Int → List Int → Int → Int → Int → Int → List Int → Option (Int × Int × Int × List Int × Int)
 | 0, _, _, _, _, _, _, _, _, _ => none
 | k + 1, x6, x7, x8, x1000, x1001, x279000, x279001, x279002, x279003 => if x8 < (x279003.length : Int) then (if x6 = 0 then ((spec_reader_pick.f k x1000 x1001 256).bind fun bt283 => (if 0 ≤ x8 then (spec_randomImage.l0 k x6 bt283.1 (wrap64 (x8 + 1)) x1000 bt283.2 x279000 x279001 x279002 (x279003.set (x8 : Int).toNat bt283.1)) else (none))) else (if x6 = 1 then ((spec_reader_pick.f k x1000 x1001 5).bind fun bt286 => (if 0 ≤ x8 then (spec_randomImage.l0 k x6 (Int.tmod (wrap64 ((wrap64 (x7 + bt286.1)) + 254)) 256) (wrap64 (x8 + 1)) x1000 bt286.2 x279000 x279001 x279002 (x279003.set (x8 : Int).toNat (Int.tmod (wrap64 ((wrap64 (x7 + bt286.1)) + 254)) 256))) else (none))) else (if x6 = 2 then ((spec_reader_pick.f k x1000 x1001 4).bind fun bt289 => (if 0 ≤ x8 then (spec_randomImage.l0 k x6 (wrap64 (60 * bt289.1)) (wrap64 (x8 + 1)) x1000 bt289.2 x279000 x279001 x279002 (x279003.set (x8 : Int).toNat (wrap64 (60 * bt289.1)))) else (none))) else (if 0 ≤ x8 then (spec_randomImage.l0 k x6 x7 (wrap64 (x8 + 1)) x1000 x1001 x279000 x279001 x279002 (x279003.set (x8 : Int).toNat x7)) else (none))))) else (some (x279000, x279001, x279002, x279003, x1001))
def spec_randomImage.f (k : Nat) (s0_0 : List Int) (s0_1 : Int) (a1 : Int) : Option (Int × Int × Int × List Int × Int) := (spec_reader_one.f k s0_0 s0_1 (([3, 4, 2, 5, 1, 8, 6] : List Int))).bind fun bt265 => ((spec_reader_one.f k s0_0 bt265.2 (([3, 2, 4, 1, 5, 8] : List Int))).bind fun bt270 => ((spec_newImage.f bt265.1 bt270.1 a1).bind fun bt272 => ((spec_reader_pick.f k s0_0 bt270.2 4).bind fun bt279 => ((spec_reader_pick.f k s0_0 bt279.2 256).bind fun bt281 => (spec_randomImage.l0 k bt279.1 bt281.1 0 s0_0 bt281.2 bt272.1 bt272.2.1 bt272.2.2.1 bt272.2.2.2)))))
theorem spec_randomImage.mono_l : ∀ k, (∀ y0 y1 y2 y3 y4 y5 y6 y7 y8, LeO (spec_randomImage.l0 k y0 y1 y2 y3 y4 y5 y6 y7 y8) (spec_randomImage.l0 (k + 1) y0 y1 y2 y3 y4 y5 y6 y7 y8))
 | 0 => fun _ _ _ _ _ _ _ _ _ r h => by simp [spec_randomImage.l0] at h
 | k + 1 => by
  have ih0 := spec_randomImage.mono_l k
  ·intro y0 y1 y2 y3 y4 y5 y6 y7 y8
   unfold spec_randomImage.l0
   repeat' first | (with_reducible first | exact ih0 _ _ _ _ _ _ _ _ _ | exact spec_reader_one.mono _ _ _ _ | exact spec_reader_pick.mono _ _ _ _ | exact lR | exact lN | refine lI ?_ ?_ | refine lB ?_ fun _ => ?_) | exact ih0 _ _ _ _ _ _ _ _ _ | exact spec_reader_one.mono _ _ _ _ | exact spec_reader_pick.mono _ _ _ _ | exact lN | refine lI ?_ ?_ | refine lB ?_ fun _ => ?_
theorem spec_randomImage.mono : ∀ a0 a1 a2 k, LeO (spec_randomImage.f k a0 a1 a2) (spec_randomImage.f (k + 1) a0 a1 a2) := by
 intro a0 a1 a2 k
 have ih0 := spec_randomImage.mono_l k
 unfold spec_randomImage.f
 repeat' first | (with_reducible first | exact ih0 _ _ _ _ _ _ _ _ _ | exact spec_reader_one.mono _ _ _ _ | exact spec_reader_pick.mono _ _ _ _ | exact lR | exact lN | refine lI ?_ ?_ | refine lB ?_ fun _ => ?_) | exact ih0 _ _ _ _ _ _ _ _ _ | exact spec_reader_one.mono _ _ _ _ | exact spec_reader_pick.mono _ _ _ _ | exact lN | refine lI ?_ ?_ | refine lB ?_ fun _ => ?_
set_option maxHeartbeats 8000000 in
set_option maxRecDepth 100000 in
theorem spec_randomImage.calls (k : Nat) (g : Nat) (s0_0 : List Int) (s0_1 : Int) (a1 : Int) (r1 : Int) (r2 : Int) (r3 : Int) (r4 : List Int) (r5 : Int) (w0 w : World) (hI : IsS83 w0 w g s0_0 s0_1) (hB : Below w0.heap.size w0 w) (h : spec_randomImage.f k s0_0 s0_1 a1 = some (r1, r2, r3, r4, r5)) :
  Calls Try.prog 81 #[.pointer (some ⟨g, 0, none⟩), .int .i64 a1] w fun e w' => ∃ v3_ : Value, e = .returned (.agg #[.int .i64 r1, .int .i64 r2, .int .i64 r3, v3_]) ∧ Kd.R (Kd.int .i64) 3 w' w.heap.size (fun _ => True) v3_ r4 ∧ IsS83 w0 w' g s0_0 r5 ∧ Below w0.heap.size w0 w' ∧ KeepBut w w' g none := by
 have hu29 := Try.underlying29
 have HI0 := aM hI
 have HK := aM (KeepBut.refl w g none)
 have HL := aM hB.size
 clear hI
 have HW0 := aM hB.size
 have HB := aM hB
 clear hB
 unfold spec_randomImage.f at h
 have H := h
 clear h
 obtain ⟨y262, hy262⟩ : ∃ y_ : List Int, y_ = (([3, 4, 2, 5, 1, 8, 6] : List Int)) := ⟨_, rfl⟩
 replace H : ((spec_reader_one.f k s0_0 s0_1 y262).bind fun bt265 => ((spec_reader_one.f k s0_0 bt265.2 (([3, 2, 4, 1, 5, 8] : List Int))).bind fun bt270 => ((spec_newImage.f bt265.1 bt270.1 a1).bind fun bt272 => ((spec_reader_pick.f k s0_0 bt270.2 4).bind fun bt279 => ((spec_reader_pick.f k s0_0 bt279.2 256).bind fun bt281 => (spec_randomImage.l0 k bt279.1 bt281.1 0 s0_0 bt281.2 bt272.1 bt272.2.1 bt272.2.2.1 bt272.2.2.2)))))) = some (r1, r2, r3, r4, r5) := rY hy262 H
 have Ny262 := aM hy262
 clear hy262
 replace H := Option.bind_eq_some_iff.mp H
 obtain ⟨⟨t265, t266⟩, A30, H⟩ := H
 replace H : ((spec_reader_one.f k s0_0 t266 (([3, 2, 4, 1, 5, 8] : List Int))).bind fun bt270 => ((spec_newImage.f t265 bt270.1 a1).bind fun bt272 => ((spec_reader_pick.f k s0_0 bt270.2 4).bind fun bt279 => ((spec_reader_pick.f k s0_0 bt279.2 256).bind fun bt281 => (spec_randomImage.l0 k bt279.1 bt281.1 0 s0_0 bt281.2 bt272.1 bt272.2.1 bt272.2.2.1 bt272.2.2.2))))) = some (r1, r2, r3, r4, r5) := H
 have A3 := aM A30
 clear A30
 obtain ⟨y267, hy267⟩ : ∃ y_ : List Int, y_ = (([3, 2, 4, 1, 5, 8] : List Int)) := ⟨_, rfl⟩
 replace H : ((spec_reader_one.f k s0_0 t266 y267).bind fun bt270 => ((spec_newImage.f t265 bt270.1 a1).bind fun bt272 => ((spec_reader_pick.f k s0_0 bt270.2 4).bind fun bt279 => ((spec_reader_pick.f k s0_0 bt279.2 256).bind fun bt281 => (spec_randomImage.l0 k bt279.1 bt281.1 0 s0_0 bt281.2 bt272.1 bt272.2.1 bt272.2.2.1 bt272.2.2.2))))) = some (r1, r2, r3, r4, r5) := rY hy267 H
 have Ny267 := aM hy267
 clear hy267
 replace H := Option.bind_eq_some_iff.mp H
 obtain ⟨⟨t270, t271⟩, A40, H⟩ := H
 replace H : ((spec_newImage.f t265 t270 a1).bind fun bt272 => ((spec_reader_pick.f k s0_0 t271 4).bind fun bt279 => ((spec_reader_pick.f k s0_0 bt279.2 256).bind fun bt281 => (spec_randomImage.l0 k bt279.1 bt281.1 0 s0_0 bt281.2 bt272.1 bt272.2.1 bt272.2.2.1 bt272.2.2.2)))) = some (r1, r2, r3, r4, r5) := H
 have A4 := aM A40
 clear A40
 replace H := Option.bind_eq_some_iff.mp H
 obtain ⟨⟨t272, t273, t274, t275⟩, A50, H⟩ := H
 replace H : ((spec_reader_pick.f k s0_0 t271 4).bind fun bt279 => ((spec_reader_pick.f k s0_0 bt279.2 256).bind fun bt281 => (spec_randomImage.l0 k bt279.1 bt281.1 0 s0_0 bt281.2 t272 t273 t274 t275))) = some (r1, r2, r3, r4, r5) := H
 have A5 := aM A50
 clear A50
 replace H := Option.bind_eq_some_iff.mp H
 obtain ⟨⟨t279, t280⟩, A60, H⟩ := H
 replace H : ((spec_reader_pick.f k s0_0 t280 256).bind fun bt281 => (spec_randomImage.l0 k t279 bt281.1 0 s0_0 bt281.2 t272 t273 t274 t275)) = some (r1, r2, r3, r4, r5) := H
 have A6 := aM A60
 clear A60
 replace H := Option.bind_eq_some_iff.mp H
 obtain ⟨⟨t281, t282⟩, A70, H⟩ := H
 replace H : (spec_randomImage.l0 k t279 t281 0 s0_0 t282 t272 t273 t274 t275) = some (r1, r2, r3, r4, r5) := H
 have A7 := aM A70
 clear A70
 have H' := aM H
 clear H
 go_enter Try.func81, Try.ntmps81
 go_wp2_with (first | ((with_reducible refine gate_dst (N := 4) rfl ?_); refine bxE (N := 4) (cs := #[.int .i64 0, .int .i64 0, .int .i64 0, .slice none 0 0]) (t := 29) ?_; intro gb261 hg w8 hbox hb; replace HB := aM (below_step (wS83 HB.out) hb); have BK261 := aM (hbox); have GW261 := aM ((by rw [hg]; exact (keep_size (w := w) (g := g) (row := none) (kB HK.out)) : w.heap.size ≤ gb261)); have GE261 := aM ((Nat.le_trans HW0.out (by rw [hg]; exact (keep_size (w := w) (g := g) (row := none) (kB HK.out)) : w.heap.size ≤ gb261) : w0.heap.size ≤ gb261)); replace HK := aM (KeepBut.trans (kB HK.out) (KeepBut.of_below hb g none) (.inl rfl)); have NB0_261 := aM ((by rw [hg]; exact Nat.ne_of_lt (IsS83.lt (show IsS83 w0 _ g s0_0 s0_1 from iS83 HI0.out)) : g ≠ gb261)); have NB261_0 := aM ((by rw [hg]; exact Nat.ne_of_gt (IsS83.lt (show IsS83 w0 _ g s0_0 s0_1 from iS83 HI0.out)) : gb261 ≠ g)); replace HI0 := aM (IsS83.below (iS83 HI0.out) hb); clear hb hbox hg) | ((with_reducible refine gate_dst (N := 10) rfl ?_); refine iL ([3, 4, 2, 5, 1, 8, 6] : List Int) [.int .i64 3, .int .i64 4, .int .i64 2, .int .i64 5, .int .i64 1, .int .i64 8, .int .i64 6] ?_; intro v263 w9 ho10 hb hg_ hnew_; clear hg_ hnew_; (first | rw [← Ny262.out] at ho10 | (simp only [Int.reduceToNat] at ho10; rw [← Ny262.out] at ho10)); have HO264 := lK ho10 HK; replace BK261 := bB BK261 hb; replace HK := aM (KeepBut.trans (kB HK.out) (KeepBut.of_below hb g none) (.inl rfl)); replace HB := aM (below_step (wS83 HB.out) hb); replace HI0 := aM (IsS83.below (iS83 HI0.out) hb); clear hb ho10; obtain ⟨Ao11, co11, rfl⟩ := sL HO264) | ((with_reducible refine gate_callee (f := 74) rfl ?_); refine gL (some 11) Try.func74 #[.pointer (some ⟨g, 0, none⟩), .slice Ao11 y262.length co11] ?_; (with_reducible refine (spec_reader_one.calls k g s0_0 s0_1 _ _ y262 t265 t266 w0 _ ?side1 ?side2 ?side3 ?side4 ?side5 A3.out).mono ?_); (case side1 => exact iS83 HI0.out); (case side2 => exact wS83 HB.out); (case side3 => exact qC (Kd.R_reads' HO264.out).2.2); (case side4 => exact (Kd.R_reads' HO264.out).2.1); (case side5 => exact far_slice (IsS83.own_ne HI0.out HO264.out (by decide))); rintro e w12 ⟨rfl, hi, hb, hk⟩; refine ⟨_, rfl, ?_⟩; replace BK261 := bK hk BK261 NB261_0; replace HO264 := aM (Kd.R_mono (Kd.R_keep (IsS83.apart (show IsS83 w0 _ g s0_0 s0_1 from iS83 HI0.out) (qR HO264.out) (by decide)) hk (fun _ h => h.2)) (fun _ h => h.1)); replace HK := aM (KeepBut.trans (kB HK.out) hk (.inl rfl)); replace HB := aM (hb); replace HI0 := aM (hi); clear hb hk hi) | ((with_reducible refine gate_dst (N := 13) rfl ?_); refine iL ([3, 2, 4, 1, 5, 8] : List Int) [.int .i64 3, .int .i64 2, .int .i64 4, .int .i64 1, .int .i64 5, .int .i64 8] ?_; intro v268 w13 ho14 hb hg_ hnew_; clear hg_ hnew_; (first | rw [← Ny267.out] at ho14 | (simp only [Int.reduceToNat] at ho14; rw [← Ny267.out] at ho14)); have HO269 := aM (Kd.R_lower (Kd.R_new' ho14 (Kd.R_lt (qR HO264.out))) (keep_size (w := w) (g := g) (row := none) (kB HK.out))); replace HO264 := aM (Kd.R_elder' (qR HO264.out) (Kd.R_base ho14) hb); replace BK261 := bB BK261 hb; replace HK := aM (KeepBut.trans (kB HK.out) (KeepBut.of_below hb g none) (.inl rfl)); replace HB := aM (below_step (wS83 HB.out) hb); replace HI0 := aM (IsS83.below (iS83 HI0.out) hb); clear hb ho14; obtain ⟨Ao15, co15, rfl⟩ := sL HO269) | ((with_reducible refine gate_callee (f := 74) rfl ?_); refine gL (some 14) Try.func74 #[.pointer (some ⟨g, 0, none⟩), .slice Ao15 y267.length co15] ?_; (with_reducible refine (spec_reader_one.calls k g s0_0 t266 _ _ y267 t270 t271 w0 _ ?side1 ?side2 ?side3 ?side4 ?side5 A4.out).mono ?_); (case side1 => exact iS83 HI0.out); (case side2 => exact wS83 HB.out); (case side3 => exact qC (Kd.R_reads' HO269.out).2.2); (case side4 => exact (Kd.R_reads' HO269.out).2.1); (case side5 => exact far_slice (IsS83.own_ne HI0.out HO269.out (by decide))); rintro e w16 ⟨rfl, hi, hb, hk⟩; refine ⟨_, rfl, ?_⟩; replace BK261 := bK hk BK261 NB261_0; replace HO264 := aM (Kd.R_mono (Kd.R_keep (IsS83.apart (show IsS83 w0 _ g s0_0 t266 from iS83 HI0.out) (qR HO264.out) (by decide)) hk (fun _ h => h.2)) (fun _ h => h.1)); replace HO269 := aM (Kd.R_mono (Kd.R_keep (IsS83.apart (show IsS83 w0 _ g s0_0 t266 from iS83 HI0.out) (qR HO269.out) (by decide)) hk (fun _ h => h.2)) (fun _ h => h.1)); replace HK := aM (KeepBut.trans (kB HK.out) hk (.inl rfl)); replace HB := aM (hb); replace HI0 := aM (hi); clear hb hk hi) | ((with_reducible refine gate_callee (f := 62) rfl ?_); refine gL (some 16) Try.func62 #[.int .i64 t265, .int .i64 t270, .int .i64 a1] ?_; (with_reducible refine (spec_newImage.calls t265 t270 a1 t272 t273 t274 t275 _ A5.out).mono ?_); rintro e w17 ⟨v276, rfl, ho0, hb⟩; refine ⟨_, rfl, ?_⟩; have HO277 := aM (Kd.R_lower (Kd.R_new' (Kd.R_new' ho0 (Kd.R_lt (qR HO264.out))) (Kd.R_lt (qR HO269.out))) (keep_size (w := w) (g := g) (row := none) (kB HK.out))); replace HO264 := aM (Kd.R_elder' (qR HO264.out) (Kd.R_base ho0) hb); replace HO269 := aM (Kd.R_elder' (qR HO269.out) (Kd.R_base ho0) hb); replace BK261 := bB BK261 hb; replace HK := aM (KeepBut.trans (kB HK.out) (KeepBut.of_below hb g none) (.inl rfl)); replace HB := aM (below_step (wS83 HB.out) hb); replace HI0 := aM (IsS83.below (iS83 HI0.out) hb); clear hb ho0) | ((with_reducible refine gate_dst (N := 5) rfl ?_); refine bxE (N := 5) (cs := #[.int .i64 0, .int .i64 0, .int .i64 0, .slice none 0 0]) (t := 29) ?_; intro gb278 hg w18 hbox hb; replace HO264 := aM (Kd.R_below (qR HO264.out) hb); replace HO269 := aM (Kd.R_below (qR HO269.out) hb); replace HO277 := aM (Kd.R_below (qR HO277.out) hb); replace HB := aM (below_step (wS83 HB.out) hb); have BK278 := aM (hbox); have GW278 := aM ((by rw [hg]; exact (keep_size (w := w) (g := g) (row := none) (kB HK.out)) : w.heap.size ≤ gb278)); have GE278 := aM ((Nat.le_trans HW0.out (by rw [hg]; exact (keep_size (w := w) (g := g) (row := none) (kB HK.out)) : w.heap.size ≤ gb278) : w0.heap.size ≤ gb278)); replace HK := aM (KeepBut.trans (kB HK.out) (KeepBut.of_below hb g none) (.inl rfl)); have NB261_278 := nL hg BK261; have NB278_261 := nG hg BK261; replace BK261 := bB BK261 hb; have NB0_278 := aM ((by rw [hg]; exact Nat.ne_of_lt (IsS83.lt (show IsS83 w0 _ g s0_0 t271 from iS83 HI0.out)) : g ≠ gb278)); have NB278_0 := aM ((by rw [hg]; exact Nat.ne_of_gt (IsS83.lt (show IsS83 w0 _ g s0_0 t271 from iS83 HI0.out)) : gb278 ≠ g)); replace HI0 := aM (IsS83.below (iS83 HI0.out) hb); clear hb hbox hg; have hnb19 := NB278_261.out; have hnc19 := NB261_278.out; have hnb20 := NB278_0.out; have hnc20 := NB0_278.out; obtain ⟨⟨hcz21_0, hcz21_1, hcz21_2, hcz21_3⟩, hfz21_0, hfz21_1, hfz21_2, hfz21_3⟩ := cf4 BK278; obtain ⟨Ao22, co22, rfl⟩ := sL HO277) | ((with_reducible refine gate_callee (f := 66) rfl ?_); refine gL (some 18) Try.func66 #[.pointer (some ⟨g, 0, none⟩), .int .i64 4] ?_; (with_reducible refine (spec_reader_pick.calls k g s0_0 t271 4 t279 t280 w0 _ ?side1 ?side2 A6.out).mono ?_); (case side1 => exact iS83 HI0.out); (case side2 => exact wS83 HB.out); rintro e w23 ⟨rfl, hi, hb, hk⟩; refine ⟨_, rfl, ?_⟩; replace BK261 := aM (KeepBut.blk hk (g' := gb261) (o := .cells #[.int .i64 0, .int .i64 0, .int .i64 0, .slice none 0 0] 29 (0, 0)) (by refine qB ?_; refine blk_far ?_ NB261_278.out _; refine qB ?_; refine blk_far ?_ NB261_278.out _; refine qB ?_; refine blk_far ?_ NB261_278.out _; refine qB ?_; refine blk_far ?_ NB261_278.out _; refine qB ?_; exact BK261.out) NB261_0.out (by simp)); replace HO264 := aM (Kd.R_mono (Kd.R_keep (IsS83.apart (show IsS83 w0 _ g s0_0 t271 from iS83 HI0.out) (by refine qR ?_; exact (fr4 HO264 BK278)) (by decide)) hk (fun _ h => h.2)) (fun _ h => h.1)); replace HO269 := aM (Kd.R_mono (Kd.R_keep (IsS83.apart (show IsS83 w0 _ g s0_0 t271 from iS83 HI0.out) (by refine qR ?_; exact (fr4 HO269 BK278)) (by decide)) hk (fun _ h => h.2)) (fun _ h => h.1)); replace HO277 := aM (Kd.R_mono (Kd.R_keep (IsS83.apart (show IsS83 w0 _ g s0_0 t271 from iS83 HI0.out) (by refine qR ?_; exact (fr4 HO277 BK278)) (by decide)) hk (fun _ h => h.2)) (fun _ h => h.1)); replace BK278 := aM (KeepBut.blk hk (g' := gb278) (o := .cells #[.int .i64 t272, .int .i64 t273, .int .i64 t274, .slice Ao22 t275.length co22] 29 (0, 0)) (by exact bP BK278.out) NB278_0.out (by simp)); replace HK := aM (KeepBut.trans (kB HK.out) hk (.inl rfl)); replace HB := aM (hb); replace HI0 := aM (hi); clear hb hk hi) | ((with_reducible refine gate_callee (f := 66) rfl ?_); refine gL (some 20) Try.func66 #[.pointer (some ⟨g, 0, none⟩), .int .i64 256] ?_; (with_reducible refine (spec_reader_pick.calls k g s0_0 t280 256 t281 t282 w0 _ ?side1 ?side2 A7.out).mono ?_); (case side1 => exact iS83 HI0.out); (case side2 => exact wS83 HB.out); rintro e w24 ⟨rfl, hi, hb, hk⟩; refine ⟨_, rfl, ?_⟩; replace BK261 := bK hk BK261 NB261_0; replace HO264 := aM (Kd.R_mono (Kd.R_keep (IsS83.apart (show IsS83 w0 _ g s0_0 t280 from iS83 HI0.out) (qR HO264.out) (by decide)) hk (fun _ h => h.2)) (fun _ h => h.1)); replace HO269 := aM (Kd.R_mono (Kd.R_keep (IsS83.apart (show IsS83 w0 _ g s0_0 t280 from iS83 HI0.out) (qR HO269.out) (by decide)) hk (fun _ h => h.2)) (fun _ h => h.1)); replace HO277 := aM (Kd.R_mono (Kd.R_keep (IsS83.apart (show IsS83 w0 _ g s0_0 t280 from iS83 HI0.out) (qR HO277.out) (by decide)) hk (fun _ h => h.2)) (fun _ h => h.1)); replace BK278 := bK hk BK278 NB278_0; replace HK := aM (KeepBut.trans (kB HK.out) hk (.inl rfl)); replace HB := aM (hb); replace HI0 := aM (hi); clear hb hk hi))
 go_loopg [7, 8] k (fun kq v7 v8 w' => ∃ (x7_1 : Int) (x8_1 : Int) (x1001_1 : Int) (x279003_1 : List Int) (u279003 : Value), v7 = .int .i64 x7_1 ∧ v8 = .int .i64 x8_1 ∧ Aside0 (spec_randomImage.l0 kq t279 x7_1 x8_1 s0_0 x1001_1 t272 t273 t274 x279003_1 = some (r1, r2, r3, r4, r5)) ∧ Aside0 (kq ≤ k) ∧ Aside0 (Kd.R (Kd.int .i64) 3 w' w.heap.size (fun _ => True) u279003 x279003_1) ∧ Aside0 (w'.heap[gb261]? = some (.cells #[.int .i64 0, .int .i64 0, .int .i64 0, (.slice none 0 0)] 29 (0, 0))) ∧ Aside0 (w'.heap[gb278]? = some (.cells #[.int .i64 t272, .int .i64 t273, .int .i64 t274, u279003] 29 (0, 0))) ∧ Aside0 (IsS83 w0 w' g s0_0 x1001_1) ∧ Aside0 (KeepBut w w' g none) ∧ Aside0 (Below w0.heap.size w0 w'))
 case atStart => exact ⟨(t281), (0), (t282), (t275), (.slice Ao22 t275.length co22), qE, qE, H', ⟨Nat.le_refl _⟩, ⟨by refine qR ?_; exact Kd.R_mono HO277.out (fun _ hk => trivial)⟩, ⟨by refine qB ?_; exact BK261.out⟩, ⟨by refine qB ?_; exact BK278.out⟩, ⟨iS83 HI0.out⟩, ⟨kB HK.out⟩, ⟨wS83 HB.out⟩⟩
 case round =>
  clear H'
  try clear hcz21_0 hcz21_1 hcz21_2 hcz21_3 hfz21_0 hfz21_1 hfz21_2 hfz21_3
  obtain ⟨x7_1, x8_1, x1001_1, x279003_1, u279003, rfl, rfl, HA, HK1, HO_279003, BK261, BK278, HI0, HK, HB⟩ := hrel
  cases gk with
  | zero => exact absurd HA.out (by simp [spec_randomImage.l0])
  | succ k1 =>
   have H := HA.out
   clear HA
   simp only [spec_randomImage.l0] at H
   by_cases c25 : x8_1 < (x279003_1.length : Int)
   rotate_left
   ·rw [if_neg c25] at H
    have c25b0 : decide (x8_1 < (x279003_1.length : Int)) = false := decide_eq_false c25
    clear c25
    simp only [Option.some.injEq, Prod.mk.injEq] at H
    obtain ⟨rfl, rfl, rfl, rfl, rfl⟩ := H
    have hnb70 := NB278_261.out
    have hnc70 := NB261_278.out
    have hnb71 := NB278_0.out
    have hnc71 := NB0_278.out
    obtain ⟨⟨hcz72_0, hcz72_1, hcz72_2, hcz72_3⟩, hfz72_0, hfz72_1, hfz72_2, hfz72_3⟩ := cf4 BK278
    obtain ⟨Ao73, co73, rfl⟩ := sL HO_279003
    have hnb74 := NB261_0.out
    have hnc74 := NB0_261.out
    obtain ⟨⟨hcz75_0, hcz75_1, hcz75_2, hcz75_3⟩, hfz75_0, hfz75_1, hfz75_2, hfz75_3⟩ := cf4 BK261
    go_wp2
    refine bodyPost_ret (results_cell_row rfl _ _ gb261 29 #[.int .i64 t272, .int .i64 t273, .int .i64 t274, .slice Ao73 x279003_1.length co73] (0, 0) _ rfl (by exact bP BK261.out) Try.underlying29 rfl (by kernel_rfl)) rfl ?_
    exact ⟨_, qX, by refine qR ?_; exact Kd.R_mono (rT HO_279003 BK261) (fun _ hk => trivial), iS83 HI0.out, wS83 HB.out, kB HK.out⟩
   rw [if_pos c25] at H
   have c25b0 : decide (x8_1 < (x279003_1.length : Int)) = true := decide_eq_true c25
   clear c25
   by_cases c26 : t279 = 0
   ·rw [if_pos c26] at H
    have c26b0 : (t279 == 0) = true := beq_iff_eq.mpr c26
    have c26b1 : (t279 != 0) = false := bne_eq_false_iff_eq.mpr c26
    clear c26
    replace H := Option.bind_eq_some_iff.mp H
    obtain ⟨⟨t283, t284⟩, A270, H⟩ := H
    replace H : (if 0 ≤ x8_1 then (spec_randomImage.l0 k1 t279 t283 (wrap64 (x8_1 + 1)) s0_0 t284 t272 t273 t274 (x279003_1.set (x8_1 : Int).toNat t283)) else (none)) = some (r1, r2, r3, r4, r5) := H
    have A27 := aM A270
    clear A270
    replace H := iD H
    obtain ⟨c28b0, H⟩ := H
    obtain ⟨y285, hy285⟩ : ∃ y_ : List Int, y_ = (x279003_1.set (x8_1 : Int).toNat t283) := ⟨_, rfl⟩
    replace H : (spec_randomImage.l0 k1 t279 t283 (wrap64 (x8_1 + 1)) s0_0 t284 t272 t273 t274 y285) = some (r1, r2, r3, r4, r5) := rY hy285 H
    have Ny285 := aM hy285
    clear hy285
    have H' := aM H
    clear H
    have hnb30 := NB278_261.out
    have hnc30 := NB261_278.out
    have hnb31 := NB278_0.out
    have hnc31 := NB0_278.out
    obtain ⟨⟨hcz32_0, hcz32_1, hcz32_2, hcz32_3⟩, hfz32_0, hfz32_1, hfz32_2, hfz32_3⟩ := cf4 BK278
    obtain ⟨Ao33, co33, rfl⟩ := sL HO_279003
    go_wp2_with (first | ((with_reducible refine gate_callee (f := 66) rfl ?_); refine gL (some 32) Try.func66 #[.pointer (some ⟨g, 0, none⟩), .int .i64 256] ?_; (with_reducible refine (spec_reader_pick.calls k1 g s0_0 x1001_1 256 t283 t284 w0 _ ?side1 ?side2 A27.out).mono ?_); (case side1 => exact iS83 HI0.out); (case side2 => exact wS83 HB.out); rintro e w34 ⟨rfl, hi, hb, hk⟩; refine ⟨_, rfl, ?_⟩; replace HO_279003 := aM (Kd.R_mono (Kd.R_keep (IsS83.apart (show IsS83 w0 _ g s0_0 x1001_1 from iS83 HI0.out) (qR HO_279003.out) (by decide)) hk (fun _ h => h.2)) (fun _ h => h.1)); replace BK261 := bK hk BK261 NB261_0; replace BK278 := bK hk BK278 NB278_0; replace HK := aM (KeepBut.trans (kB HK.out) hk (.inl rfl)); replace HB := aM (hb); replace HI0 := aM (hi); clear hb hk hi; obtain ⟨⟨hcz35_0, hcz35_1, hcz35_2, hcz35_3⟩, hfz35_0, hfz35_1, hfz35_2, hfz35_3⟩ := cf4 BK278; have p29 : 0 ≤ (x8_1 : Int) := oD; have q29 : (x8_1 : Int) < ((x279003_1.length : Int) : Int) := oD; obtain ⟨go29, co29, eo29, gb29, gl29, cl29, HG29⟩ := Kd.R_form HO_279003.out (by omega); (first | cases eo29 | (injection eo29 with ea_ en_ ec_; (first | subst ea_ | (injection ea_ with ea_; subst ea_)); subst ec_; clear en_)); have GB29 := aM gb29; have GG29 := aM HG29; clear gb29 gl29 HG29; obtain ⟨hx29_0, hf29_0⟩ := Kd.R_celln 0 HO_279003.out (x8_1 : Int) p29 q29; replace p29 := eq_true p29; replace q29 := eq_true q29; obtain ⟨hy36_, hz36_⟩ := Kd.R_celln 0 HO_279003.out (x8_1 : Int) oD oD; have HP36 := Kd.R_putg HO_279003.out (x8_1 : Int) t283) | ((with_reducible refine gate_store (t := 3) (p := 50) rfl ?_); refine store_event (t := 3) (p := 50) (v := ?vo_w37) (w1 := (w34.setCell ⟨go29, (x8_1 : Int).toNat, none⟩ (.int .i64 t283))) ?hg ?ho ?hn ?hr ?_; (case ho => rfl); (case hg => rfl); (case hn => rfl); (case hr => first | (go_simp; done) | (go_simp; rfl)); intro w37 hw; have hg : w34.grownBy w37 (some go29) := (by rw [hw]; exact HP36.2); have hp_ : Kd.R (Kd.int .i64) 3 w37 w.heap.size (fun _ => True) (.slice (some ⟨go29, 0, none⟩) x279003_1.length co33) y285 := (by rw [hw, Ny285.out]; exact HP36.1); clear HP36; replace BK261 := gB BK261 hg (Kd.R_ne HO_279003.out BK261.out (by decide)); replace BK278 := gB BK278 hg (Kd.R_ne HO_279003.out BK278.out (by decide)); replace HI0 := aM (IsS83.grown (iS83 HI0.out) hg (IsS83.own_ne HI0.out HO_279003.out (by decide))); replace HB := aM ((by rw [hw]; exact below_set (HB.out) (Nat.le_trans HL.out GB29.out) : Below w0.heap.size w0 w37)); replace HK := aM (KeepBut.trans (kB HK.out) (KeepBut.of_grown hg g) (Kd.R_base2 HO_279003.out)); replace HO_279003 := aM (hp_); clear hg hw hp_))
    go_roundg k1
    case measure => have := HK1.out; omega
    case rel => exact ⟨(t283), (wrap64 (x8_1 + 1)), (t284), (y285), (.slice (some ⟨go29, 0, none⟩) x279003_1.length co33), qE, qE, H', ⟨by have := HK1.out; omega⟩, ⟨by refine qR ?_; exact HO_279003.out⟩, ⟨by refine qB ?_; exact BK261.out⟩, ⟨by refine qB ?_; exact BK278.out⟩, ⟨iS83 HI0.out⟩, ⟨kB HK.out⟩, ⟨wS83 HB.out⟩⟩
   rw [if_neg c26] at H
   have c26b0 : (t279 == 0) = false := beq_eq_false_iff_ne.mpr c26
   have c26b1 : (t279 != 0) = true := bne_iff_ne.mpr c26
   by_cases c38 : t279 = 1
   ·rw [if_pos c38] at H
    have c38b0 : (t279 == 1) = true := beq_iff_eq.mpr c38
    have c38b1 : (t279 != 1) = false := bne_eq_false_iff_eq.mpr c38
    clear c38
    replace H := Option.bind_eq_some_iff.mp H
    obtain ⟨⟨t286, t287⟩, A390, H⟩ := H
    replace H : (if 0 ≤ x8_1 then (spec_randomImage.l0 k1 t279 (Int.tmod (wrap64 ((wrap64 (x7_1 + t286)) + 254)) 256) (wrap64 (x8_1 + 1)) s0_0 t287 t272 t273 t274 (x279003_1.set (x8_1 : Int).toNat (Int.tmod (wrap64 ((wrap64 (x7_1 + t286)) + 254)) 256))) else (none)) = some (r1, r2, r3, r4, r5) := H
    have A39 := aM A390
    clear A390
    replace H := iD H
    obtain ⟨c40b0, H⟩ := H
    obtain ⟨y288, hy288⟩ : ∃ y_ : List Int, y_ = (x279003_1.set (x8_1 : Int).toNat (Int.tmod (wrap64 ((wrap64 (x7_1 + t286)) + 254)) 256)) := ⟨_, rfl⟩
    replace H : (spec_randomImage.l0 k1 t279 (Int.tmod (wrap64 ((wrap64 (x7_1 + t286)) + 254)) 256) (wrap64 (x8_1 + 1)) s0_0 t287 t272 t273 t274 y288) = some (r1, r2, r3, r4, r5) := rY hy288 H
    have Ny288 := aM hy288
    clear hy288
    have H' := aM H
    clear H
    have hnb42 := NB278_261.out
    have hnc42 := NB261_278.out
    have hnb43 := NB278_0.out
    have hnc43 := NB0_278.out
    obtain ⟨⟨hcz44_0, hcz44_1, hcz44_2, hcz44_3⟩, hfz44_0, hfz44_1, hfz44_2, hfz44_3⟩ := cf4 BK278
    obtain ⟨Ao45, co45, rfl⟩ := sL HO_279003
    go_wp2_with (first | ((with_reducible refine gate_callee (f := 66) rfl ?_); refine gL (some 37) Try.func66 #[.pointer (some ⟨g, 0, none⟩), .int .i64 5] ?_; (with_reducible refine (spec_reader_pick.calls k1 g s0_0 x1001_1 5 t286 t287 w0 _ ?side1 ?side2 A39.out).mono ?_); (case side1 => exact iS83 HI0.out); (case side2 => exact wS83 HB.out); rintro e w46 ⟨rfl, hi, hb, hk⟩; refine ⟨_, rfl, ?_⟩; replace HO_279003 := aM (Kd.R_mono (Kd.R_keep (IsS83.apart (show IsS83 w0 _ g s0_0 x1001_1 from iS83 HI0.out) (qR HO_279003.out) (by decide)) hk (fun _ h => h.2)) (fun _ h => h.1)); replace BK261 := bK hk BK261 NB261_0; replace BK278 := bK hk BK278 NB278_0; replace HK := aM (KeepBut.trans (kB HK.out) hk (.inl rfl)); replace HB := aM (hb); replace HI0 := aM (hi); clear hb hk hi; obtain ⟨⟨hcz47_0, hcz47_1, hcz47_2, hcz47_3⟩, hfz47_0, hfz47_1, hfz47_2, hfz47_3⟩ := cf4 BK278; have p41 : 0 ≤ (x8_1 : Int) := oD; have q41 : (x8_1 : Int) < ((x279003_1.length : Int) : Int) := oD; obtain ⟨go41, co41, eo41, gb41, gl41, cl41, HG41⟩ := Kd.R_form HO_279003.out (by omega); (first | cases eo41 | (injection eo41 with ea_ en_ ec_; (first | subst ea_ | (injection ea_ with ea_; subst ea_)); subst ec_; clear en_)); have GB41 := aM gb41; have GG41 := aM HG41; clear gb41 gl41 HG41; obtain ⟨hx41_0, hf41_0⟩ := Kd.R_celln 0 HO_279003.out (x8_1 : Int) p41 q41; replace p41 := eq_true p41; replace q41 := eq_true q41; obtain ⟨hy48_, hz48_⟩ := Kd.R_celln 0 HO_279003.out (x8_1 : Int) oD oD; have HP48 := Kd.R_putg HO_279003.out (x8_1 : Int) (Int.tmod (wrap64 ((wrap64 (x7_1 + t286)) + 254)) 256)) | ((with_reducible refine gate_store (t := 3) (p := 50) rfl ?_); refine store_event (t := 3) (p := 50) (v := ?vo_w49) (w1 := (w46.setCell ⟨go41, (x8_1 : Int).toNat, none⟩ (.int .i64 (Int.tmod (wrap64 ((wrap64 (x7_1 + t286)) + 254)) 256)))) ?hg ?ho ?hn ?hr ?_; (case ho => rfl); (case hg => rfl); (case hn => rfl); (case hr => first | (go_simp; done) | (go_simp; rfl)); intro w49 hw; have hg : w46.grownBy w49 (some go41) := (by rw [hw]; exact HP48.2); have hp_ : Kd.R (Kd.int .i64) 3 w49 w.heap.size (fun _ => True) (.slice (some ⟨go41, 0, none⟩) x279003_1.length co45) y288 := (by rw [hw, Ny288.out]; exact HP48.1); clear HP48; replace BK261 := gB BK261 hg (Kd.R_ne HO_279003.out BK261.out (by decide)); replace BK278 := gB BK278 hg (Kd.R_ne HO_279003.out BK278.out (by decide)); replace HI0 := aM (IsS83.grown (iS83 HI0.out) hg (IsS83.own_ne HI0.out HO_279003.out (by decide))); replace HB := aM ((by rw [hw]; exact below_set (HB.out) (Nat.le_trans HL.out GB41.out) : Below w0.heap.size w0 w49)); replace HK := aM (KeepBut.trans (kB HK.out) (KeepBut.of_grown hg g) (Kd.R_base2 HO_279003.out)); replace HO_279003 := aM (hp_); clear hg hw hp_))
    go_roundg k1
    case measure => have := HK1.out; omega
    case rel => exact ⟨(Int.tmod (wrap64 ((wrap64 (x7_1 + t286)) + 254)) 256), (wrap64 (x8_1 + 1)), (t287), (y288), (.slice (some ⟨go41, 0, none⟩) x279003_1.length co45), qE, qE, H', ⟨by have := HK1.out; omega⟩, ⟨by refine qR ?_; exact HO_279003.out⟩, ⟨by refine qB ?_; exact BK261.out⟩, ⟨by refine qB ?_; exact BK278.out⟩, ⟨iS83 HI0.out⟩, ⟨kB HK.out⟩, ⟨wS83 HB.out⟩⟩
   rw [if_neg c38] at H
   have c38b0 : (t279 == 1) = false := beq_eq_false_iff_ne.mpr c38
   have c38b1 : (t279 != 1) = true := bne_iff_ne.mpr c38
   by_cases c50 : t279 = 2
   rotate_left
   ·rw [if_neg c50] at H
    have c50b0 : (t279 == 2) = false := beq_eq_false_iff_ne.mpr c50
    have c50b1 : (t279 != 2) = true := bne_iff_ne.mpr c50
    replace H := iD H
    obtain ⟨c62b0, H⟩ := H
    obtain ⟨y292, hy292⟩ : ∃ y_ : List Int, y_ = (x279003_1.set (x8_1 : Int).toNat x7_1) := ⟨_, rfl⟩
    replace H : (spec_randomImage.l0 k1 t279 x7_1 (wrap64 (x8_1 + 1)) s0_0 x1001_1 t272 t273 t274 y292) = some (r1, r2, r3, r4, r5) := rY hy292 H
    have Ny292 := aM hy292
    clear hy292
    have H' := aM H
    clear H
    have hnb64 := NB278_261.out
    have hnc64 := NB261_278.out
    have hnb65 := NB278_0.out
    have hnc65 := NB0_278.out
    obtain ⟨⟨hcz66_0, hcz66_1, hcz66_2, hcz66_3⟩, hfz66_0, hfz66_1, hfz66_2, hfz66_3⟩ := cf4 BK278
    obtain ⟨Ao67, co67, rfl⟩ := sL HO_279003
    have p63 : 0 ≤ (x8_1 : Int) := oD
    have q63 : (x8_1 : Int) < ((x279003_1.length : Int) : Int) := oD
    obtain ⟨go63, co63, eo63, gb63, gl63, cl63, HG63⟩ := Kd.R_form HO_279003.out (by omega)
    (first | cases eo63 | (injection eo63 with ea_ en_ ec_; (first | subst ea_ | (injection ea_ with ea_; subst ea_)); subst ec_; clear en_))
    have GB63 := aM gb63
    have GG63 := aM HG63
    clear gb63 gl63 HG63
    obtain ⟨hx63_0, hf63_0⟩ := Kd.R_celln 0 HO_279003.out (x8_1 : Int) p63 q63
    replace p63 := eq_true p63
    replace q63 := eq_true q63
    have HP68 := Kd.R_putg HO_279003.out (x8_1 : Int) x7_1
    go_wp2_with (first | ((with_reducible refine gate_store (t := 3) (p := 50) rfl ?_); refine store_event (t := 3) (p := 50) (v := ?vo_w69) (w1 := (wr.setCell ⟨go63, (x8_1 : Int).toNat, none⟩ (.int .i64 x7_1))) ?hg ?ho ?hn ?hr ?_; (case ho => rfl); (case hg => rfl); (case hn => rfl); (case hr => first | (go_simp; done) | (go_simp; rfl)); intro w69 hw; have hg : wr.grownBy w69 (some go63) := (by rw [hw]; exact HP68.2); have hp_ : Kd.R (Kd.int .i64) 3 w69 w.heap.size (fun _ => True) (.slice (some ⟨go63, 0, none⟩) x279003_1.length co67) y292 := (by rw [hw, Ny292.out]; exact HP68.1); clear HP68; replace BK261 := gB BK261 hg (Kd.R_ne HO_279003.out BK261.out (by decide)); replace BK278 := gB BK278 hg (Kd.R_ne HO_279003.out BK278.out (by decide)); replace HI0 := aM (IsS83.grown (iS83 HI0.out) hg (IsS83.own_ne HI0.out HO_279003.out (by decide))); replace HB := aM ((by rw [hw]; exact below_set (HB.out) (Nat.le_trans HL.out GB63.out) : Below w0.heap.size w0 w69)); replace HK := aM (KeepBut.trans (kB HK.out) (KeepBut.of_grown hg g) (Kd.R_base2 HO_279003.out)); replace HO_279003 := aM (hp_); clear hg hw hp_))
    go_roundg k1
    case measure => have := HK1.out; omega
    case rel => exact ⟨(x7_1), (wrap64 (x8_1 + 1)), (x1001_1), (y292), (.slice (some ⟨go63, 0, none⟩) x279003_1.length co67), qE, qE, H', ⟨by have := HK1.out; omega⟩, ⟨by refine qR ?_; exact HO_279003.out⟩, ⟨by refine qB ?_; exact BK261.out⟩, ⟨by refine qB ?_; exact BK278.out⟩, ⟨iS83 HI0.out⟩, ⟨kB HK.out⟩, ⟨wS83 HB.out⟩⟩
   rw [if_pos c50] at H
   have c50b0 : (t279 == 2) = true := beq_iff_eq.mpr c50
   have c50b1 : (t279 != 2) = false := bne_eq_false_iff_eq.mpr c50
   clear c50
   replace H := Option.bind_eq_some_iff.mp H
   obtain ⟨⟨t289, t290⟩, A510, H⟩ := H
   replace H : (if 0 ≤ x8_1 then (spec_randomImage.l0 k1 t279 (wrap64 (60 * t289)) (wrap64 (x8_1 + 1)) s0_0 t290 t272 t273 t274 (x279003_1.set (x8_1 : Int).toNat (wrap64 (60 * t289)))) else (none)) = some (r1, r2, r3, r4, r5) := H
   have A51 := aM A510
   clear A510
   replace H := iD H
   obtain ⟨c52b0, H⟩ := H
   obtain ⟨y291, hy291⟩ : ∃ y_ : List Int, y_ = (x279003_1.set (x8_1 : Int).toNat (wrap64 (60 * t289))) := ⟨_, rfl⟩
   replace H : (spec_randomImage.l0 k1 t279 (wrap64 (60 * t289)) (wrap64 (x8_1 + 1)) s0_0 t290 t272 t273 t274 y291) = some (r1, r2, r3, r4, r5) := rY hy291 H
   have Ny291 := aM hy291
   clear hy291
   have H' := aM H
   clear H
   have hnb54 := NB278_261.out
   have hnc54 := NB261_278.out
   have hnb55 := NB278_0.out
   have hnc55 := NB0_278.out
   obtain ⟨⟨hcz56_0, hcz56_1, hcz56_2, hcz56_3⟩, hfz56_0, hfz56_1, hfz56_2, hfz56_3⟩ := cf4 BK278
   obtain ⟨Ao57, co57, rfl⟩ := sL HO_279003
   go_wp2_with (first | ((with_reducible refine gate_callee (f := 66) rfl ?_); refine gL (some 44) Try.func66 #[.pointer (some ⟨g, 0, none⟩), .int .i64 4] ?_; (with_reducible refine (spec_reader_pick.calls k1 g s0_0 x1001_1 4 t289 t290 w0 _ ?side1 ?side2 A51.out).mono ?_); (case side1 => exact iS83 HI0.out); (case side2 => exact wS83 HB.out); rintro e w58 ⟨rfl, hi, hb, hk⟩; refine ⟨_, rfl, ?_⟩; replace HO_279003 := aM (Kd.R_mono (Kd.R_keep (IsS83.apart (show IsS83 w0 _ g s0_0 x1001_1 from iS83 HI0.out) (qR HO_279003.out) (by decide)) hk (fun _ h => h.2)) (fun _ h => h.1)); replace BK261 := bK hk BK261 NB261_0; replace BK278 := bK hk BK278 NB278_0; replace HK := aM (KeepBut.trans (kB HK.out) hk (.inl rfl)); replace HB := aM (hb); replace HI0 := aM (hi); clear hb hk hi; obtain ⟨⟨hcz59_0, hcz59_1, hcz59_2, hcz59_3⟩, hfz59_0, hfz59_1, hfz59_2, hfz59_3⟩ := cf4 BK278; have p53 : 0 ≤ (x8_1 : Int) := oD; have q53 : (x8_1 : Int) < ((x279003_1.length : Int) : Int) := oD; obtain ⟨go53, co53, eo53, gb53, gl53, cl53, HG53⟩ := Kd.R_form HO_279003.out (by omega); (first | cases eo53 | (injection eo53 with ea_ en_ ec_; (first | subst ea_ | (injection ea_ with ea_; subst ea_)); subst ec_; clear en_)); have GB53 := aM gb53; have GG53 := aM HG53; clear gb53 gl53 HG53; obtain ⟨hx53_0, hf53_0⟩ := Kd.R_celln 0 HO_279003.out (x8_1 : Int) p53 q53; replace p53 := eq_true p53; replace q53 := eq_true q53; obtain ⟨hy60_, hz60_⟩ := Kd.R_celln 0 HO_279003.out (x8_1 : Int) oD oD; have HP60 := Kd.R_putg HO_279003.out (x8_1 : Int) (wrap64 (60 * t289))) | ((with_reducible refine gate_store (t := 3) (p := 50) rfl ?_); refine store_event (t := 3) (p := 50) (v := ?vo_w61) (w1 := (w58.setCell ⟨go53, (x8_1 : Int).toNat, none⟩ (.int .i64 (wrap64 (60 * t289))))) ?hg ?ho ?hn ?hr ?_; (case ho => rfl); (case hg => rfl); (case hn => rfl); (case hr => first | (go_simp; done) | (go_simp; rfl)); intro w61 hw; have hg : w58.grownBy w61 (some go53) := (by rw [hw]; exact HP60.2); have hp_ : Kd.R (Kd.int .i64) 3 w61 w.heap.size (fun _ => True) (.slice (some ⟨go53, 0, none⟩) x279003_1.length co57) y291 := (by rw [hw, Ny291.out]; exact HP60.1); clear HP60; replace BK261 := gB BK261 hg (Kd.R_ne HO_279003.out BK261.out (by decide)); replace BK278 := gB BK278 hg (Kd.R_ne HO_279003.out BK278.out (by decide)); replace HI0 := aM (IsS83.grown (iS83 HI0.out) hg (IsS83.own_ne HI0.out HO_279003.out (by decide))); replace HB := aM ((by rw [hw]; exact below_set (HB.out) (Nat.le_trans HL.out GB53.out) : Below w0.heap.size w0 w61)); replace HK := aM (KeepBut.trans (kB HK.out) (KeepBut.of_grown hg g) (Kd.R_base2 HO_279003.out)); replace HO_279003 := aM (hp_); clear hg hw hp_))
   go_roundg k1
   case measure => have := HK1.out; omega
   case rel => exact ⟨(wrap64 (60 * t289)), (wrap64 (x8_1 + 1)), (t290), (y291), (.slice (some ⟨go53, 0, none⟩) x279003_1.length co57), qE, qE, H', ⟨by have := HK1.out; omega⟩, ⟨by refine qR ?_; exact HO_279003.out⟩, ⟨by refine qB ?_; exact BK261.out⟩, ⟨by refine qB ?_; exact BK278.out⟩, ⟨iS83 HI0.out⟩, ⟨kB HK.out⟩, ⟨wS83 HB.out⟩⟩
def spec_anyImage.f (k : Nat) (s0_0 : List Int) (s0_1 : Int) : Option (Int × Int × Int × List Int × Int) := (spec_anyPlanes.f k s0_0 s0_1).bind fun bt294 => ((spec_randomImage.f k s0_0 bt294.2 bt294.1).bind fun bt296 => ((spec_spoilImage.f k s0_0 bt296.2.2.2.2 bt296.1 bt296.2.1 bt296.2.2.1 bt296.2.2.2.1).bind fun bt303 => (some (bt303.1, bt303.2.1, bt303.2.2.1, bt303.2.2.2.1, bt303.2.2.2.2))))
theorem spec_anyImage.mono : ∀ a0 a1 k, LeO (spec_anyImage.f k a0 a1) (spec_anyImage.f (k + 1) a0 a1) := by
 intro a0 a1 k
 unfold spec_anyImage.f
 repeat' first | (with_reducible first | exact spec_anyPlanes.mono _ _ _ | exact spec_randomImage.mono _ _ _ _ | exact spec_spoilImage.mono _ _ _ _ _ _ _ | exact lR | exact lN | refine lI ?_ ?_ | refine lB ?_ fun _ => ?_) | exact spec_anyPlanes.mono _ _ _ | exact spec_randomImage.mono _ _ _ _ | exact spec_spoilImage.mono _ _ _ _ _ _ _ | exact lN | refine lI ?_ ?_ | refine lB ?_ fun _ => ?_
set_option maxHeartbeats 8000000 in
set_option maxRecDepth 100000 in
theorem spec_anyImage.calls (k : Nat) (g : Nat) (s0_0 : List Int) (s0_1 : Int) (r1 : Int) (r2 : Int) (r3 : Int) (r4 : List Int) (r5 : Int) (w0 w : World) (hI : IsS83 w0 w g s0_0 s0_1) (hB : Below w0.heap.size w0 w) (h : spec_anyImage.f k s0_0 s0_1 = some (r1, r2, r3, r4, r5)) :
  Calls Try.prog 51 #[.pointer (some ⟨g, 0, none⟩)] w fun e w' => ∃ v3_ : Value, e = .returned (.agg #[.int .i64 r1, .int .i64 r2, .int .i64 r3, v3_]) ∧ Kd.Q (Kd.int .i64) 3 w' w.heap.size (fun _ => True) v3_ r4 ∧ IsS83 w0 w' g s0_0 r5 ∧ Below w0.heap.size w0 w' ∧ KeepBut w w' g none := by
 have hu29 := Try.underlying29
 have HI0 := aM hI
 have HK := aM (KeepBut.refl w g none)
 have HL := aM hB.size
 clear hI
 have HW0 := aM hB.size
 have HB := aM hB
 clear hB
 unfold spec_anyImage.f at h
 have H := h
 clear h
 replace H := Option.bind_eq_some_iff.mp H
 obtain ⟨⟨t294, t295⟩, A20, H⟩ := H
 replace H : ((spec_randomImage.f k s0_0 t295 t294).bind fun bt296 => ((spec_spoilImage.f k s0_0 bt296.2.2.2.2 bt296.1 bt296.2.1 bt296.2.2.1 bt296.2.2.2.1).bind fun bt303 => (some (bt303.1, bt303.2.1, bt303.2.2.1, bt303.2.2.2.1, bt303.2.2.2.2)))) = some (r1, r2, r3, r4, r5) := H
 have A2 := aM A20
 clear A20
 replace H := Option.bind_eq_some_iff.mp H
 obtain ⟨⟨t296, t297, t298, t299, t302⟩, A30, H⟩ := H
 replace H : ((spec_spoilImage.f k s0_0 t302 t296 t297 t298 t299).bind fun bt303 => (some (bt303.1, bt303.2.1, bt303.2.2.1, bt303.2.2.2.1, bt303.2.2.2.2))) = some (r1, r2, r3, r4, r5) := H
 have A3 := aM A30
 clear A30
 replace H := Option.bind_eq_some_iff.mp H
 obtain ⟨⟨t303, t304, t305, t306, t309⟩, A40, H⟩ := H
 replace H : (some (t303, t304, t305, t306, t309)) = some (r1, r2, r3, r4, r5) := H
 have A4 := aM A40
 clear A40
 simp only [Option.some.injEq, Prod.mk.injEq] at H
 obtain ⟨rfl, rfl, rfl, rfl, rfl⟩ := H
 go_enter Try.func51, Try.ntmps51
 go_wp2_with (first | ((with_reducible refine gate_dst (N := 2) rfl ?_); refine bxE (N := 2) (cs := #[.int .i64 0, .int .i64 0, .int .i64 0, .slice none 0 0]) (t := 29) ?_; intro gb293 hg w5 hbox hb; replace HB := aM (below_step (wS83 HB.out) hb); have BK293 := aM (hbox); have GW293 := aM ((by rw [hg]; exact (keep_size (w := w) (g := g) (row := none) (kB HK.out)) : w.heap.size ≤ gb293)); have GE293 := aM ((Nat.le_trans HW0.out (by rw [hg]; exact (keep_size (w := w) (g := g) (row := none) (kB HK.out)) : w.heap.size ≤ gb293) : w0.heap.size ≤ gb293)); replace HK := aM (KeepBut.trans (kB HK.out) (KeepBut.of_below hb g none) (.inl rfl)); have NB0_293 := aM ((by rw [hg]; exact Nat.ne_of_lt (IsS83.lt (show IsS83 w0 _ g s0_0 s0_1 from iS83 HI0.out)) : g ≠ gb293)); have NB293_0 := aM ((by rw [hg]; exact Nat.ne_of_gt (IsS83.lt (show IsS83 w0 _ g s0_0 s0_1 from iS83 HI0.out)) : gb293 ≠ g)); replace HI0 := aM (IsS83.below (iS83 HI0.out) hb); clear hb hbox hg) | ((with_reducible refine gate_callee (f := 63) rfl ?_); refine gL (some 6) Try.func63 #[.pointer (some ⟨g, 0, none⟩)] ?_; (with_reducible refine (spec_anyPlanes.calls k g s0_0 s0_1 t294 t295 w0 _ ?side1 ?side2 A2.out).mono ?_); (case side1 => exact iS83 HI0.out); (case side2 => exact wS83 HB.out); rintro e w6 ⟨rfl, hi, hb, hk⟩; refine ⟨_, rfl, ?_⟩; replace BK293 := bK hk BK293 NB293_0; replace HK := aM (KeepBut.trans (kB HK.out) hk (.inl rfl)); replace HB := aM (hb); replace HI0 := aM (hi); clear hb hk hi) | ((with_reducible refine gate_callee (f := 81) rfl ?_); refine gL (some 7) Try.func81 #[.pointer (some ⟨g, 0, none⟩), .int .i64 t294] ?_; (with_reducible refine (spec_randomImage.calls k g s0_0 t295 t294 t296 t297 t298 t299 t302 w0 _ ?side1 ?side2 A3.out).mono ?_); (case side1 => exact iS83 HI0.out); (case side2 => exact wS83 HB.out); rintro e w7 ⟨v300, rfl, ho0, hi, hb, hk⟩; refine ⟨_, rfl, ?_⟩; replace BK293 := bK hk BK293 NB293_0; have HO301 := lK ho0 HK; replace HK := aM (KeepBut.trans (kB HK.out) hk (.inl rfl)); replace HB := aM (hb); replace HI0 := aM (hi); clear hb hk hi ho0; obtain ⟨Ao8, co8, rfl⟩ := sL HO301) | ((with_reducible refine gate_callee (f := 80) rfl ?_); refine gL (some 8) Try.func80 #[.pointer (some ⟨g, 0, none⟩), .agg #[.int .i64 t296, .int .i64 t297, .int .i64 t298, .slice Ao8 t299.length co8]] ?_; (with_reducible refine (spec_spoilImage.calls k g s0_0 t302 t296 t297 t298 (fun k_ => some k_ = (.slice Ao8 t299.length co8 : Value).ownBlock) (.slice Ao8 t299.length co8) t299 t303 t304 t305 t306 t309 w0 _ ?side1 ?side2 ?side3 A4.out).mono ?_); (case side1 => exact iS83 HI0.out); (case side2 => exact wS83 HB.out); (case side3 => exact Kd.R_lower (Kd.R_tight rfl HO301.out) HL.out); rintro e w9 ⟨v307, rfl, ho0, hi, hb, hkp⟩; refine ⟨_, rfl, ?_⟩; replace HI0 := aM (hi); replace BK293 := aM (blk_kept (qB BK293.out) hkp (fun hs_ => Or.elim hs_ (fun hs_ => (fun e_ => (Kd.R_ne HO301.out BK293.out (by decide)) e_) hs_) (fun e_ => NB293_0.out e_))); have HO308 := aM (Kd.Q_mono (ok' := fun k_ => True) (Kd.Q_raise (d := (Kd.int .i64)) (b := w0.heap.size) (b' := w.heap.size) (fun _ _ _ _ h_ => h_) ho0 (fun k_ e_ => Or.elim (ho0.1 k_ e_) (fun hs_ => (fun e_ => Kd.R_base HO301.out k_ e_.symm) hs_) (fun hn_ => Nat.le_trans (keep_size (w := w) (g := g) (row := none) (kB HK.out)) hn_))) (fun k_ hk_ => trivial)); replace HK := aM (Kept.keepG (kB HK.out) hkp (fun k_ hs_ => Or.elim hs_ (fun hs_ => (fun e_ => .inr (Kd.R_base HO301.out k_ e_.symm)) hs_) (fun e_ => .inl e_))); replace HB := aM (hb); clear HO301; clear hb hkp ho0; have hnb10 := NB293_0.out; have hnc10 := NB0_293.out; obtain ⟨⟨hcz11_0, hcz11_1, hcz11_2, hcz11_3⟩, hfz11_0, hfz11_1, hfz11_2, hfz11_3⟩ := cf4 BK293; obtain ⟨Ao12, co12, eo12, _⟩ := Kd.Q_slice HO308.out; subst eo12))
 refine bodyPost_ret (results_cell_row rfl _ _ gb293 29 #[.int .i64 t303, .int .i64 t304, .int .i64 t305, .slice Ao12 t306.length co12] (0, 0) _ rfl (by exact bP BK293.out) Try.underlying29 rfl (by kernel_rfl)) rfl ?_
 exact ⟨_, qX, by (with_reducible repeat (first | apply Kd.Q_alloc | apply Kd.Q_drewN | apply Kd.Q_drew)); exact Kd.Q_mono (qT HO308 BK293) (fun _ hk => trivial), iS83 HI0.out, wS83 HB.out, kB HK.out⟩
def laws_equalLists.l0 : Nat → List (List Int) → List (List Int) → Int → Option (Bool)
 | 0, _, _, _ => none
 | k + 1, x0, x1, x5 => if x5 < (x0.length : Int) then (if 0 ≤ x5 then (if x5 < (x1.length : Int) then ((laws_equalInts.f k (rd_L1 x0 x5) (rd_L1 x1 x5)).bind fun t328 => (if t328 = true then (laws_equalLists.l0 k x0 x1 (wrap64 (x5 + 1))) else (some false))) else (none)) else (none)) else (some true)
def laws_equalLists.f (k : Nat) (l0 : List (List Int)) (l1 : List (List Int)) : Option (Bool) := if (l0.length : Int) = (l1.length : Int) then (laws_equalLists.l0 k l0 l1 0) else (some false)
theorem laws_equalLists.mono_l : ∀ k, (∀ y0 y1 y2, LeO (laws_equalLists.l0 k y0 y1 y2) (laws_equalLists.l0 (k + 1) y0 y1 y2))
 | 0 => fun _ _ _ r h => by simp [laws_equalLists.l0] at h
 | k + 1 => by
  have ih0 := laws_equalLists.mono_l k
  ·intro y0 y1 y2
   unfold laws_equalLists.l0
   repeat' first | (with_reducible first | exact ih0 _ _ _ | exact laws_equalInts.mono _ _ _ | exact lR | exact lN | refine lI ?_ ?_ | refine lB ?_ fun _ => ?_) | exact ih0 _ _ _ | exact laws_equalInts.mono _ _ _ | exact lN | refine lI ?_ ?_ | refine lB ?_ fun _ => ?_
theorem laws_equalLists.mono : ∀ a0 a1 k, LeO (laws_equalLists.f k a0 a1) (laws_equalLists.f (k + 1) a0 a1) := by
 intro a0 a1 k
 have ih0 := laws_equalLists.mono_l k
 unfold laws_equalLists.f
 repeat' first | (with_reducible first | exact ih0 _ _ _ | exact laws_equalInts.mono _ _ _ | exact lR | exact lN | refine lI ?_ ?_ | refine lB ?_ fun _ => ?_) | exact ih0 _ _ _ | exact laws_equalInts.mono _ _ _ | exact lN | refine lI ?_ ?_ | refine lB ?_ fun _ => ?_
set_option maxHeartbeats 8000000 in
set_option maxRecDepth 100000 in
theorem laws_equalLists.calls (k : Nat) (A0 : Option Addr) (c0 : Nat) (l0 : List (List Int)) (A1 : Option Addr) (c1 : Nat) (l1 : List (List Int)) (r : Bool) (w : World) (hr0 : Kd.C (Kd.slice 3 (Kd.int .i64)) w A0 l0.length l0) (hc0 : l0.length ≤ c0) (hr1 : Kd.C (Kd.slice 3 (Kd.int .i64)) w A1 l1.length l1) (hc1 : l1.length ≤ c1) (h : laws_equalLists.f k l0 l1 = some r) :
  Calls Try.prog 22 #[.slice A0 l0.length c0, .slice A1 l1.length c1] w fun e w' => e = .returned (.bool r) ∧ Drawn0 w w' := by
 have HR0 := aM hr0
 have HC0 := aM hc0
 clear hr0 hc0
 have HR1 := aM hr1
 have HC1 := aM hc1
 clear hr1 hc1
 unfold laws_equalLists.f at h
 have H := h
 clear h
 by_cases c3 : (l0.length : Int) = (l1.length : Int)
 ·rw [if_pos c3] at H
  have c3b0 : ((l0.length : Int) == (l1.length : Int)) = true := beq_iff_eq.mpr c3
  have c3b1 : ((l0.length : Int) != (l1.length : Int)) = false := bne_eq_false_iff_eq.mpr c3
  have c3b2 : (l0.length == l1.length) = true := by first | simpa using c3 | (simp at c3 ⊢; omega)
  clear c3
  have H' := aM H
  clear H
  go_enter Try.func22, Try.ntmps22
  go_wp2
  repeat (go_quiet (fail); try go_wp2)
  go_loopg [5] k (fun kq v5 w' => ∃ (x5_1 : Int), v5 = .int .i64 x5_1 ∧ Aside0 (laws_equalLists.l0 kq l0 l1 x5_1 = some r) ∧ Aside0 (kq ≤ k) ∧ Drawn0 w w')
  case atStart => exact ⟨(0), qE, H', ⟨Nat.le_refl _⟩, qD⟩
  case round =>
   clear H'
   try clear c1
   try clear c3
   try clear c3b0
   try clear c3b1
   try clear c3b2
   obtain ⟨x5_1, rfl, HA, HK1, ⟨m1, rfl⟩⟩ := hrel
   cases gk with
   | zero => exact absurd HA.out (by simp [laws_equalLists.l0])
   | succ k1 =>
    have H := HA.out
    clear HA
    simp only [laws_equalLists.l0] at H
    by_cases c4 : x5_1 < (l0.length : Int)
    rotate_left
    ·rw [if_neg c4] at H
     have c4b0 : decide (x5_1 < (l0.length : Int)) = false := decide_eq_false c4
     clear c4
     obtain rfl := Option.some.inj H
     go_wp2
     repeat (go_quiet (fail); try go_wp2)
     go_ret
     exact ⟨qE, qD⟩
    rw [if_pos c4] at H
    have c4b0 : decide (x5_1 < (l0.length : Int)) = true := decide_eq_true c4
    clear c4
    replace H := iD H
    obtain ⟨c5b0, H⟩ := H
    replace H := iD H
    obtain ⟨c6b0, H⟩ := H
    replace H := Option.bind_eq_some_iff.mp H
    obtain ⟨t328, A70, H⟩ := H
    replace H : (if t328 = true then (laws_equalLists.l0 k1 l0 l1 (wrap64 (x5_1 + 1))) else (some false)) = some r := H
    have A7 := aM A70
    clear A70
    by_cases c8 : t328 = true
    rotate_left
    ·replace c8 := Bool.eq_false_iff.mpr c8
     subst c8
     have H1 : (some false) = some r := by rw [if_neg (show ¬ (false = true) by decide)] at H; exact H
     clear H
     have H := H1
     clear H1
     obtain rfl := Option.some.inj H
     have p326 : 0 ≤ (x5_1 : Int) := oD
     have q326 : x5_1 < (l0.length : Int) := oD
     obtain ⟨ad326, A326_0, c326_0, e326, hx326_0, hl326_0, hi326_0⟩ := at_L1 HR0.out x5_1 p326 q326
     cases e326
     have HR326_0 := aM hi326_0
     have HC326_0 := aM hl326_0
     clear hi326_0 hl326_0
     replace p326 := eq_true p326
     replace q326 := eq_true q326
     have p327 : 0 ≤ (x5_1 : Int) := oD
     have q327 : x5_1 < (l1.length : Int) := oD
     obtain ⟨ad327, A327_0, c327_0, e327, hx327_0, hl327_0, hi327_0⟩ := at_L1 HR1.out x5_1 p327 q327
     cases e327
     have HR327_0 := aM hi327_0
     have HC327_0 := aM hl327_0
     clear hi327_0 hl327_0
     replace p327 := eq_true p327
     replace q327 := eq_true q327
     go_wp2_with (first | (go_at_call 23; (with_reducible refine (laws_equalInts.calls k1 _ _ (rd_L1 l0 x5_1) _ _ (rd_L1 l1 x5_1) false _ ?side1 ?side2 ?side3 ?side4 A7.out).mono ?_); (case side1 => exact qC HR326_0.out); (case side2 => exact HC326_0.out); (case side3 => exact qC HR327_0.out); (case side4 => exact HC327_0.out); rintro e w' ⟨rfl, ⟨nd, rfl⟩⟩; (try first | exact ⟨rfl, _, World.drewN_drewN _ _ _⟩ | exact ⟨rfl, _, Eq.trans (World.drewN_drewN _ _ _) (congrArg (World.drewN _) (Nat.add_assoc _ _ _))⟩)))
     repeat (go_quiet (first | (go_at_call 23; (with_reducible refine (laws_equalInts.calls k1 _ _ (rd_L1 l0 x5_1) _ _ (rd_L1 l1 x5_1) false _ ?side1 ?side2 ?side3 ?side4 A7.out).mono ?_); (case side1 => exact qC HR326_0.out); (case side2 => exact HC326_0.out); (case side3 => exact qC HR327_0.out); (case side4 => exact HC327_0.out); rintro e w' ⟨rfl, ⟨nd, rfl⟩⟩; (try first | exact ⟨rfl, _, World.drewN_drewN _ _ _⟩ | exact ⟨rfl, _, Eq.trans (World.drewN_drewN _ _ _) (congrArg (World.drewN _) (Nat.add_assoc _ _ _))⟩))); try go_wp2_with (first | (go_at_call 23; (with_reducible refine (laws_equalInts.calls k1 _ _ (rd_L1 l0 x5_1) _ _ (rd_L1 l1 x5_1) false _ ?side1 ?side2 ?side3 ?side4 A7.out).mono ?_); (case side1 => exact qC HR326_0.out); (case side2 => exact HC326_0.out); (case side3 => exact qC HR327_0.out); (case side4 => exact HC327_0.out); rintro e w' ⟨rfl, ⟨nd, rfl⟩⟩; (try first | exact ⟨rfl, _, World.drewN_drewN _ _ _⟩ | exact ⟨rfl, _, Eq.trans (World.drewN_drewN _ _ _) (congrArg (World.drewN _) (Nat.add_assoc _ _ _))⟩))))
     go_ret
     exact ⟨qE, qD⟩
    subst c8
    have H1 : (laws_equalLists.l0 k1 l0 l1 (wrap64 (x5_1 + 1))) = some r := by rw [if_pos rfl] at H; exact H
    clear H
    have H := H1
    clear H1
    have H' := aM H
    clear H
    have p326 : 0 ≤ (x5_1 : Int) := oD
    have q326 : x5_1 < (l0.length : Int) := oD
    obtain ⟨ad326, A326_0, c326_0, e326, hx326_0, hl326_0, hi326_0⟩ := at_L1 HR0.out x5_1 p326 q326
    cases e326
    have HR326_0 := aM hi326_0
    have HC326_0 := aM hl326_0
    clear hi326_0 hl326_0
    replace p326 := eq_true p326
    replace q326 := eq_true q326
    have p327 : 0 ≤ (x5_1 : Int) := oD
    have q327 : x5_1 < (l1.length : Int) := oD
    obtain ⟨ad327, A327_0, c327_0, e327, hx327_0, hl327_0, hi327_0⟩ := at_L1 HR1.out x5_1 p327 q327
    cases e327
    have HR327_0 := aM hi327_0
    have HC327_0 := aM hl327_0
    clear hi327_0 hl327_0
    replace p327 := eq_true p327
    replace q327 := eq_true q327
    go_wp2_with (first | (go_at_call 23; (with_reducible refine (laws_equalInts.calls k1 _ _ (rd_L1 l0 x5_1) _ _ (rd_L1 l1 x5_1) true _ ?side1 ?side2 ?side3 ?side4 A7.out).mono ?_); (case side1 => exact qC HR326_0.out); (case side2 => exact HC326_0.out); (case side3 => exact qC HR327_0.out); (case side4 => exact HC327_0.out); rintro e w' ⟨rfl, ⟨nd, rfl⟩⟩; (try first | exact ⟨rfl, _, World.drewN_drewN _ _ _⟩ | exact ⟨rfl, _, Eq.trans (World.drewN_drewN _ _ _) (congrArg (World.drewN _) (Nat.add_assoc _ _ _))⟩)))
    repeat (go_quiet (first | (go_at_call 23; (with_reducible refine (laws_equalInts.calls k1 _ _ (rd_L1 l0 x5_1) _ _ (rd_L1 l1 x5_1) true _ ?side1 ?side2 ?side3 ?side4 A7.out).mono ?_); (case side1 => exact qC HR326_0.out); (case side2 => exact HC326_0.out); (case side3 => exact qC HR327_0.out); (case side4 => exact HC327_0.out); rintro e w' ⟨rfl, ⟨nd, rfl⟩⟩; (try first | exact ⟨rfl, _, World.drewN_drewN _ _ _⟩ | exact ⟨rfl, _, Eq.trans (World.drewN_drewN _ _ _) (congrArg (World.drewN _) (Nat.add_assoc _ _ _))⟩))); try go_wp2_with (first | (go_at_call 23; (with_reducible refine (laws_equalInts.calls k1 _ _ (rd_L1 l0 x5_1) _ _ (rd_L1 l1 x5_1) true _ ?side1 ?side2 ?side3 ?side4 A7.out).mono ?_); (case side1 => exact qC HR326_0.out); (case side2 => exact HC326_0.out); (case side3 => exact qC HR327_0.out); (case side4 => exact HC327_0.out); rintro e w' ⟨rfl, ⟨nd, rfl⟩⟩; (try first | exact ⟨rfl, _, World.drewN_drewN _ _ _⟩ | exact ⟨rfl, _, Eq.trans (World.drewN_drewN _ _ _) (congrArg (World.drewN _) (Nat.add_assoc _ _ _))⟩))))
    go_roundg k1
    case measure => have := HK1.out; omega
    case rel => exact ⟨(wrap64 (x5_1 + 1)), qE, H', ⟨by have := HK1.out; omega⟩, qD⟩
 ·rw [if_neg c3] at H
  have c3b0 : ((l0.length : Int) == (l1.length : Int)) = false := beq_eq_false_iff_ne.mpr c3
  have c3b1 : ((l0.length : Int) != (l1.length : Int)) = true := bne_iff_ne.mpr c3
  have c3b2 : (l0.length == l1.length) = false := by first | simpa using c3 | (simp at c3 ⊢; omega)
  obtain rfl := Option.some.inj H
  go_enter Try.func22, Try.ntmps22
  go_wp2
  repeat (go_quiet (fail); try go_wp2)
  go_ret
  exact ⟨qE, qD⟩
def spec_DrawReducePalette.f (k : Nat) (l0 : List Int) : Option ((List (List Int)) × Int) := (spec_newReader.f l0).bind fun bt870 => ((spec_anyPlanes.f k bt870.1 bt870.2).bind fun bt873 => ((spec_anyColors.f k bt870.1 bt873.2 bt873.1).bind fun bt875 => ((spec_reader_one.f k bt870.1 bt875.2 (([1, 2, 3, 4, 16, 17, 0] : List Int))).bind fun bt882 => (some (bt875.1, bt882.1)))))
theorem spec_DrawReducePalette.mono : ∀ a0 k, LeO (spec_DrawReducePalette.f k a0) (spec_DrawReducePalette.f (k + 1) a0) := by
 intro a0 k
 unfold spec_DrawReducePalette.f
 repeat' first | (with_reducible first | exact spec_anyColors.mono _ _ _ _ | exact spec_anyPlanes.mono _ _ _ | exact spec_reader_one.mono _ _ _ _ | exact lR | exact lN | refine lI ?_ ?_ | refine lB ?_ fun _ => ?_) | exact spec_anyColors.mono _ _ _ _ | exact spec_anyPlanes.mono _ _ _ | exact spec_reader_one.mono _ _ _ _ | exact lN | refine lI ?_ ?_ | refine lB ?_ fun _ => ?_
set_option maxHeartbeats 8000000 in
set_option maxRecDepth 100000 in
theorem spec_DrawReducePalette.calls (k : Nat) (A0 : Option Addr) (c0 : Nat) (l0 : List Int) (r1 : List (List Int)) (r2 : Int) (w : World) (hr0 : Kd.C (Kd.int .u8) w A0 l0.length l0) (hc0 : l0.length ≤ c0) (h : spec_DrawReducePalette.f k l0 = some (r1, r2)) :
  Calls Try.prog 38 #[.slice A0 l0.length c0] w fun e w' => ∃ v0_ : Value, e = .returned (.tuple #[v0_, .int .i64 r2]) ∧ Kd.N (Kd.slice 3 (Kd.int .i64)) 22 w' w.heap.size (fun k_ => (w.heap.size ≤ k_)) v0_ r1 ∧ Below w.heap.size w w' := by
 have HR0 := aM hr0
 have HC0 := aM hc0
 clear hr0 hc0
 have HB := aM (Below.refl w.heap.size w)
 unfold spec_DrawReducePalette.f at h
 have H := h
 clear h
 replace H := Option.bind_eq_some_iff.mp H
 obtain ⟨⟨t870, t871⟩, A20, H⟩ := H
 replace H : ((spec_anyPlanes.f k t870 t871).bind fun bt873 => ((spec_anyColors.f k t870 bt873.2 bt873.1).bind fun bt875 => ((spec_reader_one.f k t870 bt875.2 (([1, 2, 3, 4, 16, 17, 0] : List Int))).bind fun bt882 => (some (bt875.1, bt882.1))))) = some (r1, r2) := H
 have A2 := aM A20
 clear A20
 replace H := Option.bind_eq_some_iff.mp H
 obtain ⟨⟨t873, t874⟩, A30, H⟩ := H
 replace H : ((spec_anyColors.f k t870 t874 t873).bind fun bt875 => ((spec_reader_one.f k t870 bt875.2 (([1, 2, 3, 4, 16, 17, 0] : List Int))).bind fun bt882 => (some (bt875.1, bt882.1)))) = some (r1, r2) := H
 have A3 := aM A30
 clear A30
 replace H := Option.bind_eq_some_iff.mp H
 obtain ⟨⟨t875, t878⟩, A40, H⟩ := H
 replace H : ((spec_reader_one.f k t870 t878 (([1, 2, 3, 4, 16, 17, 0] : List Int))).bind fun bt882 => (some (t875, bt882.1))) = some (r1, r2) := H
 have A4 := aM A40
 clear A40
 obtain ⟨y879, hy879⟩ : ∃ y_ : List Int, y_ = (([1, 2, 3, 4, 16, 17, 0] : List Int)) := ⟨_, rfl⟩
 replace H : ((spec_reader_one.f k t870 t878 y879).bind fun bt882 => (some (t875, bt882.1))) = some (r1, r2) := rY hy879 H
 have Ny879 := aM hy879
 clear hy879
 replace H := Option.bind_eq_some_iff.mp H
 obtain ⟨⟨t882, t883⟩, A50, H⟩ := H
 replace H : (some (t875, t882)) = some (r1, r2) := H
 have A5 := aM A50
 clear A50
 simp only [Option.some.injEq, Prod.mk.injEq] at H
 obtain ⟨rfl, rfl⟩ := H
 go_enter Try.func38, Try.ntmps38
 go_wp2_with (first | ((with_reducible refine gate_callee (f := 52) rfl ?_); refine gL (some 7) Try.func52 #[.slice A0 l0.length c0] ?_; (with_reducible refine (spec_newReader.calls _ _ l0 t870 t871 w _ ?side1 ?side2 ?side3 A2.out).mono ?_); (case side1 => exact qW HB.out); (case side2 => exact HR0.out); (case side3 => exact HC0.out); rintro e w6 ⟨g872, rfl, hi, hb, hb2⟩; refine ⟨_, rfl, ?_⟩; replace HB := aM (hb); have HI872 := aM (hi); clear hb hb2 hi) | ((with_reducible refine gate_callee (f := 63) rfl ?_); refine gL (some 10) Try.func63 #[.pointer (some ⟨g872, 0, none⟩)] ?_; (with_reducible refine (spec_anyPlanes.calls k g872 t870 t871 t873 t874 w _ ?side1 ?side2 A3.out).mono ?_); (case side1 => exact iS83 HI872.out); (case side2 => exact wS83 HB.out); rintro e w7 ⟨rfl, hi, hb, hk⟩; refine ⟨_, rfl, ?_⟩; replace HB := aM (hb); replace HI872 := aM (hi); clear hb hk hi) | ((with_reducible refine gate_callee (f := 64) rfl ?_); refine gL (some 11) Try.func64 #[.pointer (some ⟨g872, 0, none⟩), .int .i64 t873] ?_; (with_reducible refine (spec_anyColors.calls k g872 t870 t874 t873 t875 t878 w _ ?side1 ?side2 A4.out).mono ?_); (case side1 => exact iS83 HI872.out); (case side2 => exact wS83 HB.out); rintro e w8 ⟨v876, rfl, ho0, hi, hb, hk⟩; refine ⟨_, rfl, ?_⟩; have HO877 := aM (Kd.N_lower (Kd.N_mono (ok' := fun k_ => (w.heap.size ≤ k_) ∧ k_ ≠ g872) ho0 (fun k_ hk_ => ⟨(Nat.le_trans (below_size (wS83 HB.out)) hk_), (IsS83.fresh (iS83 HI872.out) k_ hk_)⟩)) (below_size (wS83 HB.out))); replace HB := aM (hb); replace HI872 := aM (hi); clear hb hk hi ho0) | ((with_reducible refine gate_dst (N := 14) rfl ?_); refine iL ([1, 2, 3, 4, 16, 17, 0] : List Int) [.int .i64 1, .int .i64 2, .int .i64 3, .int .i64 4, .int .i64 16, .int .i64 17, .int .i64 0] ?_; intro v880 w9 ho10 hb hg_ hnew_; clear hg_ hnew_; (first | rw [← Ny879.out] at ho10 | (simp only [Int.reduceToNat] at ho10; rw [← Ny879.out] at ho10)); replace HO877 := aM (Kd.N_elder' (by (with_reducible repeat (first | apply Kd.N_alloc | apply Kd.N_drewN | apply Kd.N_drew)); exact HO877.out) (Kd.R_base ho10) hb); have HO881 := aM (Kd.R_lower (Kd.R_newM (M := fun k_ => (w.heap.size ≤ k_)) ho10 (below_size (wS83 HB.out)) (fun k_ h_ => h_)) (below_size (wS83 HB.out))); replace HB := aM (below_step (wS83 HB.out) hb); replace HI872 := aM (IsS83.below (iS83 HI872.out) hb); clear hb ho10; obtain ⟨Ao11, co11, rfl⟩ := sL HO881) | ((with_reducible refine gate_callee (f := 74) rfl ?_); refine gL (some 15) Try.func74 #[.pointer (some ⟨g872, 0, none⟩), .slice Ao11 y879.length co11] ?_; (with_reducible refine (spec_reader_one.calls k g872 t870 t878 _ _ y879 t882 t883 w _ ?side1 ?side2 ?side3 ?side4 ?side5 A5.out).mono ?_); (case side1 => exact iS83 HI872.out); (case side2 => exact wS83 HB.out); (case side3 => exact qC (Kd.R_reads' HO881.out).2.2); (case side4 => exact (Kd.R_reads' HO881.out).2.1); (case side5 => exact far_slice (IsS83.own_ne HI872.out HO881.out (by decide))); rintro e w12 ⟨rfl, hi, hb, hk⟩; refine ⟨_, rfl, ?_⟩; replace HO877 := aM (Kd.N_mono (Kd.N_keep (Kd.N_mono (ok := fun k_ => ((((w.heap.size ≤ k_)) ∧ k_ ≠ g872) ∧ some k_ ≠ (.slice Ao11 y879.length co11 : Value).ownBlock)) (by (with_reducible repeat (first | apply Kd.N_alloc | apply Kd.N_drewN | apply Kd.N_drew)); exact HO877.out) (fun k_ hk_ => (⟨hk_, hk_.1.2⟩ : _ ∧ k_ ≠ g872))) hk (fun _ h => h.2)) (fun _ h => h.1)); replace HO881 := aM (Kd.R_mono (Kd.R_keep (IsS83.apart (show IsS83 w _ g872 t870 t878 from iS83 HI872.out) (qR HO881.out) (by decide)) hk (fun _ h => h.2)) (fun _ h => h.1)); replace HB := aM (hb); replace HI872 := aM (hi); clear hb hk hi))
 go_ret2
 exact ⟨_, qX, by (with_reducible repeat (first | apply Kd.N_alloc | apply Kd.N_drewN | apply Kd.N_drew)); exact Kd.N_mono HO877.out (fun _ hk => hk.1.1), wS83 HB.out⟩
end Go.Proofs.Ytohbpilokmppbaa.P
