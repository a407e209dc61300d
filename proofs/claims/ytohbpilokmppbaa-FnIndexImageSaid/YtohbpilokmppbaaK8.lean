/- Contracts and row, written by a program of this place out of the translation: the call answers true and its argument reads as before, for every input; no condition. -/
import Derived.Test.YtohbpilokmppbaaK0
import Derived.Test.YtohbpilokmppbaaK1
import Derived.Test.YtohbpilokmppbaaK2
import Derived.Test.YtohbpilokmppbaaK3
import Derived.Test.YtohbpilokmppbaaK5
import Derived.Test.YtohbpilokmppbaaK6
import Derived.Test.YtohbpilokmppbaaK7
namespace Go.Proofs.Ytohbpilokmppbaa.P
open Go.RowKit Go.Proofs.YtohbpilokmppbaaW.PrintWords Go.Proofs.YtohbpilokmppbaaW.PrintLast Go.Proofs.YtohbpilokmppbaaW.PrintMore
attribute [local go_sem] max2_int min2_int max_two min_two max_three min_three max_four min_four   -- for this text's walks alone
set_option linter.unusedVariables false
set_option linter.unusedSimpArgs false
def spec_DrawIndexImage.f (k : Nat) (l0 : List Int) : Option (Int × Int × Int × List Int × (List (List Int))) := (spec_newReader.f l0).bind fun bt740 => ((spec_anyImage.f k bt740.1 bt740.2).bind fun bt743 => ((spec_PaletteOf.f k bt743.1 bt743.2.1 bt743.2.2.1 bt743.2.2.2.1).bind fun bt751 => (if bt751.2 = true then ((spec_reader_pick.f k bt740.1 bt743.2.2.2.2 2).bind fun bt755 => (if bt755.1 = 0 then ((spec_anyColors.f k bt740.1 bt755.2 bt743.2.2.1).bind fun bt757 => (some (bt743.1, bt743.2.1, bt743.2.2.1, bt743.2.2.2.1, bt757.1))) else (some (bt743.1, bt743.2.1, bt743.2.2.1, bt743.2.2.2.1, bt751.1)))) else ((spec_anyColors.f k bt740.1 bt743.2.2.2.2 bt743.2.2.1).bind fun bt761 => (some (bt743.1, bt743.2.1, bt743.2.2.1, bt743.2.2.2.1, bt761.1))))))
theorem spec_DrawIndexImage.mono : ∀ a0 k, LeO (spec_DrawIndexImage.f k a0) (spec_DrawIndexImage.f (k + 1) a0) := by
 intro a0 k
 unfold spec_DrawIndexImage.f
 repeat' first | (with_reducible first | exact spec_PaletteOf.mono _ _ _ _ _ | exact spec_anyColors.mono _ _ _ _ | exact spec_anyImage.mono _ _ _ | exact spec_reader_pick.mono _ _ _ _ | exact lR | exact lN | refine lI ?_ ?_ | refine lB ?_ fun _ => ?_) | exact spec_PaletteOf.mono _ _ _ _ _ | exact spec_anyColors.mono _ _ _ _ | exact spec_anyImage.mono _ _ _ | exact spec_reader_pick.mono _ _ _ _ | exact lN | refine lI ?_ ?_ | refine lB ?_ fun _ => ?_
set_option maxHeartbeats 8000000 in
set_option maxRecDepth 100000 in
theorem spec_DrawIndexImage.calls (k : Nat) (A0 : Option Addr) (c0 : Nat) (l0 : List Int) (r1 : Int) (r2 : Int) (r3 : Int) (r4 : List Int) (r5 : List (List Int)) (w : World) (hr0 : Kd.C (Kd.int .u8) w A0 l0.length l0) (hc0 : l0.length ≤ c0) (h : spec_DrawIndexImage.f k l0 = some (r1, r2, r3, r4, r5)) :
  Calls Try.prog 34 #[.slice A0 l0.length c0] w fun e w' => ∃ v3_ v4_ : Value, e = .returned (.tuple #[.agg #[.int .i64 r1, .int .i64 r2, .int .i64 r3, v3_], v4_]) ∧ Kd.Q (Kd.int .i64) 3 w' w.heap.size (fun k_ => (w.heap.size ≤ k_)) v3_ r4 ∧ Kd.N (Kd.slice 3 (Kd.int .i64)) 22 w' w.heap.size (fun k_ => (w.heap.size ≤ k_) ∧ some k_ ≠ (v3_ : Value).ownBlock) v4_ r5 ∧ Below w.heap.size w w' := by
 have hu29 := Try.underlying29
 have HR0 := aM hr0
 have HC0 := aM hc0
 clear hr0 hc0
 have HB := aM (Below.refl w.heap.size w)
 unfold spec_DrawIndexImage.f at h
 have H := h
 clear h
 replace H := Option.bind_eq_some_iff.mp H
 obtain ⟨⟨t740, t741⟩, A20, H⟩ := H
 replace H : ((spec_anyImage.f k t740 t741).bind fun bt743 => ((spec_PaletteOf.f k bt743.1 bt743.2.1 bt743.2.2.1 bt743.2.2.2.1).bind fun bt751 => (if bt751.2 = true then ((spec_reader_pick.f k t740 bt743.2.2.2.2 2).bind fun bt755 => (if bt755.1 = 0 then ((spec_anyColors.f k t740 bt755.2 bt743.2.2.1).bind fun bt757 => (some (bt743.1, bt743.2.1, bt743.2.2.1, bt743.2.2.2.1, bt757.1))) else (some (bt743.1, bt743.2.1, bt743.2.2.1, bt743.2.2.2.1, bt751.1)))) else ((spec_anyColors.f k t740 bt743.2.2.2.2 bt743.2.2.1).bind fun bt761 => (some (bt743.1, bt743.2.1, bt743.2.2.1, bt743.2.2.2.1, bt761.1)))))) = some (r1, r2, r3, r4, r5) := H
 have A2 := aM A20
 clear A20
 replace H := Option.bind_eq_some_iff.mp H
 obtain ⟨⟨t743, t744, t745, t746, t749⟩, A30, H⟩ := H
 replace H : ((spec_PaletteOf.f k t743 t744 t745 t746).bind fun bt751 => (if bt751.2 = true then ((spec_reader_pick.f k t740 t749 2).bind fun bt755 => (if bt755.1 = 0 then ((spec_anyColors.f k t740 bt755.2 t745).bind fun bt757 => (some (t743, t744, t745, t746, bt757.1))) else (some (t743, t744, t745, t746, bt751.1)))) else ((spec_anyColors.f k t740 t749 t745).bind fun bt761 => (some (t743, t744, t745, t746, bt761.1))))) = some (r1, r2, r3, r4, r5) := H
 have A3 := aM A30
 clear A30
 replace H := Option.bind_eq_some_iff.mp H
 obtain ⟨⟨t751, t754⟩, A40, H⟩ := H
 replace H : (if t754 = true then ((spec_reader_pick.f k t740 t749 2).bind fun bt755 => (if bt755.1 = 0 then ((spec_anyColors.f k t740 bt755.2 t745).bind fun bt757 => (some (t743, t744, t745, t746, bt757.1))) else (some (t743, t744, t745, t746, t751)))) else ((spec_anyColors.f k t740 t749 t745).bind fun bt761 => (some (t743, t744, t745, t746, bt761.1)))) = some (r1, r2, r3, r4, r5) := H
 have A4 := aM A40
 clear A40
 by_cases c5 : t754 = true
 rotate_left
 ·replace c5 := Bool.eq_false_iff.mpr c5
  subst c5
  have H1 : ((spec_anyColors.f k t740 t749 t745).bind fun bt761 => (some (t743, t744, t745, t746, bt761.1))) = some (r1, r2, r3, r4, r5) := by rw [if_neg (show ¬ (false = true) by decide)] at H; exact H
  clear H
  have H := H1
  clear H1
  replace H := Option.bind_eq_some_iff.mp H
  obtain ⟨⟨t761, t764⟩, A370, H⟩ := H
  replace H : (some (t743, t744, t745, t746, t761)) = some (r1, r2, r3, r4, r5) := H
  have A37 := aM A370
  clear A370
  simp only [Option.some.injEq, Prod.mk.injEq] at H
  obtain ⟨rfl, rfl, rfl, rfl, rfl⟩ := H
  go_enter Try.func34, Try.ntmps34
  go_wp2_with (first | ((with_reducible refine gate_dst (N := 2) rfl ?_); refine bxE (N := 2) (cs := #[.int .i64 0, .int .i64 0, .int .i64 0, .slice none 0 0]) (t := 29) ?_; intro gb739 hg w38 hbox hb; have BK739 := aM (hbox); have GW739 := gW hg HB; have GE739 := gW hg HB; replace HB := bS HB hb; clear hb hbox hg) | ((with_reducible refine gate_callee (f := 52) rfl ?_); refine gL (some 9) Try.func52 #[.slice A0 l0.length c0] ?_; (with_reducible refine (spec_newReader.calls _ _ l0 t740 t741 w _ ?side1 ?side2 ?side3 A2.out).mono ?_); (case side1 => exact qW HB.out); (case side2 => exact HR0.out); (case side3 => exact HC0.out); rintro e w39 ⟨g742, rfl, hi, hb, hb2⟩; refine ⟨_, rfl, ?_⟩; replace HB := aM (hb); have HI742 := aM (hi); have NB742_739 := aM (IsS83.ne_blk hi (blk_below (g := gb739) (o := .cells #[.int .i64 0, .int .i64 0, .int .i64 0, .slice none 0 0] 29 (0, 0)) (qB BK739.out) hb2) (by decide)); have NB739_742 := aM (Ne.symm (IsS83.ne_blk hi (blk_below (g := gb739) (o := .cells #[.int .i64 0, .int .i64 0, .int .i64 0, .slice none 0 0] 29 (0, 0)) (qB BK739.out) hb2) (by decide))); replace BK739 := bB BK739 hb2; clear hb hb2 hi) | ((with_reducible refine gate_callee (f := 51) rfl ?_); refine gL (some 11) Try.func51 #[.pointer (some ⟨g742, 0, none⟩)] ?_; (with_reducible refine (spec_anyImage.calls k g742 t740 t741 t743 t744 t745 t746 t749 w _ ?side1 ?side2 A3.out).mono ?_); (case side1 => exact iS83 HI742.out); (case side2 => exact wS83 HB.out); rintro e w40 ⟨v747, rfl, ho0, hi, hb, hk⟩; refine ⟨_, rfl, ?_⟩; replace BK739 := bK hk BK739 NB739_742; have HO748 := aM (Kd.Q_lower (Kd.Q_newM (M := fun k_ => (w.heap.size ≤ k_)) ho0 (below_size (wS83 HB.out)) (fun k_ h_ => h_)) (below_size (wS83 HB.out))); replace HB := aM (hb); replace HI742 := aM (hi); clear hb hk hi ho0) | ((with_reducible refine gate_dst (N := 5) rfl ?_); refine bxE (N := 5) (cs := #[.int .i64 0, .int .i64 0, .int .i64 0, .slice none 0 0]) (t := 29) ?_; intro gb750 hg w41 hbox hb; replace HO748 := aM (Kd.Q_below (qQ HO748.out) hb); have BK750 := aM (hbox); have GW750 := aM ((by rw [hg]; exact (below_size (wS83 HB.out)) : w.heap.size ≤ gb750)); have GE750 := aM ((by rw [hg]; exact (below_size (wS83 HB.out)) : w.heap.size ≤ gb750)); replace HB := aM (below_step (wS83 HB.out) hb); have NB739_750 := nL hg BK739; have NB750_739 := nG hg BK739; replace BK739 := bB BK739 hb; have NB742_750 := aM ((by rw [hg]; exact Nat.ne_of_lt (IsS83.lt (show IsS83 w _ g742 t740 t749 from iS83 HI742.out)) : g742 ≠ gb750)); have NB750_742 := aM ((by rw [hg]; exact Nat.ne_of_gt (IsS83.lt (show IsS83 w _ g742 t740 t749 from iS83 HI742.out)) : gb750 ≠ g742)); replace HI742 := aM (IsS83.below (iS83 HI742.out) hb); clear hb hbox hg; have hnb42 := NB750_739.out; have hnc42 := NB739_750.out; have hnb43 := NB750_742.out; have hnc43 := NB742_750.out; obtain ⟨⟨hcz44_0, hcz44_1, hcz44_2, hcz44_3⟩, hfz44_0, hfz44_1, hfz44_2, hfz44_3⟩ := cf4 BK750; obtain ⟨Ao45, co45, eo45, _⟩ := Kd.Q_slice HO748.out; subst eo45) | ((with_reducible refine gate_callee (f := 13) rfl ?_); refine gL (some 14) Try.func13 #[.agg #[.int .i64 t743, .int .i64 t744, .int .i64 t745, .slice Ao45 t746.length co45]] ?_; (with_reducible refine (spec_PaletteOf.calls k t743 t744 t745 _ _ t746 t751 false _ ?side1 ?side2 A4.out).mono ?_); (case side1 => refine (Kd.Q_reads' (e := 3) (base := w.heap.size) (ok := fun k_ => ((w.heap.size ≤ k_) ∧ True)) (n := t746.length) (c := co45) ?_).2.2; exact (by (with_reducible repeat (first | apply Kd.Q_alloc | apply Kd.Q_drewN | apply Kd.Q_drew)); exact (Kd.Q_mono (qT HO748 BK750) (fun _ h_ => h_.1)))); (case side2 => exact (Kd.Q_reads' HO748.out).2.1); rintro e w46 ⟨v752, rfl, ho0, hb⟩; refine ⟨_, rfl, ?_⟩; have HO753 := aM (Kd.N_lower (Kd.N_mono (ok' := fun k_ => (w.heap.size ≤ k_) ∧ some k_ ≠ (.slice Ao45 t746.length co45 : Value).ownBlock ∧ k_ ≠ gb739 ∧ k_ ≠ gb750 ∧ k_ ≠ g742) (Kd.S_N (Kd.S_bound ho0)) (fun k_ hk_ => ⟨(Nat.le_trans (below_size (wS83 HB.out)) hk_.2.1), (Kd.fresh' (Kd.Q_lt (by (with_reducible repeat (first | apply Kd.Q_alloc | apply Kd.Q_drewN | apply Kd.Q_drew)); exact (Kd.Q_mono (qT HO748 BK750) (fun _ h_ => h_.1)))) k_ hk_.2.1), (Kd.freshB (g := gb739) (o := .cells #[.int .i64 0, .int .i64 0, .int .i64 0, .slice none 0 0] 29 (0, 0)) (by refine qB ?_; refine blk_far ?_ NB739_750.out _; refine qB ?_; refine blk_far ?_ NB739_750.out _; refine qB ?_; refine blk_far ?_ NB739_750.out _; refine qB ?_; refine blk_far ?_ NB739_750.out _; refine qB ?_; exact BK739.out) k_ hk_.2.1), (Kd.freshB (g := gb750) (o := .cells #[.int .i64 t743, .int .i64 t744, .int .i64 t745, .slice Ao45 t746.length co45] 29 (0, 0)) (by exact bP BK750.out) k_ hk_.2.1), (IsS83.fresh (iS83 HI742.out) k_ hk_.2.1)⟩)) (below_size (wS83 HB.out))); replace HO748 := aM (Kd.Q_below (by (with_reducible repeat (first | apply Kd.Q_alloc | apply Kd.Q_drewN | apply Kd.Q_drew)); exact (Kd.Q_mono (qT HO748 BK750) (fun _ h_ => h_.1))) hb); replace BK739 := aM (blk_below (g := gb739) (o := .cells #[.int .i64 0, .int .i64 0, .int .i64 0, .slice none 0 0] 29 (0, 0)) (by refine qB ?_; refine blk_far ?_ NB739_750.out _; refine qB ?_; refine blk_far ?_ NB739_750.out _; refine qB ?_; refine blk_far ?_ NB739_750.out _; refine qB ?_; refine blk_far ?_ NB739_750.out _; refine qB ?_; exact BK739.out) hb); replace BK750 := aM (blk_below (g := gb750) (o := .cells #[.int .i64 t743, .int .i64 t744, .int .i64 t745, .slice Ao45 t746.length co45] 29 (0, 0)) (by exact bP BK750.out) hb); replace HB := aM (below_step (wS83 HB.out) hb); replace HI742 := aM (IsS83.below (show IsS83 w ((((w41.setCell ⟨gb750, 0, none⟩ (.int .i64 t743)).setCell ⟨gb750, 1, none⟩ (.int .i64 t744)).setCell ⟨gb750, 2, none⟩ (.int .i64 t745)).setCell ⟨gb750, 3, none⟩ (.slice Ao45 t746.length co45)) g742 t740 t749 from iS83 HI742.out) hb); clear hb ho0; obtain ⟨⟨hcz47_0, hcz47_1, hcz47_2, hcz47_3⟩, hfz47_0, hfz47_1, hfz47_2, hfz47_3⟩ := cf4 BK750) | ((with_reducible refine gate_callee (f := 64) rfl ?_); refine gL (some 27) Try.func64 #[.pointer (some ⟨g742, 0, none⟩), .int .i64 t745] ?_; (with_reducible refine (spec_anyColors.calls k g742 t740 t749 t745 t761 t764 w _ ?side1 ?side2 A37.out).mono ?_); (case side1 => exact iS83 HI742.out); (case side2 => exact wS83 HB.out); rintro e w48 ⟨v762, rfl, ho0, hi, hb, hk⟩; refine ⟨_, rfl, ?_⟩; have HO763 := aM (Kd.N_lower (Kd.N_mono (ok' := fun k_ => (w.heap.size ≤ k_) ∧ some k_ ≠ (.slice Ao45 t746.length co45 : Value).ownBlock ∧ some k_ ≠ (v752 : Value).ownBlock ∧ k_ ≠ gb739 ∧ k_ ≠ gb750 ∧ k_ ≠ g742) ho0 (fun k_ hk_ => ⟨(Nat.le_trans (below_size (wS83 HB.out)) hk_), (Kd.fresh' (Kd.Q_lt (qQ HO748.out)) k_ hk_), (Kd.fresh' (Kd.N_lt (by (with_reducible repeat (first | apply Kd.N_alloc | apply Kd.N_drewN | apply Kd.N_drew)); exact HO753.out)) k_ hk_), (Kd.freshB (g := gb739) (o := .cells #[.int .i64 0, .int .i64 0, .int .i64 0, .slice none 0 0] 29 (0, 0)) (qB BK739.out) k_ hk_), (Kd.freshB (g := gb750) (o := .cells #[.int .i64 t743, .int .i64 t744, .int .i64 t745, .slice Ao45 t746.length co45] 29 (0, 0)) (qB BK750.out) k_ hk_), (IsS83.fresh (iS83 HI742.out) k_ hk_)⟩)) (below_size (wS83 HB.out))); replace BK739 := bK hk BK739 NB739_742; replace HO748 := aM (Kd.Q_mono (Kd.Q_keep (IsS83.apartQ (show IsS83 w _ g742 t740 t749 from iS83 HI742.out) (qQ HO748.out) (by decide)) hk (fun _ h => h.2)) (fun _ h => h.1)); replace BK750 := bK hk BK750 NB750_742; replace HO753 := aM (Kd.N_mono (Kd.N_told (Kd.N_oldK (Kd.N_mono (ok := fun k_ => (((w.heap.size ≤ k_)) ∧ (some k_ ≠ (.slice Ao45 t746.length co45 : Value).ownBlock ∧ (k_ ≠ gb739 ∧ (k_ ≠ gb750 ∧ k_ ≠ g742))))) (by (with_reducible repeat (first | apply Kd.N_alloc | apply Kd.N_drewN | apply Kd.N_drew)); exact HO753.out) (fun k_ hk_ => (⟨hk_, hk_.2.2.2.2⟩ : _ ∧ k_ ≠ g742))) hk) (Kd.N_base ho0)) (fun _ h_ => h_.1)); replace HB := aM (hb); replace HI742 := aM (hi); clear hb hk hi ho0; obtain ⟨⟨hcz49_0, hcz49_1, hcz49_2, hcz49_3⟩, hfz49_0, hfz49_1, hfz49_2, hfz49_3⟩ := cf4 BK750; have hnb50 := NB739_742.out; have hnc50 := NB742_739.out; obtain ⟨⟨hcz51_0, hcz51_1, hcz51_2, hcz51_3⟩, hfz51_0, hfz51_1, hfz51_2, hfz51_3⟩ := cf4 BK739))
  refine bodyPost_ret (results_ct rfl _ _ gb739 29 #[.int .i64 t743, .int .i64 t744, .int .i64 t745, .slice Ao45 t746.length co45] (0, 0) _ rfl (by exact bP BK739.out) Try.underlying29 rfl (by kernel_rfl)) rfl ?_
  exact ⟨_, _, qX, by (with_reducible repeat (first | apply Kd.Q_alloc | apply Kd.Q_drewN | apply Kd.Q_drew)); exact Kd.Q_mono (qT HO748 BK739) (fun _ hk => hk.1.1), by (with_reducible repeat (first | apply Kd.N_alloc | apply Kd.N_drewN | apply Kd.N_drew)); exact Kd.N_mono (Kd.N_far (p := ⟨gb739, 3, none⟩) (Kd.N_far (p := ⟨gb739, 2, none⟩) (Kd.N_far (p := ⟨gb739, 1, none⟩) (Kd.N_far (p := ⟨gb739, 0, none⟩) (Kd.N_mono HO763.out (fun k_ hk => (⟨hk, hk.2.2.2.1⟩ : _ ∧ k_ ≠ gb739))) (fun _ hk => hk.2) (.int .i64 t743)) (fun _ hk => hk.2) (.int .i64 t744)) (fun _ hk => hk.2) (.int .i64 t745)) (fun _ hk => hk.2) (.slice Ao45 t746.length co45)) (fun _ hk => by first | exact ⟨hk.1.1, hk.1.2.1⟩ | (revert hk; simp only [and_imp]; intros; and_intros <;> assumption)), wS83 HB.out⟩
 subst c5
 have H1 : ((spec_reader_pick.f k t740 t749 2).bind fun bt755 => (if bt755.1 = 0 then ((spec_anyColors.f k t740 bt755.2 t745).bind fun bt757 => (some (t743, t744, t745, t746, bt757.1))) else (some (t743, t744, t745, t746, t751)))) = some (r1, r2, r3, r4, r5) := by rw [if_pos rfl] at H; exact H
 clear H
 have H := H1
 clear H1
 replace H := Option.bind_eq_some_iff.mp H
 obtain ⟨⟨t755, t756⟩, A60, H⟩ := H
 replace H : (if t755 = 0 then ((spec_anyColors.f k t740 t756 t745).bind fun bt757 => (some (t743, t744, t745, t746, bt757.1))) else (some (t743, t744, t745, t746, t751))) = some (r1, r2, r3, r4, r5) := H
 have A6 := aM A60
 clear A60
 by_cases c7 : t755 = 0
 rotate_left
 ·rw [if_neg c7] at H
  have c7b0 : (t755 == 0) = false := beq_eq_false_iff_ne.mpr c7
  have c7b1 : (t755 != 0) = true := bne_iff_ne.mpr c7
  simp only [Option.some.injEq, Prod.mk.injEq] at H
  obtain ⟨rfl, rfl, rfl, rfl, rfl⟩ := H
  go_enter Try.func34, Try.ntmps34
  go_wp2_with (first | ((with_reducible refine gate_dst (N := 2) rfl ?_); refine bxE (N := 2) (cs := #[.int .i64 0, .int .i64 0, .int .i64 0, .slice none 0 0]) (t := 29) ?_; intro gb739 hg w24 hbox hb; have BK739 := aM (hbox); have GW739 := gW hg HB; have GE739 := gW hg HB; replace HB := bS HB hb; clear hb hbox hg) | ((with_reducible refine gate_callee (f := 52) rfl ?_); refine gL (some 9) Try.func52 #[.slice A0 l0.length c0] ?_; (with_reducible refine (spec_newReader.calls _ _ l0 t740 t741 w _ ?side1 ?side2 ?side3 A2.out).mono ?_); (case side1 => exact qW HB.out); (case side2 => exact HR0.out); (case side3 => exact HC0.out); rintro e w25 ⟨g742, rfl, hi, hb, hb2⟩; refine ⟨_, rfl, ?_⟩; replace HB := aM (hb); have HI742 := aM (hi); have NB742_739 := aM (IsS83.ne_blk hi (blk_below (g := gb739) (o := .cells #[.int .i64 0, .int .i64 0, .int .i64 0, .slice none 0 0] 29 (0, 0)) (qB BK739.out) hb2) (by decide)); have NB739_742 := aM (Ne.symm (IsS83.ne_blk hi (blk_below (g := gb739) (o := .cells #[.int .i64 0, .int .i64 0, .int .i64 0, .slice none 0 0] 29 (0, 0)) (qB BK739.out) hb2) (by decide))); replace BK739 := bB BK739 hb2; clear hb hb2 hi) | ((with_reducible refine gate_callee (f := 51) rfl ?_); refine gL (some 11) Try.func51 #[.pointer (some ⟨g742, 0, none⟩)] ?_; (with_reducible refine (spec_anyImage.calls k g742 t740 t741 t743 t744 t745 t746 t749 w _ ?side1 ?side2 A3.out).mono ?_); (case side1 => exact iS83 HI742.out); (case side2 => exact wS83 HB.out); rintro e w26 ⟨v747, rfl, ho0, hi, hb, hk⟩; refine ⟨_, rfl, ?_⟩; replace BK739 := bK hk BK739 NB739_742; have HO748 := aM (Kd.Q_lower (Kd.Q_newM (M := fun k_ => (w.heap.size ≤ k_)) ho0 (below_size (wS83 HB.out)) (fun k_ h_ => h_)) (below_size (wS83 HB.out))); replace HB := aM (hb); replace HI742 := aM (hi); clear hb hk hi ho0) | ((with_reducible refine gate_dst (N := 5) rfl ?_); refine bxE (N := 5) (cs := #[.int .i64 0, .int .i64 0, .int .i64 0, .slice none 0 0]) (t := 29) ?_; intro gb750 hg w27 hbox hb; replace HO748 := aM (Kd.Q_below (qQ HO748.out) hb); have BK750 := aM (hbox); have GW750 := aM ((by rw [hg]; exact (below_size (wS83 HB.out)) : w.heap.size ≤ gb750)); have GE750 := aM ((by rw [hg]; exact (below_size (wS83 HB.out)) : w.heap.size ≤ gb750)); replace HB := aM (below_step (wS83 HB.out) hb); have NB739_750 := nL hg BK739; have NB750_739 := nG hg BK739; replace BK739 := bB BK739 hb; have NB742_750 := aM ((by rw [hg]; exact Nat.ne_of_lt (IsS83.lt (show IsS83 w _ g742 t740 t749 from iS83 HI742.out)) : g742 ≠ gb750)); have NB750_742 := aM ((by rw [hg]; exact Nat.ne_of_gt (IsS83.lt (show IsS83 w _ g742 t740 t749 from iS83 HI742.out)) : gb750 ≠ g742)); replace HI742 := aM (IsS83.below (iS83 HI742.out) hb); clear hb hbox hg; have hnb28 := NB750_739.out; have hnc28 := NB739_750.out; have hnb29 := NB750_742.out; have hnc29 := NB742_750.out; obtain ⟨⟨hcz30_0, hcz30_1, hcz30_2, hcz30_3⟩, hfz30_0, hfz30_1, hfz30_2, hfz30_3⟩ := cf4 BK750; obtain ⟨Ao31, co31, eo31, _⟩ := Kd.Q_slice HO748.out; subst eo31) | ((with_reducible refine gate_callee (f := 13) rfl ?_); refine gL (some 14) Try.func13 #[.agg #[.int .i64 t743, .int .i64 t744, .int .i64 t745, .slice Ao31 t746.length co31]] ?_; (with_reducible refine (spec_PaletteOf.calls k t743 t744 t745 _ _ t746 t751 true _ ?side1 ?side2 A4.out).mono ?_); (case side1 => refine (Kd.Q_reads' (e := 3) (base := w.heap.size) (ok := fun k_ => ((w.heap.size ≤ k_) ∧ True)) (n := t746.length) (c := co31) ?_).2.2; exact (by (with_reducible repeat (first | apply Kd.Q_alloc | apply Kd.Q_drewN | apply Kd.Q_drew)); exact (Kd.Q_mono (qT HO748 BK750) (fun _ h_ => h_.1)))); (case side2 => exact (Kd.Q_reads' HO748.out).2.1); rintro e w32 ⟨v752, rfl, ho0, hb⟩; refine ⟨_, rfl, ?_⟩; have HO753 := aM (Kd.N_lower (Kd.N_mono (ok' := fun k_ => (w.heap.size ≤ k_) ∧ some k_ ≠ (.slice Ao31 t746.length co31 : Value).ownBlock ∧ k_ ≠ gb739 ∧ k_ ≠ gb750 ∧ k_ ≠ g742) (Kd.S_N (Kd.S_bound ho0)) (fun k_ hk_ => ⟨(Nat.le_trans (below_size (wS83 HB.out)) hk_.2.1), (Kd.fresh' (Kd.Q_lt (by (with_reducible repeat (first | apply Kd.Q_alloc | apply Kd.Q_drewN | apply Kd.Q_drew)); exact (Kd.Q_mono (qT HO748 BK750) (fun _ h_ => h_.1)))) k_ hk_.2.1), (Kd.freshB (g := gb739) (o := .cells #[.int .i64 0, .int .i64 0, .int .i64 0, .slice none 0 0] 29 (0, 0)) (by refine qB ?_; refine blk_far ?_ NB739_750.out _; refine qB ?_; refine blk_far ?_ NB739_750.out _; refine qB ?_; refine blk_far ?_ NB739_750.out _; refine qB ?_; refine blk_far ?_ NB739_750.out _; refine qB ?_; exact BK739.out) k_ hk_.2.1), (Kd.freshB (g := gb750) (o := .cells #[.int .i64 t743, .int .i64 t744, .int .i64 t745, .slice Ao31 t746.length co31] 29 (0, 0)) (by exact bP BK750.out) k_ hk_.2.1), (IsS83.fresh (iS83 HI742.out) k_ hk_.2.1)⟩)) (below_size (wS83 HB.out))); replace HO748 := aM (Kd.Q_below (by (with_reducible repeat (first | apply Kd.Q_alloc | apply Kd.Q_drewN | apply Kd.Q_drew)); exact (Kd.Q_mono (qT HO748 BK750) (fun _ h_ => h_.1))) hb); replace BK739 := aM (blk_below (g := gb739) (o := .cells #[.int .i64 0, .int .i64 0, .int .i64 0, .slice none 0 0] 29 (0, 0)) (by refine qB ?_; refine blk_far ?_ NB739_750.out _; refine qB ?_; refine blk_far ?_ NB739_750.out _; refine qB ?_; refine blk_far ?_ NB739_750.out _; refine qB ?_; refine blk_far ?_ NB739_750.out _; refine qB ?_; exact BK739.out) hb); replace BK750 := aM (blk_below (g := gb750) (o := .cells #[.int .i64 t743, .int .i64 t744, .int .i64 t745, .slice Ao31 t746.length co31] 29 (0, 0)) (by exact bP BK750.out) hb); replace HB := aM (below_step (wS83 HB.out) hb); replace HI742 := aM (IsS83.below (show IsS83 w ((((w27.setCell ⟨gb750, 0, none⟩ (.int .i64 t743)).setCell ⟨gb750, 1, none⟩ (.int .i64 t744)).setCell ⟨gb750, 2, none⟩ (.int .i64 t745)).setCell ⟨gb750, 3, none⟩ (.slice Ao31 t746.length co31)) g742 t740 t749 from iS83 HI742.out) hb); clear hb ho0) | (go_at_call 66; (with_reducible refine (spec_reader_pick.calls k g742 t740 t749 2 t755 t756 w _ ?side1 ?side2 A6.out).mono ?_); (case side1 => exact iS83 HI742.out); (case side2 => exact wS83 HB.out); rintro e w33 ⟨rfl, hi, hb, hk⟩; replace BK739 := bK hk BK739 NB739_742; replace HO748 := aM (Kd.Q_mono (Kd.Q_keep (IsS83.apartQ (show IsS83 w _ g742 t740 t749 from iS83 HI742.out) (qQ HO748.out) (by decide)) hk (fun _ h => h.2)) (fun _ h => h.1)); replace BK750 := bK hk BK750 NB750_742; replace HO753 := aM (Kd.N_mono (Kd.N_keep (Kd.N_mono (ok := fun k_ => (((w.heap.size ≤ k_)) ∧ (some k_ ≠ (.slice Ao31 t746.length co31 : Value).ownBlock ∧ (k_ ≠ gb739 ∧ (k_ ≠ gb750 ∧ k_ ≠ g742))))) (by (with_reducible repeat (first | apply Kd.N_alloc | apply Kd.N_drewN | apply Kd.N_drew)); exact HO753.out) (fun k_ hk_ => (⟨hk_, hk_.2.2.2.2⟩ : _ ∧ k_ ≠ g742))) hk (fun _ h => h.2)) (fun _ h => h.1)); replace HB := aM (hb); replace HI742 := aM (hi); clear hb hk hi; obtain ⟨⟨hcz34_0, hcz34_1, hcz34_2, hcz34_3⟩, hfz34_0, hfz34_1, hfz34_2, hfz34_3⟩ := cf4 BK750; have hnb35 := NB739_742.out; have hnc35 := NB742_739.out; obtain ⟨⟨hcz36_0, hcz36_1, hcz36_2, hcz36_3⟩, hfz36_0, hfz36_1, hfz36_2, hfz36_3⟩ := cf4 BK739))
  refine bodyPost_ret (results_ct rfl _ _ gb739 29 #[.int .i64 t743, .int .i64 t744, .int .i64 t745, .slice Ao31 t746.length co31] (0, 0) _ rfl (by exact bP BK739.out) Try.underlying29 rfl (by kernel_rfl)) rfl ?_
  exact ⟨_, _, qX, by (with_reducible repeat (first | apply Kd.Q_alloc | apply Kd.Q_drewN | apply Kd.Q_drew)); exact Kd.Q_mono (qT HO748 BK739) (fun _ hk => hk.1.1), by (with_reducible repeat (first | apply Kd.N_alloc | apply Kd.N_drewN | apply Kd.N_drew)); exact Kd.N_mono (Kd.N_far (p := ⟨gb739, 3, none⟩) (Kd.N_far (p := ⟨gb739, 2, none⟩) (Kd.N_far (p := ⟨gb739, 1, none⟩) (Kd.N_far (p := ⟨gb739, 0, none⟩) (Kd.N_mono HO753.out (fun k_ hk => (⟨hk, hk.2.2.1⟩ : _ ∧ k_ ≠ gb739))) (fun _ hk => hk.2) (.int .i64 t743)) (fun _ hk => hk.2) (.int .i64 t744)) (fun _ hk => hk.2) (.int .i64 t745)) (fun _ hk => hk.2) (.slice Ao31 t746.length co31)) (fun _ hk => by first | exact ⟨hk.1.1, hk.1.2.1⟩ | (revert hk; simp only [and_imp]; intros; and_intros <;> assumption)), wS83 HB.out⟩
 rw [if_pos c7] at H
 have c7b0 : (t755 == 0) = true := beq_iff_eq.mpr c7
 have c7b1 : (t755 != 0) = false := bne_eq_false_iff_eq.mpr c7
 clear c7
 replace H := Option.bind_eq_some_iff.mp H
 obtain ⟨⟨t757, t760⟩, A80, H⟩ := H
 replace H : (some (t743, t744, t745, t746, t757)) = some (r1, r2, r3, r4, r5) := H
 have A8 := aM A80
 clear A80
 simp only [Option.some.injEq, Prod.mk.injEq] at H
 obtain ⟨rfl, rfl, rfl, rfl, rfl⟩ := H
 go_enter Try.func34, Try.ntmps34
 go_wp2_with (first | ((with_reducible refine gate_dst (N := 2) rfl ?_); refine bxE (N := 2) (cs := #[.int .i64 0, .int .i64 0, .int .i64 0, .slice none 0 0]) (t := 29) ?_; intro gb739 hg w9 hbox hb; have BK739 := aM (hbox); have GW739 := gW hg HB; have GE739 := gW hg HB; replace HB := bS HB hb; clear hb hbox hg) | ((with_reducible refine gate_callee (f := 52) rfl ?_); refine gL (some 9) Try.func52 #[.slice A0 l0.length c0] ?_; (with_reducible refine (spec_newReader.calls _ _ l0 t740 t741 w _ ?side1 ?side2 ?side3 A2.out).mono ?_); (case side1 => exact qW HB.out); (case side2 => exact HR0.out); (case side3 => exact HC0.out); rintro e w10 ⟨g742, rfl, hi, hb, hb2⟩; refine ⟨_, rfl, ?_⟩; replace HB := aM (hb); have HI742 := aM (hi); have NB742_739 := aM (IsS83.ne_blk hi (blk_below (g := gb739) (o := .cells #[.int .i64 0, .int .i64 0, .int .i64 0, .slice none 0 0] 29 (0, 0)) (qB BK739.out) hb2) (by decide)); have NB739_742 := aM (Ne.symm (IsS83.ne_blk hi (blk_below (g := gb739) (o := .cells #[.int .i64 0, .int .i64 0, .int .i64 0, .slice none 0 0] 29 (0, 0)) (qB BK739.out) hb2) (by decide))); replace BK739 := bB BK739 hb2; clear hb hb2 hi) | ((with_reducible refine gate_callee (f := 51) rfl ?_); refine gL (some 11) Try.func51 #[.pointer (some ⟨g742, 0, none⟩)] ?_; (with_reducible refine (spec_anyImage.calls k g742 t740 t741 t743 t744 t745 t746 t749 w _ ?side1 ?side2 A3.out).mono ?_); (case side1 => exact iS83 HI742.out); (case side2 => exact wS83 HB.out); rintro e w11 ⟨v747, rfl, ho0, hi, hb, hk⟩; refine ⟨_, rfl, ?_⟩; replace BK739 := bK hk BK739 NB739_742; have HO748 := aM (Kd.Q_lower (Kd.Q_newM (M := fun k_ => (w.heap.size ≤ k_)) ho0 (below_size (wS83 HB.out)) (fun k_ h_ => h_)) (below_size (wS83 HB.out))); replace HB := aM (hb); replace HI742 := aM (hi); clear hb hk hi ho0) | ((with_reducible refine gate_dst (N := 5) rfl ?_); refine bxE (N := 5) (cs := #[.int .i64 0, .int .i64 0, .int .i64 0, .slice none 0 0]) (t := 29) ?_; intro gb750 hg w12 hbox hb; replace HO748 := aM (Kd.Q_below (qQ HO748.out) hb); have BK750 := aM (hbox); have GW750 := aM ((by rw [hg]; exact (below_size (wS83 HB.out)) : w.heap.size ≤ gb750)); have GE750 := aM ((by rw [hg]; exact (below_size (wS83 HB.out)) : w.heap.size ≤ gb750)); replace HB := aM (below_step (wS83 HB.out) hb); have NB739_750 := nL hg BK739; have NB750_739 := nG hg BK739; replace BK739 := bB BK739 hb; have NB742_750 := aM ((by rw [hg]; exact Nat.ne_of_lt (IsS83.lt (show IsS83 w _ g742 t740 t749 from iS83 HI742.out)) : g742 ≠ gb750)); have NB750_742 := aM ((by rw [hg]; exact Nat.ne_of_gt (IsS83.lt (show IsS83 w _ g742 t740 t749 from iS83 HI742.out)) : gb750 ≠ g742)); replace HI742 := aM (IsS83.below (iS83 HI742.out) hb); clear hb hbox hg; have hnb13 := NB750_739.out; have hnc13 := NB739_750.out; have hnb14 := NB750_742.out; have hnc14 := NB742_750.out; obtain ⟨⟨hcz15_0, hcz15_1, hcz15_2, hcz15_3⟩, hfz15_0, hfz15_1, hfz15_2, hfz15_3⟩ := cf4 BK750; obtain ⟨Ao16, co16, eo16, _⟩ := Kd.Q_slice HO748.out; subst eo16) | ((with_reducible refine gate_callee (f := 13) rfl ?_); refine gL (some 14) Try.func13 #[.agg #[.int .i64 t743, .int .i64 t744, .int .i64 t745, .slice Ao16 t746.length co16]] ?_; (with_reducible refine (spec_PaletteOf.calls k t743 t744 t745 _ _ t746 t751 true _ ?side1 ?side2 A4.out).mono ?_); (case side1 => refine (Kd.Q_reads' (e := 3) (base := w.heap.size) (ok := fun k_ => ((w.heap.size ≤ k_) ∧ True)) (n := t746.length) (c := co16) ?_).2.2; exact (by (with_reducible repeat (first | apply Kd.Q_alloc | apply Kd.Q_drewN | apply Kd.Q_drew)); exact (Kd.Q_mono (qT HO748 BK750) (fun _ h_ => h_.1)))); (case side2 => exact (Kd.Q_reads' HO748.out).2.1); rintro e w17 ⟨v752, rfl, ho0, hb⟩; refine ⟨_, rfl, ?_⟩; have HO753 := aM (Kd.N_lower (Kd.N_mono (ok' := fun k_ => (w.heap.size ≤ k_) ∧ some k_ ≠ (.slice Ao16 t746.length co16 : Value).ownBlock ∧ k_ ≠ gb739 ∧ k_ ≠ gb750 ∧ k_ ≠ g742) (Kd.S_N (Kd.S_bound ho0)) (fun k_ hk_ => ⟨(Nat.le_trans (below_size (wS83 HB.out)) hk_.2.1), (Kd.fresh' (Kd.Q_lt (by (with_reducible repeat (first | apply Kd.Q_alloc | apply Kd.Q_drewN | apply Kd.Q_drew)); exact (Kd.Q_mono (qT HO748 BK750) (fun _ h_ => h_.1)))) k_ hk_.2.1), (Kd.freshB (g := gb739) (o := .cells #[.int .i64 0, .int .i64 0, .int .i64 0, .slice none 0 0] 29 (0, 0)) (by refine qB ?_; refine blk_far ?_ NB739_750.out _; refine qB ?_; refine blk_far ?_ NB739_750.out _; refine qB ?_; refine blk_far ?_ NB739_750.out _; refine qB ?_; refine blk_far ?_ NB739_750.out _; refine qB ?_; exact BK739.out) k_ hk_.2.1), (Kd.freshB (g := gb750) (o := .cells #[.int .i64 t743, .int .i64 t744, .int .i64 t745, .slice Ao16 t746.length co16] 29 (0, 0)) (by exact bP BK750.out) k_ hk_.2.1), (IsS83.fresh (iS83 HI742.out) k_ hk_.2.1)⟩)) (below_size (wS83 HB.out))); replace HO748 := aM (Kd.Q_below (by (with_reducible repeat (first | apply Kd.Q_alloc | apply Kd.Q_drewN | apply Kd.Q_drew)); exact (Kd.Q_mono (qT HO748 BK750) (fun _ h_ => h_.1))) hb); replace BK739 := aM (blk_below (g := gb739) (o := .cells #[.int .i64 0, .int .i64 0, .int .i64 0, .slice none 0 0] 29 (0, 0)) (by refine qB ?_; refine blk_far ?_ NB739_750.out _; refine qB ?_; refine blk_far ?_ NB739_750.out _; refine qB ?_; refine blk_far ?_ NB739_750.out _; refine qB ?_; refine blk_far ?_ NB739_750.out _; refine qB ?_; exact BK739.out) hb); replace BK750 := aM (blk_below (g := gb750) (o := .cells #[.int .i64 t743, .int .i64 t744, .int .i64 t745, .slice Ao16 t746.length co16] 29 (0, 0)) (by exact bP BK750.out) hb); replace HB := aM (below_step (wS83 HB.out) hb); replace HI742 := aM (IsS83.below (show IsS83 w ((((w12.setCell ⟨gb750, 0, none⟩ (.int .i64 t743)).setCell ⟨gb750, 1, none⟩ (.int .i64 t744)).setCell ⟨gb750, 2, none⟩ (.int .i64 t745)).setCell ⟨gb750, 3, none⟩ (.slice Ao16 t746.length co16)) g742 t740 t749 from iS83 HI742.out) hb); clear hb ho0) | (go_at_call 66; (with_reducible refine (spec_reader_pick.calls k g742 t740 t749 2 t755 t756 w _ ?side1 ?side2 A6.out).mono ?_); (case side1 => exact iS83 HI742.out); (case side2 => exact wS83 HB.out); rintro e w18 ⟨rfl, hi, hb, hk⟩; replace BK739 := bK hk BK739 NB739_742; replace HO748 := aM (Kd.Q_mono (Kd.Q_keep (IsS83.apartQ (show IsS83 w _ g742 t740 t749 from iS83 HI742.out) (qQ HO748.out) (by decide)) hk (fun _ h => h.2)) (fun _ h => h.1)); replace BK750 := bK hk BK750 NB750_742; replace HO753 := aM (Kd.N_mono (Kd.N_keep (Kd.N_mono (ok := fun k_ => (((w.heap.size ≤ k_)) ∧ (some k_ ≠ (.slice Ao16 t746.length co16 : Value).ownBlock ∧ (k_ ≠ gb739 ∧ (k_ ≠ gb750 ∧ k_ ≠ g742))))) (by (with_reducible repeat (first | apply Kd.N_alloc | apply Kd.N_drewN | apply Kd.N_drew)); exact HO753.out) (fun k_ hk_ => (⟨hk_, hk_.2.2.2.2⟩ : _ ∧ k_ ≠ g742))) hk (fun _ h => h.2)) (fun _ h => h.1)); replace HB := aM (hb); replace HI742 := aM (hi); clear hb hk hi; obtain ⟨⟨hcz19_0, hcz19_1, hcz19_2, hcz19_3⟩, hfz19_0, hfz19_1, hfz19_2, hfz19_3⟩ := cf4 BK750) | ((with_reducible refine gate_callee (f := 64) rfl ?_); refine gL (some 27) Try.func64 #[.pointer (some ⟨g742, 0, none⟩), .int .i64 t745] ?_; (with_reducible refine (spec_anyColors.calls k g742 t740 t756 t745 t757 t760 w _ ?side1 ?side2 A8.out).mono ?_); (case side1 => exact iS83 HI742.out); (case side2 => exact wS83 HB.out); rintro e w20 ⟨v758, rfl, ho0, hi, hb, hk⟩; refine ⟨_, rfl, ?_⟩; have HO759 := aM (Kd.N_lower (Kd.N_mono (ok' := fun k_ => (w.heap.size ≤ k_) ∧ some k_ ≠ (.slice Ao16 t746.length co16 : Value).ownBlock ∧ some k_ ≠ (v752 : Value).ownBlock ∧ k_ ≠ gb739 ∧ k_ ≠ gb750 ∧ k_ ≠ g742) ho0 (fun k_ hk_ => ⟨(Nat.le_trans (below_size (wS83 HB.out)) hk_), (Kd.fresh' (Kd.Q_lt (qQ HO748.out)) k_ hk_), (Kd.fresh' (Kd.N_lt (by (with_reducible repeat (first | apply Kd.N_alloc | apply Kd.N_drewN | apply Kd.N_drew)); exact HO753.out)) k_ hk_), (Kd.freshB (g := gb739) (o := .cells #[.int .i64 0, .int .i64 0, .int .i64 0, .slice none 0 0] 29 (0, 0)) (qB BK739.out) k_ hk_), (Kd.freshB (g := gb750) (o := .cells #[.int .i64 t743, .int .i64 t744, .int .i64 t745, .slice Ao16 t746.length co16] 29 (0, 0)) (qB BK750.out) k_ hk_), (IsS83.fresh (iS83 HI742.out) k_ hk_)⟩)) (below_size (wS83 HB.out))); replace BK739 := bK hk BK739 NB739_742; replace HO748 := aM (Kd.Q_mono (Kd.Q_keep (IsS83.apartQ (show IsS83 w _ g742 t740 t756 from iS83 HI742.out) (qQ HO748.out) (by decide)) hk (fun _ h => h.2)) (fun _ h => h.1)); replace BK750 := bK hk BK750 NB750_742; replace HO753 := aM (Kd.N_mono (Kd.N_told (Kd.N_oldK (Kd.N_mono (ok := fun k_ => (((w.heap.size ≤ k_)) ∧ (some k_ ≠ (.slice Ao16 t746.length co16 : Value).ownBlock ∧ (k_ ≠ gb739 ∧ (k_ ≠ gb750 ∧ k_ ≠ g742))))) (by (with_reducible repeat (first | apply Kd.N_alloc | apply Kd.N_drewN | apply Kd.N_drew)); exact HO753.out) (fun k_ hk_ => (⟨hk_, hk_.2.2.2.2⟩ : _ ∧ k_ ≠ g742))) hk) (Kd.N_base ho0)) (fun _ h_ => h_.1)); replace HB := aM (hb); replace HI742 := aM (hi); clear hb hk hi ho0; obtain ⟨⟨hcz21_0, hcz21_1, hcz21_2, hcz21_3⟩, hfz21_0, hfz21_1, hfz21_2, hfz21_3⟩ := cf4 BK750; have hnb22 := NB739_742.out; have hnc22 := NB742_739.out; obtain ⟨⟨hcz23_0, hcz23_1, hcz23_2, hcz23_3⟩, hfz23_0, hfz23_1, hfz23_2, hfz23_3⟩ := cf4 BK739))
 refine bodyPost_ret (results_ct rfl _ _ gb739 29 #[.int .i64 t743, .int .i64 t744, .int .i64 t745, .slice Ao16 t746.length co16] (0, 0) _ rfl (by exact bP BK739.out) Try.underlying29 rfl (by kernel_rfl)) rfl ?_
 exact ⟨_, _, qX, by (with_reducible repeat (first | apply Kd.Q_alloc | apply Kd.Q_drewN | apply Kd.Q_drew)); exact Kd.Q_mono (qT HO748 BK739) (fun _ hk => hk.1.1), by (with_reducible repeat (first | apply Kd.N_alloc | apply Kd.N_drewN | apply Kd.N_drew)); exact Kd.N_mono (Kd.N_far (p := ⟨gb739, 3, none⟩) (Kd.N_far (p := ⟨gb739, 2, none⟩) (Kd.N_far (p := ⟨gb739, 1, none⟩) (Kd.N_far (p := ⟨gb739, 0, none⟩) (Kd.N_mono HO759.out (fun k_ hk => (⟨hk, hk.2.2.2.1⟩ : _ ∧ k_ ≠ gb739))) (fun _ hk => hk.2) (.int .i64 t743)) (fun _ hk => hk.2) (.int .i64 t744)) (fun _ hk => hk.2) (.int .i64 t745)) (fun _ hk => hk.2) (.slice Ao16 t746.length co16)) (fun _ hk => by first | exact ⟨hk.1.1, hk.1.2.1⟩ | (revert hk; simp only [and_imp]; intros; and_intros <;> assumption)), wS83 HB.out⟩
mutual
def laws_FnIndexImage.j0 : Nat → List (List Int) → Bool → Bool → Bool → Int → Int → Int → List Int → Int → Int → Int → List Int → Int → Int → Int → List Int → Option (Bool)
 | 0, _, _, _, _, _, _, _, _, _, _, _, _, _, _, _, _ => none
 | k + 1, x4, x6, x8, x43, x778000, x778001, x778002, x778003, x786000, x786001, x786002, x786003, x794000, x794001, x794002, x794003 => if x43 = true then ((laws_equalImage.f k x786000 x786001 x786002 x786003 x794000 x794001 x794002 x794003).bind fun t795 => (if t795 = true then (some (x6 == x8)) else (some false))) else (laws_FnIndexImage.l0 k x4 0 x778000 x778001 x778002 x778003 x786000 x786001 x786002 x786003)
def laws_FnIndexImage.l0 : Nat → List (List Int) → Int → Int → Int → Int → List Int → Int → Int → Int → List Int → Option (Bool)
 | 0, _, _, _, _, _, _, _, _, _, _ => none
 | k + 1, x4, x9, x778000, x778001, x778002, x778003, x786000, x786001, x786002, x786003 => if x9 < x778001 then (laws_FnIndexImage.l1 k x4 x9 0 x778000 x778001 x778002 x778003 x786000 x786001 x786002 x786003) else (some (x786002 == 1))
def laws_FnIndexImage.l1 : Nat → List (List Int) → Int → Int → Int → Int → Int → List Int → Int → Int → Int → List Int → Option (Bool)
 | 0, _, _, _, _, _, _, _, _, _, _, _ => none
 | k + 1, x4, x9, x10, x778000, x778001, x778002, x778003, x786000, x786001, x786002, x786003 => if x10 < x778000 then ((impl_PixelAt.f x786000 x786001 x786002 x786003 x10 x9).bind fun t796 => ((impl_PixelAt.f x778000 x778001 x778002 x778003 x10 x9).bind fun t799 => ((impl_NearestColor.f k x4 t799).bind fun t802 => ((laws_equalInts.f k t796 (([t802] : List Int))).bind fun t806 => (if t806 = true then (laws_FnIndexImage.l1 k x4 x9 (wrap64 (x10 + 1)) x778000 x778001 x778002 x778003 x786000 x786001 x786002 x786003) else (some false)))))) else (laws_FnIndexImage.l0 k x4 (wrap64 (x9 + 1)) x778000 x778001 x778002 x778003 x786000 x786001 x786002 x786003)
end
def laws_FnIndexImage.f (k : Nat) (l0 : List Int) : Option (Bool) := if (l0.length : Int) > 1048576 then (some true) else ((spec_DrawIndexImage.f k l0).bind fun bt768 => ((impl_IndexImage.f bt768.1 bt768.2.1 bt768.2.2.1 bt768.2.2.2.1 bt768.2.2.2.2).bind fun bt778 => ((spec_IndexImage.f k bt768.1 bt768.2.1 bt768.2.2.1 bt768.2.2.2.1 bt768.2.2.2.2).bind fun bt786 => ((laws_equalImage.f k bt778.1 bt778.2.1 bt778.2.2.1 bt778.2.2.2.1 bt786.1 bt786.2.1 bt786.2.2.1 bt786.2.2.2.1).bind fun t794 => (if t794 = true then (if (bt778.2.2.2.2 != bt786.2.2.2.2) = true then (laws_FnIndexImage.j0 k bt768.2.2.2.2 bt778.2.2.2.2 bt786.2.2.2.2 true bt768.1 bt768.2.1 bt768.2.2.1 bt768.2.2.2.1 bt778.1 bt778.2.1 bt778.2.2.1 bt778.2.2.2.1 bt786.1 bt786.2.1 bt786.2.2.1 bt786.2.2.2.1) else (laws_FnIndexImage.j0 k bt768.2.2.2.2 bt778.2.2.2.2 bt786.2.2.2.2 (!bt778.2.2.2.2) bt768.1 bt768.2.1 bt768.2.2.1 bt768.2.2.2.1 bt778.1 bt778.2.1 bt778.2.2.1 bt778.2.2.2.1 bt786.1 bt786.2.1 bt786.2.2.1 bt786.2.2.2.1)) else (laws_FnIndexImage.j0 k bt768.2.2.2.2 bt778.2.2.2.2 bt786.2.2.2.2 true bt768.1 bt768.2.1 bt768.2.2.1 bt768.2.2.2.1 bt778.1 bt778.2.1 bt778.2.2.1 bt778.2.2.2.1 bt786.1 bt786.2.1 bt786.2.2.1 bt786.2.2.2.1))))))
theorem laws_FnIndexImage.mono_l : ∀ k, (∀ y0 y1 y2 y3 y4 y5 y6 y7 y8 y9 y10 y11 y12 y13 y14 y15, LeO (laws_FnIndexImage.j0 k y0 y1 y2 y3 y4 y5 y6 y7 y8 y9 y10 y11 y12 y13 y14 y15) (laws_FnIndexImage.j0 (k + 1) y0 y1 y2 y3 y4 y5 y6 y7 y8 y9 y10 y11 y12 y13 y14 y15)) ∧ (∀ y0 y1 y2 y3 y4 y5 y6 y7 y8 y9, LeO (laws_FnIndexImage.l0 k y0 y1 y2 y3 y4 y5 y6 y7 y8 y9) (laws_FnIndexImage.l0 (k + 1) y0 y1 y2 y3 y4 y5 y6 y7 y8 y9)) ∧ (∀ y0 y1 y2 y3 y4 y5 y6 y7 y8 y9 y10, LeO (laws_FnIndexImage.l1 k y0 y1 y2 y3 y4 y5 y6 y7 y8 y9 y10) (laws_FnIndexImage.l1 (k + 1) y0 y1 y2 y3 y4 y5 y6 y7 y8 y9 y10))
 | 0 => ⟨fun _ _ _ _ _ _ _ _ _ _ _ _ _ _ _ _ r h => by simp [laws_FnIndexImage.j0] at h, fun _ _ _ _ _ _ _ _ _ _ r h => by simp [laws_FnIndexImage.l0] at h, fun _ _ _ _ _ _ _ _ _ _ _ r h => by simp [laws_FnIndexImage.l1] at h⟩
 | k + 1 => by
  obtain ⟨ih0, ih1, ih2⟩ := laws_FnIndexImage.mono_l k
  refine ⟨?_, ?_, ?_⟩
  all_goals intros
  all_goals first | unfold laws_FnIndexImage.j0 | unfold laws_FnIndexImage.l0 | unfold laws_FnIndexImage.l1
  all_goals repeat' first | (with_reducible first | exact ih0 _ _ _ _ _ _ _ _ _ _ _ _ _ _ _ _ | exact ih1 _ _ _ _ _ _ _ _ _ _ | exact ih2 _ _ _ _ _ _ _ _ _ _ _ | exact impl_NearestColor.mono _ _ _ | exact laws_equalImage.mono _ _ _ _ _ _ _ _ _ | exact laws_equalInts.mono _ _ _ | exact spec_DrawIndexImage.mono _ _ | exact spec_IndexImage.mono _ _ _ _ _ _ | exact lR | exact lN | refine lI ?_ ?_ | refine lB ?_ fun _ => ?_) | exact ih0 _ _ _ _ _ _ _ _ _ _ _ _ _ _ _ _ | exact ih1 _ _ _ _ _ _ _ _ _ _ | exact ih2 _ _ _ _ _ _ _ _ _ _ _ | exact impl_NearestColor.mono _ _ _ | exact laws_equalImage.mono _ _ _ _ _ _ _ _ _ | exact laws_equalInts.mono _ _ _ | exact spec_DrawIndexImage.mono _ _ | exact spec_IndexImage.mono _ _ _ _ _ _ | exact lN | refine lI ?_ ?_ | refine lB ?_ fun _ => ?_
theorem laws_FnIndexImage.mono : ∀ a0 k, LeO (laws_FnIndexImage.f k a0) (laws_FnIndexImage.f (k + 1) a0) := by
 intro a0 k
 obtain ⟨ih0, ih1, ih2⟩ := laws_FnIndexImage.mono_l k
 unfold laws_FnIndexImage.f
 repeat' first | (with_reducible first | exact ih0 _ _ _ _ _ _ _ _ _ _ _ _ _ _ _ _ | exact ih1 _ _ _ _ _ _ _ _ _ _ | exact ih2 _ _ _ _ _ _ _ _ _ _ _ | exact impl_NearestColor.mono _ _ _ | exact laws_equalImage.mono _ _ _ _ _ _ _ _ _ | exact laws_equalInts.mono _ _ _ | exact spec_DrawIndexImage.mono _ _ | exact spec_IndexImage.mono _ _ _ _ _ _ | exact lR | exact lN | refine lI ?_ ?_ | refine lB ?_ fun _ => ?_) | exact ih0 _ _ _ _ _ _ _ _ _ _ _ _ _ _ _ _ | exact ih1 _ _ _ _ _ _ _ _ _ _ | exact ih2 _ _ _ _ _ _ _ _ _ _ _ | exact impl_NearestColor.mono _ _ _ | exact laws_equalImage.mono _ _ _ _ _ _ _ _ _ | exact laws_equalInts.mono _ _ _ | exact spec_DrawIndexImage.mono _ _ | exact spec_IndexImage.mono _ _ _ _ _ _ | exact lN | refine lI ?_ ?_ | refine lB ?_ fun _ => ?_
def laws_FnIndexImage.T14 : Bool × List (List Nat × List Nat) := (true, [([], []), ([], []), ([], []), ([0, 1, 2], [0, 1, 2]), ([], []), ([], []), ([], []), ([], []), ([5, 6, 7, 3], [5, 6, 7]), ([4, 8, 8], [4, 8]), ([9], [9]), ([3, 10, 9], [3, 10]), ([11], [11])])
def laws_FnIndexImage.B14 : List Nat := [0, 0, 0, 7, 0, 0, 0, 0, 239, 511, 1023, 2047, 4095]
theorem laws_FnIndexImage.tab14 : rtab .any (opsOf Try.f8 14) = laws_FnIndexImage.T14 := by kernel_rfl
theorem laws_FnIndexImage.bits14 : waitsOk laws_FnIndexImage.T14.2 laws_FnIndexImage.B14 = true := by kernel_rfl
set_option maxHeartbeats 8000000 in
set_option maxRecDepth 100000 in
theorem laws_FnIndexImage.calls (k : Nat) (A0 : Option Addr) (c0 : Nat) (l0 : List Int) (r : Bool) (w : World) (hr0 : Kd.C (Kd.int .u8) w A0 l0.length l0) (hc0 : l0.length ≤ c0) (h : laws_FnIndexImage.f k l0 = some r) (hrt : r = true) :
  Calls Try.prog 8 #[.slice A0 l0.length c0] w fun e w' => e = .returned (.bool r) ∧ Below w.heap.size w w' := by
 have hu29 := Try.underlying29
 have HR0 := aM hr0
 have HC0 := aM hc0
 clear hr0 hc0
 have HB := aM (Below.refl w.heap.size w)
 unfold laws_FnIndexImage.f at h
 have H := h
 clear h
 by_cases c2 : (l0.length : Int) > 1048576
 ·rw [if_pos c2] at H
  have c2b0 : decide (1048576 < (l0.length : Int)) = true := decide_eq_true c2
  have c2b1 : decide (1048576 < l0.length) = true := decide_eq_true (by omega)
  clear c2
  obtain rfl := Option.some.inj H
  go_enter Try.func8, Try.ntmps8
  go_wp2
  go_ret
  exact ⟨qX, by exact qW HB.out⟩
 rw [if_neg c2] at H
 have c2b0 : decide (1048576 < (l0.length : Int)) = false := decide_eq_false c2
 have c2b1 : decide (1048576 < l0.length) = false := decide_eq_false (by omega)
 clear c2
 replace H := Option.bind_eq_some_iff.mp H
 obtain ⟨⟨t768, t769, t770, t771, t774⟩, A30, H⟩ := H
 replace H : ((impl_IndexImage.f t768 t769 t770 t771 t774).bind fun bt778 => ((spec_IndexImage.f k t768 t769 t770 t771 t774).bind fun bt786 => ((laws_equalImage.f k bt778.1 bt778.2.1 bt778.2.2.1 bt778.2.2.2.1 bt786.1 bt786.2.1 bt786.2.2.1 bt786.2.2.2.1).bind fun t794 => (if t794 = true then (if (bt778.2.2.2.2 != bt786.2.2.2.2) = true then (laws_FnIndexImage.j0 k t774 bt778.2.2.2.2 bt786.2.2.2.2 true t768 t769 t770 t771 bt778.1 bt778.2.1 bt778.2.2.1 bt778.2.2.2.1 bt786.1 bt786.2.1 bt786.2.2.1 bt786.2.2.2.1) else (laws_FnIndexImage.j0 k t774 bt778.2.2.2.2 bt786.2.2.2.2 (!bt778.2.2.2.2) t768 t769 t770 t771 bt778.1 bt778.2.1 bt778.2.2.1 bt778.2.2.2.1 bt786.1 bt786.2.1 bt786.2.2.1 bt786.2.2.2.1)) else (laws_FnIndexImage.j0 k t774 bt778.2.2.2.2 bt786.2.2.2.2 true t768 t769 t770 t771 bt778.1 bt778.2.1 bt778.2.2.1 bt778.2.2.2.1 bt786.1 bt786.2.1 bt786.2.2.1 bt786.2.2.2.1))))) = some r := H
 have A3 := aM A30
 clear A30
 replace H := Option.bind_eq_some_iff.mp H
 obtain ⟨⟨t778, t779, t780, t781, t784⟩, A40, H⟩ := H
 replace H : ((spec_IndexImage.f k t768 t769 t770 t771 t774).bind fun bt786 => ((laws_equalImage.f k t778 t779 t780 t781 bt786.1 bt786.2.1 bt786.2.2.1 bt786.2.2.2.1).bind fun t794 => (if t794 = true then (if (t784 != bt786.2.2.2.2) = true then (laws_FnIndexImage.j0 k t774 t784 bt786.2.2.2.2 true t768 t769 t770 t771 t778 t779 t780 t781 bt786.1 bt786.2.1 bt786.2.2.1 bt786.2.2.2.1) else (laws_FnIndexImage.j0 k t774 t784 bt786.2.2.2.2 (!t784) t768 t769 t770 t771 t778 t779 t780 t781 bt786.1 bt786.2.1 bt786.2.2.1 bt786.2.2.2.1)) else (laws_FnIndexImage.j0 k t774 t784 bt786.2.2.2.2 true t768 t769 t770 t771 t778 t779 t780 t781 bt786.1 bt786.2.1 bt786.2.2.1 bt786.2.2.2.1)))) = some r := H
 have A4 := aM A40
 clear A40
 replace H := Option.bind_eq_some_iff.mp H
 obtain ⟨⟨t786, t787, t788, t789, t792⟩, A50, H⟩ := H
 replace H : ((laws_equalImage.f k t778 t779 t780 t781 t786 t787 t788 t789).bind fun t794 => (if t794 = true then (if (t784 != t792) = true then (laws_FnIndexImage.j0 k t774 t784 t792 true t768 t769 t770 t771 t778 t779 t780 t781 t786 t787 t788 t789) else (laws_FnIndexImage.j0 k t774 t784 t792 (!t784) t768 t769 t770 t771 t778 t779 t780 t781 t786 t787 t788 t789)) else (laws_FnIndexImage.j0 k t774 t784 t792 true t768 t769 t770 t771 t778 t779 t780 t781 t786 t787 t788 t789))) = some r := H
 have A5 := aM A50
 clear A50
 have HC6 := aM H
 clear H
 go_enter Try.func8, Try.ntmps8
 go_upto_region 6 with (first | ((with_reducible refine gate_callee (f := 34) rfl ?_); refine gL (some 16) Try.func34 #[.slice A0 l0.length c0] ?_; (with_reducible refine (spec_DrawIndexImage.calls k _ _ l0 t768 t769 t770 t771 t774 _ ?side1 ?side2 A3.out).mono ?_); (case side1 => exact qC HR0.out); (case side2 => exact HC0.out); rintro e w7 ⟨v772, v775, rfl, ho0, ho1, hb⟩; refine ⟨_, rfl, ?_⟩; have HO773 := aM (Kd.Q_lower (Kd.Q_mono (ok' := fun k_ => True) ho0 (fun _ hk_ => trivial)) (below_size (qW HB.out))); have HO776 := aM (Kd.N_lower (Kd.N_mono (ok' := fun k_ => some k_ ≠ (v772 : Value).ownBlock) ho1 (fun k_ hk_ => hk_.2)) (below_size (qW HB.out))); replace HB := bS HB hb; clear hb ho0 ho1) | ((with_reducible refine gate_dst (N := 3) rfl ?_); refine bxE (N := 3) (cs := #[.int .i64 0, .int .i64 0, .int .i64 0, .slice none 0 0]) (t := 29) ?_; intro gb777 hg w8 hbox hb; replace HO773 := aM (Kd.Q_below (qQ HO773.out) hb); replace HO776 := aM (Kd.N_below (Kd.N_elderB (by (with_reducible repeat (first | apply Kd.N_alloc | apply Kd.N_drewN | apply Kd.N_drew)); exact HO776.out) gb777 (Nat.le_of_eq hg.symm)) hb); have BK777 := aM (hbox); have GW777 := gW hg HB; have GE777 := gW hg HB; replace HB := bS HB hb; clear hb hbox hg; obtain ⟨⟨hcz9_0, hcz9_1, hcz9_2, hcz9_3⟩, hfz9_0, hfz9_1, hfz9_2, hfz9_3⟩ := cf4 BK777; obtain ⟨Ao10, co10, eo10, _⟩ := Kd.Q_slice HO773.out; subst eo10; obtain ⟨Ao11, co11, eo11⟩ := Kd.N_slice HO776.out; subst eo11) | ((with_reducible refine gate_callee (f := 24) rfl ?_); refine gL (some 22) Try.func24 #[.agg #[.int .i64 t768, .int .i64 t769, .int .i64 t770, .slice Ao10 t771.length co10], .slice Ao11 t774.length co11] ?_; (with_reducible refine (impl_IndexImage.calls t768 t769 t770 _ _ t771 _ _ t774 t778 t779 t780 t781 t784 _ ?side1 ?side2 ?side3 ?side4 A4.out).mono ?_); (case side1 => refine (Kd.Q_reads' (e := 3) (base := w.heap.size) (ok := fun k_ => True) (n := t771.length) (c := co10) ?_).2.2; exact (by (with_reducible repeat (first | apply Kd.Q_alloc | apply Kd.Q_drewN | apply Kd.Q_drew)); exact (Kd.Q_mono (qT HO773 BK777) (fun _ h_ => h_.1)))); (case side2 => exact (Kd.Q_reads' HO773.out).2.1); (case side3 => refine (Kd.N_reads' (e := 22) (base := w.heap.size) (ok := fun k_ => (some k_ ≠ (.slice Ao10 t771.length co10 : Value).ownBlock ∧ k_ ≠ gb777)) (n := t774.length) (c := co11) ?_).2.2; exact (by (with_reducible repeat (first | apply Kd.N_alloc | apply Kd.N_drewN | apply Kd.N_drew)); exact (Kd.N_mono (Kd.N_far (p := ⟨gb777, 3, none⟩) (Kd.N_far (p := ⟨gb777, 2, none⟩) (Kd.N_far (p := ⟨gb777, 1, none⟩) (Kd.N_far (p := ⟨gb777, 0, none⟩) (Kd.N_mono HO776.out (fun k_ hk => (⟨hk, hk.2⟩ : _ ∧ k_ ≠ gb777))) (fun _ hk => hk.2) (.int .i64 t768)) (fun _ hk => hk.2) (.int .i64 t769)) (fun _ hk => hk.2) (.int .i64 t770)) (fun _ hk => hk.2) (.slice Ao10 t771.length co10)) (fun _ h_ => h_.1)))); (case side4 => exact (Kd.N_reads' HO776.out).2.1); rintro e w12 ⟨v782, rfl, ho0, hb⟩; refine ⟨_, rfl, ?_⟩; replace HO776 := aM (Kd.N_elder' (by (with_reducible repeat (first | apply Kd.N_alloc | apply Kd.N_drewN | apply Kd.N_drew)); exact (Kd.N_mono (Kd.N_far (p := ⟨gb777, 3, none⟩) (Kd.N_far (p := ⟨gb777, 2, none⟩) (Kd.N_far (p := ⟨gb777, 1, none⟩) (Kd.N_far (p := ⟨gb777, 0, none⟩) (Kd.N_mono HO776.out (fun k_ hk => (⟨hk, hk.2⟩ : _ ∧ k_ ≠ gb777))) (fun _ hk => hk.2) (.int .i64 t768)) (fun _ hk => hk.2) (.int .i64 t769)) (fun _ hk => hk.2) (.int .i64 t770)) (fun _ hk => hk.2) (.slice Ao10 t771.length co10)) (fun _ h_ => h_.1))) (Kd.R_base ho0) hb); have HO783 := aM (Kd.R_lower (Kd.R_new' ho0 (Kd.Q_lt (by (with_reducible repeat (first | apply Kd.Q_alloc | apply Kd.Q_drewN | apply Kd.Q_drew)); exact (Kd.Q_mono (qT HO773 BK777) (fun _ h_ => h_.1))))) (below_size (qW HB.out))); replace HO773 := aM (Kd.Q_elder' (by (with_reducible repeat (first | apply Kd.Q_alloc | apply Kd.Q_drewN | apply Kd.Q_drew)); exact (Kd.Q_mono (qT HO773 BK777) (fun _ h_ => h_.1))) (Kd.R_base ho0) hb); replace BK777 := aM (blk_below (g := gb777) (o := .cells #[.int .i64 t768, .int .i64 t769, .int .i64 t770, .slice Ao10 t771.length co10] 29 (0, 0)) (by exact bP BK777.out) hb); replace HB := bS HB hb; clear hb ho0) | ((with_reducible refine gate_dst (N := 5) rfl ?_); refine bxE (N := 5) (cs := #[.int .i64 0, .int .i64 0, .int .i64 0, .slice none 0 0]) (t := 29) ?_; intro gb785 hg w13 hbox hb; replace HO773 := aM (Kd.Q_below (qQ HO773.out) hb); replace HO776 := aM (Kd.N_below (Kd.N_elderB (by (with_reducible repeat (first | apply Kd.N_alloc | apply Kd.N_drewN | apply Kd.N_drew)); exact HO776.out) gb785 (Nat.le_of_eq hg.symm)) hb); replace HO783 := aM (Kd.R_below (qR HO783.out) hb); have BK785 := aM (hbox); have GW785 := gW hg HB; have GE785 := gW hg HB; replace HB := bS HB hb; have NB777_785 := nL hg BK777; have NB785_777 := nG hg BK777; replace BK777 := bB BK777 hb; clear hb hbox hg; have hnb14 := NB785_777.out; have hnc14 := NB777_785.out; obtain ⟨⟨hcz15_0, hcz15_1, hcz15_2, hcz15_3⟩, hfz15_0, hfz15_1, hfz15_2, hfz15_3⟩ := cf4 BK785; obtain ⟨Ao16, co16, rfl⟩ := sL HO783; obtain ⟨⟨hcz17_0, hcz17_1, hcz17_2, hcz17_3⟩, hfz17_0, hfz17_1, hfz17_2, hfz17_3⟩ := cf4 BK777) | ((with_reducible refine gate_callee (f := 33) rfl ?_); refine gL (some 28) Try.func33 #[.agg #[.int .i64 t768, .int .i64 t769, .int .i64 t770, .slice Ao10 t771.length co10], .slice Ao11 t774.length co11] ?_; (with_reducible refine (spec_IndexImage.calls k t768 t769 t770 _ _ t771 _ _ t774 t786 t787 t788 t789 t792 _ ?side1 ?side2 ?side3 ?side4 A5.out).mono ?_); (case side1 => refine (Kd.Q_reads' (e := 3) (base := w.heap.size) (ok := fun k_ => (True ∧ some k_ ≠ (.slice Ao16 t781.length co16 : Value).ownBlock)) (n := t771.length) (c := co10) ?_).2.2; exact (by (with_reducible repeat (first | apply Kd.Q_alloc | apply Kd.Q_drewN | apply Kd.Q_drew)); exact (Kd.Q_mono (qT HO773 BK785) (fun _ h_ => h_.1)))); (case side2 => exact (Kd.Q_reads' HO773.out).2.1); (case side3 => refine (Kd.N_reads' (e := 22) (base := w.heap.size) (ok := fun k_ => (((some k_ ≠ (.slice Ao10 t771.length co10 : Value).ownBlock ∧ k_ ≠ gb777) ∧ some k_ ≠ (.slice Ao16 t781.length co16 : Value).ownBlock) ∧ k_ ≠ gb785)) (n := t774.length) (c := co11) ?_).2.2; exact (by (with_reducible repeat (first | apply Kd.N_alloc | apply Kd.N_drewN | apply Kd.N_drew)); exact (Kd.N_mono (Kd.N_far (p := ⟨gb785, 3, none⟩) (Kd.N_far (p := ⟨gb785, 2, none⟩) (Kd.N_far (p := ⟨gb785, 1, none⟩) (Kd.N_far (p := ⟨gb785, 0, none⟩) (Kd.N_mono HO776.out (fun k_ hk => (⟨hk, hk.2⟩ : _ ∧ k_ ≠ gb785))) (fun _ hk => hk.2) (.int .i64 t778)) (fun _ hk => hk.2) (.int .i64 t779)) (fun _ hk => hk.2) (.int .i64 t780)) (fun _ hk => hk.2) (.slice Ao16 t781.length co16)) (fun _ h_ => h_.1)))); (case side4 => exact (Kd.N_reads' HO776.out).2.1); rintro e w18 ⟨v790, rfl, ho0, hb⟩; refine ⟨_, rfl, ?_⟩; replace HO776 := aM (Kd.N_elder' (by (with_reducible repeat (first | apply Kd.N_alloc | apply Kd.N_drewN | apply Kd.N_drew)); exact (Kd.N_mono (Kd.N_far (p := ⟨gb785, 3, none⟩) (Kd.N_far (p := ⟨gb785, 2, none⟩) (Kd.N_far (p := ⟨gb785, 1, none⟩) (Kd.N_far (p := ⟨gb785, 0, none⟩) (Kd.N_mono HO776.out (fun k_ hk => (⟨hk, hk.2⟩ : _ ∧ k_ ≠ gb785))) (fun _ hk => hk.2) (.int .i64 t778)) (fun _ hk => hk.2) (.int .i64 t779)) (fun _ hk => hk.2) (.int .i64 t780)) (fun _ hk => hk.2) (.slice Ao16 t781.length co16)) (fun _ h_ => h_.1))) (Kd.R_base ho0) hb); have HO791 := aM (Kd.R_lower (Kd.R_new' (Kd.R_new' ho0 (Kd.Q_lt (by (with_reducible repeat (first | apply Kd.Q_alloc | apply Kd.Q_drewN | apply Kd.Q_drew)); exact (Kd.Q_mono (qT HO773 BK785) (fun _ h_ => h_.1))))) (Kd.R_lt (by refine qR ?_; exact (fr4 HO783 BK785)))) (below_size (qW HB.out))); replace HO773 := aM (Kd.Q_elder' (by (with_reducible repeat (first | apply Kd.Q_alloc | apply Kd.Q_drewN | apply Kd.Q_drew)); exact (Kd.Q_mono (qT HO773 BK785) (fun _ h_ => h_.1))) (Kd.R_base ho0) hb); replace HO783 := aM (Kd.R_elder' (by refine qR ?_; exact (fr4 HO783 BK785)) (Kd.R_base ho0) hb); replace BK777 := aM (blk_below (g := gb777) (o := .cells #[.int .i64 t768, .int .i64 t769, .int .i64 t770, .slice Ao10 t771.length co10] 29 (0, 0)) (by refine qB ?_; refine blk_far ?_ NB777_785.out _; refine qB ?_; refine blk_far ?_ NB777_785.out _; refine qB ?_; refine blk_far ?_ NB777_785.out _; refine qB ?_; refine blk_far ?_ NB777_785.out _; refine qB ?_; exact BK777.out) hb); replace BK785 := aM (blk_below (g := gb785) (o := .cells #[.int .i64 t778, .int .i64 t779, .int .i64 t780, .slice Ao16 t781.length co16] 29 (0, 0)) (by exact bP BK785.out) hb); replace HB := bS HB hb; clear hb ho0) | ((with_reducible refine gate_dst (N := 7) rfl ?_); refine bxE (N := 7) (cs := #[.int .i64 0, .int .i64 0, .int .i64 0, .slice none 0 0]) (t := 29) ?_; intro gb793 hg w19 hbox hb; replace HO773 := aM (Kd.Q_below (qQ HO773.out) hb); replace HO776 := aM (Kd.N_below (Kd.N_elderB (by (with_reducible repeat (first | apply Kd.N_alloc | apply Kd.N_drewN | apply Kd.N_drew)); exact HO776.out) gb793 (Nat.le_of_eq hg.symm)) hb); replace HO783 := aM (Kd.R_below (qR HO783.out) hb); replace HO791 := aM (Kd.R_below (qR HO791.out) hb); have BK793 := aM (hbox); have GW793 := gW hg HB; have GE793 := gW hg HB; replace HB := bS HB hb; have NB777_793 := nL hg BK777; have NB793_777 := nG hg BK777; replace BK777 := bB BK777 hb; have NB785_793 := nL hg BK785; have NB793_785 := nG hg BK785; replace BK785 := bB BK785 hb; clear hb hbox hg; have hnb20 := NB793_777.out; have hnc20 := NB777_793.out; have hnb21 := NB793_785.out; have hnc21 := NB785_793.out; obtain ⟨⟨hcz22_0, hcz22_1, hcz22_2, hcz22_3⟩, hfz22_0, hfz22_1, hfz22_2, hfz22_3⟩ := cf4 BK793; obtain ⟨Ao23, co23, rfl⟩ := sL HO791))
 (try simp only [Act.put, List.setIfInBounds_toArray, List.set_cons_zero, List.set_cons_succ])
 go_cut [43] (fun v43 wc => ∃ (kq : Nat) (x43_5 : Bool), v43 = .bool x43_5 ∧ Aside0 (laws_FnIndexImage.j0 kq t774 t784 t792 x43_5 t768 t769 t770 t771 t778 t779 t780 t781 t786 t787 t788 t789 = some r) ∧ Aside0 (kq ≤ k) ∧ Aside0 (Kd.N (Kd.slice 3 (Kd.int .i64)) 22 wc w.heap.size (fun k_ => some k_ ≠ ((.slice Ao10 t771.length co10) : Value).ownBlock ∧ some k_ ≠ ((.slice Ao16 t781.length co16) : Value).ownBlock ∧ some k_ ≠ ((.slice Ao23 t789.length co23) : Value).ownBlock ∧ k_ ≠ gb777 ∧ k_ ≠ gb785 ∧ k_ ≠ gb793) (.slice Ao11 t774.length co11) t774) ∧ Aside0 (Kd.Q (Kd.int .i64) 3 wc w.heap.size (fun k_ => some k_ ≠ ((.slice Ao16 t781.length co16) : Value).ownBlock ∧ some k_ ≠ ((.slice Ao23 t789.length co23) : Value).ownBlock) (.slice Ao10 t771.length co10) t771) ∧ Aside0 (Kd.Q (Kd.int .i64) 3 wc w.heap.size (fun k_ => some k_ ≠ ((.slice Ao10 t771.length co10) : Value).ownBlock ∧ some k_ ≠ ((.slice Ao23 t789.length co23) : Value).ownBlock) (.slice Ao16 t781.length co16) t781) ∧ Aside0 (Kd.Q (Kd.int .i64) 3 wc w.heap.size (fun k_ => some k_ ≠ ((.slice Ao10 t771.length co10) : Value).ownBlock ∧ some k_ ≠ ((.slice Ao16 t781.length co16) : Value).ownBlock) (.slice Ao23 t789.length co23) t789) ∧ Aside0 (wc.heap[gb777]? = some (.cells #[.int .i64 t768, .int .i64 t769, .int .i64 t770, (.slice Ao10 t771.length co10)] 29 (0, 0))) ∧ Aside0 (wc.heap[gb785]? = some (.cells #[.int .i64 t778, .int .i64 t779, .int .i64 t780, (.slice Ao16 t781.length co16)] 29 (0, 0))) ∧ Aside0 (wc.heap[gb793]? = some (.cells #[.int .i64 t786, .int .i64 t787, .int .i64 t788, (.slice Ao23 t789.length co23)] 29 (0, 0))) ∧ Aside0 (Below w.heap.size w wc))
 case first =>
  have H := HC6.out
  clear HC6
  replace H := Option.bind_eq_some_iff.mp H
  obtain ⟨t794, A240, H⟩ := H
  replace H : (if t794 = true then (if (t784 != t792) = true then (laws_FnIndexImage.j0 k t774 t784 t792 true t768 t769 t770 t771 t778 t779 t780 t781 t786 t787 t788 t789) else (laws_FnIndexImage.j0 k t774 t784 t792 (!t784) t768 t769 t770 t771 t778 t779 t780 t781 t786 t787 t788 t789)) else (laws_FnIndexImage.j0 k t774 t784 t792 true t768 t769 t770 t771 t778 t779 t780 t781 t786 t787 t788 t789)) = some r := H
  have A24 := aM A240
  clear A240
  by_cases c25 : t794 = true
  rotate_left
  ·replace c25 := Bool.eq_false_iff.mpr c25
   subst c25
   have H1 : (laws_FnIndexImage.j0 k t774 t784 t792 true t768 t769 t770 t771 t778 t779 t780 t781 t786 t787 t788 t789) = some r := by rw [if_neg (show ¬ (false = true) by decide)] at H; exact H
   clear H
   have H := H1
   clear H1
   have H' := aM H
   clear H
   have hnb39 := NB785_777.out
   have hnc39 := NB777_785.out
   have hnb40 := NB785_793.out
   have hnc40 := NB793_785.out
   obtain ⟨⟨hcz41_0, hcz41_1, hcz41_2, hcz41_3⟩, hfz41_0, hfz41_1, hfz41_2, hfz41_3⟩ := cf4 BK785
   have hnb42 := NB793_777.out
   have hnc42 := NB777_793.out
   obtain ⟨⟨hcz43_0, hcz43_1, hcz43_2, hcz43_3⟩, hfz43_0, hfz43_1, hfz43_2, hfz43_3⟩ := cf4 BK793
   go_wp2_with (first | ((with_reducible refine gate_callee (f := 26) rfl ?_); refine gL (some 33) Try.func26 #[.agg #[.int .i64 t778, .int .i64 t779, .int .i64 t780, .slice Ao16 t781.length co16], .agg #[.int .i64 t786, .int .i64 t787, .int .i64 t788, .slice Ao23 t789.length co23]] ?_; (with_reducible refine (laws_equalImage.calls k t778 t779 t780 _ _ t781 t786 t787 t788 _ _ t789 false _ ?side1 ?side2 ?side3 ?side4 A24.out).mono ?_); (case side1 => refine (Kd.R_reads' (e := 3) (base := w.heap.size) (ok := fun k_ => ((True ∧ some k_ ≠ (.slice Ao10 t771.length co10 : Value).ownBlock) ∧ some k_ ≠ (.slice Ao23 t789.length co23 : Value).ownBlock)) (n := t781.length) (c := co16) ?_).2.2; exact (by refine qR ?_; exact (fr4 HO783 BK793))); (case side2 => exact (Kd.R_reads' HO783.out).2.1); (case side3 => refine (Kd.R_reads' (e := 3) (base := w.heap.size) (ok := fun k_ => ((True ∧ some k_ ≠ (.slice Ao10 t771.length co10 : Value).ownBlock) ∧ some k_ ≠ (.slice Ao16 t781.length co16 : Value).ownBlock)) (n := t789.length) (c := co23) ?_).2.2; exact (by refine qR ?_; exact (fr4 HO791 BK793))); (case side4 => exact (Kd.R_reads' HO791.out).2.1); rintro e w44 ⟨rfl, hb⟩; refine ⟨_, rfl, ?_⟩; replace HO773 := aM (Kd.Q_below (by (with_reducible repeat (first | apply Kd.Q_alloc | apply Kd.Q_drewN | apply Kd.Q_drew)); exact (Kd.Q_mono (qT HO773 BK793) (fun _ h_ => h_.1))) hb); replace HO776 := aM (Kd.N_below (by (with_reducible repeat (first | apply Kd.N_alloc | apply Kd.N_drewN | apply Kd.N_drew)); exact (Kd.N_mono (Kd.N_far (p := ⟨gb793, 3, none⟩) (Kd.N_far (p := ⟨gb793, 2, none⟩) (Kd.N_far (p := ⟨gb793, 1, none⟩) (Kd.N_far (p := ⟨gb793, 0, none⟩) (Kd.N_mono HO776.out (fun k_ hk => (⟨hk, hk.2⟩ : _ ∧ k_ ≠ gb793))) (fun _ hk => hk.2) (.int .i64 t786)) (fun _ hk => hk.2) (.int .i64 t787)) (fun _ hk => hk.2) (.int .i64 t788)) (fun _ hk => hk.2) (.slice Ao23 t789.length co23)) (fun _ h_ => h_.1))) hb); replace HO783 := aM (Kd.R_below (by refine qR ?_; exact (fr4 HO783 BK793)) hb); replace HO791 := aM (Kd.R_below (by refine qR ?_; exact (fr4 HO791 BK793)) hb); replace BK777 := aM (blk_below (g := gb777) (o := .cells #[.int .i64 t768, .int .i64 t769, .int .i64 t770, .slice Ao10 t771.length co10] 29 (0, 0)) (by refine qB ?_; refine blk_far ?_ NB777_793.out _; refine qB ?_; refine blk_far ?_ NB777_793.out _; refine qB ?_; refine blk_far ?_ NB777_793.out _; refine qB ?_; refine blk_far ?_ NB777_793.out _; refine qB ?_; exact BK777.out) hb); replace BK785 := aM (blk_below (g := gb785) (o := .cells #[.int .i64 t778, .int .i64 t779, .int .i64 t780, .slice Ao16 t781.length co16] 29 (0, 0)) (by refine qB ?_; refine blk_far ?_ NB785_793.out _; refine qB ?_; refine blk_far ?_ NB785_793.out _; refine qB ?_; refine blk_far ?_ NB785_793.out _; refine qB ?_; refine blk_far ?_ NB785_793.out _; refine qB ?_; exact BK785.out) hb); replace BK793 := aM (blk_below (g := gb793) (o := .cells #[.int .i64 t786, .int .i64 t787, .int .i64 t788, .slice Ao23 t789.length co23] 29 (0, 0)) (by exact bP BK793.out) hb); replace HB := bS HB hb; clear hb))
   go_meet
   case rel => exact ⟨_, (true), qE, H', ⟨by first | omega | exact Nat.le_refl _⟩, ⟨by (with_reducible repeat (first | apply Kd.N_alloc | apply Kd.N_drewN | apply Kd.N_drew)); exact Kd.N_mono HO776.out (fun _ hk => ⟨hk.1.1.1.1.1, ⟨hk.1.1.1.2, ⟨hk.1.2, ⟨hk.1.1.1.1.2, ⟨hk.1.1.2, hk.2⟩⟩⟩⟩⟩)⟩, ⟨by (with_reducible repeat (first | apply Kd.Q_alloc | apply Kd.Q_drewN | apply Kd.Q_drew)); exact Kd.Q_mono HO773.out (fun _ hk => ⟨hk.1.2, hk.2⟩)⟩, ⟨Kd.Q_of_R (by refine qR ?_; exact Kd.R_mono HO783.out (fun _ hk => ⟨hk.1.2, hk.2⟩))⟩, ⟨Kd.Q_of_R (by refine qR ?_; exact Kd.R_mono HO791.out (fun _ hk => ⟨hk.1.2, hk.2⟩))⟩, ⟨by refine qB ?_; exact BK777.out⟩, ⟨by refine qB ?_; exact BK785.out⟩, ⟨by refine qB ?_; exact BK793.out⟩, ⟨by exact qW HB.out⟩⟩
  subst c25
  have H1 : (if (t784 != t792) = true then (laws_FnIndexImage.j0 k t774 t784 t792 true t768 t769 t770 t771 t778 t779 t780 t781 t786 t787 t788 t789) else (laws_FnIndexImage.j0 k t774 t784 t792 (!t784) t768 t769 t770 t771 t778 t779 t780 t781 t786 t787 t788 t789)) = some r := by rw [if_pos rfl] at H; exact H
  clear H
  have H := H1
  clear H1
  by_cases c26 : (t784 != t792) = true
  rotate_left
  ·rw [if_neg c26] at H
   have c26b0 : (t784 != t792) = false := by simpa using c26
   (try (have c26b1 : decide (t784 = t792) = true := by simpa using c26))
   (try (have c26b2 : (t784 == t792) = true := by simpa using c26))
   clear c26
   (first | rw [c26b0] | (simp only [i64_w, i32_w]; rw [c26b0]) | skip)
   have H' := aM H
   clear H
   have hnb33 := NB785_777.out
   have hnc33 := NB777_785.out
   have hnb34 := NB785_793.out
   have hnc34 := NB793_785.out
   obtain ⟨⟨hcz35_0, hcz35_1, hcz35_2, hcz35_3⟩, hfz35_0, hfz35_1, hfz35_2, hfz35_3⟩ := cf4 BK785
   have hnb36 := NB793_777.out
   have hnc36 := NB777_793.out
   obtain ⟨⟨hcz37_0, hcz37_1, hcz37_2, hcz37_3⟩, hfz37_0, hfz37_1, hfz37_2, hfz37_3⟩ := cf4 BK793
   go_wp2_with (first | ((with_reducible refine gate_callee (f := 26) rfl ?_); refine gL (some 33) Try.func26 #[.agg #[.int .i64 t778, .int .i64 t779, .int .i64 t780, .slice Ao16 t781.length co16], .agg #[.int .i64 t786, .int .i64 t787, .int .i64 t788, .slice Ao23 t789.length co23]] ?_; (with_reducible refine (laws_equalImage.calls k t778 t779 t780 _ _ t781 t786 t787 t788 _ _ t789 true _ ?side1 ?side2 ?side3 ?side4 A24.out).mono ?_); (case side1 => refine (Kd.R_reads' (e := 3) (base := w.heap.size) (ok := fun k_ => ((True ∧ some k_ ≠ (.slice Ao10 t771.length co10 : Value).ownBlock) ∧ some k_ ≠ (.slice Ao23 t789.length co23 : Value).ownBlock)) (n := t781.length) (c := co16) ?_).2.2; exact (by refine qR ?_; exact (fr4 HO783 BK793))); (case side2 => exact (Kd.R_reads' HO783.out).2.1); (case side3 => refine (Kd.R_reads' (e := 3) (base := w.heap.size) (ok := fun k_ => ((True ∧ some k_ ≠ (.slice Ao10 t771.length co10 : Value).ownBlock) ∧ some k_ ≠ (.slice Ao16 t781.length co16 : Value).ownBlock)) (n := t789.length) (c := co23) ?_).2.2; exact (by refine qR ?_; exact (fr4 HO791 BK793))); (case side4 => exact (Kd.R_reads' HO791.out).2.1); rintro e w38 ⟨rfl, hb⟩; refine ⟨_, rfl, ?_⟩; replace HO773 := aM (Kd.Q_below (by (with_reducible repeat (first | apply Kd.Q_alloc | apply Kd.Q_drewN | apply Kd.Q_drew)); exact (Kd.Q_mono (qT HO773 BK793) (fun _ h_ => h_.1))) hb); replace HO776 := aM (Kd.N_below (by (with_reducible repeat (first | apply Kd.N_alloc | apply Kd.N_drewN | apply Kd.N_drew)); exact (Kd.N_mono (Kd.N_far (p := ⟨gb793, 3, none⟩) (Kd.N_far (p := ⟨gb793, 2, none⟩) (Kd.N_far (p := ⟨gb793, 1, none⟩) (Kd.N_far (p := ⟨gb793, 0, none⟩) (Kd.N_mono HO776.out (fun k_ hk => (⟨hk, hk.2⟩ : _ ∧ k_ ≠ gb793))) (fun _ hk => hk.2) (.int .i64 t786)) (fun _ hk => hk.2) (.int .i64 t787)) (fun _ hk => hk.2) (.int .i64 t788)) (fun _ hk => hk.2) (.slice Ao23 t789.length co23)) (fun _ h_ => h_.1))) hb); replace HO783 := aM (Kd.R_below (by refine qR ?_; exact (fr4 HO783 BK793)) hb); replace HO791 := aM (Kd.R_below (by refine qR ?_; exact (fr4 HO791 BK793)) hb); replace BK777 := aM (blk_below (g := gb777) (o := .cells #[.int .i64 t768, .int .i64 t769, .int .i64 t770, .slice Ao10 t771.length co10] 29 (0, 0)) (by refine qB ?_; refine blk_far ?_ NB777_793.out _; refine qB ?_; refine blk_far ?_ NB777_793.out _; refine qB ?_; refine blk_far ?_ NB777_793.out _; refine qB ?_; refine blk_far ?_ NB777_793.out _; refine qB ?_; exact BK777.out) hb); replace BK785 := aM (blk_below (g := gb785) (o := .cells #[.int .i64 t778, .int .i64 t779, .int .i64 t780, .slice Ao16 t781.length co16] 29 (0, 0)) (by refine qB ?_; refine blk_far ?_ NB785_793.out _; refine qB ?_; refine blk_far ?_ NB785_793.out _; refine qB ?_; refine blk_far ?_ NB785_793.out _; refine qB ?_; refine blk_far ?_ NB785_793.out _; refine qB ?_; exact BK785.out) hb); replace BK793 := aM (blk_below (g := gb793) (o := .cells #[.int .i64 t786, .int .i64 t787, .int .i64 t788, .slice Ao23 t789.length co23] 29 (0, 0)) (by exact bP BK793.out) hb); replace HB := bS HB hb; clear hb))
   go_meet
   case rel => exact ⟨_, (!t784), qE, H', ⟨by first | omega | exact Nat.le_refl _⟩, ⟨by (with_reducible repeat (first | apply Kd.N_alloc | apply Kd.N_drewN | apply Kd.N_drew)); exact Kd.N_mono HO776.out (fun _ hk => ⟨hk.1.1.1.1.1, ⟨hk.1.1.1.2, ⟨hk.1.2, ⟨hk.1.1.1.1.2, ⟨hk.1.1.2, hk.2⟩⟩⟩⟩⟩)⟩, ⟨by (with_reducible repeat (first | apply Kd.Q_alloc | apply Kd.Q_drewN | apply Kd.Q_drew)); exact Kd.Q_mono HO773.out (fun _ hk => ⟨hk.1.2, hk.2⟩)⟩, ⟨Kd.Q_of_R (by refine qR ?_; exact Kd.R_mono HO783.out (fun _ hk => ⟨hk.1.2, hk.2⟩))⟩, ⟨Kd.Q_of_R (by refine qR ?_; exact Kd.R_mono HO791.out (fun _ hk => ⟨hk.1.2, hk.2⟩))⟩, ⟨by refine qB ?_; exact BK777.out⟩, ⟨by refine qB ?_; exact BK785.out⟩, ⟨by refine qB ?_; exact BK793.out⟩, ⟨by exact qW HB.out⟩⟩
  rw [if_pos c26] at H
  have c26b0 : (t784 != t792) = true := c26
  (try (have c26b1 : decide (t784 = t792) = false := by simpa using c26))
  (try (have c26b2 : (t784 == t792) = false := by simpa using c26))
  (try (have c26b3 : ¬ (t784 = t792) := by simpa using c26))
  clear c26
  (first | rw [c26b0] | (simp only [i64_w, i32_w]; rw [c26b0]) | skip)
  have H' := aM H
  clear H
  have hnb27 := NB785_777.out
  have hnc27 := NB777_785.out
  have hnb28 := NB785_793.out
  have hnc28 := NB793_785.out
  obtain ⟨⟨hcz29_0, hcz29_1, hcz29_2, hcz29_3⟩, hfz29_0, hfz29_1, hfz29_2, hfz29_3⟩ := cf4 BK785
  have hnb30 := NB793_777.out
  have hnc30 := NB777_793.out
  obtain ⟨⟨hcz31_0, hcz31_1, hcz31_2, hcz31_3⟩, hfz31_0, hfz31_1, hfz31_2, hfz31_3⟩ := cf4 BK793
  go_wp2_with (first | ((with_reducible refine gate_callee (f := 26) rfl ?_); refine gL (some 33) Try.func26 #[.agg #[.int .i64 t778, .int .i64 t779, .int .i64 t780, .slice Ao16 t781.length co16], .agg #[.int .i64 t786, .int .i64 t787, .int .i64 t788, .slice Ao23 t789.length co23]] ?_; (with_reducible refine (laws_equalImage.calls k t778 t779 t780 _ _ t781 t786 t787 t788 _ _ t789 true _ ?side1 ?side2 ?side3 ?side4 A24.out).mono ?_); (case side1 => refine (Kd.R_reads' (e := 3) (base := w.heap.size) (ok := fun k_ => ((True ∧ some k_ ≠ (.slice Ao10 t771.length co10 : Value).ownBlock) ∧ some k_ ≠ (.slice Ao23 t789.length co23 : Value).ownBlock)) (n := t781.length) (c := co16) ?_).2.2; exact (by refine qR ?_; exact (fr4 HO783 BK793))); (case side2 => exact (Kd.R_reads' HO783.out).2.1); (case side3 => refine (Kd.R_reads' (e := 3) (base := w.heap.size) (ok := fun k_ => ((True ∧ some k_ ≠ (.slice Ao10 t771.length co10 : Value).ownBlock) ∧ some k_ ≠ (.slice Ao16 t781.length co16 : Value).ownBlock)) (n := t789.length) (c := co23) ?_).2.2; exact (by refine qR ?_; exact (fr4 HO791 BK793))); (case side4 => exact (Kd.R_reads' HO791.out).2.1); rintro e w32 ⟨rfl, hb⟩; refine ⟨_, rfl, ?_⟩; replace HO773 := aM (Kd.Q_below (by (with_reducible repeat (first | apply Kd.Q_alloc | apply Kd.Q_drewN | apply Kd.Q_drew)); exact (Kd.Q_mono (qT HO773 BK793) (fun _ h_ => h_.1))) hb); replace HO776 := aM (Kd.N_below (by (with_reducible repeat (first | apply Kd.N_alloc | apply Kd.N_drewN | apply Kd.N_drew)); exact (Kd.N_mono (Kd.N_far (p := ⟨gb793, 3, none⟩) (Kd.N_far (p := ⟨gb793, 2, none⟩) (Kd.N_far (p := ⟨gb793, 1, none⟩) (Kd.N_far (p := ⟨gb793, 0, none⟩) (Kd.N_mono HO776.out (fun k_ hk => (⟨hk, hk.2⟩ : _ ∧ k_ ≠ gb793))) (fun _ hk => hk.2) (.int .i64 t786)) (fun _ hk => hk.2) (.int .i64 t787)) (fun _ hk => hk.2) (.int .i64 t788)) (fun _ hk => hk.2) (.slice Ao23 t789.length co23)) (fun _ h_ => h_.1))) hb); replace HO783 := aM (Kd.R_below (by refine qR ?_; exact (fr4 HO783 BK793)) hb); replace HO791 := aM (Kd.R_below (by refine qR ?_; exact (fr4 HO791 BK793)) hb); replace BK777 := aM (blk_below (g := gb777) (o := .cells #[.int .i64 t768, .int .i64 t769, .int .i64 t770, .slice Ao10 t771.length co10] 29 (0, 0)) (by refine qB ?_; refine blk_far ?_ NB777_793.out _; refine qB ?_; refine blk_far ?_ NB777_793.out _; refine qB ?_; refine blk_far ?_ NB777_793.out _; refine qB ?_; refine blk_far ?_ NB777_793.out _; refine qB ?_; exact BK777.out) hb); replace BK785 := aM (blk_below (g := gb785) (o := .cells #[.int .i64 t778, .int .i64 t779, .int .i64 t780, .slice Ao16 t781.length co16] 29 (0, 0)) (by refine qB ?_; refine blk_far ?_ NB785_793.out _; refine qB ?_; refine blk_far ?_ NB785_793.out _; refine qB ?_; refine blk_far ?_ NB785_793.out _; refine qB ?_; refine blk_far ?_ NB785_793.out _; refine qB ?_; exact BK785.out) hb); replace BK793 := aM (blk_below (g := gb793) (o := .cells #[.int .i64 t786, .int .i64 t787, .int .i64 t788, .slice Ao23 t789.length co23] 29 (0, 0)) (by exact bP BK793.out) hb); replace HB := bS HB hb; clear hb))
  go_meet
  case rel => exact ⟨_, (true), qE, H', ⟨by first | omega | exact Nat.le_refl _⟩, ⟨by (with_reducible repeat (first | apply Kd.N_alloc | apply Kd.N_drewN | apply Kd.N_drew)); exact Kd.N_mono HO776.out (fun _ hk => ⟨hk.1.1.1.1.1, ⟨hk.1.1.1.2, ⟨hk.1.2, ⟨hk.1.1.1.1.2, ⟨hk.1.1.2, hk.2⟩⟩⟩⟩⟩)⟩, ⟨by (with_reducible repeat (first | apply Kd.Q_alloc | apply Kd.Q_drewN | apply Kd.Q_drew)); exact Kd.Q_mono HO773.out (fun _ hk => ⟨hk.1.2, hk.2⟩)⟩, ⟨Kd.Q_of_R (by refine qR ?_; exact Kd.R_mono HO783.out (fun _ hk => ⟨hk.1.2, hk.2⟩))⟩, ⟨Kd.Q_of_R (by refine qR ?_; exact Kd.R_mono HO791.out (fun _ hk => ⟨hk.1.2, hk.2⟩))⟩, ⟨by refine qB ?_; exact BK777.out⟩, ⟨by refine qB ?_; exact BK785.out⟩, ⟨by refine qB ?_; exact BK793.out⟩, ⟨by exact qW HB.out⟩⟩
 case rest =>
  clear HC6
  try clear c2
  try clear c2b0
  try clear c2b1
  try clear c25
  try clear c26
  try clear c26b0
  try clear c26b1
  try clear c26b2
  try clear hcz15_0 hcz15_1 hcz15_2 hcz15_3 hfz15_0 hfz15_1 hfz15_2 hfz15_3
  try clear hcz17_0 hcz17_1 hcz17_2 hcz17_3 hfz17_0 hfz17_1 hfz17_2 hfz17_3
  try clear hcz22_0 hcz22_1 hcz22_2 hcz22_3 hfz22_0 hfz22_1 hfz22_2 hfz22_3
  try clear hcz29_0 hcz29_1 hcz29_2 hcz29_3 hfz29_0 hfz29_1 hfz29_2 hfz29_3
  try clear hcz31_0 hcz31_1 hcz31_2 hcz31_3 hfz31_0 hfz31_1 hfz31_2 hfz31_3
  try clear hcz35_0 hcz35_1 hcz35_2 hcz35_3 hfz35_0 hfz35_1 hfz35_2 hfz35_3
  try clear hcz37_0 hcz37_1 hcz37_2 hcz37_3 hfz37_0 hfz37_1 hfz37_2 hfz37_3
  try clear hcz41_0 hcz41_1 hcz41_2 hcz41_3 hfz41_0 hfz41_1 hfz41_2 hfz41_3
  try clear hcz43_0 hcz43_1 hcz43_2 hcz43_3 hfz43_0 hfz43_1 hfz43_2 hfz43_3
  try clear hcz9_0 hcz9_1 hcz9_2 hcz9_3 hfz9_0 hfz9_1 hfz9_2 hfz9_3
  obtain ⟨kq, x43_5, rfl, HA, HJ5, HO_4, HO_778003, HO_786003, HO_794003, BK777, BK785, BK793, HB⟩ := hcut
  cases kq with
  | zero => exact absurd HA.out (by simp [laws_FnIndexImage.j0])
  | succ kj5 =>
   have H := HA.out
   clear HA
   simp only [laws_FnIndexImage.j0] at H
   by_cases c45 : x43_5 = true
   ·subst c45
    have H1 : ((laws_equalImage.f kj5 t778 t779 t780 t781 t786 t787 t788 t789).bind fun t795 => (if t795 = true then (some (t784 == t792)) else (some false))) = some r := by rw [if_pos rfl] at H; exact H
    clear H
    have H := H1
    clear H1
    replace H := Option.bind_eq_some_iff.mp H
    obtain ⟨t795, A460, H⟩ := H
    replace H : (if t795 = true then (some (t784 == t792)) else (some false)) = some r := H
    have A46 := aM A460
    clear A460
    by_cases c47 : t795 = true
    rotate_left
    ·replace c47 := Bool.eq_false_iff.mpr c47
     subst c47
     have H1 : (some false) = some r := by rw [if_neg (show ¬ (false = true) by decide)] at H; exact H
     clear H
     have H := H1
     clear H1
     obtain rfl := Option.some.inj H
     exact absurd hrt (by decide)
    subst c47
    have H1 : (some (t784 == t792)) = some r := by rw [if_pos rfl] at H; exact H
    clear H
    have H := H1
    clear H1
    obtain rfl := Option.some.inj H
    have hnb48 := NB785_777.out
    have hnc48 := NB777_785.out
    have hnb49 := NB785_793.out
    have hnc49 := NB793_785.out
    obtain ⟨⟨hcz50_0, hcz50_1, hcz50_2, hcz50_3⟩, hfz50_0, hfz50_1, hfz50_2, hfz50_3⟩ := cf4 BK785
    have hnb51 := NB793_777.out
    have hnc51 := NB777_793.out
    obtain ⟨⟨hcz52_0, hcz52_1, hcz52_2, hcz52_3⟩, hfz52_0, hfz52_1, hfz52_2, hfz52_3⟩ := cf4 BK793
    go_wp2_with (first | ((with_reducible refine gate_callee (f := 26) rfl ?_); refine gL (some 46) Try.func26 #[.agg #[.int .i64 t778, .int .i64 t779, .int .i64 t780, .slice Ao16 t781.length co16], .agg #[.int .i64 t786, .int .i64 t787, .int .i64 t788, .slice Ao23 t789.length co23]] ?_; (with_reducible refine (laws_equalImage.calls kj5 t778 t779 t780 _ _ t781 t786 t787 t788 _ _ t789 true _ ?side1 ?side2 ?side3 ?side4 A46.out).mono ?_); (case side1 => exact qC (Kd.Q_reads' HO_786003.out).2.2); (case side2 => exact (Kd.Q_reads' HO_786003.out).2.1); (case side3 => exact qC (Kd.Q_reads' HO_794003.out).2.2); (case side4 => exact (Kd.Q_reads' HO_794003.out).2.1); rintro e w53 ⟨rfl, hb⟩; refine ⟨_, rfl, ?_⟩; replace HO_4 := aM (Kd.N_below (by (with_reducible repeat (first | apply Kd.N_alloc | apply Kd.N_drewN | apply Kd.N_drew)); exact HO_4.out) hb); replace HO_778003 := aM (Kd.Q_below (qQ HO_778003.out) hb); replace HO_786003 := aM (Kd.Q_below (qQ HO_786003.out) hb); replace HO_794003 := aM (Kd.Q_below (qQ HO_794003.out) hb); replace BK777 := bB BK777 hb; replace BK785 := bB BK785 hb; replace BK793 := bB BK793 hb; replace HB := bS HB hb; clear hb))
    go_ret
    exact ⟨qX, by exact qW HB.out⟩
   replace c45 := Bool.eq_false_iff.mpr c45
   subst c45
   have H1 : (laws_FnIndexImage.l0 kj5 t774 0 t768 t769 t770 t771 t778 t779 t780 t781) = some r := by rw [if_neg (show ¬ (false = true) by decide)] at H; exact H
   clear H
   have H := H1
   clear H1
   have H' := aM H
   clear H
   go_wp2
   go_loopg [9] kj5 (fun kq v9 w' => ∃ (x9_2 : Int), v9 = .int .i64 x9_2 ∧ Aside0 (laws_FnIndexImage.l0 kq t774 x9_2 t768 t769 t770 t771 t778 t779 t780 t781 = some r) ∧ Aside0 (kq ≤ kj5) ∧ Aside0 (Kd.N (Kd.slice 3 (Kd.int .i64)) 22 w' w.heap.size (fun k_ => some k_ ≠ ((.slice Ao10 t771.length co10) : Value).ownBlock ∧ some k_ ≠ ((.slice Ao16 t781.length co16) : Value).ownBlock ∧ some k_ ≠ ((.slice Ao23 t789.length co23) : Value).ownBlock ∧ k_ ≠ gb777 ∧ k_ ≠ gb785 ∧ k_ ≠ gb793) (.slice Ao11 t774.length co11) t774) ∧ Aside0 (Kd.Q (Kd.int .i64) 3 w' w.heap.size (fun k_ => some k_ ≠ ((.slice Ao16 t781.length co16) : Value).ownBlock ∧ some k_ ≠ ((.slice Ao23 t789.length co23) : Value).ownBlock) (.slice Ao10 t771.length co10) t771) ∧ Aside0 (Kd.Q (Kd.int .i64) 3 w' w.heap.size (fun k_ => some k_ ≠ ((.slice Ao10 t771.length co10) : Value).ownBlock ∧ some k_ ≠ ((.slice Ao23 t789.length co23) : Value).ownBlock) (.slice Ao16 t781.length co16) t781) ∧ Aside0 (Kd.Q (Kd.int .i64) 3 w' w.heap.size (fun k_ => some k_ ≠ ((.slice Ao10 t771.length co10) : Value).ownBlock ∧ some k_ ≠ ((.slice Ao16 t781.length co16) : Value).ownBlock) (.slice Ao23 t789.length co23) t789) ∧ Aside0 (w'.heap[gb777]? = some (.cells #[.int .i64 t768, .int .i64 t769, .int .i64 t770, (.slice Ao10 t771.length co10)] 29 (0, 0))) ∧ Aside0 (w'.heap[gb785]? = some (.cells #[.int .i64 t778, .int .i64 t779, .int .i64 t780, (.slice Ao16 t781.length co16)] 29 (0, 0))) ∧ Aside0 (w'.heap[gb793]? = some (.cells #[.int .i64 t786, .int .i64 t787, .int .i64 t788, (.slice Ao23 t789.length co23)] 29 (0, 0))) ∧ Aside0 (Below w.heap.size w w'))
   case atStart => exact ⟨(0), qE, H', ⟨Nat.le_refl _⟩, ⟨by (with_reducible repeat (first | apply Kd.N_alloc | apply Kd.N_drewN | apply Kd.N_drew)); exact HO_4.out⟩, ⟨by (with_reducible repeat (first | apply Kd.Q_alloc | apply Kd.Q_drewN | apply Kd.Q_drew)); exact HO_778003.out⟩, ⟨by (with_reducible repeat (first | apply Kd.Q_alloc | apply Kd.Q_drewN | apply Kd.Q_drew)); exact HO_786003.out⟩, ⟨by (with_reducible repeat (first | apply Kd.Q_alloc | apply Kd.Q_drewN | apply Kd.Q_drew)); exact HO_794003.out⟩, ⟨by refine qB ?_; exact BK777.out⟩, ⟨by refine qB ?_; exact BK785.out⟩, ⟨by refine qB ?_; exact BK793.out⟩, ⟨by exact qW HB.out⟩⟩
   case round =>
    clear H'
    try clear c2
    try clear c2b0
    try clear c2b1
    try clear c25
    try clear c26
    try clear c26b0
    try clear c26b1
    try clear c26b2
    try clear c45
    try clear c47
    try clear hcz15_0 hcz15_1 hcz15_2 hcz15_3 hfz15_0 hfz15_1 hfz15_2 hfz15_3
    try clear hcz17_0 hcz17_1 hcz17_2 hcz17_3 hfz17_0 hfz17_1 hfz17_2 hfz17_3
    try clear hcz22_0 hcz22_1 hcz22_2 hcz22_3 hfz22_0 hfz22_1 hfz22_2 hfz22_3
    try clear hcz29_0 hcz29_1 hcz29_2 hcz29_3 hfz29_0 hfz29_1 hfz29_2 hfz29_3
    try clear hcz31_0 hcz31_1 hcz31_2 hcz31_3 hfz31_0 hfz31_1 hfz31_2 hfz31_3
    try clear hcz35_0 hcz35_1 hcz35_2 hcz35_3 hfz35_0 hfz35_1 hfz35_2 hfz35_3
    try clear hcz37_0 hcz37_1 hcz37_2 hcz37_3 hfz37_0 hfz37_1 hfz37_2 hfz37_3
    try clear hcz41_0 hcz41_1 hcz41_2 hcz41_3 hfz41_0 hfz41_1 hfz41_2 hfz41_3
    try clear hcz43_0 hcz43_1 hcz43_2 hcz43_3 hfz43_0 hfz43_1 hfz43_2 hfz43_3
    try clear hcz50_0 hcz50_1 hcz50_2 hcz50_3 hfz50_0 hfz50_1 hfz50_2 hfz50_3
    try clear hcz52_0 hcz52_1 hcz52_2 hcz52_3 hfz52_0 hfz52_1 hfz52_2 hfz52_3
    try clear hcz9_0 hcz9_1 hcz9_2 hcz9_3 hfz9_0 hfz9_1 hfz9_2 hfz9_3
    obtain ⟨x9_2, rfl, HA, HK2, HO_4, HO_778003, HO_786003, HO_794003, BK777, BK785, BK793, HB⟩ := hrel
    cases gk with
    | zero => exact absurd HA.out (by simp [laws_FnIndexImage.l0])
    | succ k2 =>
     have H := HA.out
     clear HA
     simp only [laws_FnIndexImage.l0] at H
     by_cases c60 : x9_2 < t769
     rotate_left
     ·rw [if_neg c60] at H
      have c60b0 : decide (x9_2 < t769) = false := decide_eq_false c60
      clear c60
      obtain rfl := Option.some.inj H
      have hnb97 := NB777_785.out
      have hnc97 := NB785_777.out
      have hnb98 := NB777_793.out
      have hnc98 := NB793_777.out
      obtain ⟨⟨hcz99_0, hcz99_1, hcz99_2, hcz99_3⟩, hfz99_0, hfz99_1, hfz99_2, hfz99_3⟩ := cf4 BK777
      have hnb100 := NB785_793.out
      have hnc100 := NB793_785.out
      obtain ⟨⟨hcz101_0, hcz101_1, hcz101_2, hcz101_3⟩, hfz101_0, hfz101_1, hfz101_2, hfz101_3⟩ := cf4 BK785
      go_wp2
      go_ret
      exact ⟨qX, by exact qW HB.out⟩
     rw [if_pos c60] at H
     have c60b0 : decide (x9_2 < t769) = true := decide_eq_true c60
     clear c60
     have H' := aM H
     clear H
     have hnb61 := NB777_785.out
     have hnc61 := NB785_777.out
     have hnb62 := NB777_793.out
     have hnc62 := NB793_777.out
     obtain ⟨⟨hcz63_0, hcz63_1, hcz63_2, hcz63_3⟩, hfz63_0, hfz63_1, hfz63_2, hfz63_3⟩ := cf4 BK777
     go_wp2
     go_loopg [10] k2 (fun kq v10 w' => ∃ (x10_3 : Int), v10 = .int .i64 x10_3 ∧ Aside0 (laws_FnIndexImage.l1 kq t774 x9_2 x10_3 t768 t769 t770 t771 t778 t779 t780 t781 = some r) ∧ Aside0 (kq ≤ k2) ∧ Aside0 (Kd.N (Kd.slice 3 (Kd.int .i64)) 22 w' w.heap.size (fun k_ => some k_ ≠ ((.slice Ao10 t771.length co10) : Value).ownBlock ∧ some k_ ≠ ((.slice Ao16 t781.length co16) : Value).ownBlock ∧ some k_ ≠ ((.slice Ao23 t789.length co23) : Value).ownBlock ∧ k_ ≠ gb777 ∧ k_ ≠ gb785 ∧ k_ ≠ gb793) (.slice Ao11 t774.length co11) t774) ∧ Aside0 (Kd.Q (Kd.int .i64) 3 w' w.heap.size (fun k_ => some k_ ≠ ((.slice Ao16 t781.length co16) : Value).ownBlock ∧ some k_ ≠ ((.slice Ao23 t789.length co23) : Value).ownBlock) (.slice Ao10 t771.length co10) t771) ∧ Aside0 (Kd.Q (Kd.int .i64) 3 w' w.heap.size (fun k_ => some k_ ≠ ((.slice Ao10 t771.length co10) : Value).ownBlock ∧ some k_ ≠ ((.slice Ao23 t789.length co23) : Value).ownBlock) (.slice Ao16 t781.length co16) t781) ∧ Aside0 (Kd.Q (Kd.int .i64) 3 w' w.heap.size (fun k_ => some k_ ≠ ((.slice Ao10 t771.length co10) : Value).ownBlock ∧ some k_ ≠ ((.slice Ao16 t781.length co16) : Value).ownBlock) (.slice Ao23 t789.length co23) t789) ∧ Aside0 (w'.heap[gb777]? = some (.cells #[.int .i64 t768, .int .i64 t769, .int .i64 t770, (.slice Ao10 t771.length co10)] 29 (0, 0))) ∧ Aside0 (w'.heap[gb785]? = some (.cells #[.int .i64 t778, .int .i64 t779, .int .i64 t780, (.slice Ao16 t781.length co16)] 29 (0, 0))) ∧ Aside0 (w'.heap[gb793]? = some (.cells #[.int .i64 t786, .int .i64 t787, .int .i64 t788, (.slice Ao23 t789.length co23)] 29 (0, 0))) ∧ Aside0 (Below w.heap.size w w'))
     case atStart => exact ⟨(0), qE, H', ⟨Nat.le_refl _⟩, ⟨by (with_reducible repeat (first | apply Kd.N_alloc | apply Kd.N_drewN | apply Kd.N_drew)); exact HO_4.out⟩, ⟨by (with_reducible repeat (first | apply Kd.Q_alloc | apply Kd.Q_drewN | apply Kd.Q_drew)); exact HO_778003.out⟩, ⟨by (with_reducible repeat (first | apply Kd.Q_alloc | apply Kd.Q_drewN | apply Kd.Q_drew)); exact HO_786003.out⟩, ⟨by (with_reducible repeat (first | apply Kd.Q_alloc | apply Kd.Q_drewN | apply Kd.Q_drew)); exact HO_794003.out⟩, ⟨by refine qB ?_; exact BK777.out⟩, ⟨by refine qB ?_; exact BK785.out⟩, ⟨by refine qB ?_; exact BK793.out⟩, ⟨by exact qW HB.out⟩⟩
     case round =>
      clear H'
      try clear c2
      try clear c2b0
      try clear c2b1
      try clear c25
      try clear c26
      try clear c26b0
      try clear c26b1
      try clear c26b2
      try clear c45
      try clear c47
      try clear c60
      try clear c60b0
      try clear hcz15_0 hcz15_1 hcz15_2 hcz15_3 hfz15_0 hfz15_1 hfz15_2 hfz15_3
      try clear hcz17_0 hcz17_1 hcz17_2 hcz17_3 hfz17_0 hfz17_1 hfz17_2 hfz17_3
      try clear hcz22_0 hcz22_1 hcz22_2 hcz22_3 hfz22_0 hfz22_1 hfz22_2 hfz22_3
      try clear hcz29_0 hcz29_1 hcz29_2 hcz29_3 hfz29_0 hfz29_1 hfz29_2 hfz29_3
      try clear hcz31_0 hcz31_1 hcz31_2 hcz31_3 hfz31_0 hfz31_1 hfz31_2 hfz31_3
      try clear hcz35_0 hcz35_1 hcz35_2 hcz35_3 hfz35_0 hfz35_1 hfz35_2 hfz35_3
      try clear hcz37_0 hcz37_1 hcz37_2 hcz37_3 hfz37_0 hfz37_1 hfz37_2 hfz37_3
      try clear hcz41_0 hcz41_1 hcz41_2 hcz41_3 hfz41_0 hfz41_1 hfz41_2 hfz41_3
      try clear hcz43_0 hcz43_1 hcz43_2 hcz43_3 hfz43_0 hfz43_1 hfz43_2 hfz43_3
      try clear hcz50_0 hcz50_1 hcz50_2 hcz50_3 hfz50_0 hfz50_1 hfz50_2 hfz50_3
      try clear hcz52_0 hcz52_1 hcz52_2 hcz52_3 hfz52_0 hfz52_1 hfz52_2 hfz52_3
      try clear hcz63_0 hcz63_1 hcz63_2 hcz63_3 hfz63_0 hfz63_1 hfz63_2 hfz63_3
      try clear hcz9_0 hcz9_1 hcz9_2 hcz9_3 hfz9_0 hfz9_1 hfz9_2 hfz9_3
      obtain ⟨x10_3, rfl, HA, HK3, HO_4, HO_778003, HO_786003, HO_794003, BK777, BK785, BK793, HB⟩ := hrel
      cases gk with
      | zero => exact absurd HA.out (by simp [laws_FnIndexImage.l1])
      | succ k3 =>
       have H := HA.out
       clear HA
       simp only [laws_FnIndexImage.l1] at H
       by_cases c64 : x10_3 < t768
       rotate_left
       ·rw [if_neg c64] at H
        have c64b0 : decide (x10_3 < t768) = false := decide_eq_false c64
        clear c64
        have H' := aM H
        clear H
        have hnb94 := NB777_785.out
        have hnc94 := NB785_777.out
        have hnb95 := NB777_793.out
        have hnc95 := NB793_777.out
        obtain ⟨⟨hcz96_0, hcz96_1, hcz96_2, hcz96_3⟩, hfz96_0, hfz96_1, hfz96_2, hfz96_3⟩ := cf4 BK777
        go_wp2
        go_roundg k3
        case measure => have := HJ5.out; have := HK2.out; have := HK3.out; omega
        case rel => exact ⟨(wrap64 (x9_2 + 1)), qE, H', ⟨by have := HJ5.out; have := HK2.out; have := HK3.out; omega⟩, ⟨by (with_reducible repeat (first | apply Kd.N_alloc | apply Kd.N_drewN | apply Kd.N_drew)); exact HO_4.out⟩, ⟨by (with_reducible repeat (first | apply Kd.Q_alloc | apply Kd.Q_drewN | apply Kd.Q_drew)); exact HO_778003.out⟩, ⟨by (with_reducible repeat (first | apply Kd.Q_alloc | apply Kd.Q_drewN | apply Kd.Q_drew)); exact HO_786003.out⟩, ⟨by (with_reducible repeat (first | apply Kd.Q_alloc | apply Kd.Q_drewN | apply Kd.Q_drew)); exact HO_794003.out⟩, ⟨by refine qB ?_; exact BK777.out⟩, ⟨by refine qB ?_; exact BK785.out⟩, ⟨by refine qB ?_; exact BK793.out⟩, ⟨by exact qW HB.out⟩⟩
       rw [if_pos c64] at H
       have c64b0 : decide (x10_3 < t768) = true := decide_eq_true c64
       clear c64
       replace H := Option.bind_eq_some_iff.mp H
       obtain ⟨t796, A650, H⟩ := H
       replace H : ((impl_PixelAt.f t768 t769 t770 t771 x10_3 x9_2).bind fun t799 => ((impl_NearestColor.f k3 t774 t799).bind fun t802 => ((laws_equalInts.f k3 t796 (([t802] : List Int))).bind fun t806 => (if t806 = true then (laws_FnIndexImage.l1 k3 t774 x9_2 (wrap64 (x10_3 + 1)) t768 t769 t770 t771 t778 t779 t780 t781) else (some false))))) = some r := H
       have A65 := aM A650
       clear A650
       replace H := Option.bind_eq_some_iff.mp H
       obtain ⟨t799, A660, H⟩ := H
       replace H : ((impl_NearestColor.f k3 t774 t799).bind fun t802 => ((laws_equalInts.f k3 t796 (([t802] : List Int))).bind fun t806 => (if t806 = true then (laws_FnIndexImage.l1 k3 t774 x9_2 (wrap64 (x10_3 + 1)) t768 t769 t770 t771 t778 t779 t780 t781) else (some false)))) = some r := H
       have A66 := aM A660
       clear A660
       replace H := Option.bind_eq_some_iff.mp H
       obtain ⟨t802, A670, H⟩ := H
       replace H : ((laws_equalInts.f k3 t796 (([t802] : List Int))).bind fun t806 => (if t806 = true then (laws_FnIndexImage.l1 k3 t774 x9_2 (wrap64 (x10_3 + 1)) t768 t769 t770 t771 t778 t779 t780 t781) else (some false))) = some r := H
       have A67 := aM A670
       clear A670
       obtain ⟨y803, hy803⟩ : ∃ y_ : List Int, y_ = (([t802] : List Int)) := ⟨_, rfl⟩
       replace H : ((laws_equalInts.f k3 t796 y803).bind fun t806 => (if t806 = true then (laws_FnIndexImage.l1 k3 t774 x9_2 (wrap64 (x10_3 + 1)) t768 t769 t770 t771 t778 t779 t780 t781) else (some false))) = some r := rY hy803 H
       have Ny803 := aM hy803
       clear hy803
       replace H := Option.bind_eq_some_iff.mp H
       obtain ⟨t806, A680, H⟩ := H
       replace H : (if t806 = true then (laws_FnIndexImage.l1 k3 t774 x9_2 (wrap64 (x10_3 + 1)) t768 t769 t770 t771 t778 t779 t780 t781) else (some false)) = some r := H
       have A68 := aM A680
       clear A680
       by_cases c69 : t806 = true
       rotate_left
       ·replace c69 := Bool.eq_false_iff.mpr c69
        subst c69
        have H1 : (some false) = some r := by rw [if_neg (show ¬ (false = true) by decide)] at H; exact H
        clear H
        have H := H1
        clear H1
        obtain rfl := Option.some.inj H
        exact absurd hrt (by decide)
       subst c69
       have H1 : (laws_FnIndexImage.l1 k3 t774 x9_2 (wrap64 (x10_3 + 1)) t768 t769 t770 t771 t778 t779 t780 t781) = some r := by rw [if_pos rfl] at H; exact H
       clear H
       have H := H1
       clear H1
       have H' := aM H
       clear H
       have hnb70 := NB777_785.out
       have hnc70 := NB785_777.out
       have hnb71 := NB777_793.out
       have hnc71 := NB793_777.out
       obtain ⟨⟨hcz72_0, hcz72_1, hcz72_2, hcz72_3⟩, hfz72_0, hfz72_1, hfz72_2, hfz72_3⟩ := cf4 BK777
       try go_wp2
       replace HO_4 := aM (Kd.N_drew HO_4.out)
       replace HO_778003 := aM (Kd.Q_drew HO_778003.out)
       replace HO_786003 := aM (Kd.Q_drew HO_786003.out)
       replace HO_794003 := aM (Kd.Q_drew HO_794003.out)
       replace BK777 := aM (blk_drew BK777.out)
       replace BK785 := aM (blk_drew BK785.out)
       replace BK793 := aM (blk_drew BK793.out)
       replace HB := aM (below_drew1 HB.out)
       refine start_ (n := 13) (S := fun w' => w'.cell? ⟨gb785, 0, none⟩ = some (.int .i64 t778) ∧ w'.cell? ⟨gb785, 1, none⟩ = some (.int .i64 t779) ∧ w'.cell? ⟨gb785, 2, none⟩ = some (.int .i64 t780) ∧ w'.cell? ⟨gb785, 3, none⟩ = some (.slice Ao16 t781.length co16) ∧ w'.cell? ⟨gb777, 0, none⟩ = some (.int .i64 t768) ∧ w'.cell? ⟨gb777, 1, none⟩ = some (.int .i64 t769) ∧ w'.cell? ⟨gb777, 2, none⟩ = some (.int .i64 t770) ∧ w'.cell? ⟨gb777, 3, none⟩ = some (.slice Ao10 t771.length co10)) (ds := []) (bA 13 0) (by kernel_rfl) rfl rfl ⟨(blk_cell BK785.out 0).trans rfl, (blk_cell BK785.out 1).trans rfl, (blk_cell BK785.out 2).trans rfl, (blk_cell BK785.out 3).trans rfl, (blk_cell BK777.out 0).trans rfl, (blk_cell BK777.out 1).trans rfl, (blk_cell BK777.out 2).trans rfl, (blk_cell BK777.out 3).trans rfl⟩ (fun hHeld => ?_); refine with_tabW laws_FnIndexImage.tab14 laws_FnIndexImage.bits14 (fun HT_ HW_ => ?_)
       generalize wr.drew = w73 at HO_4 HO_778003 HO_786003 HO_794003 BK777 BK785 BK793 HB hHeld ⊢
       refine pQ 1 65 HT_ (bA 13 2) ?_
       refine pQ 2 66 HT_ (bA 13 6) ?_
       refine pQ 4 68 HT_ (bA 13 22) ?_
       refine pQ 6 70 HT_ (bA 13 86) ?_
       refine pQ 7 71 HT_ (bA 13 214) ?_
       refine take_ (i := 0) (N := some 64) (v := ?_) (a' := ?_) (bA 13 215) rfl rfl (take_ofW HT_.out HW_.out (by kernel_rfl)) (fun _ _ _ h => h) (Or.inl ⟨by rfl, ?_⟩) hHeld ?_ ?_
       rotate_left
       ·rintro w' ⟨s0, s1, s2, s3, s4, s5, s6, s7⟩
        go_simp
        with_reducible rfl
       rotate_left
       ·refine pZ ?_
        rfl
       refine take_ (i := 5) (N := some 69) (v := ?_) (a' := ?_) (bA 13 247) rfl rfl (take_ofW HT_.out HW_.out (by kernel_rfl)) (fun _ _ _ h => h) (Or.inl ⟨by rfl, ?_⟩) hHeld ?_ ?_
       rotate_left
       ·rintro w' ⟨s0, s1, s2, s3, s4, s5, s6, s7⟩
        go_simp
        with_reducible rfl
       rotate_left
       ·refine pZ ?_
        rfl
       refine one_ (i := 3) (N := some 67) (bA 13 255) rfl rfl (one_of HT_.out (by kernel_rfl)) (by decide) (fun K hK => ?_)
       refine goes_ Try.func27 (by kernel_rfl) rfl #[.agg #[.int .i64 t778, .int .i64 t779, .int .i64 t780, .slice Ao16 t781.length co16], .int .i64 x10_3, .int .i64 x9_2] (by rfl) rfl rfl qM ?_
       with_reducible refine (impl_PixelAt.calls t778 t779 t780 _ _ t781 x10_3 x9_2 t796 _ ?side1 ?side2 A65.out).mono ?_
       (case side1 => exact qC (Kd.Q_reads' HO_786003.out).2.2)
       (case side2 => exact (Kd.Q_reads' HO_786003.out).2.1)
       rintro e w74 ⟨v797, rfl, ho0, hb⟩
       refine ⟨_, rfl, ?_⟩
       replace HO_4 := aM (Kd.N_elder' (by (with_reducible repeat (first | apply Kd.N_alloc | apply Kd.N_drewN | apply Kd.N_drew)); exact HO_4.out) (Kd.R_base ho0) hb)
       have HO798 := aM (Kd.R_lower (Kd.R_new' (Kd.R_new' (Kd.R_new' ho0 (Kd.Q_lt (qQ HO_778003.out))) (Kd.Q_lt (qQ HO_786003.out))) (Kd.Q_lt (qQ HO_794003.out))) (below_size (qW HB.out)))
       replace HO_778003 := aM (Kd.Q_elder' (qQ HO_778003.out) (Kd.R_base ho0) hb)
       replace HO_786003 := aM (Kd.Q_elder' (qQ HO_786003.out) (Kd.R_base ho0) hb)
       replace HO_794003 := aM (Kd.Q_elder' (qQ HO_794003.out) (Kd.R_base ho0) hb)
       replace BK777 := bB BK777 hb
       replace BK785 := bB BK785 hb
       replace BK793 := bB BK793 hb
       replace HB := bS HB hb
       (try clear hb)
       (try clear hb2)
       (try clear hk)
       (try clear hi)
       (try clear ho0)
       refine hK.out _ _ ⟨(blk_cell BK785.out 0).trans rfl, (blk_cell BK785.out 1).trans rfl, (blk_cell BK785.out 2).trans rfl, (blk_cell BK785.out 3).trans rfl, (blk_cell BK777.out 0).trans rfl, (blk_cell BK777.out 1).trans rfl, (blk_cell BK777.out 2).trans rfl, (blk_cell BK777.out 3).trans rfl⟩ (fun hHeld => ?_)
       clear hK K
       refine norm_ (a' := ?_) ?_ ?_
       rotate_left
       ·show Act.put _ (some 67) _ = _
        refine pZ ?_
        rfl
       refine one_ (i := 8) (N := some 72) (bA 13 511) rfl rfl (one_of HT_.out (by kernel_rfl)) (by decide) (fun K hK => ?_)
       refine goes_ Try.func27 (by kernel_rfl) rfl #[.agg #[.int .i64 t768, .int .i64 t769, .int .i64 t770, .slice Ao10 t771.length co10], .int .i64 x10_3, .int .i64 x9_2] (by rfl) rfl rfl qM ?_
       with_reducible refine (impl_PixelAt.calls t768 t769 t770 _ _ t771 x10_3 x9_2 t799 _ ?side1 ?side2 A66.out).mono ?_
       (case side1 => exact qC (Kd.Q_reads' HO_778003.out).2.2)
       (case side2 => exact (Kd.Q_reads' HO_778003.out).2.1)
       rintro e w75 ⟨v800, rfl, ho0, hb⟩
       refine ⟨_, rfl, ?_⟩
       replace HO_4 := aM (Kd.N_elder' (by (with_reducible repeat (first | apply Kd.N_alloc | apply Kd.N_drewN | apply Kd.N_drew)); exact HO_4.out) (Kd.R_base ho0) hb)
       have HO801 := aM (Kd.R_lower (Kd.R_new' (Kd.R_new' (Kd.R_new' (Kd.R_new' ho0 (Kd.Q_lt (qQ HO_778003.out))) (Kd.Q_lt (qQ HO_786003.out))) (Kd.Q_lt (qQ HO_794003.out))) (Kd.R_lt (qR HO798.out))) (below_size (qW HB.out)))
       replace HO_778003 := aM (Kd.Q_elder' (qQ HO_778003.out) (Kd.R_base ho0) hb)
       replace HO_786003 := aM (Kd.Q_elder' (qQ HO_786003.out) (Kd.R_base ho0) hb)
       replace HO_794003 := aM (Kd.Q_elder' (qQ HO_794003.out) (Kd.R_base ho0) hb)
       replace HO798 := aM (Kd.R_elder' (qR HO798.out) (Kd.R_base ho0) hb)
       replace BK777 := bB BK777 hb
       replace BK785 := bB BK785 hb
       replace BK793 := bB BK793 hb
       replace HB := bS HB hb
       (try clear hb)
       (try clear hb2)
       (try clear hk)
       (try clear hi)
       (try clear ho0)
       obtain ⟨Ao76, co76, eo76⟩ := Kd.R_slice HO801.out
       (first | subst eo76 | (injection eo76 with f1_ f2_ f3_; have f4_ := f1_.symm; have f5_ := f3_.symm; clear f1_ f2_ f3_; subst f4_; subst f5_))
       refine hK.out _ _ ⟨(blk_cell BK785.out 0).trans rfl, (blk_cell BK785.out 1).trans rfl, (blk_cell BK785.out 2).trans rfl, (blk_cell BK785.out 3).trans rfl, (blk_cell BK777.out 0).trans rfl, (blk_cell BK777.out 1).trans rfl, (blk_cell BK777.out 2).trans rfl, (blk_cell BK777.out 3).trans rfl⟩ (fun hHeld => ?_)
       clear hK K
       refine norm_ (a' := ?_) ?_ ?_
       rotate_left
       ·show Act.put _ (some 72) _ = _
        refine pZ ?_
        rfl
       refine one_ (i := 9) (N := some 73) (bA 13 1023) rfl rfl (one_of HT_.out (by kernel_rfl)) (by decide) (fun K hK => ?_)
       refine goes_ Try.func35 (by kernel_rfl) rfl #[.slice Ao11 t774.length co11, .slice Ao76 t799.length co76] (by rfl) rfl rfl qM ?_
       with_reducible refine (impl_NearestColor.calls k3 _ _ t774 _ _ t799 t802 _ ?side1 ?side2 ?side3 ?side4 A67.out).mono ?_
       (case side1 => exact qC (Kd.N_reads' HO_4.out).2.2)
       (case side2 => exact (Kd.N_reads' HO_4.out).2.1)
       (case side3 => exact qC (Kd.R_reads' HO801.out).2.2)
       (case side4 => exact (Kd.R_reads' HO801.out).2.1)
       rintro e w77 ⟨rfl, hb⟩
       refine ⟨_, rfl, ?_⟩
       replace HO_4 := aM (Kd.N_below (by (with_reducible repeat (first | apply Kd.N_alloc | apply Kd.N_drewN | apply Kd.N_drew)); exact HO_4.out) hb)
       replace HO_778003 := aM (Kd.Q_below (qQ HO_778003.out) hb)
       replace HO_786003 := aM (Kd.Q_below (qQ HO_786003.out) hb)
       replace HO_794003 := aM (Kd.Q_below (qQ HO_794003.out) hb)
       replace HO798 := aM (Kd.R_below (qR HO798.out) hb)
       replace HO801 := aM (Kd.R_below (qR HO801.out) hb)
       replace BK777 := bB BK777 hb
       replace BK785 := bB BK785 hb
       replace BK793 := bB BK793 hb
       replace HB := bS HB hb
       (try clear hb)
       (try clear hb2)
       (try clear hk)
       (try clear hi)
       refine hK.out _ _ ⟨(blk_cell BK785.out 0).trans rfl, (blk_cell BK785.out 1).trans rfl, (blk_cell BK785.out 2).trans rfl, (blk_cell BK785.out 3).trans rfl, (blk_cell BK777.out 0).trans rfl, (blk_cell BK777.out 1).trans rfl, (blk_cell BK777.out 2).trans rfl, (blk_cell BK777.out 3).trans rfl⟩ (fun hHeld => ?_)
       clear hK K
       refine norm_ (a' := ?_) ?_ ?_
       rotate_left
       ·show Act.put _ (some 73) _ = _
        refine pZ ?_
        rfl
       refine one_ (i := 10) (N := some 74) (bA 13 2047) rfl rfl (one_of HT_.out (by kernel_rfl)) (by decide) (fun K hK => ?_)
       refine Kd.R_lit_step (Kd.int .i64) _ 3 ?hg (N := 74) ?hd (xs := ([t802] : List Int)) (inner := [.int .i64 t802]) (ok := fun _ => True) (okp := fun _ => True) ?hr ?hp (fun _ hk => hk) trivial (Below.refl _ _) (Nat.le_refl _) (by simp) ?_; (case hd => rfl); (case hg => rfl); (case hr => first | (go_simp; done) | (go_simp; rfl)); (case hp => exact (Reps.one (show Kd.M (Kd.int .i64) _ _ _ t802 [.int .i64 t802] from rfl) (Reps.none _ _)))
       intro v804 w78 ho79 hb hg_ hnew_
       clear hg_ hnew_
       (first | rw [← Ny803.out] at ho79 | (simp only [Int.reduceToNat] at ho79; rw [← Ny803.out] at ho79))
       replace HO_4 := aM (Kd.N_elder' (by (with_reducible repeat (first | apply Kd.N_alloc | apply Kd.N_drewN | apply Kd.N_drew)); exact HO_4.out) (Kd.R_base ho79) hb)
       have HO805 := aM (Kd.R_lower (Kd.R_new' (Kd.R_new' (Kd.R_new' (Kd.R_new' (Kd.R_new' ho79 (Kd.Q_lt (qQ HO_778003.out))) (Kd.Q_lt (qQ HO_786003.out))) (Kd.Q_lt (qQ HO_794003.out))) (Kd.R_lt (qR HO798.out))) (Kd.R_lt (qR HO801.out))) (below_size (qW HB.out)))
       replace HO_778003 := aM (Kd.Q_elder' (qQ HO_778003.out) (Kd.R_base ho79) hb)
       replace HO_786003 := aM (Kd.Q_elder' (qQ HO_786003.out) (Kd.R_base ho79) hb)
       replace HO_794003 := aM (Kd.Q_elder' (qQ HO_794003.out) (Kd.R_base ho79) hb)
       replace HO798 := aM (Kd.R_elder' (qR HO798.out) (Kd.R_base ho79) hb)
       replace HO801 := aM (Kd.R_elder' (qR HO801.out) (Kd.R_base ho79) hb)
       replace BK777 := bB BK777 hb
       replace BK785 := bB BK785 hb
       replace BK793 := bB BK793 hb
       replace HB := bS HB hb
       clear hb ho79
       obtain ⟨Ao80, co80, eo80⟩ := Kd.R_slice HO798.out
       (first | subst eo80 | (injection eo80 with f1_ f2_ f3_; have f4_ := f1_.symm; have f5_ := f3_.symm; clear f1_ f2_ f3_; subst f4_; subst f5_))
       obtain ⟨Ao81, co81, eo81⟩ := Kd.R_slice HO805.out
       (first | subst eo81 | (injection eo81 with f1_ f2_ f3_; have f4_ := f1_.symm; have f5_ := f3_.symm; clear f1_ f2_ f3_; subst f4_; subst f5_))
       refine hK.out _ _ ⟨(blk_cell BK785.out 0).trans rfl, (blk_cell BK785.out 1).trans rfl, (blk_cell BK785.out 2).trans rfl, (blk_cell BK785.out 3).trans rfl, (blk_cell BK777.out 0).trans rfl, (blk_cell BK777.out 1).trans rfl, (blk_cell BK777.out 2).trans rfl, (blk_cell BK777.out 3).trans rfl⟩ (fun hHeld => ?_)
       clear hK K
       refine norm_ (a' := ?_) ?_ ?_
       rotate_left
       ·show Act.put _ (some 74) _ = _
        refine pZ ?_
        rfl
       refine one_ (i := 11) (N := some 75) (bA 13 4095) rfl rfl (one_of HT_.out (by kernel_rfl)) (by decide) (fun K hK => ?_)
       refine goes_ Try.func23 (by kernel_rfl) rfl #[.slice Ao80 t796.length co80, .slice Ao81 y803.length co81] (by rfl) rfl rfl qM ?_
       with_reducible refine (laws_equalInts.calls k3 _ _ t796 _ _ y803 true _ ?side1 ?side2 ?side3 ?side4 A68.out).mono ?_
       (case side1 => exact qC (Kd.R_reads' HO798.out).2.2)
       (case side2 => exact (Kd.R_reads' HO798.out).2.1)
       (case side3 => exact qC (Kd.R_reads' HO805.out).2.2)
       (case side4 => exact (Kd.R_reads' HO805.out).2.1)
       rintro e w' ⟨rfl, ⟨nd, rfl⟩⟩
       refine ⟨_, rfl, ?_⟩
       refine hK.out _ _ ⟨(blk_cell BK785.out 0).trans rfl, (blk_cell BK785.out 1).trans rfl, (blk_cell BK785.out 2).trans rfl, (blk_cell BK785.out 3).trans rfl, (blk_cell BK777.out 0).trans rfl, (blk_cell BK777.out 1).trans rfl, (blk_cell BK777.out 2).trans rfl, (blk_cell BK777.out 3).trans rfl⟩ (fun hHeld => ?_)
       clear hK K
       refine norm_ (a' := ?_) ?_ ?_
       rotate_left
       ·show Act.put _ (some 75) _ = _
        refine pZ ?_
        rfl
       refine pQ 12 76 HT_ (bA 13 8191) ?_
       refine done_ (done_of HT_.out (by kernel_rfl)) ?_
       try go_wp2
       go_roundg k3
       case measure => have := HJ5.out; have := HK2.out; have := HK3.out; omega
       case rel => exact ⟨(wrap64 (x10_3 + 1)), qE, H', ⟨by have := HJ5.out; have := HK2.out; have := HK3.out; omega⟩, ⟨by (with_reducible repeat (first | apply Kd.N_alloc | apply Kd.N_drewN | apply Kd.N_drew)); exact Kd.N_mono HO_4.out (fun _ hk => ⟨hk.1.1.1.1, ⟨hk.1.1.1.2.1, ⟨hk.1.1.1.2.2.1, ⟨hk.1.1.1.2.2.2.1, ⟨hk.1.1.1.2.2.2.2.1, hk.1.1.1.2.2.2.2.2⟩⟩⟩⟩⟩)⟩, ⟨by (with_reducible repeat (first | apply Kd.Q_alloc | apply Kd.Q_drewN | apply Kd.Q_drew)); exact Kd.Q_mono HO_778003.out (fun _ hk => by first | exact ⟨hk.1.1.1.1, hk.1.1.1.2⟩ | (revert hk; simp only [and_imp]; intros; and_intros <;> assumption))⟩, ⟨by (with_reducible repeat (first | apply Kd.Q_alloc | apply Kd.Q_drewN | apply Kd.Q_drew)); exact Kd.Q_mono HO_786003.out (fun _ hk => by first | exact ⟨hk.1.1.1.1, hk.1.1.1.2⟩ | (revert hk; simp only [and_imp]; intros; and_intros <;> assumption))⟩, ⟨by (with_reducible repeat (first | apply Kd.Q_alloc | apply Kd.Q_drewN | apply Kd.Q_drew)); exact Kd.Q_mono HO_794003.out (fun _ hk => by first | exact ⟨hk.1.1.1.1, hk.1.1.1.2⟩ | (revert hk; simp only [and_imp]; intros; and_intros <;> assumption))⟩, ⟨by refine qB ?_; exact BK777.out⟩, ⟨by refine qB ?_; exact BK785.out⟩, ⟨by refine qB ?_; exact BK793.out⟩, ⟨by exact qW HB.out⟩⟩
def laws_FnIndexImage.Pure : Prop := ∀ (l0 : List Int), l0.length ≤ maxLen → l0.length * 1 ≤ 140737488351232 → (∀ x ∈ l0, (Lit.int .u8 x).wf = true) → ∃ k, laws_FnIndexImage.f k l0 = some true
theorem laws_FnIndexImage.walk (P : laws_FnIndexImage.Pure) (a0 : Option Addr) (len0 cap0 : Nat) (z0 : List Int) (w : World) (w0 : (a0 = none ∧ len0 = 0 ∧ cap0 = 0 ∧ z0 = []) ∨ ∃ x, a0 = some x ∧ len0 ≤ cap0 ∧ cap0 ≤ maxLen ∧ z0.length = cap0 ∧ (∀ i, i < z0.length → w.cell? (x.add i) = some (.int .u8 (z0.getD i 0))) ∧ ∀ n ∈ z0, (Lit.int .u8 n).wf = true) (y0 : len0 * 1 ≤ 140737488351232) :
  Calls Try.prog 8 #[.slice a0 len0 cap0] w fun e w' => e = .returned (.bool true) ∧ Below w.heap.size w w' := by
 obtain ⟨l0, rfl, hr0, hm0, hw0, hc0⟩ := ReadsInt.ofRowC w0
 obtain ⟨k, h⟩ := P l0 hm0 y0 hw0
 refine (laws_FnIndexImage.calls k _ _ l0 true w (Kd.C_of_reads (d := (0 : Int)) (h1 := fun _ => rfl) hr0) hc0 h rfl).mono ?_
 rintro e w' ⟨rfl, hd⟩
 exact ⟨rfl, hd⟩
end Go.Proofs.Ytohbpilokmppbaa.P
